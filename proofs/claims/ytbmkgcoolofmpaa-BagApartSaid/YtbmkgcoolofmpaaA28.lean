/- Lemmas for BagApart (Mr). No statement of the seat is proved here. -/
import Derived.Test.YtbmkgcoolofmpaaA8
import Derived.Test.YtbmkgcoolofmpaaA27
namespace Go.Proofs.Ytbmkgcoolofmpaa
set_option linter.unusedVariables false
set_option linter.unusedSimpArgs false
set_option linter.unusedSectionVars false
open Go Go.RowKit Go.Shelf
set_option maxRecDepth 100000 in
set_option maxHeartbeats 32000000 in
theorem refMsgSound_any (x : Mp) (w : World) (h : MpAt w x) (hl : x.el.length ≤ 1000000) (hml : x.ml.length ≤ 1000000) (hx0 : 0 ≤ x.index) :
    Calls Try.prog 44 #[.agg (mpA x)] w fun e w' => e = .returned (.bool (soundM x.v)) ∧ Below w.heap.size w w' := by
  have hiff := soundM_iff (m := x.v)
  rw [entM_iff, plainM_iff, ← plainP_v] at hiff
  have Hiff := Lib.hid hiff
  clear hiff
  have Hrow := Lib.hid (fun W hW => refRow_any x.logTerm x.term x.eo x.ec x.el W hW hl)
  have Hsn := Lib.hid (fun W hW => refSnapSound_any x.si x.st x.mo x.ao x.mc x.ac x.ml x.d W hW hml)
  have Hpl := Lib.hid (fun W => plain_any x W)
  have Hsm := Lib.hid (fun W h1 => refMsgSame_any x (plainP x) W h1 (plainP_at h1) hl hml (Nat.le_trans (plainP_el x) hl) (Nat.le_trans (plainP_ml x) hml))
  obtain ⟨c, hc⟩ : ∃ c, c = soundM x.v := ⟨_, rfl⟩
  rw [← hc] at Hiff ⊢
  clear hc
  obtain ⟨rb, hrb⟩ : ∃ rb, rb = rowB x.logTerm x.term (x.el.map Ep.e) := ⟨_, rfl⟩
  rw [show rowB x.v.logTerm x.v.term x.v.es = rowB x.logTerm x.term (x.el.map Ep.e) from rfl, ← hrb] at Hiff
  rw [← hrb] at Hrow
  obtain ⟨ss, hss⟩ : ∃ ss, ss = soundSn ⟨x.si, x.st, x.ml, x.d⟩ := ⟨_, rfl⟩
  rw [show soundSn x.v.sn = soundSn ⟨x.si, x.st, x.ml, x.d⟩ from rfl, ← hss] at Hiff
  rw [← hss] at Hsn
  obtain ⟨sm, hsm⟩ : ∃ sm, sm = decide (x.v = (plainP x).v) := ⟨_, rfl⟩
  rw [show (x.v = (plainP x).v) = (sm = true) from by rw [hsm]; simp] at Hiff
  rw [← hsm] at Hsm
  clear hrb hss hsm
  obtain ⟨px, hpx⟩ : ∃ px, px = plainP x := ⟨_, rfl⟩
  rw [← hpx] at Hpl Hsm
  clear hpx
  obtain ⟨kind, frm, dst, term, index, logTerm, commit, round, ok, force, eo, ec, el, si, st, mo, mc, ml, ao, ac, d⟩ := x
  dsimp only [mpA, Mp.v] at Hiff Hrow Hsn Hpl Hsm h hl hml hx0 ⊢
  rw [List.length_map] at Hiff
  obtain ⟨W1, hW1⟩ : ∃ W1, W1 = w.alloc (.cells #[.int .i64 kind, .int .i64 frm, .int .i64 dst, .int .u64 term, .int .u64 index, .int .u64 logTerm, .int .u64 commit, .int .u64 round, .bool ok, .bool force, .slice eo el.length ec, .int .u64 si, .int .u64 st, .slice mo ml.length mc, .slice ao d.length ac] 62) := ⟨_, rfl⟩
  have hB1 : Below w.heap.size w W1 := by rw [hW1]; exact below_new _ _
  have k1 : W1.heap[w.heap.size]? = some (.cells #[.int .i64 kind, .int .i64 frm, .int .i64 dst, .int .u64 term, .int .u64 index, .int .u64 logTerm, .int .u64 commit, .int .u64 round, .bool ok, .bool force, .slice eo el.length ec, .int .u64 si, .int .u64 st, .slice mo ml.length mc, .slice ao d.length ac] 62) := by rw [hW1]; exact heap_alloc_new _ _
  have z1 : w.heap.size < W1.heap.size := (Array.getElem?_eq_some_iff.1 k1).1
  have hat1 := h.below hB1
  go_enter Try.func44, Try.ntmps44
  go_upto_region 1 with fail
  rw [← hW1]
  clear hW1
  have p0 := cell_at (k1) 0 (.int .i64 kind) rfl
  have p1 := cell_at (k1) 1 (.int .i64 frm) rfl
  have p2 := cell_at (k1) 2 (.int .i64 dst) rfl
  have p3 := cell_at (k1) 3 (.int .u64 term) rfl
  have p4 := cell_at (k1) 4 (.int .u64 index) rfl
  have p5 := cell_at (k1) 5 (.int .u64 logTerm) rfl
  have p6 := cell_at (k1) 6 (.int .u64 commit) rfl
  have p7 := cell_at (k1) 7 (.int .u64 round) rfl
  have p8 := cell_at (k1) 8 (.bool ok) rfl
  have p9 := cell_at (k1) 9 (.bool force) rfl
  have p10 := cell_at (k1) 10 (.slice eo el.length ec) rfl
  have p11 := cell_at (k1) 11 (.int .u64 si) rfl
  have p12 := cell_at (k1) 12 (.int .u64 st) rfl
  have p13 := cell_at (k1) 13 (.slice mo ml.length mc) rfl
  have p14 := cell_at (k1) 14 (.slice ao d.length ac) rfl
  have HB1 := Lib.hid hB1
  by_cases q0 : kind < 1
  · have Hf : Hid (c = false) := by show _ = _; rw [Bool.eq_false_iff, ne_eq, Hiff.out]; omega
    clear Hrow Hsn Hpl Hsm
    have f0 : (kind < 1) = True := eq_true (by omega)
    refine WL.start ?_
    iterate 45 (first | (refine WL.skip (by rfl) ?_; simp only [Act.put, List.getElem_toArray, List.getElem_cons_zero, List.getElem_cons_succ, List.setIfInBounds_toArray, List.set_cons_zero, List.set_cons_succ]) | (refine WL.val (v := ?_) (by rfl) ?_ ?_; rotate_left; (focus (go_simp; (try with_reducible rfl))); simp only [Act.put, List.getElem_toArray, List.getElem_cons_zero, List.getElem_cons_succ, List.setIfInBounds_toArray, List.set_cons_zero, List.set_cons_succ]))
    refine WL.nil ?_
    go_wp2_with fail
    go_ret
    exact ⟨by rw [Hf.out]; rfl, HB1.out⟩
  by_cases q1 : 8 < kind
  · have Hf : Hid (c = false) := by show _ = _; rw [Bool.eq_false_iff, ne_eq, Hiff.out]; omega
    clear Hrow Hsn Hpl Hsm
    have f0 : (kind < 1) = False := eq_false (by omega)
    have f1 : (8 < kind) = True := eq_true (by omega)
    refine WL.start ?_
    iterate 45 (first | (refine WL.skip (by rfl) ?_; simp only [Act.put, List.getElem_toArray, List.getElem_cons_zero, List.getElem_cons_succ, List.setIfInBounds_toArray, List.set_cons_zero, List.set_cons_succ]) | (refine WL.val (v := ?_) (by rfl) ?_ ?_; rotate_left; (focus (go_simp; (try with_reducible rfl))); simp only [Act.put, List.getElem_toArray, List.getElem_cons_zero, List.getElem_cons_succ, List.setIfInBounds_toArray, List.set_cons_zero, List.set_cons_succ]))
    refine WL.nil ?_
    go_wp2_with fail
    go_ret
    exact ⟨by rw [Hf.out]; rfl, HB1.out⟩
  by_cases q2 : frm < 0
  · have Hf : Hid (c = false) := by show _ = _; rw [Bool.eq_false_iff, ne_eq, Hiff.out]; omega
    clear Hrow Hsn Hpl Hsm
    have f0 : (kind < 1) = False := eq_false (by omega)
    have f1 : (8 < kind) = False := eq_false (by omega)
    have f2 : (frm < 0) = True := eq_true (by omega)
    refine WL.start ?_
    iterate 45 (first | (refine WL.skip (by rfl) ?_; simp only [Act.put, List.getElem_toArray, List.getElem_cons_zero, List.getElem_cons_succ, List.setIfInBounds_toArray, List.set_cons_zero, List.set_cons_succ]) | (refine WL.val (v := ?_) (by rfl) ?_ ?_; rotate_left; (focus (go_simp; (try with_reducible rfl))); simp only [Act.put, List.getElem_toArray, List.getElem_cons_zero, List.getElem_cons_succ, List.setIfInBounds_toArray, List.set_cons_zero, List.set_cons_succ]))
    refine WL.nil ?_
    go_wp2_with fail
    go_ret
    exact ⟨by rw [Hf.out]; rfl, HB1.out⟩
  by_cases q3 : 6 < frm
  · have Hf : Hid (c = false) := by show _ = _; rw [Bool.eq_false_iff, ne_eq, Hiff.out]; omega
    clear Hrow Hsn Hpl Hsm
    have f0 : (kind < 1) = False := eq_false (by omega)
    have f1 : (8 < kind) = False := eq_false (by omega)
    have f2 : (frm < 0) = False := eq_false (by omega)
    have f3 : (6 < frm) = True := eq_true (by omega)
    refine WL.start ?_
    iterate 45 (first | (refine WL.skip (by rfl) ?_; simp only [Act.put, List.getElem_toArray, List.getElem_cons_zero, List.getElem_cons_succ, List.setIfInBounds_toArray, List.set_cons_zero, List.set_cons_succ]) | (refine WL.val (v := ?_) (by rfl) ?_ ?_; rotate_left; (focus (go_simp; (try with_reducible rfl))); simp only [Act.put, List.getElem_toArray, List.getElem_cons_zero, List.getElem_cons_succ, List.setIfInBounds_toArray, List.set_cons_zero, List.set_cons_succ]))
    refine WL.nil ?_
    go_wp2_with fail
    go_ret
    exact ⟨by rw [Hf.out]; rfl, HB1.out⟩
  by_cases q4 : dst < 0
  · have Hf : Hid (c = false) := by show _ = _; rw [Bool.eq_false_iff, ne_eq, Hiff.out]; omega
    clear Hrow Hsn Hpl Hsm
    have f0 : (kind < 1) = False := eq_false (by omega)
    have f1 : (8 < kind) = False := eq_false (by omega)
    have f2 : (frm < 0) = False := eq_false (by omega)
    have f3 : (6 < frm) = False := eq_false (by omega)
    have f4 : (dst < 0) = True := eq_true (by omega)
    refine WL.start ?_
    iterate 45 (first | (refine WL.skip (by rfl) ?_; simp only [Act.put, List.getElem_toArray, List.getElem_cons_zero, List.getElem_cons_succ, List.setIfInBounds_toArray, List.set_cons_zero, List.set_cons_succ]) | (refine WL.val (v := ?_) (by rfl) ?_ ?_; rotate_left; (focus (go_simp; (try with_reducible rfl))); simp only [Act.put, List.getElem_toArray, List.getElem_cons_zero, List.getElem_cons_succ, List.setIfInBounds_toArray, List.set_cons_zero, List.set_cons_succ]))
    refine WL.nil ?_
    go_wp2_with fail
    go_ret
    exact ⟨by rw [Hf.out]; rfl, HB1.out⟩
  by_cases q5 : 6 < dst
  · have Hf : Hid (c = false) := by show _ = _; rw [Bool.eq_false_iff, ne_eq, Hiff.out]; omega
    clear Hrow Hsn Hpl Hsm
    have f0 : (kind < 1) = False := eq_false (by omega)
    have f1 : (8 < kind) = False := eq_false (by omega)
    have f2 : (frm < 0) = False := eq_false (by omega)
    have f3 : (6 < frm) = False := eq_false (by omega)
    have f4 : (dst < 0) = False := eq_false (by omega)
    have f5 : (6 < dst) = True := eq_true (by omega)
    refine WL.start ?_
    iterate 45 (first | (refine WL.skip (by rfl) ?_; simp only [Act.put, List.getElem_toArray, List.getElem_cons_zero, List.getElem_cons_succ, List.setIfInBounds_toArray, List.set_cons_zero, List.set_cons_succ]) | (refine WL.val (v := ?_) (by rfl) ?_ ?_; rotate_left; (focus (go_simp; (try with_reducible rfl))); simp only [Act.put, List.getElem_toArray, List.getElem_cons_zero, List.getElem_cons_succ, List.setIfInBounds_toArray, List.set_cons_zero, List.set_cons_succ]))
    refine WL.nil ?_
    go_wp2_with fail
    go_ret
    exact ⟨by rw [Hf.out]; rfl, HB1.out⟩
  by_cases q6 : frm = dst
  · have Hf : Hid (c = false) := by show _ = _; rw [Bool.eq_false_iff, ne_eq, Hiff.out]; omega
    clear Hrow Hsn Hpl Hsm
    have f0 : (kind < 1) = False := eq_false (by omega)
    have f1 : (8 < kind) = False := eq_false (by omega)
    have f2 : (frm < 0) = False := eq_false (by omega)
    have f3 : (6 < frm) = False := eq_false (by omega)
    have f4 : (dst < 0) = False := eq_false (by omega)
    have f5 : (6 < dst) = False := eq_false (by omega)
    have f6 : (frm == dst) = true := by simpa using q6
    clear q6
    refine WL.start ?_
    iterate 45 (first | (refine WL.skip (by rfl) ?_; simp only [Act.put, List.getElem_toArray, List.getElem_cons_zero, List.getElem_cons_succ, List.setIfInBounds_toArray, List.set_cons_zero, List.set_cons_succ]) | (refine WL.val (v := ?_) (by rfl) ?_ ?_; rotate_left; (focus (go_simp; (try with_reducible rfl))); simp only [Act.put, List.getElem_toArray, List.getElem_cons_zero, List.getElem_cons_succ, List.setIfInBounds_toArray, List.set_cons_zero, List.set_cons_succ]))
    refine WL.nil ?_
    go_wp2_with fail
    go_ret
    exact ⟨by rw [Hf.out]; rfl, HB1.out⟩
  by_cases q7 : term < 1
  · have Hf : Hid (c = false) := by show _ = _; rw [Bool.eq_false_iff, ne_eq, Hiff.out]; omega
    clear Hrow Hsn Hpl Hsm
    have f0 : (kind < 1) = False := eq_false (by omega)
    have f1 : (8 < kind) = False := eq_false (by omega)
    have f2 : (frm < 0) = False := eq_false (by omega)
    have f3 : (6 < frm) = False := eq_false (by omega)
    have f4 : (dst < 0) = False := eq_false (by omega)
    have f5 : (6 < dst) = False := eq_false (by omega)
    have f6 : (frm == dst) = false := by simpa using q6
    have f7 : (term < 1) = True := eq_true (by omega)
    refine WL.start ?_
    iterate 45 (first | (refine WL.skip (by rfl) ?_; simp only [Act.put, List.getElem_toArray, List.getElem_cons_zero, List.getElem_cons_succ, List.setIfInBounds_toArray, List.set_cons_zero, List.set_cons_succ]) | (refine WL.val (v := ?_) (by rfl) ?_ ?_; rotate_left; (focus (go_simp; (try with_reducible rfl))); simp only [Act.put, List.getElem_toArray, List.getElem_cons_zero, List.getElem_cons_succ, List.setIfInBounds_toArray, List.set_cons_zero, List.set_cons_succ]))
    refine WL.nil ?_
    go_wp2_with fail
    go_ret
    exact ⟨by rw [Hf.out]; rfl, HB1.out⟩
  by_cases q8 : 1152921504606846976 < term
  · have Hf : Hid (c = false) := by show _ = _; rw [Bool.eq_false_iff, ne_eq, Hiff.out]; omega
    clear Hrow Hsn Hpl Hsm
    have f0 : (kind < 1) = False := eq_false (by omega)
    have f1 : (8 < kind) = False := eq_false (by omega)
    have f2 : (frm < 0) = False := eq_false (by omega)
    have f3 : (6 < frm) = False := eq_false (by omega)
    have f4 : (dst < 0) = False := eq_false (by omega)
    have f5 : (6 < dst) = False := eq_false (by omega)
    have f6 : (frm == dst) = false := by simpa using q6
    have f7 : (term < 1) = False := eq_false (by omega)
    have f8 : (1152921504606846976 < term) = True := eq_true (by omega)
    refine WL.start ?_
    iterate 45 (first | (refine WL.skip (by rfl) ?_; simp only [Act.put, List.getElem_toArray, List.getElem_cons_zero, List.getElem_cons_succ, List.setIfInBounds_toArray, List.set_cons_zero, List.set_cons_succ]) | (refine WL.val (v := ?_) (by rfl) ?_ ?_; rotate_left; (focus (go_simp; (try with_reducible rfl))); simp only [Act.put, List.getElem_toArray, List.getElem_cons_zero, List.getElem_cons_succ, List.setIfInBounds_toArray, List.set_cons_zero, List.set_cons_succ]))
    refine WL.nil ?_
    go_wp2_with fail
    go_ret
    exact ⟨by rw [Hf.out]; rfl, HB1.out⟩
  have f0 : (kind < 1) = False := eq_false (by omega)
  have f1 : (8 < kind) = False := eq_false (by omega)
  have f2 : (frm < 0) = False := eq_false (by omega)
  have f3 : (6 < frm) = False := eq_false (by omega)
  have f4 : (dst < 0) = False := eq_false (by omega)
  have f5 : (6 < dst) = False := eq_false (by omega)
  have f6 : (frm == dst) = false := by simpa using q6
  have f7 : (term < 1) = False := eq_false (by omega)
  have f8 : (1152921504606846976 < term) = False := eq_false (by omega)
  refine WL.start ?_
  iterate 45 (first | (refine WL.skip (by rfl) ?_; simp only [Act.put, List.getElem_toArray, List.getElem_cons_zero, List.getElem_cons_succ, List.setIfInBounds_toArray, List.set_cons_zero, List.set_cons_succ]) | (refine WL.val (v := ?_) (by rfl) ?_ ?_; rotate_left; (focus (go_simp; (try with_reducible rfl))); simp only [Act.put, List.getElem_toArray, List.getElem_cons_zero, List.getElem_cons_succ, List.setIfInBounds_toArray, List.set_cons_zero, List.set_cons_succ]))
  refine WL.nil ?_
  have Hiff2 : Hid (c = true ↔ (commit ≤ 576460752303423488 ∧ round ≤ 1152921504606846976) ∧ (logTerm ≤ term ∧ index ≤ 576460752303423488 ∧ el.length ≤ 8 ∧ rb = true ∧ index + (el.length : Nat) ≤ 576460752303423488) ∧ (kind ≠ 7 ∨ (ss = true ∧ st ≤ term)) ∧ sm = true) := by
    show _ ↔ _
    rw [Hiff.out]
    constructor
    · rintro ⟨_, ⟨_, _, h1, h2⟩, h⟩; exact ⟨⟨h1, h2⟩, h⟩
    · rintro ⟨⟨h1, h2⟩, h⟩; exact ⟨⟨by omega, by omega, by omega, by omega, by omega, by omega, q6⟩, ⟨by omega, by omega, h1, h2⟩, h⟩
  clear Hiff f0 f1 f2 f3 f4 f5 f6 f7 f8 q0 q1 q2 q3 q4 q5 q6 q7 q8
  go_upto_region 3 with fail
  have u1 : IntKind.u64.wrap (el.length : Int) = (el.length : Int) := IntWalk.u64_in _ (by omega)
  by_cases q0 : term < logTerm
  · have Hf : Hid (c = false) := by show _ = _; rw [Bool.eq_false_iff, ne_eq, Hiff2.out]; omega
    clear Hrow Hsn Hpl Hsm
    have f0 : (term < logTerm) = True := eq_true (by omega)
    refine WL.start ?_
    iterate 46 (first | (refine WL.skip (by rfl) ?_; simp only [Act.put, List.getElem_toArray, List.getElem_cons_zero, List.getElem_cons_succ, List.setIfInBounds_toArray, List.set_cons_zero, List.set_cons_succ]) | (refine WL.val (v := ?_) (by rfl) ?_ ?_; rotate_left; (focus (go_simp; (try with_reducible rfl))); simp only [Act.put, List.getElem_toArray, List.getElem_cons_zero, List.getElem_cons_succ, List.setIfInBounds_toArray, List.set_cons_zero, List.set_cons_succ]))
    refine WL.nil ?_
    go_wp2_with fail
    go_ret
    exact ⟨by rw [Hf.out]; rfl, HB1.out⟩
  by_cases q1 : 576460752303423488 < index
  · have Hf : Hid (c = false) := by show _ = _; rw [Bool.eq_false_iff, ne_eq, Hiff2.out]; omega
    clear Hrow Hsn Hpl Hsm
    have f0 : (term < logTerm) = False := eq_false (by omega)
    have f1 : (576460752303423488 < index) = True := eq_true (by omega)
    refine WL.start ?_
    iterate 46 (first | (refine WL.skip (by rfl) ?_; simp only [Act.put, List.getElem_toArray, List.getElem_cons_zero, List.getElem_cons_succ, List.setIfInBounds_toArray, List.set_cons_zero, List.set_cons_succ]) | (refine WL.val (v := ?_) (by rfl) ?_ ?_; rotate_left; (focus (go_simp; (try with_reducible rfl))); simp only [Act.put, List.getElem_toArray, List.getElem_cons_zero, List.getElem_cons_succ, List.setIfInBounds_toArray, List.set_cons_zero, List.set_cons_succ]))
    refine WL.nil ?_
    go_wp2_with fail
    go_ret
    exact ⟨by rw [Hf.out]; rfl, HB1.out⟩
  by_cases q2 : 576460752303423488 < commit
  · have Hf : Hid (c = false) := by show _ = _; rw [Bool.eq_false_iff, ne_eq, Hiff2.out]; omega
    clear Hrow Hsn Hpl Hsm
    have f0 : (term < logTerm) = False := eq_false (by omega)
    have f1 : (576460752303423488 < index) = False := eq_false (by omega)
    have f2 : (576460752303423488 < commit) = True := eq_true (by omega)
    refine WL.start ?_
    iterate 46 (first | (refine WL.skip (by rfl) ?_; simp only [Act.put, List.getElem_toArray, List.getElem_cons_zero, List.getElem_cons_succ, List.setIfInBounds_toArray, List.set_cons_zero, List.set_cons_succ]) | (refine WL.val (v := ?_) (by rfl) ?_ ?_; rotate_left; (focus (go_simp; (try with_reducible rfl))); simp only [Act.put, List.getElem_toArray, List.getElem_cons_zero, List.getElem_cons_succ, List.setIfInBounds_toArray, List.set_cons_zero, List.set_cons_succ]))
    refine WL.nil ?_
    go_wp2_with fail
    go_ret
    exact ⟨by rw [Hf.out]; rfl, HB1.out⟩
  by_cases q3 : 1152921504606846976 < round
  · have Hf : Hid (c = false) := by show _ = _; rw [Bool.eq_false_iff, ne_eq, Hiff2.out]; omega
    clear Hrow Hsn Hpl Hsm
    have f0 : (term < logTerm) = False := eq_false (by omega)
    have f1 : (576460752303423488 < index) = False := eq_false (by omega)
    have f2 : (576460752303423488 < commit) = False := eq_false (by omega)
    have f3 : (1152921504606846976 < round) = True := eq_true (by omega)
    refine WL.start ?_
    iterate 46 (first | (refine WL.skip (by rfl) ?_; simp only [Act.put, List.getElem_toArray, List.getElem_cons_zero, List.getElem_cons_succ, List.setIfInBounds_toArray, List.set_cons_zero, List.set_cons_succ]) | (refine WL.val (v := ?_) (by rfl) ?_ ?_; rotate_left; (focus (go_simp; (try with_reducible rfl))); simp only [Act.put, List.getElem_toArray, List.getElem_cons_zero, List.getElem_cons_succ, List.setIfInBounds_toArray, List.set_cons_zero, List.set_cons_succ]))
    refine WL.nil ?_
    go_wp2_with fail
    go_ret
    exact ⟨by rw [Hf.out]; rfl, HB1.out⟩
  by_cases q4 : (8 : Int) < (el.length : Int)
  · have Hf : Hid (c = false) := by show _ = _; rw [Bool.eq_false_iff, ne_eq, Hiff2.out]; omega
    clear Hrow Hsn Hpl Hsm
    have f0 : (term < logTerm) = False := eq_false (by omega)
    have f1 : (576460752303423488 < index) = False := eq_false (by omega)
    have f2 : (576460752303423488 < commit) = False := eq_false (by omega)
    have f3 : (1152921504606846976 < round) = False := eq_false (by omega)
    have f4 : ((8 : Int) < (el.length : Int)) = True := eq_true (by omega)
    refine WL.start ?_
    iterate 46 (first | (refine WL.skip (by rfl) ?_; simp only [Act.put, List.getElem_toArray, List.getElem_cons_zero, List.getElem_cons_succ, List.setIfInBounds_toArray, List.set_cons_zero, List.set_cons_succ]) | (refine WL.val (v := ?_) (by rfl) ?_ ?_; rotate_left; (focus (go_simp; (try with_reducible rfl))); simp only [Act.put, List.getElem_toArray, List.getElem_cons_zero, List.getElem_cons_succ, List.setIfInBounds_toArray, List.set_cons_zero, List.set_cons_succ]))
    refine WL.nil ?_
    go_wp2_with fail
    go_ret
    exact ⟨by rw [Hf.out]; rfl, HB1.out⟩
  have f0 : (term < logTerm) = False := eq_false (by omega)
  have f1 : (576460752303423488 < index) = False := eq_false (by omega)
  have f2 : (576460752303423488 < commit) = False := eq_false (by omega)
  have f3 : (1152921504606846976 < round) = False := eq_false (by omega)
  have f4 : ((8 : Int) < (el.length : Int)) = False := eq_false (by omega)
  have u2 : IntKind.u64.wrap (index + (el.length : Int)) = index + (el.length : Int) := IntWalk.u64_in _ (by omega)
  have f5 : decide (el.length ≤ 8) = true := by simp; omega
  refine WL.start ?_
  iterate 33 (first | (refine WL.skip (by rfl) ?_; simp only [Act.put, List.getElem_toArray, List.getElem_cons_zero, List.getElem_cons_succ, List.setIfInBounds_toArray, List.set_cons_zero, List.set_cons_succ]) | (refine WL.val (v := ?_) (by rfl) ?_ ?_; rotate_left; (focus (go_simp; (try with_reducible rfl))); simp only [Act.put, List.getElem_toArray, List.getElem_cons_zero, List.getElem_cons_succ, List.setIfInBounds_toArray, List.set_cons_zero, List.set_cons_succ]))
  refine WL.any (by rfl) (fun K hK => ?_)
  go_simp
  go_at_call 68
  refine (Hrow.out _ hat1.ens).mono ?_
  rintro e w4 ⟨rfl, hb4⟩; rw [f5, Bool.and_true]
  refine hK.out _ _ ?_
  clear hK K
  try simp only [Act.put, List.getElem_toArray, List.getElem_cons_zero, List.getElem_cons_succ, List.setIfInBounds_toArray, List.set_cons_zero, List.set_cons_succ]
  have hB4 := below_on HB1.out hb4 (Nat.le_refl _)
  have k4 := (hb4.block _ z1).trans k1
  have hat4 := h.below hB4
  clear p0 p1 p2 p3 p4 p5 p6 p7 p8 p9 p10 p11 p12 p13 p14
  have p0 := cell_at (k4) 0 (.int .i64 kind) rfl
  have p1 := cell_at (k4) 1 (.int .i64 frm) rfl
  have p2 := cell_at (k4) 2 (.int .i64 dst) rfl
  have p3 := cell_at (k4) 3 (.int .u64 term) rfl
  have p4 := cell_at (k4) 4 (.int .u64 index) rfl
  have p5 := cell_at (k4) 5 (.int .u64 logTerm) rfl
  have p6 := cell_at (k4) 6 (.int .u64 commit) rfl
  have p7 := cell_at (k4) 7 (.int .u64 round) rfl
  have p8 := cell_at (k4) 8 (.bool ok) rfl
  have p9 := cell_at (k4) 9 (.bool force) rfl
  have p10 := cell_at (k4) 10 (.slice eo el.length ec) rfl
  have p11 := cell_at (k4) 11 (.int .u64 si) rfl
  have p12 := cell_at (k4) 12 (.int .u64 st) rfl
  have p13 := cell_at (k4) 13 (.slice mo ml.length mc) rfl
  have p14 := cell_at (k4) 14 (.slice ao d.length ac) rfl
  cases rb
  · have Hf : Hid (c = false) := by show _ = _; rw [Bool.eq_false_iff, ne_eq, Hiff2.out]; simp
    clear Hrow Hsn Hpl Hsm
    iterate 12 (first | (refine WL.skip (by rfl) ?_; simp only [Act.put, List.getElem_toArray, List.getElem_cons_zero, List.getElem_cons_succ, List.setIfInBounds_toArray, List.set_cons_zero, List.set_cons_succ]) | (refine WL.val (v := ?_) (by rfl) ?_ ?_; rotate_left; (focus (go_simp; (try with_reducible rfl))); simp only [Act.put, List.getElem_toArray, List.getElem_cons_zero, List.getElem_cons_succ, List.setIfInBounds_toArray, List.set_cons_zero, List.set_cons_succ]))
    refine WL.nil ?_
    go_wp2_with fail
    go_ret
    exact ⟨by rw [Hf.out]; rfl, hB4⟩
  by_cases q5 : 576460752303423488 < index + (el.length : Int)
  · have Hf : Hid (c = false) := by show _ = _; rw [Bool.eq_false_iff, ne_eq, Hiff2.out]; omega
    clear Hrow Hsn Hpl Hsm
    have f6 : (576460752303423488 < index + (el.length : Int)) = True := eq_true q5
    iterate 12 (first | (refine WL.skip (by rfl) ?_; simp only [Act.put, List.getElem_toArray, List.getElem_cons_zero, List.getElem_cons_succ, List.setIfInBounds_toArray, List.set_cons_zero, List.set_cons_succ]) | (refine WL.val (v := ?_) (by rfl) ?_ ?_; rotate_left; (focus (go_simp; (try with_reducible rfl))); simp only [Act.put, List.getElem_toArray, List.getElem_cons_zero, List.getElem_cons_succ, List.setIfInBounds_toArray, List.set_cons_zero, List.set_cons_succ]))
    refine WL.nil ?_
    go_wp2_with fail
    go_ret
    exact ⟨by rw [Hf.out]; rfl, hB4⟩
  have f6 : (576460752303423488 < index + (el.length : Int)) = False := eq_false q5
  iterate 12 (first | (refine WL.skip (by rfl) ?_; simp only [Act.put, List.getElem_toArray, List.getElem_cons_zero, List.getElem_cons_succ, List.setIfInBounds_toArray, List.set_cons_zero, List.set_cons_succ]) | (refine WL.val (v := ?_) (by rfl) ?_ ?_; rotate_left; (focus (go_simp; (try with_reducible rfl))); simp only [Act.put, List.getElem_toArray, List.getElem_cons_zero, List.getElem_cons_succ, List.setIfInBounds_toArray, List.set_cons_zero, List.set_cons_succ]))
  refine WL.nil ?_
  have Hiff3 : Hid (c = true ↔ (kind ≠ 7 ∨ (ss = true ∧ st ≤ term)) ∧ sm = true) := by
    show _ ↔ _
    rw [Hiff2.out]
    constructor
    · rintro ⟨_, _, h⟩; exact h
    · intro h; exact ⟨⟨by omega, by omega⟩, ⟨by omega, by omega, by omega, rfl, by omega⟩, h⟩
  clear Hiff2 f0 f1 f2 f3 f4 f5 f6 q0 q1 q2 q3 q4 q5 Hrow
  go_upto_region 5 with fail
  by_cases q0 : kind = 7
  · have f0 : (kind == 7) = true := by simpa using q0
    have Q0 := Lib.hid q0
    clear q0
    refine WL.start ?_
    iterate 6 (first | (refine WL.skip (by rfl) ?_; simp only [Act.put, List.getElem_toArray, List.getElem_cons_zero, List.getElem_cons_succ, List.setIfInBounds_toArray, List.set_cons_zero, List.set_cons_succ]) | (refine WL.val (v := ?_) (by rfl) ?_ ?_; rotate_left; (focus (go_simp; (try with_reducible rfl))); simp only [Act.put, List.getElem_toArray, List.getElem_cons_zero, List.getElem_cons_succ, List.setIfInBounds_toArray, List.set_cons_zero, List.set_cons_succ]))
    refine WL.any (by rfl) (fun K hK => ?_)
    go_simp
    go_at_call 69
    refine (Hsn.out _ hat4.mem).mono ?_
    rintro e w5 ⟨rfl, hb5⟩
    refine hK.out _ _ ?_
    clear hK K
    try simp only [Act.put, List.getElem_toArray, List.getElem_cons_zero, List.getElem_cons_succ, List.setIfInBounds_toArray, List.set_cons_zero, List.set_cons_succ]
    have hB5 := below_on hB4 hb5 (Nat.le_refl _)
    have k5 := (hb5.block _ (Array.getElem?_eq_some_iff.1 k4).1).trans k4
    have hat5 := h.below hB5
    clear p0 p1 p2 p3 p4 p5 p6 p7 p8 p9 p10 p11 p12 p13 p14
    have p0 := cell_at (k5) 0 (.int .i64 kind) rfl
    have p1 := cell_at (k5) 1 (.int .i64 frm) rfl
    have p2 := cell_at (k5) 2 (.int .i64 dst) rfl
    have p3 := cell_at (k5) 3 (.int .u64 term) rfl
    have p4 := cell_at (k5) 4 (.int .u64 index) rfl
    have p5 := cell_at (k5) 5 (.int .u64 logTerm) rfl
    have p6 := cell_at (k5) 6 (.int .u64 commit) rfl
    have p7 := cell_at (k5) 7 (.int .u64 round) rfl
    have p8 := cell_at (k5) 8 (.bool ok) rfl
    have p9 := cell_at (k5) 9 (.bool force) rfl
    have p10 := cell_at (k5) 10 (.slice eo el.length ec) rfl
    have p11 := cell_at (k5) 11 (.int .u64 si) rfl
    have p12 := cell_at (k5) 12 (.int .u64 st) rfl
    have p13 := cell_at (k5) 13 (.slice mo ml.length mc) rfl
    have p14 := cell_at (k5) 14 (.slice ao d.length ac) rfl
    cases ss
    · have Hf : Hid (c = false) := by show _ = _; rw [Bool.eq_false_iff, ne_eq, Hiff3.out]; simp [Q0.out]
      iterate 10 (first | (refine WL.skip (by rfl) ?_; simp only [Act.put, List.getElem_toArray, List.getElem_cons_zero, List.getElem_cons_succ, List.setIfInBounds_toArray, List.set_cons_zero, List.set_cons_succ]) | (refine WL.val (v := ?_) (by rfl) ?_ ?_; rotate_left; (focus (go_simp; (try with_reducible rfl))); simp only [Act.put, List.getElem_toArray, List.getElem_cons_zero, List.getElem_cons_succ, List.setIfInBounds_toArray, List.set_cons_zero, List.set_cons_succ]))
      refine WL.nil ?_
      go_wp2_with fail
      go_ret
      exact ⟨by rw [Hf.out]; rfl, hB5⟩
    · by_cases q1 : term < st
      · have Hf : Hid (c = false) := by show _ = _; rw [Bool.eq_false_iff, ne_eq, Hiff3.out]; simp [Q0.out]; omega
        have f1 : (term < st) = True := eq_true q1
        iterate 10 (first | (refine WL.skip (by rfl) ?_; simp only [Act.put, List.getElem_toArray, List.getElem_cons_zero, List.getElem_cons_succ, List.setIfInBounds_toArray, List.set_cons_zero, List.set_cons_succ]) | (refine WL.val (v := ?_) (by rfl) ?_ ?_; rotate_left; (focus (go_simp; (try with_reducible rfl))); simp only [Act.put, List.getElem_toArray, List.getElem_cons_zero, List.getElem_cons_succ, List.setIfInBounds_toArray, List.set_cons_zero, List.set_cons_succ]))
        refine WL.nil ?_
        go_wp2_with fail
        go_ret
        exact ⟨by rw [Hf.out]; rfl, hB5⟩
      · have f1 : (term < st) = False := eq_false q1
        have Hfin : Hid (c = sm) := by show _ = _; rw [Bool.eq_iff_iff, Hiff3.out]; exact ⟨fun h => h.2, fun h => ⟨.inr ⟨rfl, by omega⟩, h⟩⟩
        iterate 10 (first | (refine WL.skip (by rfl) ?_; simp only [Act.put, List.getElem_toArray, List.getElem_cons_zero, List.getElem_cons_succ, List.setIfInBounds_toArray, List.set_cons_zero, List.set_cons_succ]) | (refine WL.val (v := ?_) (by rfl) ?_ ?_; rotate_left; (focus (go_simp; (try with_reducible rfl))); simp only [Act.put, List.getElem_toArray, List.getElem_cons_zero, List.getElem_cons_succ, List.setIfInBounds_toArray, List.set_cons_zero, List.set_cons_succ]))
        refine WL.nil ?_
        clear p0 p1 p2 p3 p4 p5 p6 p7 p8 p9 p10 p11 p12 p13 p14
        go_upto_region 7 with fail
        have hd8 : Below w5.heap.size w5 w5.drew := (Below.refl _ _).drew
        have hcw : ∀ W', Below w5.heap.size w5 W' → W'.heap[w.heap.size]? = some (.cells #[.int .i64 kind, .int .i64 frm, .int .i64 dst, .int .u64 term, .int .u64 index, .int .u64 logTerm, .int .u64 commit, .int .u64 round, .bool ok, .bool force, .slice eo el.length ec, .int .u64 si, .int .u64 st, .slice mo ml.length mc, .slice ao d.length ac] 62) := fun W' hb => (hb.block _ (Array.getElem?_eq_some_iff.1 k5).1).trans k5
        refine wp_region_held_drew (S := fun W' => W'.heap[w.heap.size]? = some (.cells #[.int .i64 kind, .int .i64 frm, .int .i64 dst, .int .u64 term, .int .u64 index, .int .u64 logTerm, .int .u64 commit, .int .u64 round, .bool ok, .bool force, .slice eo el.length ec, .int .u64 si, .int .u64 st, .slice mo ml.length mc, .slice ao d.length ac] 62)) (by kernel_rfl) (hcw _ hd8) (fun hHeld => ?_)
        refine wpAnyH_take (i := 0) (v := ?_) rfl (by kernel_rfl) (by kernel_rfl) (by kernel_rfl) (fun _ _ _ h => h) (Or.inl ⟨by rfl, ?_⟩) (by assumption) ?_
        rotate_left
        · intro w8 hSw
          (try dsimp only at hSw)
          have p0 := cell_at (hSw) 0 (.int .i64 kind) rfl
          have p1 := cell_at (hSw) 1 (.int .i64 frm) rfl
          have p2 := cell_at (hSw) 2 (.int .i64 dst) rfl
          have p3 := cell_at (hSw) 3 (.int .u64 term) rfl
          have p4 := cell_at (hSw) 4 (.int .u64 index) rfl
          have p5 := cell_at (hSw) 5 (.int .u64 logTerm) rfl
          have p6 := cell_at (hSw) 6 (.int .u64 commit) rfl
          have p7 := cell_at (hSw) 7 (.int .u64 round) rfl
          have p8 := cell_at (hSw) 8 (.bool ok) rfl
          have p9 := cell_at (hSw) 9 (.bool force) rfl
          have p10 := cell_at (hSw) 10 (.slice eo el.length ec) rfl
          have p11 := cell_at (hSw) 11 (.int .u64 si) rfl
          have p12 := cell_at (hSw) 12 (.int .u64 st) rfl
          have p13 := cell_at (hSw) 13 (.slice mo ml.length mc) rfl
          have p14 := cell_at (hSw) 14 (.slice ao d.length ac) rfl
          clear hSw
          go_simp; (try with_reducible rfl)
        simp only [Act.put, List.getElem_toArray, List.getElem_cons_zero, List.getElem_cons_succ, List.setIfInBounds_toArray, List.set_cons_zero, List.set_cons_succ]
        refine wpAnyH_take (i := 1) (v := ?_) rfl (by kernel_rfl) (by kernel_rfl) (by kernel_rfl) (fun _ _ _ h => h) (Or.inl ⟨by rfl, ?_⟩) (by assumption) ?_
        rotate_left
        · intro w8 hSw
          (try dsimp only at hSw)
          have p0 := cell_at (hSw) 0 (.int .i64 kind) rfl
          have p1 := cell_at (hSw) 1 (.int .i64 frm) rfl
          have p2 := cell_at (hSw) 2 (.int .i64 dst) rfl
          have p3 := cell_at (hSw) 3 (.int .u64 term) rfl
          have p4 := cell_at (hSw) 4 (.int .u64 index) rfl
          have p5 := cell_at (hSw) 5 (.int .u64 logTerm) rfl
          have p6 := cell_at (hSw) 6 (.int .u64 commit) rfl
          have p7 := cell_at (hSw) 7 (.int .u64 round) rfl
          have p8 := cell_at (hSw) 8 (.bool ok) rfl
          have p9 := cell_at (hSw) 9 (.bool force) rfl
          have p10 := cell_at (hSw) 10 (.slice eo el.length ec) rfl
          have p11 := cell_at (hSw) 11 (.int .u64 si) rfl
          have p12 := cell_at (hSw) 12 (.int .u64 st) rfl
          have p13 := cell_at (hSw) 13 (.slice mo ml.length mc) rfl
          have p14 := cell_at (hSw) 14 (.slice ao d.length ac) rfl
          clear hSw
          go_simp; (try with_reducible rfl)
        simp only [Act.put, List.getElem_toArray, List.getElem_cons_zero, List.getElem_cons_succ, List.setIfInBounds_toArray, List.set_cons_zero, List.set_cons_succ]
        refine wpAnyH_ready (rs := [2]) (by kernel_rfl) (by simp) ?_
        refine AllReadyH.cons rfl (fun K hK => ?_) AllReadyH.nil
        go_simp
        go_at_call 70
        refine (Hpl.out _).mono ?_
        rintro e w9 ⟨rfl, hb9⟩; have hB9 : Below w5.heap.size w5 w9 := below_on hd8 hb9 (Nat.le_refl _)
        refine hK.out _ _ (hcw w9 hB9) (fun hHeld => ?_)
        clear hK K
        try simp only [Act.put, List.getElem_toArray, List.getElem_cons_zero, List.getElem_cons_succ, List.setIfInBounds_toArray, List.set_cons_zero, List.set_cons_succ]
        refine wpAnyH_ready (rs := [3]) (by kernel_rfl) (by simp) ?_
        refine AllReadyH.cons rfl (fun K hK => ?_) AllReadyH.nil
        go_simp
        go_at_call 42
        refine (Hsm.out _ (hat5.below hB9)).mono ?_
        rintro e w10 ⟨rfl, hb10⟩; have hB10 : Below w5.heap.size w5 w10 := below_on hB9 hb10 (Nat.le_refl _)
        refine hK.out _ _ (hcw w10 hB10) (fun hHeld => ?_)
        clear hK K
        try simp only [Act.put, List.getElem_toArray, List.getElem_cons_zero, List.getElem_cons_succ, List.setIfInBounds_toArray, List.set_cons_zero, List.set_cons_succ]
        clear Hpl Hsm Hsn Hiff3 hcw
        refine wpAnyH_take (i := 4) (v := ?_) rfl (by kernel_rfl) (by kernel_rfl) (by kernel_rfl) (fun _ _ _ h => h) (Or.inl ⟨by rfl, ?_⟩) (by assumption) ?_
        rotate_left
        · intro w8 hSw; clear hSw; go_simp; (try with_reducible rfl)
        simp only [Act.put, List.getElem_toArray, List.getElem_cons_zero, List.getElem_cons_succ, List.setIfInBounds_toArray, List.set_cons_zero, List.set_cons_succ]
        refine wpAnyH_done (by kernel_rfl) ?_ _
        go_wp2_with fail
        go_ret
        exact ⟨by rw [Hfin.out]; rfl, below_on hB5 hB10 (Nat.le_refl _)⟩
  · have f0 : (kind == 7) = false := by simpa using q0
    have Hfin : Hid (c = sm) := by show _ = _; rw [Bool.eq_iff_iff, Hiff3.out]; exact ⟨fun h => h.2, fun h => ⟨.inl q0, h⟩⟩
    refine WL.start ?_
    iterate 17 (first | (refine WL.skip (by rfl) ?_; simp only [Act.put, List.getElem_toArray, List.getElem_cons_zero, List.getElem_cons_succ, List.setIfInBounds_toArray, List.set_cons_zero, List.set_cons_succ]) | (refine WL.val (v := ?_) (by rfl) ?_ ?_; rotate_left; (focus (go_simp; (try with_reducible rfl))); simp only [Act.put, List.getElem_toArray, List.getElem_cons_zero, List.getElem_cons_succ, List.setIfInBounds_toArray, List.set_cons_zero, List.set_cons_succ]))
    refine WL.nil ?_
    clear p0 p1 p2 p3 p4 p5 p6 p7 p8 p9 p10 p11 p12 p13 p14
    go_upto_region 7 with fail
    have hd8 : Below w4.heap.size w4 w4.drew := (Below.refl _ _).drew
    have hcw : ∀ W', Below w4.heap.size w4 W' → W'.heap[w.heap.size]? = some (.cells #[.int .i64 kind, .int .i64 frm, .int .i64 dst, .int .u64 term, .int .u64 index, .int .u64 logTerm, .int .u64 commit, .int .u64 round, .bool ok, .bool force, .slice eo el.length ec, .int .u64 si, .int .u64 st, .slice mo ml.length mc, .slice ao d.length ac] 62) := fun W' hb => (hb.block _ (Array.getElem?_eq_some_iff.1 k4).1).trans k4
    refine wp_region_held_drew (S := fun W' => W'.heap[w.heap.size]? = some (.cells #[.int .i64 kind, .int .i64 frm, .int .i64 dst, .int .u64 term, .int .u64 index, .int .u64 logTerm, .int .u64 commit, .int .u64 round, .bool ok, .bool force, .slice eo el.length ec, .int .u64 si, .int .u64 st, .slice mo ml.length mc, .slice ao d.length ac] 62)) (by kernel_rfl) (hcw _ hd8) (fun hHeld => ?_)
    refine wpAnyH_take (i := 0) (v := ?_) rfl (by kernel_rfl) (by kernel_rfl) (by kernel_rfl) (fun _ _ _ h => h) (Or.inl ⟨by rfl, ?_⟩) (by assumption) ?_
    rotate_left
    · intro w8 hSw
      (try dsimp only at hSw)
      have p0 := cell_at (hSw) 0 (.int .i64 kind) rfl
      have p1 := cell_at (hSw) 1 (.int .i64 frm) rfl
      have p2 := cell_at (hSw) 2 (.int .i64 dst) rfl
      have p3 := cell_at (hSw) 3 (.int .u64 term) rfl
      have p4 := cell_at (hSw) 4 (.int .u64 index) rfl
      have p5 := cell_at (hSw) 5 (.int .u64 logTerm) rfl
      have p6 := cell_at (hSw) 6 (.int .u64 commit) rfl
      have p7 := cell_at (hSw) 7 (.int .u64 round) rfl
      have p8 := cell_at (hSw) 8 (.bool ok) rfl
      have p9 := cell_at (hSw) 9 (.bool force) rfl
      have p10 := cell_at (hSw) 10 (.slice eo el.length ec) rfl
      have p11 := cell_at (hSw) 11 (.int .u64 si) rfl
      have p12 := cell_at (hSw) 12 (.int .u64 st) rfl
      have p13 := cell_at (hSw) 13 (.slice mo ml.length mc) rfl
      have p14 := cell_at (hSw) 14 (.slice ao d.length ac) rfl
      clear hSw
      go_simp; (try with_reducible rfl)
    simp only [Act.put, List.getElem_toArray, List.getElem_cons_zero, List.getElem_cons_succ, List.setIfInBounds_toArray, List.set_cons_zero, List.set_cons_succ]
    refine wpAnyH_take (i := 1) (v := ?_) rfl (by kernel_rfl) (by kernel_rfl) (by kernel_rfl) (fun _ _ _ h => h) (Or.inl ⟨by rfl, ?_⟩) (by assumption) ?_
    rotate_left
    · intro w8 hSw
      (try dsimp only at hSw)
      have p0 := cell_at (hSw) 0 (.int .i64 kind) rfl
      have p1 := cell_at (hSw) 1 (.int .i64 frm) rfl
      have p2 := cell_at (hSw) 2 (.int .i64 dst) rfl
      have p3 := cell_at (hSw) 3 (.int .u64 term) rfl
      have p4 := cell_at (hSw) 4 (.int .u64 index) rfl
      have p5 := cell_at (hSw) 5 (.int .u64 logTerm) rfl
      have p6 := cell_at (hSw) 6 (.int .u64 commit) rfl
      have p7 := cell_at (hSw) 7 (.int .u64 round) rfl
      have p8 := cell_at (hSw) 8 (.bool ok) rfl
      have p9 := cell_at (hSw) 9 (.bool force) rfl
      have p10 := cell_at (hSw) 10 (.slice eo el.length ec) rfl
      have p11 := cell_at (hSw) 11 (.int .u64 si) rfl
      have p12 := cell_at (hSw) 12 (.int .u64 st) rfl
      have p13 := cell_at (hSw) 13 (.slice mo ml.length mc) rfl
      have p14 := cell_at (hSw) 14 (.slice ao d.length ac) rfl
      clear hSw
      go_simp; (try with_reducible rfl)
    simp only [Act.put, List.getElem_toArray, List.getElem_cons_zero, List.getElem_cons_succ, List.setIfInBounds_toArray, List.set_cons_zero, List.set_cons_succ]
    refine wpAnyH_ready (rs := [2]) (by kernel_rfl) (by simp) ?_
    refine AllReadyH.cons rfl (fun K hK => ?_) AllReadyH.nil
    go_simp
    go_at_call 70
    refine (Hpl.out _).mono ?_
    rintro e w9 ⟨rfl, hb9⟩; have hB9 : Below w4.heap.size w4 w9 := below_on hd8 hb9 (Nat.le_refl _)
    refine hK.out _ _ (hcw w9 hB9) (fun hHeld => ?_)
    clear hK K
    try simp only [Act.put, List.getElem_toArray, List.getElem_cons_zero, List.getElem_cons_succ, List.setIfInBounds_toArray, List.set_cons_zero, List.set_cons_succ]
    refine wpAnyH_ready (rs := [3]) (by kernel_rfl) (by simp) ?_
    refine AllReadyH.cons rfl (fun K hK => ?_) AllReadyH.nil
    go_simp
    go_at_call 42
    refine (Hsm.out _ (hat4.below hB9)).mono ?_
    rintro e w10 ⟨rfl, hb10⟩; have hB10 : Below w4.heap.size w4 w10 := below_on hB9 hb10 (Nat.le_refl _)
    refine hK.out _ _ (hcw w10 hB10) (fun hHeld => ?_)
    clear hK K
    try simp only [Act.put, List.getElem_toArray, List.getElem_cons_zero, List.getElem_cons_succ, List.setIfInBounds_toArray, List.set_cons_zero, List.set_cons_succ]
    clear Hpl Hsm Hsn Hiff3 hcw
    refine wpAnyH_take (i := 4) (v := ?_) rfl (by kernel_rfl) (by kernel_rfl) (by kernel_rfl) (fun _ _ _ h => h) (Or.inl ⟨by rfl, ?_⟩) (by assumption) ?_
    rotate_left
    · intro w8 hSw; clear hSw; go_simp; (try with_reducible rfl)
    simp only [Act.put, List.getElem_toArray, List.getElem_cons_zero, List.getElem_cons_succ, List.setIfInBounds_toArray, List.set_cons_zero, List.set_cons_succ]
    refine wpAnyH_done (by kernel_rfl) ?_ _
    go_wp2_with fail
    go_ret
    exact ⟨by rw [Hfin.out]; rfl, below_on hB4 hB10 (Nat.le_refl _)⟩
end Go.Proofs.Ytbmkgcoolofmpaa
