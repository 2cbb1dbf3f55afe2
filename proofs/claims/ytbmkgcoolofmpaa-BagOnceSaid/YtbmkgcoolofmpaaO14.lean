/- Lemmas for BagOnce (Ms). No statement of the seat is proved here. -/
import Derived.Test.YtbmkgcoolofmpaaO13
namespace Go.Proofs.Ytbmkgcoolofmpaa
set_option linter.unusedVariables false
set_option linter.unusedSimpArgs false
set_option linter.unusedSectionVars false
open Go Go.RowKit Go.Shelf
set_option maxRecDepth 100000 in
set_option maxHeartbeats 16000000 in
theorem wireSound_any (x : Mp) (w : World) (h : MpAt w x) (hl : x.el.length ≤ 1000000) (hml : x.ml.length ≤ 1000000) (hx0 : 0 ≤ x.index) :
    Calls Try.prog 52 #[.agg (mpA x)] w fun e w' => e = .returned (.bool (soundM x.v)) ∧ Below w.heap.size w w' := by
  have Hiff := Lib.hid (soundM_iff (m := x.v))
  have Hen := Lib.hid (fun W hW => entries_any x W hW hl hx0)
  have Hsp := Lib.hid (fun W hW => spare_any x W hW hml)
  have Hsn := Lib.hid (fun W hW => snapSound_any x.si x.st x.mo x.ao x.mc x.ac x.ml x.d W hW hml)
  obtain ⟨c, hc⟩ : ∃ c, c = soundM x.v := ⟨_, rfl⟩
  rw [← hc] at Hiff ⊢
  clear hc
  obtain ⟨en, hen⟩ : ∃ en, en = entM x.v := ⟨_, rfl⟩
  rw [← hen] at Hiff Hen
  obtain ⟨sp, hsp⟩ : ∃ sp, sp = spareM x.v := ⟨_, rfl⟩
  rw [← hsp] at Hiff Hsp
  obtain ⟨ss, hss⟩ : ∃ ss, ss = soundSn ⟨x.si, x.st, x.ml, x.d⟩ := ⟨_, rfl⟩
  rw [show soundSn x.v.sn = soundSn ⟨x.si, x.st, x.ml, x.d⟩ from rfl, ← hss] at Hiff
  rw [← hss] at Hsn
  clear hen hsp hss
  obtain ⟨kind, frm, dst, term, index, logTerm, commit, round, ok, force, eo, ec, el, si, st, mo, mc, ml, ao, ac, d⟩ := x
  dsimp only [mpA, Mp.v] at Hiff Hen Hsp Hsn h hl hml hx0 ⊢
  obtain ⟨W1, hW1⟩ : ∃ W1, W1 = w.alloc (.cells #[.int .i64 kind, .int .i64 frm, .int .i64 dst, .int .u64 term, .int .u64 index, .int .u64 logTerm, .int .u64 commit, .int .u64 round, .bool ok, .bool force, .slice eo el.length ec, .int .u64 si, .int .u64 st, .slice mo ml.length mc, .slice ao d.length ac] 37) := ⟨_, rfl⟩
  have hB1 : Below w.heap.size w W1 := by rw [hW1]; exact below_new _ _
  have k1 : W1.heap[w.heap.size]? = some (.cells #[.int .i64 kind, .int .i64 frm, .int .i64 dst, .int .u64 term, .int .u64 index, .int .u64 logTerm, .int .u64 commit, .int .u64 round, .bool ok, .bool force, .slice eo el.length ec, .int .u64 si, .int .u64 st, .slice mo ml.length mc, .slice ao d.length ac] 37) := by rw [hW1]; exact heap_alloc_new _ _
  have z1 : w.heap.size < W1.heap.size := (Array.getElem?_eq_some_iff.1 k1).1
  have hat1 := h.below hB1
  go_enter Try.func52, Try.ntmps52
  go_upto_region 1 with fail
  rw [← hW1]
  clear hW1
  have p0 : W1.cell? ⟨w.heap.size, 0, none⟩ = some (.int .i64 kind) := block_cell (k1) 0
  have p1 : W1.cell? ⟨w.heap.size, 1, none⟩ = some (.int .i64 frm) := block_cell (k1) 1
  have p2 : W1.cell? ⟨w.heap.size, 2, none⟩ = some (.int .i64 dst) := block_cell (k1) 2
  have p3 : W1.cell? ⟨w.heap.size, 3, none⟩ = some (.int .u64 term) := block_cell (k1) 3
  have p4 : W1.cell? ⟨w.heap.size, 4, none⟩ = some (.int .u64 index) := block_cell (k1) 4
  have p5 : W1.cell? ⟨w.heap.size, 5, none⟩ = some (.int .u64 logTerm) := block_cell (k1) 5
  have p6 : W1.cell? ⟨w.heap.size, 6, none⟩ = some (.int .u64 commit) := block_cell (k1) 6
  have p7 : W1.cell? ⟨w.heap.size, 7, none⟩ = some (.int .u64 round) := block_cell (k1) 7
  have p8 : W1.cell? ⟨w.heap.size, 8, none⟩ = some (.bool ok) := block_cell (k1) 8
  have p9 : W1.cell? ⟨w.heap.size, 9, none⟩ = some (.bool force) := block_cell (k1) 9
  have p10 : W1.cell? ⟨w.heap.size, 10, none⟩ = some (.slice eo el.length ec) := block_cell (k1) 10
  have p11 : W1.cell? ⟨w.heap.size, 11, none⟩ = some (.int .u64 si) := block_cell (k1) 11
  have p12 : W1.cell? ⟨w.heap.size, 12, none⟩ = some (.int .u64 st) := block_cell (k1) 12
  have p13 : W1.cell? ⟨w.heap.size, 13, none⟩ = some (.slice mo ml.length mc) := block_cell (k1) 13
  have p14 : W1.cell? ⟨w.heap.size, 14, none⟩ = some (.slice ao d.length ac) := block_cell (k1) 14
  have HB1 := Lib.hid hB1
  by_cases q0 : kind < 1
  · have Hf : Hid (c = false) := by show _ = _; rw [Bool.eq_false_iff, ne_eq, Hiff.out]; omega
    clear Hsp Hsn Hen
    have f0 : (kind < 1) = True := eq_true (by omega)
    refine WL.start ?_
    iterate 28 (first | (refine WL.skip (by rfl) ?_; simp only [Act.put, List.getElem_toArray, List.getElem_cons_zero, List.getElem_cons_succ, List.setIfInBounds_toArray, List.set_cons_zero, List.set_cons_succ]) | (refine WL.val (v := ?_) (by rfl) ?_ ?_; rotate_left; (focus (go_simp; (try with_reducible rfl))); simp only [Act.put, List.getElem_toArray, List.getElem_cons_zero, List.getElem_cons_succ, List.setIfInBounds_toArray, List.set_cons_zero, List.set_cons_succ]))
    refine WL.nil ?_
    go_wp2_with fail
    go_ret
    exact ⟨by rw [Hf.out]; rfl, HB1.out⟩
  by_cases q1 : 8 < kind
  · have Hf : Hid (c = false) := by show _ = _; rw [Bool.eq_false_iff, ne_eq, Hiff.out]; omega
    clear Hsp Hsn Hen
    have f0 : (kind < 1) = False := eq_false (by omega)
    have f1 : (8 < kind) = True := eq_true (by omega)
    refine WL.start ?_
    iterate 28 (first | (refine WL.skip (by rfl) ?_; simp only [Act.put, List.getElem_toArray, List.getElem_cons_zero, List.getElem_cons_succ, List.setIfInBounds_toArray, List.set_cons_zero, List.set_cons_succ]) | (refine WL.val (v := ?_) (by rfl) ?_ ?_; rotate_left; (focus (go_simp; (try with_reducible rfl))); simp only [Act.put, List.getElem_toArray, List.getElem_cons_zero, List.getElem_cons_succ, List.setIfInBounds_toArray, List.set_cons_zero, List.set_cons_succ]))
    refine WL.nil ?_
    go_wp2_with fail
    go_ret
    exact ⟨by rw [Hf.out]; rfl, HB1.out⟩
  by_cases q2 : ¬ (0 ≤ frm ∧ frm ≤ 6)
  · have Hf : Hid (c = false) := by show _ = _; rw [Bool.eq_false_iff, ne_eq, Hiff.out]; omega
    clear Hsp Hsn Hen
    have f0 : (kind < 1) = False := eq_false (by omega)
    have f1 : (8 < kind) = False := eq_false (by omega)
    have f2 : decide (0 ≤ frm ∧ frm ≤ 6) = false := by simp; omega
    refine WL.start ?_
    iterate 11 (first | (refine WL.skip (by rfl) ?_; simp only [Act.put, List.getElem_toArray, List.getElem_cons_zero, List.getElem_cons_succ, List.setIfInBounds_toArray, List.set_cons_zero, List.set_cons_succ]) | (refine WL.val (v := ?_) (by rfl) ?_ ?_; rotate_left; (focus (go_simp; (try with_reducible rfl))); simp only [Act.put, List.getElem_toArray, List.getElem_cons_zero, List.getElem_cons_succ, List.setIfInBounds_toArray, List.set_cons_zero, List.set_cons_succ]))
    refine WL.any (by rfl) (fun K hK => ?_)
    go_simp
    go_at_call 78
    refine (node_any frm _).mono ?_
    rintro e w2 ⟨rfl, rfl⟩; rw [f2]
    refine hK.out _ _ ?_
    clear hK K
    try simp only [Act.put, List.getElem_toArray, List.getElem_cons_zero, List.getElem_cons_succ, List.setIfInBounds_toArray, List.set_cons_zero, List.set_cons_succ]
    iterate 16 (first | (refine WL.skip (by rfl) ?_; simp only [Act.put, List.getElem_toArray, List.getElem_cons_zero, List.getElem_cons_succ, List.setIfInBounds_toArray, List.set_cons_zero, List.set_cons_succ]) | (refine WL.val (v := ?_) (by rfl) ?_ ?_; rotate_left; (focus (go_simp; (try with_reducible rfl))); simp only [Act.put, List.getElem_toArray, List.getElem_cons_zero, List.getElem_cons_succ, List.setIfInBounds_toArray, List.set_cons_zero, List.set_cons_succ]))
    refine WL.nil ?_
    go_wp2_with fail
    go_ret
    exact ⟨by rw [Hf.out]; rfl, HB1.out⟩
  by_cases q3 : ¬ (0 ≤ dst ∧ dst ≤ 6)
  · have Hf : Hid (c = false) := by show _ = _; rw [Bool.eq_false_iff, ne_eq, Hiff.out]; omega
    clear Hsp Hsn Hen
    have f0 : (kind < 1) = False := eq_false (by omega)
    have f1 : (8 < kind) = False := eq_false (by omega)
    have f2 : decide (0 ≤ frm ∧ frm ≤ 6) = true := by simp; omega
    have f3 : decide (0 ≤ dst ∧ dst ≤ 6) = false := by simp; omega
    refine WL.start ?_
    iterate 11 (first | (refine WL.skip (by rfl) ?_; simp only [Act.put, List.getElem_toArray, List.getElem_cons_zero, List.getElem_cons_succ, List.setIfInBounds_toArray, List.set_cons_zero, List.set_cons_succ]) | (refine WL.val (v := ?_) (by rfl) ?_ ?_; rotate_left; (focus (go_simp; (try with_reducible rfl))); simp only [Act.put, List.getElem_toArray, List.getElem_cons_zero, List.getElem_cons_succ, List.setIfInBounds_toArray, List.set_cons_zero, List.set_cons_succ]))
    refine WL.any (by rfl) (fun K hK => ?_)
    go_simp
    go_at_call 78
    refine (node_any frm _).mono ?_
    rintro e w2 ⟨rfl, rfl⟩; rw [f2]
    refine hK.out _ _ ?_
    clear hK K
    try simp only [Act.put, List.getElem_toArray, List.getElem_cons_zero, List.getElem_cons_succ, List.setIfInBounds_toArray, List.set_cons_zero, List.set_cons_succ]
    iterate 5 (first | (refine WL.skip (by rfl) ?_; simp only [Act.put, List.getElem_toArray, List.getElem_cons_zero, List.getElem_cons_succ, List.setIfInBounds_toArray, List.set_cons_zero, List.set_cons_succ]) | (refine WL.val (v := ?_) (by rfl) ?_ ?_; rotate_left; (focus (go_simp; (try with_reducible rfl))); simp only [Act.put, List.getElem_toArray, List.getElem_cons_zero, List.getElem_cons_succ, List.setIfInBounds_toArray, List.set_cons_zero, List.set_cons_succ]))
    refine WL.any (by rfl) (fun K hK => ?_)
    go_simp
    go_at_call 78
    refine (node_any dst _).mono ?_
    rintro e w3 ⟨rfl, rfl⟩; rw [f3]
    refine hK.out _ _ ?_
    clear hK K
    try simp only [Act.put, List.getElem_toArray, List.getElem_cons_zero, List.getElem_cons_succ, List.setIfInBounds_toArray, List.set_cons_zero, List.set_cons_succ]
    iterate 10 (first | (refine WL.skip (by rfl) ?_; simp only [Act.put, List.getElem_toArray, List.getElem_cons_zero, List.getElem_cons_succ, List.setIfInBounds_toArray, List.set_cons_zero, List.set_cons_succ]) | (refine WL.val (v := ?_) (by rfl) ?_ ?_; rotate_left; (focus (go_simp; (try with_reducible rfl))); simp only [Act.put, List.getElem_toArray, List.getElem_cons_zero, List.getElem_cons_succ, List.setIfInBounds_toArray, List.set_cons_zero, List.set_cons_succ]))
    refine WL.nil ?_
    go_wp2_with fail
    go_ret
    exact ⟨by rw [Hf.out]; rfl, HB1.out⟩
  by_cases q4 : frm = dst
  · have Hf : Hid (c = false) := by show _ = _; rw [Bool.eq_false_iff, ne_eq, Hiff.out]; omega
    clear Hsp Hsn Hen
    have f0 : (kind < 1) = False := eq_false (by omega)
    have f1 : (8 < kind) = False := eq_false (by omega)
    have f2 : decide (0 ≤ frm ∧ frm ≤ 6) = true := by simp; omega
    have f3 : decide (0 ≤ dst ∧ dst ≤ 6) = true := by simp; omega
    have f4 : (frm == dst) = true := by simpa using q4
    clear q4
    refine WL.start ?_
    iterate 11 (first | (refine WL.skip (by rfl) ?_; simp only [Act.put, List.getElem_toArray, List.getElem_cons_zero, List.getElem_cons_succ, List.setIfInBounds_toArray, List.set_cons_zero, List.set_cons_succ]) | (refine WL.val (v := ?_) (by rfl) ?_ ?_; rotate_left; (focus (go_simp; (try with_reducible rfl))); simp only [Act.put, List.getElem_toArray, List.getElem_cons_zero, List.getElem_cons_succ, List.setIfInBounds_toArray, List.set_cons_zero, List.set_cons_succ]))
    refine WL.any (by rfl) (fun K hK => ?_)
    go_simp
    go_at_call 78
    refine (node_any frm _).mono ?_
    rintro e w2 ⟨rfl, rfl⟩; rw [f2]
    refine hK.out _ _ ?_
    clear hK K
    try simp only [Act.put, List.getElem_toArray, List.getElem_cons_zero, List.getElem_cons_succ, List.setIfInBounds_toArray, List.set_cons_zero, List.set_cons_succ]
    iterate 5 (first | (refine WL.skip (by rfl) ?_; simp only [Act.put, List.getElem_toArray, List.getElem_cons_zero, List.getElem_cons_succ, List.setIfInBounds_toArray, List.set_cons_zero, List.set_cons_succ]) | (refine WL.val (v := ?_) (by rfl) ?_ ?_; rotate_left; (focus (go_simp; (try with_reducible rfl))); simp only [Act.put, List.getElem_toArray, List.getElem_cons_zero, List.getElem_cons_succ, List.setIfInBounds_toArray, List.set_cons_zero, List.set_cons_succ]))
    refine WL.any (by rfl) (fun K hK => ?_)
    go_simp
    go_at_call 78
    refine (node_any dst _).mono ?_
    rintro e w3 ⟨rfl, rfl⟩; rw [f3]
    refine hK.out _ _ ?_
    clear hK K
    try simp only [Act.put, List.getElem_toArray, List.getElem_cons_zero, List.getElem_cons_succ, List.setIfInBounds_toArray, List.set_cons_zero, List.set_cons_succ]
    iterate 10 (first | (refine WL.skip (by rfl) ?_; simp only [Act.put, List.getElem_toArray, List.getElem_cons_zero, List.getElem_cons_succ, List.setIfInBounds_toArray, List.set_cons_zero, List.set_cons_succ]) | (refine WL.val (v := ?_) (by rfl) ?_ ?_; rotate_left; (focus (go_simp; (try with_reducible rfl))); simp only [Act.put, List.getElem_toArray, List.getElem_cons_zero, List.getElem_cons_succ, List.setIfInBounds_toArray, List.set_cons_zero, List.set_cons_succ]))
    refine WL.nil ?_
    go_wp2_with fail
    go_ret
    exact ⟨by rw [Hf.out]; rfl, HB1.out⟩
  have f0 : (kind < 1) = False := eq_false q0
  have f1 : (8 < kind) = False := eq_false q1
  have f2 : decide (0 ≤ frm ∧ frm ≤ 6) = true := by simp; omega
  have f3 : decide (0 ≤ dst ∧ dst ≤ 6) = true := by simp; omega
  have f4 : (frm == dst) = false := by simpa using q4
  refine WL.start ?_
  iterate 11 (first | (refine WL.skip (by rfl) ?_; simp only [Act.put, List.getElem_toArray, List.getElem_cons_zero, List.getElem_cons_succ, List.setIfInBounds_toArray, List.set_cons_zero, List.set_cons_succ]) | (refine WL.val (v := ?_) (by rfl) ?_ ?_; rotate_left; (focus (go_simp; (try with_reducible rfl))); simp only [Act.put, List.getElem_toArray, List.getElem_cons_zero, List.getElem_cons_succ, List.setIfInBounds_toArray, List.set_cons_zero, List.set_cons_succ]))
  refine WL.any (by rfl) (fun K hK => ?_)
  go_simp
  go_at_call 78
  refine (node_any frm _).mono ?_
  rintro e w2 ⟨rfl, rfl⟩; rw [f2]
  refine hK.out _ _ ?_
  clear hK K
  try simp only [Act.put, List.getElem_toArray, List.getElem_cons_zero, List.getElem_cons_succ, List.setIfInBounds_toArray, List.set_cons_zero, List.set_cons_succ]
  iterate 5 (first | (refine WL.skip (by rfl) ?_; simp only [Act.put, List.getElem_toArray, List.getElem_cons_zero, List.getElem_cons_succ, List.setIfInBounds_toArray, List.set_cons_zero, List.set_cons_succ]) | (refine WL.val (v := ?_) (by rfl) ?_ ?_; rotate_left; (focus (go_simp; (try with_reducible rfl))); simp only [Act.put, List.getElem_toArray, List.getElem_cons_zero, List.getElem_cons_succ, List.setIfInBounds_toArray, List.set_cons_zero, List.set_cons_succ]))
  refine WL.any (by rfl) (fun K hK => ?_)
  go_simp
  go_at_call 78
  refine (node_any dst _).mono ?_
  rintro e w3 ⟨rfl, rfl⟩; rw [f3]
  refine hK.out _ _ ?_
  clear hK K
  try simp only [Act.put, List.getElem_toArray, List.getElem_cons_zero, List.getElem_cons_succ, List.setIfInBounds_toArray, List.set_cons_zero, List.set_cons_succ]
  iterate 10 (first | (refine WL.skip (by rfl) ?_; simp only [Act.put, List.getElem_toArray, List.getElem_cons_zero, List.getElem_cons_succ, List.setIfInBounds_toArray, List.set_cons_zero, List.set_cons_succ]) | (refine WL.val (v := ?_) (by rfl) ?_ ?_; rotate_left; (focus (go_simp; (try with_reducible rfl))); simp only [Act.put, List.getElem_toArray, List.getElem_cons_zero, List.getElem_cons_succ, List.setIfInBounds_toArray, List.set_cons_zero, List.set_cons_succ]))
  refine WL.nil ?_
  have Hiff2 : Hid (c = true ↔ (1 ≤ term ∧ term ≤ 1152921504606846976 ∧ commit ≤ 576460752303423488 ∧ round ≤ 1152921504606846976) ∧ en = true ∧ (kind ≠ 7 ∨ (ss = true ∧ st ≤ term)) ∧ sp = true) := by
    show _ ↔ _
    rw [Hiff.out]
    constructor
    · rintro ⟨_, h⟩; exact h
    · intro h; exact ⟨⟨by omega, by omega, by omega, by omega, by omega, by omega, q4⟩, h⟩
  clear Hiff f0 f1 f2 f3 f4 q0 q1 q2 q3 q4
  go_upto_region 3 with fail
  by_cases q0 : term < 1
  · have Hf : Hid (c = false) := by show _ = _; rw [Bool.eq_false_iff, ne_eq, Hiff2.out]; omega
    clear Hsp Hsn Hen
    have f0 : (term < 1) = True := eq_true (by omega)
    refine WL.start ?_
    iterate 24 (first | (refine WL.skip (by rfl) ?_; simp only [Act.put, List.getElem_toArray, List.getElem_cons_zero, List.getElem_cons_succ, List.setIfInBounds_toArray, List.set_cons_zero, List.set_cons_succ]) | (refine WL.val (v := ?_) (by rfl) ?_ ?_; rotate_left; (focus (go_simp; (try with_reducible rfl))); simp only [Act.put, List.getElem_toArray, List.getElem_cons_zero, List.getElem_cons_succ, List.setIfInBounds_toArray, List.set_cons_zero, List.set_cons_succ]))
    refine WL.nil ?_
    go_wp2_with fail
    go_ret
    exact ⟨by rw [Hf.out]; rfl, HB1.out⟩
  by_cases q1 : 1152921504606846976 < term
  · have Hf : Hid (c = false) := by show _ = _; rw [Bool.eq_false_iff, ne_eq, Hiff2.out]; omega
    clear Hsp Hsn Hen
    have f0 : (term < 1) = False := eq_false (by omega)
    have f1 : (1152921504606846976 < term) = True := eq_true (by omega)
    refine WL.start ?_
    iterate 24 (first | (refine WL.skip (by rfl) ?_; simp only [Act.put, List.getElem_toArray, List.getElem_cons_zero, List.getElem_cons_succ, List.setIfInBounds_toArray, List.set_cons_zero, List.set_cons_succ]) | (refine WL.val (v := ?_) (by rfl) ?_ ?_; rotate_left; (focus (go_simp; (try with_reducible rfl))); simp only [Act.put, List.getElem_toArray, List.getElem_cons_zero, List.getElem_cons_succ, List.setIfInBounds_toArray, List.set_cons_zero, List.set_cons_succ]))
    refine WL.nil ?_
    go_wp2_with fail
    go_ret
    exact ⟨by rw [Hf.out]; rfl, HB1.out⟩
  by_cases q2 : 576460752303423488 < commit
  · have Hf : Hid (c = false) := by show _ = _; rw [Bool.eq_false_iff, ne_eq, Hiff2.out]; omega
    clear Hsp Hsn Hen
    have f0 : (term < 1) = False := eq_false (by omega)
    have f1 : (1152921504606846976 < term) = False := eq_false (by omega)
    have f2 : (576460752303423488 < commit) = True := eq_true (by omega)
    refine WL.start ?_
    iterate 24 (first | (refine WL.skip (by rfl) ?_; simp only [Act.put, List.getElem_toArray, List.getElem_cons_zero, List.getElem_cons_succ, List.setIfInBounds_toArray, List.set_cons_zero, List.set_cons_succ]) | (refine WL.val (v := ?_) (by rfl) ?_ ?_; rotate_left; (focus (go_simp; (try with_reducible rfl))); simp only [Act.put, List.getElem_toArray, List.getElem_cons_zero, List.getElem_cons_succ, List.setIfInBounds_toArray, List.set_cons_zero, List.set_cons_succ]))
    refine WL.nil ?_
    go_wp2_with fail
    go_ret
    exact ⟨by rw [Hf.out]; rfl, HB1.out⟩
  by_cases q3 : 1152921504606846976 < round
  · have Hf : Hid (c = false) := by show _ = _; rw [Bool.eq_false_iff, ne_eq, Hiff2.out]; omega
    clear Hsp Hsn Hen
    have f0 : (term < 1) = False := eq_false (by omega)
    have f1 : (1152921504606846976 < term) = False := eq_false (by omega)
    have f2 : (576460752303423488 < commit) = False := eq_false (by omega)
    have f3 : (1152921504606846976 < round) = True := eq_true (by omega)
    refine WL.start ?_
    iterate 24 (first | (refine WL.skip (by rfl) ?_; simp only [Act.put, List.getElem_toArray, List.getElem_cons_zero, List.getElem_cons_succ, List.setIfInBounds_toArray, List.set_cons_zero, List.set_cons_succ]) | (refine WL.val (v := ?_) (by rfl) ?_ ?_; rotate_left; (focus (go_simp; (try with_reducible rfl))); simp only [Act.put, List.getElem_toArray, List.getElem_cons_zero, List.getElem_cons_succ, List.setIfInBounds_toArray, List.set_cons_zero, List.set_cons_succ]))
    refine WL.nil ?_
    go_wp2_with fail
    go_ret
    exact ⟨by rw [Hf.out]; rfl, HB1.out⟩
  have f0 : (term < 1) = False := eq_false (by omega)
  have f1 : (1152921504606846976 < term) = False := eq_false (by omega)
  have f2 : (576460752303423488 < commit) = False := eq_false (by omega)
  have f3 : (1152921504606846976 < round) = False := eq_false (by omega)
  refine WL.start ?_
  iterate 20 (first | (refine WL.skip (by rfl) ?_; simp only [Act.put, List.getElem_toArray, List.getElem_cons_zero, List.getElem_cons_succ, List.setIfInBounds_toArray, List.set_cons_zero, List.set_cons_succ]) | (refine WL.val (v := ?_) (by rfl) ?_ ?_; rotate_left; (focus (go_simp; (try with_reducible rfl))); simp only [Act.put, List.getElem_toArray, List.getElem_cons_zero, List.getElem_cons_succ, List.setIfInBounds_toArray, List.set_cons_zero, List.set_cons_succ]))
  refine WL.any (by rfl) (fun K hK => ?_)
  go_simp
  go_at_call 79
  refine (Hen.out _ hat1).mono ?_
  rintro e w4 ⟨rfl, hb4⟩
  refine hK.out _ _ ?_
  clear hK K
  try simp only [Act.put, List.getElem_toArray, List.getElem_cons_zero, List.getElem_cons_succ, List.setIfInBounds_toArray, List.set_cons_zero, List.set_cons_succ]
  have hB4 := below_on HB1.out hb4 (Nat.le_refl _)
  have k4 := (hb4.block _ z1).trans k1
  have hat4 := h.below hB4
  cases en
  · have Hf : Hid (c = false) := by show _ = _; rw [Bool.eq_false_iff, ne_eq, Hiff2.out]; simp
    iterate 3 (first | (refine WL.skip (by rfl) ?_; simp only [Act.put, List.getElem_toArray, List.getElem_cons_zero, List.getElem_cons_succ, List.setIfInBounds_toArray, List.set_cons_zero, List.set_cons_succ]) | (refine WL.val (v := ?_) (by rfl) ?_ ?_; rotate_left; (focus (go_simp; (try with_reducible rfl))); simp only [Act.put, List.getElem_toArray, List.getElem_cons_zero, List.getElem_cons_succ, List.setIfInBounds_toArray, List.set_cons_zero, List.set_cons_succ]))
    refine WL.nil ?_
    go_wp2_with fail
    go_ret
    exact ⟨by rw [Hf.out]; rfl, hB4⟩
  iterate 3 (first | (refine WL.skip (by rfl) ?_; simp only [Act.put, List.getElem_toArray, List.getElem_cons_zero, List.getElem_cons_succ, List.setIfInBounds_toArray, List.set_cons_zero, List.set_cons_succ]) | (refine WL.val (v := ?_) (by rfl) ?_ ?_; rotate_left; (focus (go_simp; (try with_reducible rfl))); simp only [Act.put, List.getElem_toArray, List.getElem_cons_zero, List.getElem_cons_succ, List.setIfInBounds_toArray, List.set_cons_zero, List.set_cons_succ]))
  refine WL.nil ?_
  have Hiff3 : Hid (c = true ↔ (kind ≠ 7 ∨ (ss = true ∧ st ≤ term)) ∧ sp = true) := by
    show _ ↔ _
    rw [Hiff2.out]
    constructor
    · rintro ⟨_, _, h⟩; exact h
    · intro h; exact ⟨⟨by omega, by omega, by omega, by omega⟩, rfl, h⟩
  clear Hiff2 f0 f1 f2 f3 q0 q1 q2 q3 p0 p1 p2 p3 p4 p5 p6 p7 p8 p9 p10 p11 p12 p13 p14
  go_upto_region 5 with fail
  have p0 : w4.cell? ⟨w.heap.size, 0, none⟩ = some (.int .i64 kind) := block_cell (k4) 0
  have p1 : w4.cell? ⟨w.heap.size, 1, none⟩ = some (.int .i64 frm) := block_cell (k4) 1
  have p2 : w4.cell? ⟨w.heap.size, 2, none⟩ = some (.int .i64 dst) := block_cell (k4) 2
  have p3 : w4.cell? ⟨w.heap.size, 3, none⟩ = some (.int .u64 term) := block_cell (k4) 3
  have p4 : w4.cell? ⟨w.heap.size, 4, none⟩ = some (.int .u64 index) := block_cell (k4) 4
  have p5 : w4.cell? ⟨w.heap.size, 5, none⟩ = some (.int .u64 logTerm) := block_cell (k4) 5
  have p6 : w4.cell? ⟨w.heap.size, 6, none⟩ = some (.int .u64 commit) := block_cell (k4) 6
  have p7 : w4.cell? ⟨w.heap.size, 7, none⟩ = some (.int .u64 round) := block_cell (k4) 7
  have p8 : w4.cell? ⟨w.heap.size, 8, none⟩ = some (.bool ok) := block_cell (k4) 8
  have p9 : w4.cell? ⟨w.heap.size, 9, none⟩ = some (.bool force) := block_cell (k4) 9
  have p10 : w4.cell? ⟨w.heap.size, 10, none⟩ = some (.slice eo el.length ec) := block_cell (k4) 10
  have p11 : w4.cell? ⟨w.heap.size, 11, none⟩ = some (.int .u64 si) := block_cell (k4) 11
  have p12 : w4.cell? ⟨w.heap.size, 12, none⟩ = some (.int .u64 st) := block_cell (k4) 12
  have p13 : w4.cell? ⟨w.heap.size, 13, none⟩ = some (.slice mo ml.length mc) := block_cell (k4) 13
  have p14 : w4.cell? ⟨w.heap.size, 14, none⟩ = some (.slice ao d.length ac) := block_cell (k4) 14
  by_cases q0 : kind = 7
  · have f0 : (kind == 7) = true := by simpa using q0
    have Q0 := Lib.hid q0
    clear q0
    refine WL.start ?_
    iterate 6 (first | (refine WL.skip (by rfl) ?_; simp only [Act.put, List.getElem_toArray, List.getElem_cons_zero, List.getElem_cons_succ, List.setIfInBounds_toArray, List.set_cons_zero, List.set_cons_succ]) | (refine WL.val (v := ?_) (by rfl) ?_ ?_; rotate_left; (focus (go_simp; (try with_reducible rfl))); simp only [Act.put, List.getElem_toArray, List.getElem_cons_zero, List.getElem_cons_succ, List.setIfInBounds_toArray, List.set_cons_zero, List.set_cons_succ]))
    refine WL.any (by rfl) (fun K hK => ?_)
    go_simp
    go_at_call 80
    refine (Hsn.out _ hat4.mem).mono ?_
    rintro e w5 ⟨rfl, hb5⟩
    refine hK.out _ _ ?_
    clear hK K
    try simp only [Act.put, List.getElem_toArray, List.getElem_cons_zero, List.getElem_cons_succ, List.setIfInBounds_toArray, List.set_cons_zero, List.set_cons_succ]
    have hB5 := below_on hB4 hb5 (Nat.le_refl _)
    have k5 := (hb5.block _ (Array.getElem?_eq_some_iff.1 k4).1).trans k4
    have hat5 := h.below hB5
    clear p0 p1 p2 p3 p4 p5 p6 p7 p8 p9 p10 p11 p12 p13 p14
    have p0 : w5.cell? ⟨w.heap.size, 0, none⟩ = some (.int .i64 kind) := block_cell (k5) 0
    have p1 : w5.cell? ⟨w.heap.size, 1, none⟩ = some (.int .i64 frm) := block_cell (k5) 1
    have p2 : w5.cell? ⟨w.heap.size, 2, none⟩ = some (.int .i64 dst) := block_cell (k5) 2
    have p3 : w5.cell? ⟨w.heap.size, 3, none⟩ = some (.int .u64 term) := block_cell (k5) 3
    have p4 : w5.cell? ⟨w.heap.size, 4, none⟩ = some (.int .u64 index) := block_cell (k5) 4
    have p5 : w5.cell? ⟨w.heap.size, 5, none⟩ = some (.int .u64 logTerm) := block_cell (k5) 5
    have p6 : w5.cell? ⟨w.heap.size, 6, none⟩ = some (.int .u64 commit) := block_cell (k5) 6
    have p7 : w5.cell? ⟨w.heap.size, 7, none⟩ = some (.int .u64 round) := block_cell (k5) 7
    have p8 : w5.cell? ⟨w.heap.size, 8, none⟩ = some (.bool ok) := block_cell (k5) 8
    have p9 : w5.cell? ⟨w.heap.size, 9, none⟩ = some (.bool force) := block_cell (k5) 9
    have p10 : w5.cell? ⟨w.heap.size, 10, none⟩ = some (.slice eo el.length ec) := block_cell (k5) 10
    have p11 : w5.cell? ⟨w.heap.size, 11, none⟩ = some (.int .u64 si) := block_cell (k5) 11
    have p12 : w5.cell? ⟨w.heap.size, 12, none⟩ = some (.int .u64 st) := block_cell (k5) 12
    have p13 : w5.cell? ⟨w.heap.size, 13, none⟩ = some (.slice mo ml.length mc) := block_cell (k5) 13
    have p14 : w5.cell? ⟨w.heap.size, 14, none⟩ = some (.slice ao d.length ac) := block_cell (k5) 14
    cases ss
    · have Hf : Hid (c = false) := by show _ = _; rw [Bool.eq_false_iff, ne_eq, Hiff3.out]; simp [Q0.out]
      iterate 11 (first | (refine WL.skip (by rfl) ?_; simp only [Act.put, List.getElem_toArray, List.getElem_cons_zero, List.getElem_cons_succ, List.setIfInBounds_toArray, List.set_cons_zero, List.set_cons_succ]) | (refine WL.val (v := ?_) (by rfl) ?_ ?_; rotate_left; (focus (go_simp; (try with_reducible rfl))); simp only [Act.put, List.getElem_toArray, List.getElem_cons_zero, List.getElem_cons_succ, List.setIfInBounds_toArray, List.set_cons_zero, List.set_cons_succ]))
      refine WL.nil ?_
      go_wp2_with fail
      go_ret
      exact ⟨by rw [Hf.out]; rfl, hB5⟩
    · by_cases q1 : term < st
      · have Hf : Hid (c = false) := by show _ = _; rw [Bool.eq_false_iff, ne_eq, Hiff3.out]; simp [Q0.out]; omega
        have f1 : (term < st) = True := eq_true q1
        iterate 11 (first | (refine WL.skip (by rfl) ?_; simp only [Act.put, List.getElem_toArray, List.getElem_cons_zero, List.getElem_cons_succ, List.setIfInBounds_toArray, List.set_cons_zero, List.set_cons_succ]) | (refine WL.val (v := ?_) (by rfl) ?_ ?_; rotate_left; (focus (go_simp; (try with_reducible rfl))); simp only [Act.put, List.getElem_toArray, List.getElem_cons_zero, List.getElem_cons_succ, List.setIfInBounds_toArray, List.set_cons_zero, List.set_cons_succ]))
        refine WL.nil ?_
        go_wp2_with fail
        go_ret
        exact ⟨by rw [Hf.out]; rfl, hB5⟩
      · have f1 : (term < st) = False := eq_false q1
        have Hfin : Hid (c = sp) := by show _ = _; rw [Bool.eq_iff_iff, Hiff3.out]; exact ⟨fun h => h.2, fun h => ⟨.inr ⟨rfl, by omega⟩, h⟩⟩
        iterate 11 (first | (refine WL.skip (by rfl) ?_; simp only [Act.put, List.getElem_toArray, List.getElem_cons_zero, List.getElem_cons_succ, List.setIfInBounds_toArray, List.set_cons_zero, List.set_cons_succ]) | (refine WL.val (v := ?_) (by rfl) ?_ ?_; rotate_left; (focus (go_simp; (try with_reducible rfl))); simp only [Act.put, List.getElem_toArray, List.getElem_cons_zero, List.getElem_cons_succ, List.setIfInBounds_toArray, List.set_cons_zero, List.set_cons_succ]))
        refine WL.nil ?_
        go_upto_region 7 with fail
        refine WL.start ?_
        iterate 1 (first | (refine WL.skip (by rfl) ?_; simp only [Act.put, List.getElem_toArray, List.getElem_cons_zero, List.getElem_cons_succ, List.setIfInBounds_toArray, List.set_cons_zero, List.set_cons_succ]) | (refine WL.val (v := ?_) (by rfl) ?_ ?_; rotate_left; (focus (go_simp; (try with_reducible rfl))); simp only [Act.put, List.getElem_toArray, List.getElem_cons_zero, List.getElem_cons_succ, List.setIfInBounds_toArray, List.set_cons_zero, List.set_cons_succ]))
        refine WL.any (by rfl) (fun K hK => ?_)
        go_simp
        go_at_call 81
        refine (Hsp.out _ hat5).mono ?_
        rintro e w6 ⟨rfl, hb6⟩
        refine hK.out _ _ ?_
        clear hK K
        try simp only [Act.put, List.getElem_toArray, List.getElem_cons_zero, List.getElem_cons_succ, List.setIfInBounds_toArray, List.set_cons_zero, List.set_cons_succ]
        iterate 1 (first | (refine WL.skip (by rfl) ?_; simp only [Act.put, List.getElem_toArray, List.getElem_cons_zero, List.getElem_cons_succ, List.setIfInBounds_toArray, List.set_cons_zero, List.set_cons_succ]) | (refine WL.val (v := ?_) (by rfl) ?_ ?_; rotate_left; (focus (go_simp; (try with_reducible rfl))); simp only [Act.put, List.getElem_toArray, List.getElem_cons_zero, List.getElem_cons_succ, List.setIfInBounds_toArray, List.set_cons_zero, List.set_cons_succ]))
        refine WL.nil ?_
        go_wp2_with fail
        go_ret
        exact ⟨by rw [Hfin.out]; rfl, below_on hB5 hb6 (Nat.le_refl _)⟩
  · have f0 : (kind == 7) = false := by simpa using q0
    have Hfin : Hid (c = sp) := by show _ = _; rw [Bool.eq_iff_iff, Hiff3.out]; exact ⟨fun h => h.2, fun h => ⟨.inl q0, h⟩⟩
    refine WL.start ?_
    iterate 18 (first | (refine WL.skip (by rfl) ?_; simp only [Act.put, List.getElem_toArray, List.getElem_cons_zero, List.getElem_cons_succ, List.setIfInBounds_toArray, List.set_cons_zero, List.set_cons_succ]) | (refine WL.val (v := ?_) (by rfl) ?_ ?_; rotate_left; (focus (go_simp; (try with_reducible rfl))); simp only [Act.put, List.getElem_toArray, List.getElem_cons_zero, List.getElem_cons_succ, List.setIfInBounds_toArray, List.set_cons_zero, List.set_cons_succ]))
    refine WL.nil ?_
    go_upto_region 7 with fail
    refine WL.start ?_
    iterate 1 (first | (refine WL.skip (by rfl) ?_; simp only [Act.put, List.getElem_toArray, List.getElem_cons_zero, List.getElem_cons_succ, List.setIfInBounds_toArray, List.set_cons_zero, List.set_cons_succ]) | (refine WL.val (v := ?_) (by rfl) ?_ ?_; rotate_left; (focus (go_simp; (try with_reducible rfl))); simp only [Act.put, List.getElem_toArray, List.getElem_cons_zero, List.getElem_cons_succ, List.setIfInBounds_toArray, List.set_cons_zero, List.set_cons_succ]))
    refine WL.any (by rfl) (fun K hK => ?_)
    go_simp
    go_at_call 81
    refine (Hsp.out _ hat4).mono ?_
    rintro e w6 ⟨rfl, hb6⟩
    refine hK.out _ _ ?_
    clear hK K
    try simp only [Act.put, List.getElem_toArray, List.getElem_cons_zero, List.getElem_cons_succ, List.setIfInBounds_toArray, List.set_cons_zero, List.set_cons_succ]
    iterate 1 (first | (refine WL.skip (by rfl) ?_; simp only [Act.put, List.getElem_toArray, List.getElem_cons_zero, List.getElem_cons_succ, List.setIfInBounds_toArray, List.set_cons_zero, List.set_cons_succ]) | (refine WL.val (v := ?_) (by rfl) ?_ ?_; rotate_left; (focus (go_simp; (try with_reducible rfl))); simp only [Act.put, List.getElem_toArray, List.getElem_cons_zero, List.getElem_cons_succ, List.setIfInBounds_toArray, List.set_cons_zero, List.set_cons_succ]))
    refine WL.nil ?_
    go_wp2_with fail
    go_ret
    exact ⟨by rw [Hfin.out]; rfl, below_on hB4 hb6 (Nat.le_refl _)⟩
end Go.Proofs.Ytbmkgcoolofmpaa
