/- Lemmas for WireSays (Mpz Mq Me). No statement of the seat is proved here. -/
import Derived.Test.YtlphpjgiaflfkaaWs6
import Derived.Test.YtlphpjgiaflfkaaWs14
import Derived.Test.YtlphpjgiaflfkaaWs15
import Derived.Test.YtlphpjgiaflfkaaWs16
namespace Go.Proofs.Ytlphpjgiaflfkaa
set_option linter.unusedVariables false
set_option linter.unusedSimpArgs false
set_option linter.unusedSectionVars false
open Go Go.RowKit Go.Shelf
/-- a message with the fields alone that its kind has, and where its rows lie -/
def plainP (x : Mp) : Mp :=
  ⟨x.kind, x.frm, x.dst, x.term, if x.kind = 1 ∨ x.kind = 3 ∨ x.kind = 5 ∨ x.kind = 6 then x.index else 0, if x.kind = 1 ∨ x.kind = 3 ∨ x.kind = 5 then x.logTerm else 0,
    if x.kind = 5 then x.commit else 0, if x.kind = 5 ∨ x.kind = 6 ∨ x.kind = 7 then x.round else 0, if x.kind = 2 ∨ x.kind = 4 ∨ x.kind = 6 then x.ok else false, if x.kind = 3 then x.force else false,
    if x.kind = 5 then x.eo else none, if x.kind = 5 then x.ec else 0, if x.kind = 5 then x.el else [],
    if x.kind = 7 then x.si else 0, if x.kind = 7 then x.st else 0, if x.kind = 7 then x.mo else none, if x.kind = 7 then x.mc else 0, if x.kind = 7 then x.ml else [], if x.kind = 7 then x.ao else none, if x.kind = 7 then x.ac else 0, if x.kind = 7 then x.d else []⟩
theorem plainP_v (x : Mp) : (plainP x).v = plainM x.v := by
  unfold plainP plainM Mp.v
  by_cases h5 : x.kind = 5
  · by_cases h7 : x.kind = 7
    · omega
    · simp [h5]
  · by_cases h7 : x.kind = 7
    · simp [h7]
    · simp [h5, h7]
theorem Ens.nil (W : World) : Ens W none 0 [] := ⟨⟨by simp, by simp, by decide, fun _ => rfl, fun j u hu => by simp at hu⟩, fun x hx => by simp at hx⟩
theorem plainP_at {W : World} {x : Mp} (h : MpAt W x) : MpAt W (plainP x) := by
  obtain ⟨h1, h2, h3⟩ := h
  refine ⟨?_, ?_, ?_⟩
  · by_cases k : x.kind = 5
    · simpa [plainP, k] using h1
    · simpa [plainP, k] using Ens.nil W
  · by_cases k : x.kind = 7
    · simpa [plainP, k] using h2
    · simpa [plainP, k] using Iz.nil W .i64
  · by_cases k : x.kind = 7
    · simpa [plainP, k] using h3
    · simpa [plainP, k] using Bs.nil W
theorem plainP_el (x : Mp) : (plainP x).el.length ≤ x.el.length := by
  by_cases k : x.kind = 5 <;> simp [plainP, k]
theorem plainP_ml (x : Mp) : (plainP x).ml.length ≤ x.ml.length := by
  by_cases k : x.kind = 7 <;> simp [plainP, k]
theorem plain_any (x : Mp) (w : World) : Calls Try.prog 56 #[.agg (mpA x)] w fun e w' => e = .returned (.agg (mpA (plainP x))) ∧ Below w.heap.size w w' := by
  obtain ⟨kind, frm, dst, term, index, logTerm, commit, round, ok, force, eo, ec, el, si, st, mo, mc, ml, ao, ac, d⟩ := x
  by_cases k1 : kind = 1
  · subst k1; exact plain_1 frm dst term index logTerm commit round ok force eo ec el si st mo mc ml ao ac d w
  by_cases k2 : kind = 2
  · subst k2; exact plain_2 frm dst term index logTerm commit round ok force eo ec el si st mo mc ml ao ac d w
  by_cases k3 : kind = 3
  · subst k3; exact plain_3 frm dst term index logTerm commit round ok force eo ec el si st mo mc ml ao ac d w
  by_cases k4 : kind = 4
  · subst k4; exact plain_4 frm dst term index logTerm commit round ok force eo ec el si st mo mc ml ao ac d w
  by_cases k5 : kind = 5
  · subst k5; exact plain_5 frm dst term index logTerm commit round ok force eo ec el si st mo mc ml ao ac d w
  by_cases k6 : kind = 6
  · subst k6; exact plain_6 frm dst term index logTerm commit round ok force eo ec el si st mo mc ml ao ac d w
  by_cases k7 : kind = 7
  · subst k7; exact plain_7 frm dst term index logTerm commit round ok force eo ec el si st mo mc ml ao ac d w
  have h := plain_o kind frm dst term index logTerm commit round ok force eo ec el si st mo mc ml ao ac d w k1 k2 k3 k4 k5 k6 k7
  simpa [plainP, mpA, k1, k2, k3, k4, k5, k6, k7] using h
end Go.Proofs.Ytlphpjgiaflfkaa
namespace Go.Proofs.Ytlphpjgiaflfkaa
set_option linter.unusedVariables false
set_option linter.unusedSimpArgs false
set_option linter.unusedSectionVars false
open Go Go.RowKit Go.Shelf
set_option maxRecDepth 100000 in
set_option maxHeartbeats 16000000 in
theorem refMsgSame_any (x y : Mp) (w : World) (h1 : MpAt w x) (h2 : MpAt w y) (hx1 : x.el.length ≤ 1000000) (hx2 : x.ml.length ≤ 1000000) (hy1 : y.el.length ≤ 1000000) (hy2 : y.ml.length ≤ 1000000) :
    Calls Try.prog 28 #[.agg (mpA x), .agg (mpA y)] w fun e w' => e = .returned (.bool (decide (x.v = y.v))) ∧ Below w.heap.size w w' := by
  obtain ⟨c, hc⟩ : ∃ c, c = decide (x.v = y.v) := ⟨_, rfl⟩
  have hiff : c = true ↔ (x.kind = y.kind ∧ x.frm = y.frm ∧ x.dst = y.dst ∧ x.term = y.term ∧ x.index = y.index ∧ x.logTerm = y.logTerm ∧ x.commit = y.commit ∧ x.round = y.round ∧ x.ok = y.ok ∧ x.force = y.force ∧ x.el.map Ep.e = y.el.map Ep.e ∧ (⟨x.si, x.st, x.ml, x.d⟩ : Sn) = ⟨y.si, y.st, y.ml, y.d⟩) := by
    rw [hc]; simp only [Mp.v, decide_eq_true_eq, Ms.mk.injEq]
  rw [← hc]
  have Hc := Lib.hid hiff
  clear hc hiff
  have Hes := Lib.hid (fun W hW1 hW2 => segRefSame_any x.eo y.eo x.ec y.ec x.el y.el W hW1 hW2 hx1 hy1)
  have Hsn := Lib.hid (fun W a1 a2 a3 a4 => refSnapSame_any x.si x.st y.si y.st x.mo x.ao y.mo y.ao x.mc x.ac y.mc y.ac x.ml y.ml x.d y.d W a1 a2 a3 a4 hx2 hy2)
  obtain ⟨rs, hrs⟩ : ∃ rs, rs = decide ((⟨x.si, x.st, x.ml, x.d⟩ : Sn) = ⟨y.si, y.st, y.ml, y.d⟩) := ⟨_, rfl⟩
  rw [← hrs] at Hsn
  have HR := Lib.hid hrs
  clear hrs
  obtain ⟨kind1, frm1, dst1, term1, index1, logTerm1, commit1, round1, ok1, force1, eo1, ec1, el1, si1, st1, mo1, mc1, ml1, ao1, ac1, d1⟩ := x
  obtain ⟨kind2, frm2, dst2, term2, index2, logTerm2, commit2, round2, ok2, force2, eo2, ec2, el2, si2, st2, mo2, mc2, ml2, ao2, ac2, d2⟩ := y
  dsimp only [mpA, Mp.v] at Hc Hes Hsn HR h1 h2 hx1 hx2 hy1 hy2 ⊢
  obtain ⟨W1, hW1⟩ : ∃ W1, W1 = w.alloc (.cells #[.int .i64 kind1, .int .i64 frm1, .int .i64 dst1, .int .u64 term1, .int .u64 index1, .int .u64 logTerm1, .int .u64 commit1, .int .u64 round1, .bool ok1, .bool force1, .slice eo1 el1.length ec1, .int .u64 si1, .int .u64 st1, .slice mo1 ml1.length mc1, .slice ao1 d1.length ac1] 52) := ⟨_, rfl⟩
  have hB1 : Below w.heap.size w W1 := by rw [hW1]; exact below_new _ _
  have k1 : W1.heap[w.heap.size]? = some (.cells #[.int .i64 kind1, .int .i64 frm1, .int .i64 dst1, .int .u64 term1, .int .u64 index1, .int .u64 logTerm1, .int .u64 commit1, .int .u64 round1, .bool ok1, .bool force1, .slice eo1 el1.length ec1, .int .u64 si1, .int .u64 st1, .slice mo1 ml1.length mc1, .slice ao1 d1.length ac1] 52) := by rw [hW1]; exact heap_alloc_new _ _
  have z1 : W1.heap.size = w.heap.size + 1 := by rw [hW1]; exact World.size_alloc _ _
  obtain ⟨W2, hW2⟩ : ∃ W2, W2 = W1.alloc (.cells #[.int .i64 kind2, .int .i64 frm2, .int .i64 dst2, .int .u64 term2, .int .u64 index2, .int .u64 logTerm2, .int .u64 commit2, .int .u64 round2, .bool ok2, .bool force2, .slice eo2 el2.length ec2, .int .u64 si2, .int .u64 st2, .slice mo2 ml2.length mc2, .slice ao2 d2.length ac2] 52) := ⟨_, rfl⟩
  have hB2 : Below W1.heap.size W1 W2 := by rw [hW2]; exact below_new _ _
  have m2 : W2.heap[w.heap.size + 1]? = some (.cells #[.int .i64 kind2, .int .i64 frm2, .int .i64 dst2, .int .u64 term2, .int .u64 index2, .int .u64 logTerm2, .int .u64 commit2, .int .u64 round2, .bool ok2, .bool force2, .slice eo2 el2.length ec2, .int .u64 si2, .int .u64 st2, .slice mo2 ml2.length mc2, .slice ao2 d2.length ac2] 52) := by rw [hW2, ← z1]; exact heap_alloc_new _ _
  have k2 := (hB2.block w.heap.size (by omega)).trans k1
  have hBw2 := below_on hB1 hB2 (by omega)
  have g1 := h1.below hBw2
  have g2 := h2.below hBw2
  have HB := Lib.hid hBw2
  have K2 := Lib.hid k2
  have M2 := Lib.hid m2
  clear k1 z1 hB1 hB2 hBw2
  go_enter Try.func28, Try.ntmps28
  go_upto_region 1 with fail
  rw [← hW1, ← hW2]
  clear hW1 hW2 k2 m2
  have p0 : W2.cell? ⟨w.heap.size, 0, none⟩ = some (.int .i64 kind1) := block_cell K2.out 0
  have q0 : W2.cell? ⟨w.heap.size + 1, 0, none⟩ = some (.int .i64 kind2) := block_cell M2.out 0
  have p1 : W2.cell? ⟨w.heap.size, 1, none⟩ = some (.int .i64 frm1) := block_cell K2.out 1
  have q1 : W2.cell? ⟨w.heap.size + 1, 1, none⟩ = some (.int .i64 frm2) := block_cell M2.out 1
  have p2 : W2.cell? ⟨w.heap.size, 2, none⟩ = some (.int .i64 dst1) := block_cell K2.out 2
  have q2 : W2.cell? ⟨w.heap.size + 1, 2, none⟩ = some (.int .i64 dst2) := block_cell M2.out 2
  have p3 : W2.cell? ⟨w.heap.size, 3, none⟩ = some (.int .u64 term1) := block_cell K2.out 3
  have q3 : W2.cell? ⟨w.heap.size + 1, 3, none⟩ = some (.int .u64 term2) := block_cell M2.out 3
  have p4 : W2.cell? ⟨w.heap.size, 4, none⟩ = some (.int .u64 index1) := block_cell K2.out 4
  have q4 : W2.cell? ⟨w.heap.size + 1, 4, none⟩ = some (.int .u64 index2) := block_cell M2.out 4
  have p5 : W2.cell? ⟨w.heap.size, 5, none⟩ = some (.int .u64 logTerm1) := block_cell K2.out 5
  have q5 : W2.cell? ⟨w.heap.size + 1, 5, none⟩ = some (.int .u64 logTerm2) := block_cell M2.out 5
  have p6 : W2.cell? ⟨w.heap.size, 6, none⟩ = some (.int .u64 commit1) := block_cell K2.out 6
  have q6 : W2.cell? ⟨w.heap.size + 1, 6, none⟩ = some (.int .u64 commit2) := block_cell M2.out 6
  have p7 : W2.cell? ⟨w.heap.size, 7, none⟩ = some (.int .u64 round1) := block_cell K2.out 7
  have q7 : W2.cell? ⟨w.heap.size + 1, 7, none⟩ = some (.int .u64 round2) := block_cell M2.out 7
  have p8 : W2.cell? ⟨w.heap.size, 8, none⟩ = some (.bool ok1) := block_cell K2.out 8
  have q8 : W2.cell? ⟨w.heap.size + 1, 8, none⟩ = some (.bool ok2) := block_cell M2.out 8
  have p9 : W2.cell? ⟨w.heap.size, 9, none⟩ = some (.bool force1) := block_cell K2.out 9
  have q9 : W2.cell? ⟨w.heap.size + 1, 9, none⟩ = some (.bool force2) := block_cell M2.out 9
  have p10 : W2.cell? ⟨w.heap.size, 10, none⟩ = some (.slice eo1 el1.length ec1) := block_cell K2.out 10
  have q10 : W2.cell? ⟨w.heap.size + 1, 10, none⟩ = some (.slice eo2 el2.length ec2) := block_cell M2.out 10
  have p11 : W2.cell? ⟨w.heap.size, 11, none⟩ = some (.int .u64 si1) := block_cell K2.out 11
  have q11 : W2.cell? ⟨w.heap.size + 1, 11, none⟩ = some (.int .u64 si2) := block_cell M2.out 11
  have p12 : W2.cell? ⟨w.heap.size, 12, none⟩ = some (.int .u64 st1) := block_cell K2.out 12
  have q12 : W2.cell? ⟨w.heap.size + 1, 12, none⟩ = some (.int .u64 st2) := block_cell M2.out 12
  have p13 : W2.cell? ⟨w.heap.size, 13, none⟩ = some (.slice mo1 ml1.length mc1) := block_cell K2.out 13
  have q13 : W2.cell? ⟨w.heap.size + 1, 13, none⟩ = some (.slice mo2 ml2.length mc2) := block_cell M2.out 13
  have p14 : W2.cell? ⟨w.heap.size, 14, none⟩ = some (.slice ao1 d1.length ac1) := block_cell K2.out 14
  have q14 : W2.cell? ⟨w.heap.size + 1, 14, none⟩ = some (.slice ao2 d2.length ac2) := block_cell M2.out 14
  by_cases r0 : kind1 = kind2
  rotate_left
  · have Hf : Hid (c = false) := by show _ = _; rw [Bool.eq_false_iff, ne_eq, Hc.out]; simp [r0]
    have e0 : (kind1 == kind2) = false := by simpa using r0
    clear r0
    refine WL.start ?_
    iterate 83 (first | (refine WL.skip (by rfl) ?_; simp only [Act.put, List.getElem_toArray, List.getElem_cons_zero, List.getElem_cons_succ, List.setIfInBounds_toArray, List.set_cons_zero, List.set_cons_succ]) | (refine WL.val (v := ?_) (by rfl) ?_ ?_; rotate_left; (focus (go_simp; (try with_reducible rfl))); simp only [Act.put, List.getElem_toArray, List.getElem_cons_zero, List.getElem_cons_succ, List.setIfInBounds_toArray, List.set_cons_zero, List.set_cons_succ]))
    refine WL.nil ?_
    go_wp2_with fail
    go_ret
    exact ⟨by rw [Hf.out]; rfl, HB.out⟩
  have e0 : (kind1 == kind2) = true := by simp [r0]
  have R0 := Lib.hid r0
  clear r0
  by_cases r1 : frm1 = frm2
  rotate_left
  · have Hf : Hid (c = false) := by show _ = _; rw [Bool.eq_false_iff, ne_eq, Hc.out]; simp [r1]
    have e1 : (frm1 == frm2) = false := by simpa using r1
    clear r1
    refine WL.start ?_
    iterate 83 (first | (refine WL.skip (by rfl) ?_; simp only [Act.put, List.getElem_toArray, List.getElem_cons_zero, List.getElem_cons_succ, List.setIfInBounds_toArray, List.set_cons_zero, List.set_cons_succ]) | (refine WL.val (v := ?_) (by rfl) ?_ ?_; rotate_left; (focus (go_simp; (try with_reducible rfl))); simp only [Act.put, List.getElem_toArray, List.getElem_cons_zero, List.getElem_cons_succ, List.setIfInBounds_toArray, List.set_cons_zero, List.set_cons_succ]))
    refine WL.nil ?_
    go_wp2_with fail
    go_ret
    exact ⟨by rw [Hf.out]; rfl, HB.out⟩
  have e1 : (frm1 == frm2) = true := by simp [r1]
  have R1 := Lib.hid r1
  clear r1
  by_cases r2 : dst1 = dst2
  rotate_left
  · have Hf : Hid (c = false) := by show _ = _; rw [Bool.eq_false_iff, ne_eq, Hc.out]; simp [r2]
    have e2 : (dst1 == dst2) = false := by simpa using r2
    clear r2
    refine WL.start ?_
    iterate 83 (first | (refine WL.skip (by rfl) ?_; simp only [Act.put, List.getElem_toArray, List.getElem_cons_zero, List.getElem_cons_succ, List.setIfInBounds_toArray, List.set_cons_zero, List.set_cons_succ]) | (refine WL.val (v := ?_) (by rfl) ?_ ?_; rotate_left; (focus (go_simp; (try with_reducible rfl))); simp only [Act.put, List.getElem_toArray, List.getElem_cons_zero, List.getElem_cons_succ, List.setIfInBounds_toArray, List.set_cons_zero, List.set_cons_succ]))
    refine WL.nil ?_
    go_wp2_with fail
    go_ret
    exact ⟨by rw [Hf.out]; rfl, HB.out⟩
  have e2 : (dst1 == dst2) = true := by simp [r2]
  have R2 := Lib.hid r2
  clear r2
  by_cases r3 : term1 = term2
  rotate_left
  · have Hf : Hid (c = false) := by show _ = _; rw [Bool.eq_false_iff, ne_eq, Hc.out]; simp [r3]
    have e3 : (term1 == term2) = false := by simpa using r3
    clear r3
    refine WL.start ?_
    iterate 83 (first | (refine WL.skip (by rfl) ?_; simp only [Act.put, List.getElem_toArray, List.getElem_cons_zero, List.getElem_cons_succ, List.setIfInBounds_toArray, List.set_cons_zero, List.set_cons_succ]) | (refine WL.val (v := ?_) (by rfl) ?_ ?_; rotate_left; (focus (go_simp; (try with_reducible rfl))); simp only [Act.put, List.getElem_toArray, List.getElem_cons_zero, List.getElem_cons_succ, List.setIfInBounds_toArray, List.set_cons_zero, List.set_cons_succ]))
    refine WL.nil ?_
    go_wp2_with fail
    go_ret
    exact ⟨by rw [Hf.out]; rfl, HB.out⟩
  have e3 : (term1 == term2) = true := by simp [r3]
  have R3 := Lib.hid r3
  clear r3
  by_cases r4 : index1 = index2
  rotate_left
  · have Hf : Hid (c = false) := by show _ = _; rw [Bool.eq_false_iff, ne_eq, Hc.out]; simp [r4]
    have e4 : (index1 == index2) = false := by simpa using r4
    clear r4
    refine WL.start ?_
    iterate 83 (first | (refine WL.skip (by rfl) ?_; simp only [Act.put, List.getElem_toArray, List.getElem_cons_zero, List.getElem_cons_succ, List.setIfInBounds_toArray, List.set_cons_zero, List.set_cons_succ]) | (refine WL.val (v := ?_) (by rfl) ?_ ?_; rotate_left; (focus (go_simp; (try with_reducible rfl))); simp only [Act.put, List.getElem_toArray, List.getElem_cons_zero, List.getElem_cons_succ, List.setIfInBounds_toArray, List.set_cons_zero, List.set_cons_succ]))
    refine WL.nil ?_
    go_wp2_with fail
    go_ret
    exact ⟨by rw [Hf.out]; rfl, HB.out⟩
  have e4 : (index1 == index2) = true := by simp [r4]
  have R4 := Lib.hid r4
  clear r4
  by_cases r5 : logTerm1 = logTerm2
  rotate_left
  · have Hf : Hid (c = false) := by show _ = _; rw [Bool.eq_false_iff, ne_eq, Hc.out]; simp [r5]
    have e5 : (logTerm1 == logTerm2) = false := by simpa using r5
    clear r5
    refine WL.start ?_
    iterate 83 (first | (refine WL.skip (by rfl) ?_; simp only [Act.put, List.getElem_toArray, List.getElem_cons_zero, List.getElem_cons_succ, List.setIfInBounds_toArray, List.set_cons_zero, List.set_cons_succ]) | (refine WL.val (v := ?_) (by rfl) ?_ ?_; rotate_left; (focus (go_simp; (try with_reducible rfl))); simp only [Act.put, List.getElem_toArray, List.getElem_cons_zero, List.getElem_cons_succ, List.setIfInBounds_toArray, List.set_cons_zero, List.set_cons_succ]))
    refine WL.nil ?_
    go_wp2_with fail
    go_ret
    exact ⟨by rw [Hf.out]; rfl, HB.out⟩
  have e5 : (logTerm1 == logTerm2) = true := by simp [r5]
  have R5 := Lib.hid r5
  clear r5
  by_cases r6 : commit1 = commit2
  rotate_left
  · have Hf : Hid (c = false) := by show _ = _; rw [Bool.eq_false_iff, ne_eq, Hc.out]; simp [r6]
    have e6 : (commit1 == commit2) = false := by simpa using r6
    clear r6
    refine WL.start ?_
    iterate 83 (first | (refine WL.skip (by rfl) ?_; simp only [Act.put, List.getElem_toArray, List.getElem_cons_zero, List.getElem_cons_succ, List.setIfInBounds_toArray, List.set_cons_zero, List.set_cons_succ]) | (refine WL.val (v := ?_) (by rfl) ?_ ?_; rotate_left; (focus (go_simp; (try with_reducible rfl))); simp only [Act.put, List.getElem_toArray, List.getElem_cons_zero, List.getElem_cons_succ, List.setIfInBounds_toArray, List.set_cons_zero, List.set_cons_succ]))
    refine WL.nil ?_
    go_wp2_with fail
    go_ret
    exact ⟨by rw [Hf.out]; rfl, HB.out⟩
  have e6 : (commit1 == commit2) = true := by simp [r6]
  have R6 := Lib.hid r6
  clear r6
  by_cases r7 : round1 = round2
  rotate_left
  · have Hf : Hid (c = false) := by show _ = _; rw [Bool.eq_false_iff, ne_eq, Hc.out]; simp [r7]
    have e7 : (round1 == round2) = false := by simpa using r7
    clear r7
    refine WL.start ?_
    iterate 83 (first | (refine WL.skip (by rfl) ?_; simp only [Act.put, List.getElem_toArray, List.getElem_cons_zero, List.getElem_cons_succ, List.setIfInBounds_toArray, List.set_cons_zero, List.set_cons_succ]) | (refine WL.val (v := ?_) (by rfl) ?_ ?_; rotate_left; (focus (go_simp; (try with_reducible rfl))); simp only [Act.put, List.getElem_toArray, List.getElem_cons_zero, List.getElem_cons_succ, List.setIfInBounds_toArray, List.set_cons_zero, List.set_cons_succ]))
    refine WL.nil ?_
    go_wp2_with fail
    go_ret
    exact ⟨by rw [Hf.out]; rfl, HB.out⟩
  have e7 : (round1 == round2) = true := by simp [r7]
  have R7 := Lib.hid r7
  clear r7
  by_cases r8 : ok1 = ok2
  rotate_left
  · have Hf : Hid (c = false) := by show _ = _; rw [Bool.eq_false_iff, ne_eq, Hc.out]; simp [r8]
    have e8 : (ok1 == ok2) = false := by simpa using r8
    clear r8
    refine WL.start ?_
    iterate 83 (first | (refine WL.skip (by rfl) ?_; simp only [Act.put, List.getElem_toArray, List.getElem_cons_zero, List.getElem_cons_succ, List.setIfInBounds_toArray, List.set_cons_zero, List.set_cons_succ]) | (refine WL.val (v := ?_) (by rfl) ?_ ?_; rotate_left; (focus (go_simp; (try with_reducible rfl))); simp only [Act.put, List.getElem_toArray, List.getElem_cons_zero, List.getElem_cons_succ, List.setIfInBounds_toArray, List.set_cons_zero, List.set_cons_succ]))
    refine WL.nil ?_
    go_wp2_with fail
    go_ret
    exact ⟨by rw [Hf.out]; rfl, HB.out⟩
  have e8 : (ok1 == ok2) = true := by simp [r8]
  have R8 := Lib.hid r8
  clear r8
  by_cases r9 : force1 = force2
  rotate_left
  · have Hf : Hid (c = false) := by show _ = _; rw [Bool.eq_false_iff, ne_eq, Hc.out]; simp [r9]
    have e9 : (force1 == force2) = false := by simpa using r9
    clear r9
    refine WL.start ?_
    iterate 83 (first | (refine WL.skip (by rfl) ?_; simp only [Act.put, List.getElem_toArray, List.getElem_cons_zero, List.getElem_cons_succ, List.setIfInBounds_toArray, List.set_cons_zero, List.set_cons_succ]) | (refine WL.val (v := ?_) (by rfl) ?_ ?_; rotate_left; (focus (go_simp; (try with_reducible rfl))); simp only [Act.put, List.getElem_toArray, List.getElem_cons_zero, List.getElem_cons_succ, List.setIfInBounds_toArray, List.set_cons_zero, List.set_cons_succ]))
    refine WL.nil ?_
    go_wp2_with fail
    go_ret
    exact ⟨by rw [Hf.out]; rfl, HB.out⟩
  have e9 : (force1 == force2) = true := by simp [r9]
  have R9 := Lib.hid r9
  clear r9
  refine WL.start ?_
  iterate 73 (first | (refine WL.skip (by rfl) ?_; simp only [Act.put, List.getElem_toArray, List.getElem_cons_zero, List.getElem_cons_succ, List.setIfInBounds_toArray, List.set_cons_zero, List.set_cons_succ]) | (refine WL.val (v := ?_) (by rfl) ?_ ?_; rotate_left; (focus (go_simp; (try with_reducible rfl))); simp only [Act.put, List.getElem_toArray, List.getElem_cons_zero, List.getElem_cons_succ, List.setIfInBounds_toArray, List.set_cons_zero, List.set_cons_succ]))
  refine WL.any (by rfl) (fun K hK => ?_)
  go_simp
  go_at_call 14
  refine (Hes.out _ g1.ens g2.ens).mono ?_
  rintro e w3 ⟨rfl, hb3⟩
  refine hK.out _ _ ?_
  clear hK K
  try simp only [Act.put, List.getElem_toArray, List.getElem_cons_zero, List.getElem_cons_succ, List.setIfInBounds_toArray, List.set_cons_zero, List.set_cons_succ]
  have hB3 := below_on HB.out hb3 (Nat.le_refl _)
  by_cases r10 : el1.map Ep.e = el2.map Ep.e
  rotate_left
  · have Hf : Hid (c = false) := by show _ = _; rw [Bool.eq_false_iff, ne_eq, Hc.out]; simp [r10]
    rw [decide_eq_false r10]
    clear r10
    iterate 9 (first | (refine WL.skip (by rfl) ?_; simp only [Act.put, List.getElem_toArray, List.getElem_cons_zero, List.getElem_cons_succ, List.setIfInBounds_toArray, List.set_cons_zero, List.set_cons_succ]) | (refine WL.val (v := ?_) (by rfl) ?_ ?_; rotate_left; (focus (go_simp; (try with_reducible rfl))); simp only [Act.put, List.getElem_toArray, List.getElem_cons_zero, List.getElem_cons_succ, List.setIfInBounds_toArray, List.set_cons_zero, List.set_cons_succ]))
    refine WL.nil ?_
    go_wp2_with fail
    go_ret
    exact ⟨by rw [Hf.out]; rfl, hB3⟩
  rw [decide_eq_true r10]
  have R10 := Lib.hid r10
  clear r10
  have K3 := (hb3.block _ (Array.getElem?_eq_some_iff.1 K2.out).1).trans K2.out
  have M3 := (hb3.block _ (Array.getElem?_eq_some_iff.1 M2.out).1).trans M2.out
  have u11 : w3.cell? ⟨w.heap.size, 11, none⟩ = some (.int .u64 si1) := block_cell K3 11
  have v11 : w3.cell? ⟨w.heap.size + 1, 11, none⟩ = some (.int .u64 si2) := block_cell M3 11
  have u12 : w3.cell? ⟨w.heap.size, 12, none⟩ = some (.int .u64 st1) := block_cell K3 12
  have v12 : w3.cell? ⟨w.heap.size + 1, 12, none⟩ = some (.int .u64 st2) := block_cell M3 12
  have u13 : w3.cell? ⟨w.heap.size, 13, none⟩ = some (.slice mo1 ml1.length mc1) := block_cell K3 13
  have v13 : w3.cell? ⟨w.heap.size + 1, 13, none⟩ = some (.slice mo2 ml2.length mc2) := block_cell M3 13
  have u14 : w3.cell? ⟨w.heap.size, 14, none⟩ = some (.slice ao1 d1.length ac1) := block_cell K3 14
  have v14 : w3.cell? ⟨w.heap.size + 1, 14, none⟩ = some (.slice ao2 d2.length ac2) := block_cell M3 14
  iterate 6 (first | (refine WL.skip (by rfl) ?_; simp only [Act.put, List.getElem_toArray, List.getElem_cons_zero, List.getElem_cons_succ, List.setIfInBounds_toArray, List.set_cons_zero, List.set_cons_succ]) | (refine WL.val (v := ?_) (by rfl) ?_ ?_; rotate_left; (focus (go_simp; (try with_reducible rfl))); simp only [Act.put, List.getElem_toArray, List.getElem_cons_zero, List.getElem_cons_succ, List.setIfInBounds_toArray, List.set_cons_zero, List.set_cons_succ]))
  refine WL.any (by rfl) (fun K hK => ?_)
  go_simp
  go_at_call 60
  refine (Hsn.out _ (g1.mem.below hb3) (g2.mem.below hb3) (g1.dat.below hb3) (g2.dat.below hb3)).mono ?_
  rintro e w4 ⟨rfl, hb4⟩
  refine hK.out _ _ ?_
  clear hK K
  try simp only [Act.put, List.getElem_toArray, List.getElem_cons_zero, List.getElem_cons_succ, List.setIfInBounds_toArray, List.set_cons_zero, List.set_cons_succ]
  have Hf : Hid (c = rs) := by
    show _ = _
    rw [Bool.eq_iff_iff, Hc.out, HR.out, decide_eq_true_eq]
    constructor
    · rintro ⟨_, _, _, _, _, _, _, _, _, _, _, h⟩; exact h
    · intro h; exact ⟨R0.out, R1.out, R2.out, R3.out, R4.out, R5.out, R6.out, R7.out, R8.out, R9.out, R10.out, h⟩
  iterate 2 (first | (refine WL.skip (by rfl) ?_; simp only [Act.put, List.getElem_toArray, List.getElem_cons_zero, List.getElem_cons_succ, List.setIfInBounds_toArray, List.set_cons_zero, List.set_cons_succ]) | (refine WL.val (v := ?_) (by rfl) ?_ ?_; rotate_left; (focus (go_simp; (try with_reducible rfl))); simp only [Act.put, List.getElem_toArray, List.getElem_cons_zero, List.getElem_cons_succ, List.setIfInBounds_toArray, List.set_cons_zero, List.set_cons_succ]))
  refine WL.nil ?_
  go_wp2_with fail
  go_ret
  exact ⟨by rw [Hf.out]; rfl, below_on hB3 hb4 (Nat.le_refl _)⟩
end Go.Proofs.Ytlphpjgiaflfkaa
namespace Go.Proofs.Ytlphpjgiaflfkaa
set_option linter.unusedVariables false
set_option linter.unusedSimpArgs false
set_option linter.unusedSectionVars false
open Go Go.RowKit Go.Shelf
set_option maxRecDepth 100000 in
set_option maxHeartbeats 4000000 in
theorem refRow_any (f t : Int) (eo : Option Addr) (ec : Nat) (el : List Ep) (w : World) (hen : Ens w eo ec el) (hl : el.length ≤ 1000000) :
    Calls Try.prog 54 #[.slice eo el.length ec, .int .u64 f, .int .u64 t] w fun e w' => e = .returned (.bool (rowB f t (el.map Ep.e) && decide (el.length ≤ 8))) ∧ Below w.heap.size w w' := by
  obtain ⟨c0, hc0⟩ : ∃ c0, c0 = rowB f t (el.map Ep.e) := ⟨_, rfl⟩
  rw [← hc0]
  have HC0 := Lib.hid hc0
  clear hc0
  go_enter Try.func54, Try.ntmps54
  go_wp2_with fail
  go_loopw [1, 7] (fun v u wr => ∃ (i : Nat) (last : Int), v = .int .u64 last ∧ u = .int .i64 (i : Nat) ∧ i ≤ el.length ∧ Hid (c0 = rowB last t ((el.map Ep.e).drop i)) ∧ Below w.heap.size w wr) (fun _ u _ => el.length - (intOf u).toNat)
  case atStart => exact ⟨0, f, rfl, rfl, Nat.zero_le _, HC0, Below.refl _ _⟩
  case round =>
    obtain ⟨i, last, rfl, rfl, hi, Hinv, hB⟩ := hrel
    by_cases hlt : i < el.length
    · have g1 := hen.below hB
      obtain ⟨b1, o1, rfl, p0, p1, p2⟩ := g1.get i hlt
      have hd0 := hen.data _ (List.getElem_mem hlt)
      have hst := rowB_drop last t (el.map Ep.e) i (by simpa using hlt)
      simp only [List.getElem_map] at hst
      obtain ⟨y, hy⟩ : ∃ y, y = el[i] := ⟨_, rfl⟩
      rw [← hy] at p0 p1 p2 hd0 hst
      clear hy
      obtain ⟨⟨x1, x2, xd⟩, xa, xc⟩ := y
      simp only at p0 p1 p2 hd0 hst
      have i0 : (0 : Int) ≤ (i : Int) := by omega
      have i1 : (i : Int) < (el.length : Int) := by omega
      have Hs := Lib.hid (refSound_e x1 x2 xa xd.length xc xd rfl wr)
      have Hm := Lib.hid (fun W hW => refMemRead_any xa xc xd W hW)
      obtain ⟨mk, hmk⟩ : ∃ mk, mk = memOk xd := ⟨_, rfl⟩
      obtain ⟨sk, hsk⟩ : ∃ sk, sk = soundE ⟨x1, x2, xd⟩ := ⟨_, rfl⟩
      rw [← hmk] at hst Hm
      rw [← hsk] at hst Hs
      clear hmk hsk
      have hcw : ∀ W', Below wr.heap.size wr W' → (W'.cell? ⟨b1, o1 + i * 3, none⟩ = some (.int .u64 x1) ∧ W'.cell? ⟨b1, o1 + i * 3 + 1, none⟩ = some (.int .i64 x2) ∧ W'.cell? ⟨b1, o1 + i * 3 + 2, none⟩ = some (.slice xa xd.length xc)) := fun W' hb =>
        ⟨(hb.cell (p := ⟨b1, o1 + i * 3, none⟩) (cell?_lt p0)).trans p0, (hb.cell (p := ⟨b1, o1 + i * 3 + 1, none⟩) (cell?_lt p1)).trans p1, (hb.cell (p := ⟨b1, o1 + i * 3 + 2, none⟩) (cell?_lt p2)).trans p2⟩
      have Hst := Lib.hid hst
      clear hst
      have hno : c0 = false → (c0 && decide (el.length ≤ 8)) = false := fun h => by rw [h]; rfl
      have Hno := Lib.hid hno
      clear hno
      cases sk
      · have Hf := Lib.hid (Hno.out (by rw [Hinv.out, Hst.out]; rfl))
        go_wp2_with fail
        refine Hs.out.mono ?_
        rintro e w2 ⟨rfl, hb2⟩
        go_wp2_with fail
        go_ret
        exact ⟨by rw [Hf.out]; rfl, below_on hB hb2 (Nat.le_refl _)⟩
      · by_cases e1 : x1 < last
        · have Hf := Lib.hid (Hno.out (by rw [Hinv.out, Hst.out, decide_eq_false (p := last ≤ x1) (by omega)]; rfl))
          go_wp2_with fail
          refine Hs.out.mono ?_
          rintro e w2 ⟨rfl, hb2⟩
          obtain ⟨q0, q1, q2⟩ := hcw _ hb2
          go_wp2_with fail
          go_ret
          exact ⟨by rw [Hf.out]; rfl, below_on hB hb2 (Nat.le_refl _)⟩
        · by_cases e3 : t < x1
          · have Hf := Lib.hid (Hno.out (by rw [Hinv.out, Hst.out, decide_eq_false (p := x1 ≤ t) (by omega)]; simp))
            go_wp2_with fail
            refine Hs.out.mono ?_
            rintro e w2 ⟨rfl, hb2⟩
            obtain ⟨q0, q1, q2⟩ := hcw _ hb2
            go_wp2_with fail
            go_ret
            exact ⟨by rw [Hf.out]; rfl, below_on hB hb2 (Nat.le_refl _)⟩
          · by_cases e2 : x2 = 3
            · subst e2
              cases mk
              · have Hf := Lib.hid (Hno.out (by rw [Hinv.out, Hst.out]; simp))
                go_wp2_with fail
                refine Hs.out.mono ?_
                rintro e w2 ⟨rfl, hb2⟩
                obtain ⟨q0, q1, q2⟩ := hcw _ hb2
                have hB3 := below_on hB hb2 (Nat.le_refl _)
                have Hm2 := Lib.hid (Hm.out w2 (hd0.below hB3))
                go_wp2_with fail
                refine Hm2.out.mono ?_
                rintro e w3 ⟨⟨v3, rfl⟩, hb3⟩
                obtain ⟨r0, r1, r2⟩ := hcw _ (below_on hb2 hb3 (Nat.le_refl _))
                go_wp2_with fail
                go_ret
                exact ⟨by rw [Hf.out]; rfl, below_on hB3 hb3 (Nat.le_refl _)⟩
              · have Hgo : Hid (c0 = rowB x1 t ((el.map Ep.e).drop (i + 1))) := by show _ = _; rw [Hinv.out, Hst.out, decide_eq_true (p := last ≤ x1) (by omega), decide_eq_true (p := x1 ≤ t) (by omega)]; simp
                go_wp2_with fail
                refine Hs.out.mono ?_
                rintro e w2 ⟨rfl, hb2⟩
                obtain ⟨q0, q1, q2⟩ := hcw _ hb2
                have hB3 := below_on hB hb2 (Nat.le_refl _)
                have Hm2 := Lib.hid (Hm.out w2 (hd0.below hB3))
                go_wp2_with fail
                refine Hm2.out.mono ?_
                rintro e w3 ⟨⟨v3, rfl⟩, hb3⟩
                obtain ⟨r0, r1, r2⟩ := hcw _ (below_on hb2 hb3 (Nat.le_refl _))
                go_wp2_with fail
                go_roundw
                case rel => exact ⟨i + 1, x1, rfl, by simp, by omega, Hgo, below_on hB3 hb3 (Nat.le_refl _)⟩
                case measure => simp [intOf]; omega
            · have e2b : (x2 == 3) = false := by simpa using e2
              have Hgo : Hid (c0 = rowB x1 t ((el.map Ep.e).drop (i + 1))) := by show _ = _; rw [Hinv.out, Hst.out, decide_eq_true (p := last ≤ x1) (by omega), decide_eq_true (p := x1 ≤ t) (by omega)]; simp [e2]
              clear e2
              go_wp2_with fail
              refine Hs.out.mono ?_
              rintro e w2 ⟨rfl, hb2⟩
              obtain ⟨q0, q1, q2⟩ := hcw _ hb2
              have hB3 := below_on hB hb2 (Nat.le_refl _)
              have Hm2 := Lib.hid (Hm.out w2 (hd0.below hB3))
              go_wp2_with fail
              refine Hm2.out.mono ?_
              rintro e w3 ⟨⟨v3, rfl⟩, hb3⟩
              obtain ⟨r0, r1, r2⟩ := hcw _ (below_on hb2 hb3 (Nat.le_refl _))
              go_wp2_with fail
              go_roundw
              case rel => exact ⟨i + 1, x1, rfl, by simp, by omega, Hgo, below_on hB3 hb3 (Nat.le_refl _)⟩
              case measure => simp [intOf]; omega
    · have hii : i = el.length := by omega
      subst hii
      have Ht : Hid (c0 = true) := by show _ = _; rw [Hinv.out, List.drop_eq_nil_of_le (by simp)]; rfl
      by_cases q1 : el.length ≤ 8
      · have q1' : (el.length : Int) ≤ 8 := by omega
        have Hf : Hid ((c0 && decide (el.length ≤ 8)) = true) := by show _ = _; rw [Ht.out]; simpa using q1
        go_wp2_with fail
        go_ret
        exact ⟨by rw [Hf.out]; rfl, hB⟩
      · have q1' : ¬ (el.length : Int) ≤ 8 := by omega
        have Hf : Hid ((c0 && decide (el.length ≤ 8)) = false) := by show _ = _; rw [Ht.out]; simpa using q1
        go_wp2_with fail
        go_ret
        exact ⟨by first | (rw [Hf.out]; rfl) | rfl, hB⟩
end Go.Proofs.Ytlphpjgiaflfkaa
