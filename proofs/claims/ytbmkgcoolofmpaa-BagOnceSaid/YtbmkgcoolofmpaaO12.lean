/- Lemmas for BagOnce (Mf3). No statement of the seat is proved here. -/
import Derived.Test.YtbmkgcoolofmpaaO4
namespace Go.Proofs.Ytbmkgcoolofmpaa
set_option linter.unusedVariables false
set_option linter.unusedSimpArgs false
set_option linter.unusedSectionVars false
open Go Go.RowKit Go.Shelf
set_option maxRecDepth 100000 in
set_option maxHeartbeats 8000000 in
theorem spare_5 (frm dst term index logTerm commit round : Int) (ok force : Bool) (eo : Option Addr) (ec : Nat) (el : List Ep) (si st : Int) (mo : Option Addr) (mc : Nat) (ml : List Int) (ao : Option Addr) (ac : Nat) (d : List UInt8) (w : World) (hmem : Iz w .i64 mo mc ml) (hdat : Bs w ao ac d) (hml : ml.length ≤ 1000000) :
    Calls Try.prog 81 #[.agg #[.int .i64 5, .int .i64 frm, .int .i64 dst, .int .u64 term, .int .u64 index, .int .u64 logTerm, .int .u64 commit, .int .u64 round, .bool ok, .bool force, .slice eo el.length ec, .int .u64 si, .int .u64 st, .slice mo ml.length mc, .slice ao d.length ac]] w fun e w' => e = .returned (.bool (spareM ⟨5, frm, dst, term, index, logTerm, commit, round, ok, force, el.map Ep.e, ⟨si, st, ml, d⟩⟩)) ∧ Below w.heap.size w w' := by
  obtain ⟨c, hc⟩ : ∃ c, c = spareM ⟨5, frm, dst, term, index, logTerm, commit, round, ok, force, el.map Ep.e, ⟨si, st, ml, d⟩⟩ := ⟨_, rfl⟩
  have hiff := spareM_iff (m := ⟨5, frm, dst, term, index, logTerm, commit, round, ok, force, el.map Ep.e, ⟨si, st, ml, d⟩⟩)
  rw [← hc] at hiff ⊢
  clear hc
  simp only [List.length_map] at hiff
  simp at hiff
  have Hc := Lib.hid hiff
  clear hiff
  obtain ⟨W1, hW1⟩ : ∃ W1, W1 = w.alloc (.cells #[.int .i64 5, .int .i64 frm, .int .i64 dst, .int .u64 term, .int .u64 index, .int .u64 logTerm, .int .u64 commit, .int .u64 round, .bool ok, .bool force, .slice eo el.length ec, .int .u64 si, .int .u64 st, .slice mo ml.length mc, .slice ao d.length ac] 37) := ⟨_, rfl⟩
  have hB1 : Below w.heap.size w W1 := by rw [hW1]; exact below_new _ _
  have k1 : W1.heap[w.heap.size]? = some (.cells #[.int .i64 5, .int .i64 frm, .int .i64 dst, .int .u64 term, .int .u64 index, .int .u64 logTerm, .int .u64 commit, .int .u64 round, .bool ok, .bool force, .slice eo el.length ec, .int .u64 si, .int .u64 st, .slice mo ml.length mc, .slice ao d.length ac] 37) := by rw [hW1]; exact heap_alloc_new _ _
  have z1 : W1.heap.size = w.heap.size + 1 := by rw [hW1]; exact World.size_alloc _ _
  obtain ⟨W2, hW2⟩ : ∃ W2, W2 = W1.alloc (.cells #[.bool false, .bool false, .bool false, .bool false, .bool false, .bool false, .bool false] 144) := ⟨_, rfl⟩
  have hB2 : Below W1.heap.size W1 W2 := by rw [hW2]; exact below_new _ _
  have f2 : W2.heap[w.heap.size + 1]? = some (.cells #[.bool false, .bool false, .bool false, .bool false, .bool false, .bool false, .bool false] 144) := by rw [hW2, ← z1]; exact heap_alloc_new _ _
  have k2 := (hB2.block w.heap.size (by omega)).trans k1
  have hBw2 := below_on hB1 hB2 (by omega)
  have p0 : W2.cell? ⟨w.heap.size, 0, none⟩ = some (.int .i64 5) := block_cell k2 0
  have Z1 := Lib.hid z1
  have g3 : W2.cell? ⟨w.heap.size + 1, 0, none⟩ = some (.bool false) := block_cell f2 0
  have e3 : W2.frozen? ⟨w.heap.size + 1, 0, none⟩ = false := block_free f2 0
  have f3 := block_set f2 0 (.bool true)
  simp only [List.setIfInBounds_toArray, List.set_cons_zero, List.set_cons_succ] at f3
  have k3 := (Below.heap_setCell W2 ⟨w.heap.size + 1, 0, none⟩ (.bool true) w.heap.size (by simp only; omega)).trans k2
  have hBw3 : Below w.heap.size w (W2.setCell ⟨w.heap.size + 1, 0, none⟩ (.bool true)) := hBw2.setCell (by simp only; omega) _
  have g4 : (W2.setCell ⟨w.heap.size + 1, 0, none⟩ (.bool true)).cell? ⟨w.heap.size + 1, 3, none⟩ = some (.bool false) := block_cell f3 3
  have e4 : (W2.setCell ⟨w.heap.size + 1, 0, none⟩ (.bool true)).frozen? ⟨w.heap.size + 1, 3, none⟩ = false := block_free f3 3
  have f4 := block_set f3 3 (.bool true)
  simp only [List.setIfInBounds_toArray, List.set_cons_zero, List.set_cons_succ] at f4
  have k4 := (Below.heap_setCell (W2.setCell ⟨w.heap.size + 1, 0, none⟩ (.bool true)) ⟨w.heap.size + 1, 3, none⟩ (.bool true) w.heap.size (by simp only; omega)).trans k3
  have hBw4 : Below w.heap.size w ((W2.setCell ⟨w.heap.size + 1, 0, none⟩ (.bool true)).setCell ⟨w.heap.size + 1, 3, none⟩ (.bool true)) := hBw3.setCell (by simp only; omega) _
  have g5 : ((W2.setCell ⟨w.heap.size + 1, 0, none⟩ (.bool true)).setCell ⟨w.heap.size + 1, 3, none⟩ (.bool true)).cell? ⟨w.heap.size + 1, 4, none⟩ = some (.bool false) := block_cell f4 4
  have e5 : ((W2.setCell ⟨w.heap.size + 1, 0, none⟩ (.bool true)).setCell ⟨w.heap.size + 1, 3, none⟩ (.bool true)).frozen? ⟨w.heap.size + 1, 4, none⟩ = false := block_free f4 4
  have f5 := block_set f4 4 (.bool true)
  simp only [List.setIfInBounds_toArray, List.set_cons_zero, List.set_cons_succ] at f5
  have k5 := (Below.heap_setCell ((W2.setCell ⟨w.heap.size + 1, 0, none⟩ (.bool true)).setCell ⟨w.heap.size + 1, 3, none⟩ (.bool true)) ⟨w.heap.size + 1, 4, none⟩ (.bool true) w.heap.size (by simp only; omega)).trans k4
  have hBw5 : Below w.heap.size w (((W2.setCell ⟨w.heap.size + 1, 0, none⟩ (.bool true)).setCell ⟨w.heap.size + 1, 3, none⟩ (.bool true)).setCell ⟨w.heap.size + 1, 4, none⟩ (.bool true)) := hBw4.setCell (by simp only; omega) _
  have g6 : (((W2.setCell ⟨w.heap.size + 1, 0, none⟩ (.bool true)).setCell ⟨w.heap.size + 1, 3, none⟩ (.bool true)).setCell ⟨w.heap.size + 1, 4, none⟩ (.bool true)).cell? ⟨w.heap.size + 1, 5, none⟩ = some (.bool false) := block_cell f5 5
  have e6 : (((W2.setCell ⟨w.heap.size + 1, 0, none⟩ (.bool true)).setCell ⟨w.heap.size + 1, 3, none⟩ (.bool true)).setCell ⟨w.heap.size + 1, 4, none⟩ (.bool true)).frozen? ⟨w.heap.size + 1, 5, none⟩ = false := block_free f5 5
  have f6 := block_set f5 5 (.bool true)
  simp only [List.setIfInBounds_toArray, List.set_cons_zero, List.set_cons_succ] at f6
  have k6 := (Below.heap_setCell (((W2.setCell ⟨w.heap.size + 1, 0, none⟩ (.bool true)).setCell ⟨w.heap.size + 1, 3, none⟩ (.bool true)).setCell ⟨w.heap.size + 1, 4, none⟩ (.bool true)) ⟨w.heap.size + 1, 5, none⟩ (.bool true) w.heap.size (by simp only; omega)).trans k5
  have hBw6 : Below w.heap.size w ((((W2.setCell ⟨w.heap.size + 1, 0, none⟩ (.bool true)).setCell ⟨w.heap.size + 1, 3, none⟩ (.bool true)).setCell ⟨w.heap.size + 1, 4, none⟩ (.bool true)).setCell ⟨w.heap.size + 1, 5, none⟩ (.bool true)) := hBw5.setCell (by simp only; omega) _
  have FA := Lib.hid f6
  have KA := Lib.hid k6
  have BA := Lib.hid hBw6
  clear z1 k1 f2 k2 hBw2 f3 k3 hBw3 f4 k4 hBw4 f5 k5 hBw5 f6 k6 hBw6
  go_enter Try.func81, Try.ntmps81
  go_upto_region 3 with fail
  rw [← hW1, ← hW2]
  clear hW1 hW2
  go_upto_region 17 with fail
  obtain ⟨W3, hW3⟩ : ∃ W3, W3 = ((((W2.setCell ⟨w.heap.size + 1, 0, none⟩ (.bool true)).setCell ⟨w.heap.size + 1, 3, none⟩ (.bool true)).setCell ⟨w.heap.size + 1, 4, none⟩ (.bool true)).setCell ⟨w.heap.size + 1, 5, none⟩ (.bool true)) := ⟨_, rfl⟩
  rw [← hW3] at FA KA BA ⊢
  clear hW3
  have hmem3 := hmem.below BA.out
  have hdat3 := hdat.below BA.out
  obtain ⟨r, hr⟩ : ∃ r, r = decide ((⟨si, st, ml, d⟩ : Sn) = ⟨0, 0, [], []⟩) := ⟨_, rfl⟩
  have hsn := snapSame_any si st 0 0 mo ao none none mc ac 0 0 ml [] d [] W3 hmem3 (Iz.nil _ _) hdat3 (Bs.nil _) hml (by simp)
  rw [← hr] at hsn
  have Hsn := Lib.hid hsn
  have Hr := Lib.hid hr
  clear hsn hr hmem3 hdat3 p0 g3 e3 g4 e4 g5 e5 g6 e6
  have x4 : W3.cell? ⟨w.heap.size, 4, none⟩ = some (.int .u64 index) := block_cell KA.out 4
  have x5 : W3.cell? ⟨w.heap.size, 5, none⟩ = some (.int .u64 logTerm) := block_cell KA.out 5
  have x6 : W3.cell? ⟨w.heap.size, 6, none⟩ = some (.int .u64 commit) := block_cell KA.out 6
  have x7 : W3.cell? ⟨w.heap.size, 7, none⟩ = some (.int .u64 round) := block_cell KA.out 7
  have x8 : W3.cell? ⟨w.heap.size, 8, none⟩ = some (.bool ok) := block_cell KA.out 8
  have x9 : W3.cell? ⟨w.heap.size, 9, none⟩ = some (.bool force) := block_cell KA.out 9
  have x10 : W3.cell? ⟨w.heap.size, 10, none⟩ = some (.slice eo el.length ec) := block_cell KA.out 10
  have x11 : W3.cell? ⟨w.heap.size, 11, none⟩ = some (.int .u64 si) := block_cell KA.out 11
  have x12 : W3.cell? ⟨w.heap.size, 12, none⟩ = some (.int .u64 st) := block_cell KA.out 12
  have x13 : W3.cell? ⟨w.heap.size, 13, none⟩ = some (.slice mo ml.length mc) := block_cell KA.out 13
  have x14 : W3.cell? ⟨w.heap.size, 14, none⟩ = some (.slice ao d.length ac) := block_cell KA.out 14
  have y0 : W3.cell? ⟨w.heap.size + 1, 0, none⟩ = some (.bool true) := block_cell FA.out 0
  have y1 : W3.cell? ⟨w.heap.size + 1, 1, none⟩ = some (.bool false) := block_cell FA.out 1
  have y2 : W3.cell? ⟨w.heap.size + 1, 2, none⟩ = some (.bool false) := block_cell FA.out 2
  have y3 : W3.cell? ⟨w.heap.size + 1, 3, none⟩ = some (.bool true) := block_cell FA.out 3
  have y4 : W3.cell? ⟨w.heap.size + 1, 4, none⟩ = some (.bool true) := block_cell FA.out 4
  have y5 : W3.cell? ⟨w.heap.size + 1, 5, none⟩ = some (.bool true) := block_cell FA.out 5
  have y6 : W3.cell? ⟨w.heap.size + 1, 6, none⟩ = some (.bool false) := block_cell FA.out 6
  cases ok
  · cases force
    · refine WL.start ?_
      iterate 68 (first | (refine WL.skip (by rfl) ?_; simp only [Act.put, List.getElem_toArray, List.getElem_cons_zero, List.getElem_cons_succ, List.setIfInBounds_toArray, List.set_cons_zero, List.set_cons_succ]) | (refine WL.val (v := ?_) (by rfl) ?_ ?_; rotate_left; (focus (go_simp; (try with_reducible rfl))); simp only [Act.put, List.getElem_toArray, List.getElem_cons_zero, List.getElem_cons_succ, List.setIfInBounds_toArray, List.set_cons_zero, List.set_cons_succ]))
      refine WL.any (by rfl) (fun K hK => ?_)
      go_simp
      go_at_call 41
      refine Hsn.out.mono ?_
      rintro e w9 ⟨rfl, hb9⟩
      refine hK.out _ _ ?_
      clear hK K
      try simp only [Act.put, List.getElem_toArray, List.getElem_cons_zero, List.getElem_cons_succ, List.setIfInBounds_toArray, List.set_cons_zero, List.set_cons_succ]
      iterate 3 (first | (refine WL.skip (by rfl) ?_; simp only [Act.put, List.getElem_toArray, List.getElem_cons_zero, List.getElem_cons_succ, List.setIfInBounds_toArray, List.set_cons_zero, List.set_cons_succ]) | (refine WL.val (v := ?_) (by rfl) ?_ ?_; rotate_left; (focus (go_simp; (try with_reducible rfl))); simp only [Act.put, List.getElem_toArray, List.getElem_cons_zero, List.getElem_cons_succ, List.setIfInBounds_toArray, List.set_cons_zero, List.set_cons_succ]))
      refine WL.nil ?_
      go_wp2_with fail
      go_ret
      exact ⟨ret_bool (by rw [Bool.eq_iff_iff, Hc.out]; simp [Hr.out, ]), below_on BA.out hb9 (Nat.le_refl _)⟩
    · have Hf : Hid (c = false) := by show _ = _; rw [Bool.eq_false_iff, ne_eq, Hc.out]; simp
      refine WL.start ?_
      iterate 72 (first | (refine WL.skip (by rfl) ?_; simp only [Act.put, List.getElem_toArray, List.getElem_cons_zero, List.getElem_cons_succ, List.setIfInBounds_toArray, List.set_cons_zero, List.set_cons_succ]) | (refine WL.val (v := ?_) (by rfl) ?_ ?_; rotate_left; (focus (go_simp; (try with_reducible rfl))); simp only [Act.put, List.getElem_toArray, List.getElem_cons_zero, List.getElem_cons_succ, List.setIfInBounds_toArray, List.set_cons_zero, List.set_cons_succ]))
      refine WL.nil ?_
      go_wp2_with fail
      go_ret
      exact ⟨by rw [Hf.out]; rfl, BA.out⟩
  · have Hf : Hid (c = false) := by show _ = _; rw [Bool.eq_false_iff, ne_eq, Hc.out]; simp
    refine WL.start ?_
    iterate 72 (first | (refine WL.skip (by rfl) ?_; simp only [Act.put, List.getElem_toArray, List.getElem_cons_zero, List.getElem_cons_succ, List.setIfInBounds_toArray, List.set_cons_zero, List.set_cons_succ]) | (refine WL.val (v := ?_) (by rfl) ?_ ?_; rotate_left; (focus (go_simp; (try with_reducible rfl))); simp only [Act.put, List.getElem_toArray, List.getElem_cons_zero, List.getElem_cons_succ, List.setIfInBounds_toArray, List.set_cons_zero, List.set_cons_succ]))
    refine WL.nil ?_
    go_wp2_with fail
    go_ret
    exact ⟨by rw [Hf.out]; rfl, BA.out⟩
set_option maxRecDepth 100000 in
set_option maxHeartbeats 8000000 in
theorem spare_6 (frm dst term index logTerm commit round : Int) (ok force : Bool) (eo : Option Addr) (ec : Nat) (el : List Ep) (si st : Int) (mo : Option Addr) (mc : Nat) (ml : List Int) (ao : Option Addr) (ac : Nat) (d : List UInt8) (w : World) (hmem : Iz w .i64 mo mc ml) (hdat : Bs w ao ac d) (hml : ml.length ≤ 1000000) :
    Calls Try.prog 81 #[.agg #[.int .i64 6, .int .i64 frm, .int .i64 dst, .int .u64 term, .int .u64 index, .int .u64 logTerm, .int .u64 commit, .int .u64 round, .bool ok, .bool force, .slice eo el.length ec, .int .u64 si, .int .u64 st, .slice mo ml.length mc, .slice ao d.length ac]] w fun e w' => e = .returned (.bool (spareM ⟨6, frm, dst, term, index, logTerm, commit, round, ok, force, el.map Ep.e, ⟨si, st, ml, d⟩⟩)) ∧ Below w.heap.size w w' := by
  obtain ⟨c, hc⟩ : ∃ c, c = spareM ⟨6, frm, dst, term, index, logTerm, commit, round, ok, force, el.map Ep.e, ⟨si, st, ml, d⟩⟩ := ⟨_, rfl⟩
  have hiff := spareM_iff (m := ⟨6, frm, dst, term, index, logTerm, commit, round, ok, force, el.map Ep.e, ⟨si, st, ml, d⟩⟩)
  rw [← hc] at hiff ⊢
  clear hc
  simp only [List.length_map] at hiff
  simp at hiff
  have Hc := Lib.hid hiff
  clear hiff
  obtain ⟨W1, hW1⟩ : ∃ W1, W1 = w.alloc (.cells #[.int .i64 6, .int .i64 frm, .int .i64 dst, .int .u64 term, .int .u64 index, .int .u64 logTerm, .int .u64 commit, .int .u64 round, .bool ok, .bool force, .slice eo el.length ec, .int .u64 si, .int .u64 st, .slice mo ml.length mc, .slice ao d.length ac] 37) := ⟨_, rfl⟩
  have hB1 : Below w.heap.size w W1 := by rw [hW1]; exact below_new _ _
  have k1 : W1.heap[w.heap.size]? = some (.cells #[.int .i64 6, .int .i64 frm, .int .i64 dst, .int .u64 term, .int .u64 index, .int .u64 logTerm, .int .u64 commit, .int .u64 round, .bool ok, .bool force, .slice eo el.length ec, .int .u64 si, .int .u64 st, .slice mo ml.length mc, .slice ao d.length ac] 37) := by rw [hW1]; exact heap_alloc_new _ _
  have z1 : W1.heap.size = w.heap.size + 1 := by rw [hW1]; exact World.size_alloc _ _
  obtain ⟨W2, hW2⟩ : ∃ W2, W2 = W1.alloc (.cells #[.bool false, .bool false, .bool false, .bool false, .bool false, .bool false, .bool false] 144) := ⟨_, rfl⟩
  have hB2 : Below W1.heap.size W1 W2 := by rw [hW2]; exact below_new _ _
  have f2 : W2.heap[w.heap.size + 1]? = some (.cells #[.bool false, .bool false, .bool false, .bool false, .bool false, .bool false, .bool false] 144) := by rw [hW2, ← z1]; exact heap_alloc_new _ _
  have k2 := (hB2.block w.heap.size (by omega)).trans k1
  have hBw2 := below_on hB1 hB2 (by omega)
  have p0 : W2.cell? ⟨w.heap.size, 0, none⟩ = some (.int .i64 6) := block_cell k2 0
  have Z1 := Lib.hid z1
  have g3 : W2.cell? ⟨w.heap.size + 1, 1, none⟩ = some (.bool false) := block_cell f2 1
  have e3 : W2.frozen? ⟨w.heap.size + 1, 1, none⟩ = false := block_free f2 1
  have f3 := block_set f2 1 (.bool true)
  simp only [List.setIfInBounds_toArray, List.set_cons_zero, List.set_cons_succ] at f3
  have k3 := (Below.heap_setCell W2 ⟨w.heap.size + 1, 1, none⟩ (.bool true) w.heap.size (by simp only; omega)).trans k2
  have hBw3 : Below w.heap.size w (W2.setCell ⟨w.heap.size + 1, 1, none⟩ (.bool true)) := hBw2.setCell (by simp only; omega) _
  have g4 : (W2.setCell ⟨w.heap.size + 1, 1, none⟩ (.bool true)).cell? ⟨w.heap.size + 1, 4, none⟩ = some (.bool false) := block_cell f3 4
  have e4 : (W2.setCell ⟨w.heap.size + 1, 1, none⟩ (.bool true)).frozen? ⟨w.heap.size + 1, 4, none⟩ = false := block_free f3 4
  have f4 := block_set f3 4 (.bool true)
  simp only [List.setIfInBounds_toArray, List.set_cons_zero, List.set_cons_succ] at f4
  have k4 := (Below.heap_setCell (W2.setCell ⟨w.heap.size + 1, 1, none⟩ (.bool true)) ⟨w.heap.size + 1, 4, none⟩ (.bool true) w.heap.size (by simp only; omega)).trans k3
  have hBw4 : Below w.heap.size w ((W2.setCell ⟨w.heap.size + 1, 1, none⟩ (.bool true)).setCell ⟨w.heap.size + 1, 4, none⟩ (.bool true)) := hBw3.setCell (by simp only; omega) _
  have FA := Lib.hid f4
  have KA := Lib.hid k4
  have BA := Lib.hid hBw4
  clear z1 k1 f2 k2 hBw2 f3 k3 hBw3 f4 k4 hBw4
  go_enter Try.func81, Try.ntmps81
  go_upto_region 3 with fail
  rw [← hW1, ← hW2]
  clear hW1 hW2
  go_upto_region 17 with fail
  obtain ⟨W3, hW3⟩ : ∃ W3, W3 = ((W2.setCell ⟨w.heap.size + 1, 1, none⟩ (.bool true)).setCell ⟨w.heap.size + 1, 4, none⟩ (.bool true)) := ⟨_, rfl⟩
  rw [← hW3] at FA KA BA ⊢
  clear hW3
  have hmem3 := hmem.below BA.out
  have hdat3 := hdat.below BA.out
  obtain ⟨r, hr⟩ : ∃ r, r = decide ((⟨si, st, ml, d⟩ : Sn) = ⟨0, 0, [], []⟩) := ⟨_, rfl⟩
  have hsn := snapSame_any si st 0 0 mo ao none none mc ac 0 0 ml [] d [] W3 hmem3 (Iz.nil _ _) hdat3 (Bs.nil _) hml (by simp)
  rw [← hr] at hsn
  have Hsn := Lib.hid hsn
  have Hr := Lib.hid hr
  clear hsn hr hmem3 hdat3 p0 g3 e3 g4 e4
  have x4 : W3.cell? ⟨w.heap.size, 4, none⟩ = some (.int .u64 index) := block_cell KA.out 4
  have x5 : W3.cell? ⟨w.heap.size, 5, none⟩ = some (.int .u64 logTerm) := block_cell KA.out 5
  have x6 : W3.cell? ⟨w.heap.size, 6, none⟩ = some (.int .u64 commit) := block_cell KA.out 6
  have x7 : W3.cell? ⟨w.heap.size, 7, none⟩ = some (.int .u64 round) := block_cell KA.out 7
  have x8 : W3.cell? ⟨w.heap.size, 8, none⟩ = some (.bool ok) := block_cell KA.out 8
  have x9 : W3.cell? ⟨w.heap.size, 9, none⟩ = some (.bool force) := block_cell KA.out 9
  have x10 : W3.cell? ⟨w.heap.size, 10, none⟩ = some (.slice eo el.length ec) := block_cell KA.out 10
  have x11 : W3.cell? ⟨w.heap.size, 11, none⟩ = some (.int .u64 si) := block_cell KA.out 11
  have x12 : W3.cell? ⟨w.heap.size, 12, none⟩ = some (.int .u64 st) := block_cell KA.out 12
  have x13 : W3.cell? ⟨w.heap.size, 13, none⟩ = some (.slice mo ml.length mc) := block_cell KA.out 13
  have x14 : W3.cell? ⟨w.heap.size, 14, none⟩ = some (.slice ao d.length ac) := block_cell KA.out 14
  have y0 : W3.cell? ⟨w.heap.size + 1, 0, none⟩ = some (.bool false) := block_cell FA.out 0
  have y1 : W3.cell? ⟨w.heap.size + 1, 1, none⟩ = some (.bool true) := block_cell FA.out 1
  have y2 : W3.cell? ⟨w.heap.size + 1, 2, none⟩ = some (.bool false) := block_cell FA.out 2
  have y3 : W3.cell? ⟨w.heap.size + 1, 3, none⟩ = some (.bool false) := block_cell FA.out 3
  have y4 : W3.cell? ⟨w.heap.size + 1, 4, none⟩ = some (.bool true) := block_cell FA.out 4
  have y5 : W3.cell? ⟨w.heap.size + 1, 5, none⟩ = some (.bool false) := block_cell FA.out 5
  have y6 : W3.cell? ⟨w.heap.size + 1, 6, none⟩ = some (.bool false) := block_cell FA.out 6
  by_cases q : logTerm = 0
  · have e_logTerm : (logTerm == 0) = true := by simp [q]
    have Q_logTerm := Lib.hid q
    clear q
    by_cases q : commit = 0
    · have e_commit : (commit == 0) = true := by simp [q]
      have Q_commit := Lib.hid q
      clear q
      cases force
      · by_cases q : el.length = 0
        · have e_es : ((el.length : Int) == 0) = true := by simp [q]
          have Q_es := Lib.hid q
          clear q
          refine WL.start ?_
          iterate 68 (first | (refine WL.skip (by rfl) ?_; simp only [Act.put, List.getElem_toArray, List.getElem_cons_zero, List.getElem_cons_succ, List.setIfInBounds_toArray, List.set_cons_zero, List.set_cons_succ]) | (refine WL.val (v := ?_) (by rfl) ?_ ?_; rotate_left; (focus (go_simp; (try with_reducible rfl))); simp only [Act.put, List.getElem_toArray, List.getElem_cons_zero, List.getElem_cons_succ, List.setIfInBounds_toArray, List.set_cons_zero, List.set_cons_succ]))
          refine WL.any (by rfl) (fun K hK => ?_)
          go_simp
          go_at_call 41
          refine Hsn.out.mono ?_
          rintro e w9 ⟨rfl, hb9⟩
          refine hK.out _ _ ?_
          clear hK K
          try simp only [Act.put, List.getElem_toArray, List.getElem_cons_zero, List.getElem_cons_succ, List.setIfInBounds_toArray, List.set_cons_zero, List.set_cons_succ]
          iterate 3 (first | (refine WL.skip (by rfl) ?_; simp only [Act.put, List.getElem_toArray, List.getElem_cons_zero, List.getElem_cons_succ, List.setIfInBounds_toArray, List.set_cons_zero, List.set_cons_succ]) | (refine WL.val (v := ?_) (by rfl) ?_ ?_; rotate_left; (focus (go_simp; (try with_reducible rfl))); simp only [Act.put, List.getElem_toArray, List.getElem_cons_zero, List.getElem_cons_succ, List.setIfInBounds_toArray, List.set_cons_zero, List.set_cons_succ]))
          refine WL.nil ?_
          go_wp2_with fail
          go_ret
          exact ⟨ret_bool (by rw [Bool.eq_iff_iff, Hc.out]; simp [Hr.out, Q_logTerm.out, Q_commit.out, List.eq_nil_of_length_eq_zero Q_es.out]), below_on BA.out hb9 (Nat.le_refl _)⟩
        · have h5 : (el.length : Int) ≠ 0 := by omega
          have e_es : ((el.length : Int) == 0) = false := by simpa using h5
          clear h5
          have Hf : Hid (c = false) := by show _ = _; rw [Bool.eq_false_iff, ne_eq, Hc.out]; simp [show el ≠ [] from fun h => q (by rw [h]; rfl)]
          clear q
          refine WL.start ?_
          iterate 72 (first | (refine WL.skip (by rfl) ?_; simp only [Act.put, List.getElem_toArray, List.getElem_cons_zero, List.getElem_cons_succ, List.setIfInBounds_toArray, List.set_cons_zero, List.set_cons_succ]) | (refine WL.val (v := ?_) (by rfl) ?_ ?_; rotate_left; (focus (go_simp; (try with_reducible rfl))); simp only [Act.put, List.getElem_toArray, List.getElem_cons_zero, List.getElem_cons_succ, List.setIfInBounds_toArray, List.set_cons_zero, List.set_cons_succ]))
          refine WL.nil ?_
          go_wp2_with fail
          go_ret
          exact ⟨by rw [Hf.out]; rfl, BA.out⟩
      · have Hf : Hid (c = false) := by show _ = _; rw [Bool.eq_false_iff, ne_eq, Hc.out]; simp
        refine WL.start ?_
        iterate 72 (first | (refine WL.skip (by rfl) ?_; simp only [Act.put, List.getElem_toArray, List.getElem_cons_zero, List.getElem_cons_succ, List.setIfInBounds_toArray, List.set_cons_zero, List.set_cons_succ]) | (refine WL.val (v := ?_) (by rfl) ?_ ?_; rotate_left; (focus (go_simp; (try with_reducible rfl))); simp only [Act.put, List.getElem_toArray, List.getElem_cons_zero, List.getElem_cons_succ, List.setIfInBounds_toArray, List.set_cons_zero, List.set_cons_succ]))
        refine WL.nil ?_
        go_wp2_with fail
        go_ret
        exact ⟨by rw [Hf.out]; rfl, BA.out⟩
    · have h5 : commit ≠ 0 := by omega
      have e_commit : (commit == 0) = false := by simpa using h5
      clear h5
      have Hf : Hid (c = false) := by show _ = _; rw [Bool.eq_false_iff, ne_eq, Hc.out]; simp [q]
      clear q
      refine WL.start ?_
      iterate 72 (first | (refine WL.skip (by rfl) ?_; simp only [Act.put, List.getElem_toArray, List.getElem_cons_zero, List.getElem_cons_succ, List.setIfInBounds_toArray, List.set_cons_zero, List.set_cons_succ]) | (refine WL.val (v := ?_) (by rfl) ?_ ?_; rotate_left; (focus (go_simp; (try with_reducible rfl))); simp only [Act.put, List.getElem_toArray, List.getElem_cons_zero, List.getElem_cons_succ, List.setIfInBounds_toArray, List.set_cons_zero, List.set_cons_succ]))
      refine WL.nil ?_
      go_wp2_with fail
      go_ret
      exact ⟨by rw [Hf.out]; rfl, BA.out⟩
  · have h5 : logTerm ≠ 0 := by omega
    have e_logTerm : (logTerm == 0) = false := by simpa using h5
    clear h5
    have Hf : Hid (c = false) := by show _ = _; rw [Bool.eq_false_iff, ne_eq, Hc.out]; simp [q]
    clear q
    refine WL.start ?_
    iterate 72 (first | (refine WL.skip (by rfl) ?_; simp only [Act.put, List.getElem_toArray, List.getElem_cons_zero, List.getElem_cons_succ, List.setIfInBounds_toArray, List.set_cons_zero, List.set_cons_succ]) | (refine WL.val (v := ?_) (by rfl) ?_ ?_; rotate_left; (focus (go_simp; (try with_reducible rfl))); simp only [Act.put, List.getElem_toArray, List.getElem_cons_zero, List.getElem_cons_succ, List.setIfInBounds_toArray, List.set_cons_zero, List.set_cons_succ]))
    refine WL.nil ?_
    go_wp2_with fail
    go_ret
    exact ⟨by rw [Hf.out]; rfl, BA.out⟩
set_option maxRecDepth 100000 in
set_option maxHeartbeats 8000000 in
theorem spare_7 (frm dst term index logTerm commit round : Int) (ok force : Bool) (eo : Option Addr) (ec : Nat) (el : List Ep) (si st : Int) (mo : Option Addr) (mc : Nat) (ml : List Int) (ao : Option Addr) (ac : Nat) (d : List UInt8) (w : World) (hmem : Iz w .i64 mo mc ml) (hdat : Bs w ao ac d) (hml : ml.length ≤ 1000000) :
    Calls Try.prog 81 #[.agg #[.int .i64 7, .int .i64 frm, .int .i64 dst, .int .u64 term, .int .u64 index, .int .u64 logTerm, .int .u64 commit, .int .u64 round, .bool ok, .bool force, .slice eo el.length ec, .int .u64 si, .int .u64 st, .slice mo ml.length mc, .slice ao d.length ac]] w fun e w' => e = .returned (.bool (spareM ⟨7, frm, dst, term, index, logTerm, commit, round, ok, force, el.map Ep.e, ⟨si, st, ml, d⟩⟩)) ∧ Below w.heap.size w w' := by
  obtain ⟨c, hc⟩ : ∃ c, c = spareM ⟨7, frm, dst, term, index, logTerm, commit, round, ok, force, el.map Ep.e, ⟨si, st, ml, d⟩⟩ := ⟨_, rfl⟩
  have hiff := spareM_iff (m := ⟨7, frm, dst, term, index, logTerm, commit, round, ok, force, el.map Ep.e, ⟨si, st, ml, d⟩⟩)
  rw [← hc] at hiff ⊢
  clear hc
  simp only [List.length_map] at hiff
  simp at hiff
  have Hc := Lib.hid hiff
  clear hiff
  obtain ⟨W1, hW1⟩ : ∃ W1, W1 = w.alloc (.cells #[.int .i64 7, .int .i64 frm, .int .i64 dst, .int .u64 term, .int .u64 index, .int .u64 logTerm, .int .u64 commit, .int .u64 round, .bool ok, .bool force, .slice eo el.length ec, .int .u64 si, .int .u64 st, .slice mo ml.length mc, .slice ao d.length ac] 37) := ⟨_, rfl⟩
  have hB1 : Below w.heap.size w W1 := by rw [hW1]; exact below_new _ _
  have k1 : W1.heap[w.heap.size]? = some (.cells #[.int .i64 7, .int .i64 frm, .int .i64 dst, .int .u64 term, .int .u64 index, .int .u64 logTerm, .int .u64 commit, .int .u64 round, .bool ok, .bool force, .slice eo el.length ec, .int .u64 si, .int .u64 st, .slice mo ml.length mc, .slice ao d.length ac] 37) := by rw [hW1]; exact heap_alloc_new _ _
  have z1 : W1.heap.size = w.heap.size + 1 := by rw [hW1]; exact World.size_alloc _ _
  obtain ⟨W2, hW2⟩ : ∃ W2, W2 = W1.alloc (.cells #[.bool false, .bool false, .bool false, .bool false, .bool false, .bool false, .bool false] 144) := ⟨_, rfl⟩
  have hB2 : Below W1.heap.size W1 W2 := by rw [hW2]; exact below_new _ _
  have f2 : W2.heap[w.heap.size + 1]? = some (.cells #[.bool false, .bool false, .bool false, .bool false, .bool false, .bool false, .bool false] 144) := by rw [hW2, ← z1]; exact heap_alloc_new _ _
  have k2 := (hB2.block w.heap.size (by omega)).trans k1
  have hBw2 := below_on hB1 hB2 (by omega)
  have p0 : W2.cell? ⟨w.heap.size, 0, none⟩ = some (.int .i64 7) := block_cell k2 0
  have Z1 := Lib.hid z1
  have g3 : W2.cell? ⟨w.heap.size + 1, 4, none⟩ = some (.bool false) := block_cell f2 4
  have e3 : W2.frozen? ⟨w.heap.size + 1, 4, none⟩ = false := block_free f2 4
  have f3 := block_set f2 4 (.bool true)
  simp only [List.setIfInBounds_toArray, List.set_cons_zero, List.set_cons_succ] at f3
  have k3 := (Below.heap_setCell W2 ⟨w.heap.size + 1, 4, none⟩ (.bool true) w.heap.size (by simp only; omega)).trans k2
  have hBw3 : Below w.heap.size w (W2.setCell ⟨w.heap.size + 1, 4, none⟩ (.bool true)) := hBw2.setCell (by simp only; omega) _
  have g4 : (W2.setCell ⟨w.heap.size + 1, 4, none⟩ (.bool true)).cell? ⟨w.heap.size + 1, 6, none⟩ = some (.bool false) := block_cell f3 6
  have e4 : (W2.setCell ⟨w.heap.size + 1, 4, none⟩ (.bool true)).frozen? ⟨w.heap.size + 1, 6, none⟩ = false := block_free f3 6
  have f4 := block_set f3 6 (.bool true)
  simp only [List.setIfInBounds_toArray, List.set_cons_zero, List.set_cons_succ] at f4
  have k4 := (Below.heap_setCell (W2.setCell ⟨w.heap.size + 1, 4, none⟩ (.bool true)) ⟨w.heap.size + 1, 6, none⟩ (.bool true) w.heap.size (by simp only; omega)).trans k3
  have hBw4 : Below w.heap.size w ((W2.setCell ⟨w.heap.size + 1, 4, none⟩ (.bool true)).setCell ⟨w.heap.size + 1, 6, none⟩ (.bool true)) := hBw3.setCell (by simp only; omega) _
  have FA := Lib.hid f4
  have KA := Lib.hid k4
  have BA := Lib.hid hBw4
  clear z1 k1 f2 k2 hBw2 f3 k3 hBw3 f4 k4 hBw4
  go_enter Try.func81, Try.ntmps81
  go_upto_region 3 with fail
  rw [← hW1, ← hW2]
  clear hW1 hW2
  go_upto_region 17 with fail
  obtain ⟨W3, hW3⟩ : ∃ W3, W3 = ((W2.setCell ⟨w.heap.size + 1, 4, none⟩ (.bool true)).setCell ⟨w.heap.size + 1, 6, none⟩ (.bool true)) := ⟨_, rfl⟩
  rw [← hW3] at FA KA BA ⊢
  clear hW3
  have hmem3 := hmem.below BA.out
  have hdat3 := hdat.below BA.out
  obtain ⟨r, hr⟩ : ∃ r, r = decide ((⟨si, st, ml, d⟩ : Sn) = ⟨0, 0, [], []⟩) := ⟨_, rfl⟩
  have hsn := snapSame_any si st 0 0 mo ao none none mc ac 0 0 ml [] d [] W3 hmem3 (Iz.nil _ _) hdat3 (Bs.nil _) hml (by simp)
  rw [← hr] at hsn
  have Hsn := Lib.hid hsn
  have Hr := Lib.hid hr
  clear hsn hr hmem3 hdat3 p0 g3 e3 g4 e4
  have x4 : W3.cell? ⟨w.heap.size, 4, none⟩ = some (.int .u64 index) := block_cell KA.out 4
  have x5 : W3.cell? ⟨w.heap.size, 5, none⟩ = some (.int .u64 logTerm) := block_cell KA.out 5
  have x6 : W3.cell? ⟨w.heap.size, 6, none⟩ = some (.int .u64 commit) := block_cell KA.out 6
  have x7 : W3.cell? ⟨w.heap.size, 7, none⟩ = some (.int .u64 round) := block_cell KA.out 7
  have x8 : W3.cell? ⟨w.heap.size, 8, none⟩ = some (.bool ok) := block_cell KA.out 8
  have x9 : W3.cell? ⟨w.heap.size, 9, none⟩ = some (.bool force) := block_cell KA.out 9
  have x10 : W3.cell? ⟨w.heap.size, 10, none⟩ = some (.slice eo el.length ec) := block_cell KA.out 10
  have x11 : W3.cell? ⟨w.heap.size, 11, none⟩ = some (.int .u64 si) := block_cell KA.out 11
  have x12 : W3.cell? ⟨w.heap.size, 12, none⟩ = some (.int .u64 st) := block_cell KA.out 12
  have x13 : W3.cell? ⟨w.heap.size, 13, none⟩ = some (.slice mo ml.length mc) := block_cell KA.out 13
  have x14 : W3.cell? ⟨w.heap.size, 14, none⟩ = some (.slice ao d.length ac) := block_cell KA.out 14
  have y0 : W3.cell? ⟨w.heap.size + 1, 0, none⟩ = some (.bool false) := block_cell FA.out 0
  have y1 : W3.cell? ⟨w.heap.size + 1, 1, none⟩ = some (.bool false) := block_cell FA.out 1
  have y2 : W3.cell? ⟨w.heap.size + 1, 2, none⟩ = some (.bool false) := block_cell FA.out 2
  have y3 : W3.cell? ⟨w.heap.size + 1, 3, none⟩ = some (.bool false) := block_cell FA.out 3
  have y4 : W3.cell? ⟨w.heap.size + 1, 4, none⟩ = some (.bool true) := block_cell FA.out 4
  have y5 : W3.cell? ⟨w.heap.size + 1, 5, none⟩ = some (.bool false) := block_cell FA.out 5
  have y6 : W3.cell? ⟨w.heap.size + 1, 6, none⟩ = some (.bool true) := block_cell FA.out 6
  by_cases q : index = 0
  · have e_index : (index == 0) = true := by simp [q]
    have Q_index := Lib.hid q
    clear q
    by_cases q : logTerm = 0
    · have e_logTerm : (logTerm == 0) = true := by simp [q]
      have Q_logTerm := Lib.hid q
      clear q
      by_cases q : commit = 0
      · have e_commit : (commit == 0) = true := by simp [q]
        have Q_commit := Lib.hid q
        clear q
        cases ok
        · cases force
          · by_cases q : el.length = 0
            · have e_es : ((el.length : Int) == 0) = true := by simp [q]
              have Q_es := Lib.hid q
              clear q
              have Hf : Hid (c = true) := by show _ = _; rw [Hc.out]; simp [Q_index.out, Q_logTerm.out, Q_commit.out, List.eq_nil_of_length_eq_zero Q_es.out]
              refine WL.start ?_
              iterate 72 (first | (refine WL.skip (by rfl) ?_; simp only [Act.put, List.getElem_toArray, List.getElem_cons_zero, List.getElem_cons_succ, List.setIfInBounds_toArray, List.set_cons_zero, List.set_cons_succ]) | (refine WL.val (v := ?_) (by rfl) ?_ ?_; rotate_left; (focus (go_simp; (try with_reducible rfl))); simp only [Act.put, List.getElem_toArray, List.getElem_cons_zero, List.getElem_cons_succ, List.setIfInBounds_toArray, List.set_cons_zero, List.set_cons_succ]))
              refine WL.nil ?_
              go_wp2_with fail
              go_ret
              exact ⟨by rw [Hf.out]; rfl, BA.out⟩
            · have h5 : (el.length : Int) ≠ 0 := by omega
              have e_es : ((el.length : Int) == 0) = false := by simpa using h5
              clear h5
              have Hf : Hid (c = false) := by show _ = _; rw [Bool.eq_false_iff, ne_eq, Hc.out]; simp [show el ≠ [] from fun h => q (by rw [h]; rfl)]
              clear q
              refine WL.start ?_
              iterate 72 (first | (refine WL.skip (by rfl) ?_; simp only [Act.put, List.getElem_toArray, List.getElem_cons_zero, List.getElem_cons_succ, List.setIfInBounds_toArray, List.set_cons_zero, List.set_cons_succ]) | (refine WL.val (v := ?_) (by rfl) ?_ ?_; rotate_left; (focus (go_simp; (try with_reducible rfl))); simp only [Act.put, List.getElem_toArray, List.getElem_cons_zero, List.getElem_cons_succ, List.setIfInBounds_toArray, List.set_cons_zero, List.set_cons_succ]))
              refine WL.nil ?_
              go_wp2_with fail
              go_ret
              exact ⟨by rw [Hf.out]; rfl, BA.out⟩
          · have Hf : Hid (c = false) := by show _ = _; rw [Bool.eq_false_iff, ne_eq, Hc.out]; simp
            refine WL.start ?_
            iterate 72 (first | (refine WL.skip (by rfl) ?_; simp only [Act.put, List.getElem_toArray, List.getElem_cons_zero, List.getElem_cons_succ, List.setIfInBounds_toArray, List.set_cons_zero, List.set_cons_succ]) | (refine WL.val (v := ?_) (by rfl) ?_ ?_; rotate_left; (focus (go_simp; (try with_reducible rfl))); simp only [Act.put, List.getElem_toArray, List.getElem_cons_zero, List.getElem_cons_succ, List.setIfInBounds_toArray, List.set_cons_zero, List.set_cons_succ]))
            refine WL.nil ?_
            go_wp2_with fail
            go_ret
            exact ⟨by rw [Hf.out]; rfl, BA.out⟩
        · have Hf : Hid (c = false) := by show _ = _; rw [Bool.eq_false_iff, ne_eq, Hc.out]; simp
          refine WL.start ?_
          iterate 72 (first | (refine WL.skip (by rfl) ?_; simp only [Act.put, List.getElem_toArray, List.getElem_cons_zero, List.getElem_cons_succ, List.setIfInBounds_toArray, List.set_cons_zero, List.set_cons_succ]) | (refine WL.val (v := ?_) (by rfl) ?_ ?_; rotate_left; (focus (go_simp; (try with_reducible rfl))); simp only [Act.put, List.getElem_toArray, List.getElem_cons_zero, List.getElem_cons_succ, List.setIfInBounds_toArray, List.set_cons_zero, List.set_cons_succ]))
          refine WL.nil ?_
          go_wp2_with fail
          go_ret
          exact ⟨by rw [Hf.out]; rfl, BA.out⟩
      · have h5 : commit ≠ 0 := by omega
        have e_commit : (commit == 0) = false := by simpa using h5
        clear h5
        have Hf : Hid (c = false) := by show _ = _; rw [Bool.eq_false_iff, ne_eq, Hc.out]; simp [q]
        clear q
        refine WL.start ?_
        iterate 72 (first | (refine WL.skip (by rfl) ?_; simp only [Act.put, List.getElem_toArray, List.getElem_cons_zero, List.getElem_cons_succ, List.setIfInBounds_toArray, List.set_cons_zero, List.set_cons_succ]) | (refine WL.val (v := ?_) (by rfl) ?_ ?_; rotate_left; (focus (go_simp; (try with_reducible rfl))); simp only [Act.put, List.getElem_toArray, List.getElem_cons_zero, List.getElem_cons_succ, List.setIfInBounds_toArray, List.set_cons_zero, List.set_cons_succ]))
        refine WL.nil ?_
        go_wp2_with fail
        go_ret
        exact ⟨by rw [Hf.out]; rfl, BA.out⟩
    · have h5 : logTerm ≠ 0 := by omega
      have e_logTerm : (logTerm == 0) = false := by simpa using h5
      clear h5
      have Hf : Hid (c = false) := by show _ = _; rw [Bool.eq_false_iff, ne_eq, Hc.out]; simp [q]
      clear q
      refine WL.start ?_
      iterate 72 (first | (refine WL.skip (by rfl) ?_; simp only [Act.put, List.getElem_toArray, List.getElem_cons_zero, List.getElem_cons_succ, List.setIfInBounds_toArray, List.set_cons_zero, List.set_cons_succ]) | (refine WL.val (v := ?_) (by rfl) ?_ ?_; rotate_left; (focus (go_simp; (try with_reducible rfl))); simp only [Act.put, List.getElem_toArray, List.getElem_cons_zero, List.getElem_cons_succ, List.setIfInBounds_toArray, List.set_cons_zero, List.set_cons_succ]))
      refine WL.nil ?_
      go_wp2_with fail
      go_ret
      exact ⟨by rw [Hf.out]; rfl, BA.out⟩
  · have h5 : index ≠ 0 := by omega
    have e_index : (index == 0) = false := by simpa using h5
    clear h5
    have Hf : Hid (c = false) := by show _ = _; rw [Bool.eq_false_iff, ne_eq, Hc.out]; simp [q]
    clear q
    refine WL.start ?_
    iterate 72 (first | (refine WL.skip (by rfl) ?_; simp only [Act.put, List.getElem_toArray, List.getElem_cons_zero, List.getElem_cons_succ, List.setIfInBounds_toArray, List.set_cons_zero, List.set_cons_succ]) | (refine WL.val (v := ?_) (by rfl) ?_ ?_; rotate_left; (focus (go_simp; (try with_reducible rfl))); simp only [Act.put, List.getElem_toArray, List.getElem_cons_zero, List.getElem_cons_succ, List.setIfInBounds_toArray, List.set_cons_zero, List.set_cons_succ]))
    refine WL.nil ?_
    go_wp2_with fail
    go_ret
    exact ⟨by rw [Hf.out]; rfl, BA.out⟩
end Go.Proofs.Ytbmkgcoolofmpaa
