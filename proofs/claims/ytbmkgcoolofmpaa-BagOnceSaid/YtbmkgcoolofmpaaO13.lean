/- Lemmas for BagOnce (Mf4 Mh). No statement of the seat is proved here. -/
import Derived.Test.YtbmkgcoolofmpaaO4
import Derived.Test.YtbmkgcoolofmpaaO10
import Derived.Test.YtbmkgcoolofmpaaO11
import Derived.Test.YtbmkgcoolofmpaaO12
namespace Go.Proofs.Ytbmkgcoolofmpaa
set_option linter.unusedVariables false
set_option linter.unusedSimpArgs false
set_option linter.unusedSectionVars false
open Go Go.RowKit Go.Shelf
set_option maxRecDepth 100000 in
set_option maxHeartbeats 8000000 in
theorem spare_o (kind frm dst term index logTerm commit round : Int) (ok force : Bool) (eo : Option Addr) (ec : Nat) (el : List Ep) (si st : Int) (mo : Option Addr) (mc : Nat) (ml : List Int) (ao : Option Addr) (ac : Nat) (d : List UInt8) (w : World) (hmem : Iz w .i64 mo mc ml) (hdat : Bs w ao ac d) (hml : ml.length ≤ 1000000) (n1 : kind ≠ 1) (n2 : kind ≠ 2) (n3 : kind ≠ 3) (n4 : kind ≠ 4) (n5 : kind ≠ 5) (n6 : kind ≠ 6) (n7 : kind ≠ 7) :
    Calls Try.prog 81 #[.agg #[.int .i64 kind, .int .i64 frm, .int .i64 dst, .int .u64 term, .int .u64 index, .int .u64 logTerm, .int .u64 commit, .int .u64 round, .bool ok, .bool force, .slice eo el.length ec, .int .u64 si, .int .u64 st, .slice mo ml.length mc, .slice ao d.length ac]] w fun e w' => e = .returned (.bool (spareM ⟨kind, frm, dst, term, index, logTerm, commit, round, ok, force, el.map Ep.e, ⟨si, st, ml, d⟩⟩)) ∧ Below w.heap.size w w' := by
  obtain ⟨c, hc⟩ : ∃ c, c = spareM ⟨kind, frm, dst, term, index, logTerm, commit, round, ok, force, el.map Ep.e, ⟨si, st, ml, d⟩⟩ := ⟨_, rfl⟩
  have hiff := spareM_iff (m := ⟨kind, frm, dst, term, index, logTerm, commit, round, ok, force, el.map Ep.e, ⟨si, st, ml, d⟩⟩)
  rw [← hc] at hiff ⊢
  clear hc
  simp only [List.length_map] at hiff
  simp only [n1, n2, n3, n4, n5, n6, n7, false_or, or_self] at hiff
  have b1 : (kind == 1) = false := by simpa using n1
  have b2 : (kind == 2) = false := by simpa using n2
  have b3 : (kind == 3) = false := by simpa using n3
  have b4 : (kind == 4) = false := by simpa using n4
  have b5 : (kind == 5) = false := by simpa using n5
  have b6 : (kind == 6) = false := by simpa using n6
  have b7 : (kind == 7) = false := by simpa using n7
  clear n1 n2 n3 n4 n5 n6 n7
  have Hc := Lib.hid hiff
  clear hiff
  obtain ⟨W1, hW1⟩ : ∃ W1, W1 = w.alloc (.cells #[.int .i64 kind, .int .i64 frm, .int .i64 dst, .int .u64 term, .int .u64 index, .int .u64 logTerm, .int .u64 commit, .int .u64 round, .bool ok, .bool force, .slice eo el.length ec, .int .u64 si, .int .u64 st, .slice mo ml.length mc, .slice ao d.length ac] 37) := ⟨_, rfl⟩
  have hB1 : Below w.heap.size w W1 := by rw [hW1]; exact below_new _ _
  have k1 : W1.heap[w.heap.size]? = some (.cells #[.int .i64 kind, .int .i64 frm, .int .i64 dst, .int .u64 term, .int .u64 index, .int .u64 logTerm, .int .u64 commit, .int .u64 round, .bool ok, .bool force, .slice eo el.length ec, .int .u64 si, .int .u64 st, .slice mo ml.length mc, .slice ao d.length ac] 37) := by rw [hW1]; exact heap_alloc_new _ _
  have z1 : W1.heap.size = w.heap.size + 1 := by rw [hW1]; exact World.size_alloc _ _
  obtain ⟨W2, hW2⟩ : ∃ W2, W2 = W1.alloc (.cells #[.bool false, .bool false, .bool false, .bool false, .bool false, .bool false, .bool false] 144) := ⟨_, rfl⟩
  have hB2 : Below W1.heap.size W1 W2 := by rw [hW2]; exact below_new _ _
  have f2 : W2.heap[w.heap.size + 1]? = some (.cells #[.bool false, .bool false, .bool false, .bool false, .bool false, .bool false, .bool false] 144) := by rw [hW2, ← z1]; exact heap_alloc_new _ _
  have k2 := (hB2.block w.heap.size (by omega)).trans k1
  have hBw2 := below_on hB1 hB2 (by omega)
  have p0 : W2.cell? ⟨w.heap.size, 0, none⟩ = some (.int .i64 kind) := block_cell k2 0
  have Z1 := Lib.hid z1
  have FA := Lib.hid f2
  have KA := Lib.hid k2
  have BA := Lib.hid hBw2
  clear z1 k1 f2 k2 hBw2
  go_enter Try.func81, Try.ntmps81
  go_upto_region 3 with fail
  rw [← hW1, ← hW2]
  clear hW1 hW2
  go_upto_region 17 with fail
  obtain ⟨W3, hW3⟩ : ∃ W3, W3 = W2 := ⟨_, rfl⟩
  rw [← hW3] at FA KA BA ⊢
  clear hW3
  have hmem3 := hmem.below BA.out
  have hdat3 := hdat.below BA.out
  obtain ⟨r, hr⟩ : ∃ r, r = decide ((⟨si, st, ml, d⟩ : Sn) = ⟨0, 0, [], []⟩) := ⟨_, rfl⟩
  have hsn := snapSame_any si st 0 0 mo ao none none mc ac 0 0 ml [] d [] W3 hmem3 (Iz.nil _ _) hdat3 (Bs.nil _) hml (by simp)
  rw [← hr] at hsn
  have Hsn := Lib.hid hsn
  have Hr := Lib.hid hr
  clear hsn hr hmem3 hdat3 p0 
  have x4 : W3.cell? ⟨w.heap.size, 4, none⟩ = some (.int .u64 index) := block_cell KA.out 4
  have x5 : W3.cell? ⟨w.heap.size, 5, none⟩ = some (.int .u64 logTerm) := block_cell KA.out 5
  have x6 : W3.cell? ⟨w.heap.size, 6, none⟩ = some (.int .u64 commit) := block_cell KA.out 6
  have x7 : W3.cell? ⟨w.heap.size, 7, none⟩ = some (.int .u64 round) := block_cell KA.out 7
  have x8 : W3.cell? ⟨w.heap.size, 8, none⟩ = some (.bool ok) := block_cell KA.out 8
  have x9 : W3.cell? ⟨w.heap.size, 9, none⟩ = some (.bool force) := block_cell KA.out 9
  have x10 : W3.cell? ⟨w.heap.size, 10, none⟩ = some (.slice eo el.length ec) := block_cell KA.out 10
  have x11 : W3.cell? ⟨w.heap.size, 11, none⟩ = some (.int .u64 si) := block_cell KA.out 11
  have x12 : W3.cell? ⟨w.heap.size, 12, none⟩ = some (.int .u64 st) := block_cell KA.out 12
  have x13 : W3.cell? ⟨w.heap.size, 13, none⟩ = some (.slice mo ml.length mc) := block_cell KA.out 13
  have x14 : W3.cell? ⟨w.heap.size, 14, none⟩ = some (.slice ao d.length ac) := block_cell KA.out 14
  have y0 : W3.cell? ⟨w.heap.size + 1, 0, none⟩ = some (.bool false) := block_cell FA.out 0
  have y1 : W3.cell? ⟨w.heap.size + 1, 1, none⟩ = some (.bool false) := block_cell FA.out 1
  have y2 : W3.cell? ⟨w.heap.size + 1, 2, none⟩ = some (.bool false) := block_cell FA.out 2
  have y3 : W3.cell? ⟨w.heap.size + 1, 3, none⟩ = some (.bool false) := block_cell FA.out 3
  have y4 : W3.cell? ⟨w.heap.size + 1, 4, none⟩ = some (.bool false) := block_cell FA.out 4
  have y5 : W3.cell? ⟨w.heap.size + 1, 5, none⟩ = some (.bool false) := block_cell FA.out 5
  have y6 : W3.cell? ⟨w.heap.size + 1, 6, none⟩ = some (.bool false) := block_cell FA.out 6
  by_cases q : index = 0
  · have e_index : (index == 0) = true := by simp [q]
    have Q_index := Lib.hid q
    clear q
    by_cases q : logTerm = 0
    · have e_logTerm : (logTerm == 0) = true := by simp [q]
      have Q_logTerm := Lib.hid q
      clear q
      by_cases q : commit = 0
      · have e_commit : (commit == 0) = true := by simp [q]
        have Q_commit := Lib.hid q
        clear q
        by_cases q : round = 0
        · have e_round : (round == 0) = true := by simp [q]
          have Q_round := Lib.hid q
          clear q
          cases ok
          · cases force
            · by_cases q : el.length = 0
              · have e_es : ((el.length : Int) == 0) = true := by simp [q]
                have Q_es := Lib.hid q
                clear q
                refine WL.start ?_
                iterate 68 (first | (refine WL.skip (by rfl) ?_; simp only [Act.put, List.getElem_toArray, List.getElem_cons_zero, List.getElem_cons_succ, List.setIfInBounds_toArray, List.set_cons_zero, List.set_cons_succ]) | (refine WL.val (v := ?_) (by rfl) ?_ ?_; rotate_left; (focus (go_simp; (try with_reducible rfl))); simp only [Act.put, List.getElem_toArray, List.getElem_cons_zero, List.getElem_cons_succ, List.setIfInBounds_toArray, List.set_cons_zero, List.set_cons_succ]))
                refine WL.any (by rfl) (fun K hK => ?_)
                go_simp
                go_at_call 41
                refine Hsn.out.mono ?_
                rintro e w9 ⟨rfl, hb9⟩
                refine hK.out _ _ ?_
                clear hK K
                try simp only [Act.put, List.getElem_toArray, List.getElem_cons_zero, List.getElem_cons_succ, List.setIfInBounds_toArray, List.set_cons_zero, List.set_cons_succ]
                iterate 3 (first | (refine WL.skip (by rfl) ?_; simp only [Act.put, List.getElem_toArray, List.getElem_cons_zero, List.getElem_cons_succ, List.setIfInBounds_toArray, List.set_cons_zero, List.set_cons_succ]) | (refine WL.val (v := ?_) (by rfl) ?_ ?_; rotate_left; (focus (go_simp; (try with_reducible rfl))); simp only [Act.put, List.getElem_toArray, List.getElem_cons_zero, List.getElem_cons_succ, List.setIfInBounds_toArray, List.set_cons_zero, List.set_cons_succ]))
                refine WL.nil ?_
                go_wp2_with fail
                go_ret
                exact ⟨ret_bool (by rw [Bool.eq_iff_iff, Hc.out]; simp [Hr.out, Q_index.out, Q_logTerm.out, Q_commit.out, Q_round.out, List.eq_nil_of_length_eq_zero Q_es.out]), below_on BA.out hb9 (Nat.le_refl _)⟩
              · have h5 : (el.length : Int) ≠ 0 := by omega
                have e_es : ((el.length : Int) == 0) = false := by simpa using h5
                clear h5
                have Hf : Hid (c = false) := by show _ = _; rw [Bool.eq_false_iff, ne_eq, Hc.out]; simp [show el ≠ [] from fun h => q (by rw [h]; rfl)]
                clear q
                refine WL.start ?_
                iterate 72 (first | (refine WL.skip (by rfl) ?_; simp only [Act.put, List.getElem_toArray, List.getElem_cons_zero, List.getElem_cons_succ, List.setIfInBounds_toArray, List.set_cons_zero, List.set_cons_succ]) | (refine WL.val (v := ?_) (by rfl) ?_ ?_; rotate_left; (focus (go_simp; (try with_reducible rfl))); simp only [Act.put, List.getElem_toArray, List.getElem_cons_zero, List.getElem_cons_succ, List.setIfInBounds_toArray, List.set_cons_zero, List.set_cons_succ]))
                refine WL.nil ?_
                go_wp2_with fail
                go_ret
                exact ⟨by rw [Hf.out]; rfl, BA.out⟩
            · have Hf : Hid (c = false) := by show _ = _; rw [Bool.eq_false_iff, ne_eq, Hc.out]; simp
              refine WL.start ?_
              iterate 72 (first | (refine WL.skip (by rfl) ?_; simp only [Act.put, List.getElem_toArray, List.getElem_cons_zero, List.getElem_cons_succ, List.setIfInBounds_toArray, List.set_cons_zero, List.set_cons_succ]) | (refine WL.val (v := ?_) (by rfl) ?_ ?_; rotate_left; (focus (go_simp; (try with_reducible rfl))); simp only [Act.put, List.getElem_toArray, List.getElem_cons_zero, List.getElem_cons_succ, List.setIfInBounds_toArray, List.set_cons_zero, List.set_cons_succ]))
              refine WL.nil ?_
              go_wp2_with fail
              go_ret
              exact ⟨by rw [Hf.out]; rfl, BA.out⟩
          · have Hf : Hid (c = false) := by show _ = _; rw [Bool.eq_false_iff, ne_eq, Hc.out]; simp
            refine WL.start ?_
            iterate 72 (first | (refine WL.skip (by rfl) ?_; simp only [Act.put, List.getElem_toArray, List.getElem_cons_zero, List.getElem_cons_succ, List.setIfInBounds_toArray, List.set_cons_zero, List.set_cons_succ]) | (refine WL.val (v := ?_) (by rfl) ?_ ?_; rotate_left; (focus (go_simp; (try with_reducible rfl))); simp only [Act.put, List.getElem_toArray, List.getElem_cons_zero, List.getElem_cons_succ, List.setIfInBounds_toArray, List.set_cons_zero, List.set_cons_succ]))
            refine WL.nil ?_
            go_wp2_with fail
            go_ret
            exact ⟨by rw [Hf.out]; rfl, BA.out⟩
        · have h5 : round ≠ 0 := by omega
          have e_round : (round == 0) = false := by simpa using h5
          clear h5
          have Hf : Hid (c = false) := by show _ = _; rw [Bool.eq_false_iff, ne_eq, Hc.out]; simp [q]
          clear q
          refine WL.start ?_
          iterate 72 (first | (refine WL.skip (by rfl) ?_; simp only [Act.put, List.getElem_toArray, List.getElem_cons_zero, List.getElem_cons_succ, List.setIfInBounds_toArray, List.set_cons_zero, List.set_cons_succ]) | (refine WL.val (v := ?_) (by rfl) ?_ ?_; rotate_left; (focus (go_simp; (try with_reducible rfl))); simp only [Act.put, List.getElem_toArray, List.getElem_cons_zero, List.getElem_cons_succ, List.setIfInBounds_toArray, List.set_cons_zero, List.set_cons_succ]))
          refine WL.nil ?_
          go_wp2_with fail
          go_ret
          exact ⟨by rw [Hf.out]; rfl, BA.out⟩
      · have h5 : commit ≠ 0 := by omega
        have e_commit : (commit == 0) = false := by simpa using h5
        clear h5
        have Hf : Hid (c = false) := by show _ = _; rw [Bool.eq_false_iff, ne_eq, Hc.out]; simp [q]
        clear q
        refine WL.start ?_
        iterate 72 (first | (refine WL.skip (by rfl) ?_; simp only [Act.put, List.getElem_toArray, List.getElem_cons_zero, List.getElem_cons_succ, List.setIfInBounds_toArray, List.set_cons_zero, List.set_cons_succ]) | (refine WL.val (v := ?_) (by rfl) ?_ ?_; rotate_left; (focus (go_simp; (try with_reducible rfl))); simp only [Act.put, List.getElem_toArray, List.getElem_cons_zero, List.getElem_cons_succ, List.setIfInBounds_toArray, List.set_cons_zero, List.set_cons_succ]))
        refine WL.nil ?_
        go_wp2_with fail
        go_ret
        exact ⟨by rw [Hf.out]; rfl, BA.out⟩
    · have h5 : logTerm ≠ 0 := by omega
      have e_logTerm : (logTerm == 0) = false := by simpa using h5
      clear h5
      have Hf : Hid (c = false) := by show _ = _; rw [Bool.eq_false_iff, ne_eq, Hc.out]; simp [q]
      clear q
      refine WL.start ?_
      iterate 72 (first | (refine WL.skip (by rfl) ?_; simp only [Act.put, List.getElem_toArray, List.getElem_cons_zero, List.getElem_cons_succ, List.setIfInBounds_toArray, List.set_cons_zero, List.set_cons_succ]) | (refine WL.val (v := ?_) (by rfl) ?_ ?_; rotate_left; (focus (go_simp; (try with_reducible rfl))); simp only [Act.put, List.getElem_toArray, List.getElem_cons_zero, List.getElem_cons_succ, List.setIfInBounds_toArray, List.set_cons_zero, List.set_cons_succ]))
      refine WL.nil ?_
      go_wp2_with fail
      go_ret
      exact ⟨by rw [Hf.out]; rfl, BA.out⟩
  · have h5 : index ≠ 0 := by omega
    have e_index : (index == 0) = false := by simpa using h5
    clear h5
    have Hf : Hid (c = false) := by show _ = _; rw [Bool.eq_false_iff, ne_eq, Hc.out]; simp [q]
    clear q
    refine WL.start ?_
    iterate 72 (first | (refine WL.skip (by rfl) ?_; simp only [Act.put, List.getElem_toArray, List.getElem_cons_zero, List.getElem_cons_succ, List.setIfInBounds_toArray, List.set_cons_zero, List.set_cons_succ]) | (refine WL.val (v := ?_) (by rfl) ?_ ?_; rotate_left; (focus (go_simp; (try with_reducible rfl))); simp only [Act.put, List.getElem_toArray, List.getElem_cons_zero, List.getElem_cons_succ, List.setIfInBounds_toArray, List.set_cons_zero, List.set_cons_succ]))
    refine WL.nil ?_
    go_wp2_with fail
    go_ret
    exact ⟨by rw [Hf.out]; rfl, BA.out⟩
end Go.Proofs.Ytbmkgcoolofmpaa
namespace Go.Proofs.Ytbmkgcoolofmpaa
set_option linter.unusedVariables false
set_option linter.unusedSimpArgs false
set_option linter.unusedSectionVars false
open Go Go.RowKit Go.Shelf
theorem spare_any (x : Mp) (w : World) (h : MpAt w x) (hml : x.ml.length ≤ 1000000) :
    Calls Try.prog 81 #[.agg (mpA x)] w fun e w' => e = .returned (.bool (spareM x.v)) ∧ Below w.heap.size w w' := by
  obtain ⟨kind, frm, dst, term, index, logTerm, commit, round, ok, force, eo, ec, el, si, st, mo, mc, ml, ao, ac, d⟩ := x
  obtain ⟨hen, hmem, hdat⟩ := h
  simp only at hmem hdat hml
  dsimp only [mpA, Mp.v]
  by_cases k1 : kind = 1
  · subst k1; exact spare_1 _ _ _ _ _ _ _ _ _ _ _ _ _ _ _ _ _ _ _ _ w hmem hdat hml
  by_cases k2 : kind = 2
  · subst k2; exact spare_2 _ _ _ _ _ _ _ _ _ _ _ _ _ _ _ _ _ _ _ _ w hmem hdat hml
  by_cases k3 : kind = 3
  · subst k3; exact spare_3 _ _ _ _ _ _ _ _ _ _ _ _ _ _ _ _ _ _ _ _ w hmem hdat hml
  by_cases k4 : kind = 4
  · subst k4; exact spare_4 _ _ _ _ _ _ _ _ _ _ _ _ _ _ _ _ _ _ _ _ w hmem hdat hml
  by_cases k5 : kind = 5
  · subst k5; exact spare_5 _ _ _ _ _ _ _ _ _ _ _ _ _ _ _ _ _ _ _ _ w hmem hdat hml
  by_cases k6 : kind = 6
  · subst k6; exact spare_6 _ _ _ _ _ _ _ _ _ _ _ _ _ _ _ _ _ _ _ _ w hmem hdat hml
  by_cases k7 : kind = 7
  · subst k7; exact spare_7 _ _ _ _ _ _ _ _ _ _ _ _ _ _ _ _ _ _ _ _ w hmem hdat hml
  exact spare_o kind _ _ _ _ _ _ _ _ _ _ _ _ _ _ _ _ _ _ _ _ w hmem hdat hml k1 k2 k3 k4 k5 k6 k7
set_option maxRecDepth 100000 in
theorem node_any (n : Int) (w : World) : Calls Try.prog 78 #[.int .i64 n] w fun e w' => e = .returned (.bool (decide (0 ≤ n ∧ n ≤ 6))) ∧ w = w' := by
  obtain ⟨c, hc⟩ : ∃ c, c = decide (0 ≤ n ∧ n ≤ 6) := ⟨_, rfl⟩
  have hiff : c = true ↔ (0 ≤ n ∧ n ≤ 6) := by rw [hc]; simp
  rw [← hc]
  have Hc := Lib.hid hiff
  clear hiff hc
  go_enter Try.func78, Try.ntmps78
  go_wp2_with fail
  all_goals
    go_ret
    refine ⟨ret_bool ?_, rfl⟩
    rw [Bool.eq_iff_iff, Hc.out]
    simp only [decide_eq_true_eq, Bool.false_eq_true, false_iff]
    omega
end Go.Proofs.Ytbmkgcoolofmpaa
