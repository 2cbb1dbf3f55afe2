/- Lemmas for WireReads (Ne). No statement of the seat is proved here. -/
import Derived.Test.YtlphpjgiaflfkaaWv15
namespace Go.Proofs.Ytlphpjgiaflfkaa
set_option linter.unusedVariables false
set_option linter.unusedSimpArgs false
set_option linter.unusedSectionVars false
open Go Go.RowKit Go.Shelf
/-- the example's message -/
def exM : Mp := ⟨8, 0, 1, 3, 0, 0, 0, 0, false, false, none, 0, [], 0, 0, none, 0, [], none, 0, []⟩
theorem exM_sound : soundM exM.v = true := by decide +kernel
theorem exM_bytes : (wireB exM.v).length = 15 ∧ ((wireB exM.v).take 12).drop 5 = [1, 8, 0, 1, 1, 1, 3] := by
  have h : wireB exM.v = Fr.wrapped 5 ([1, 8] ++ [0] ++ [1, 1] ++ [1, 3]) := by
    unfold wireB bodyB fieldsB exM Mp.v
    simp [numsB, numB, digs_zero, digs_pos]
  rw [h]
  decide +kernel
set_option maxRecDepth 100000 in
set_option maxHeartbeats 4000000 in
theorem lives30_any (w : World) : Calls Try.prog 24 #[] w fun e w' => e = .returned (.bool true) ∧ Below w.heap.size w w' := by
  have hby := fun W => wireBytes_ok exM W ⟨⟨(Bs.nil W).1 ▸ (⟨by simp [exM], by simp [exM], by decide, fun _ => rfl, fun j u hu => by simp [exM] at hu⟩), fun x hx => by simp [exM] at hx⟩, Iz.nil W .i64, Bs.nil W⟩ ⟨by decide, by decide, by decide, by decide⟩ (by decide) exM_sound
  obtain ⟨h1, h2⟩ := exM_bytes
  obtain ⟨B, hB⟩ : ∃ B, B = wireB exM.v := ⟨_, rfl⟩
  simp only [← hB] at hby
  rw [← hB] at h1 h2
  clear hB
  unfold exM at hby
  dsimp only [mpA, List.length_nil] at hby
  have Hby := Lib.hid hby
  have H1 := Lib.hid h1
  have H2 := Lib.hid h2
  clear hby h2
  have h1i : ((B.length : Int) == 15) = true := by rw [h1]; rfl
  clear h1
  go_enter Try.func24, Try.ntmps24
  go_wp2_with fail
  refine (Hby.out _).mono ?_
  rintro e w1 ⟨a1, c1, rfl, hf1⟩
  have hb1 := Bs.of_own hf1.own
  have hB1 := hf1.bel
  have hge : 12 ≤ B.length := by have := H1.out; omega
  go_wp2_with ((with_reducible show wpList _ _ _ (⟨_, Op.slice _ (.tmp 16) _ _ _, _, _, _, _⟩ :: _) _ _); refine wpl_slice_bs rfl (.tmp 16) (some (.const (.int .i64 5))) (some (.const (.int .i64 12))) 22 5 rfl Try.underlying22 sizeU8 _ _ B rfl hb1 5 12 (.inl ⟨_, rfl, rfl⟩) (.inl ⟨_, rfl, rfl⟩) (by omega) ?_ ?_; omega; intro a2 c2 l2 hl2 hlen2 hb2; obtain rfl : l2 = [1, 8, 0, 1, 1, 1, 3] := hl2.out.trans H2.out; have hcv : (convert 22 9 (.slice a2 7 c2)).run Try.prog w1 = .ok (.string ⟨#[1, 8, 0, 1, 1, 1, 3]⟩) w1 := conv_any hb2)
  go_ret
  exact ⟨rfl, hB1⟩
/-- the numbers of an argument are no less than 0 -/
def MsgOk (x : Mp) : Prop := 0 ≤ x.index ∧ 0 ≤ x.logTerm ∧ 0 ≤ x.commit ∧ 0 ≤ x.round
def LightM (x : Mp) : Prop := (∀ y ∈ x.el, y.e.data.length ≤ 5000) ∧ x.el.length ≤ 20 ∧ x.ml.length ≤ 30 ∧ x.d.length ≤ 33000
instance (x : Mp) : Decidable (LightM x) := by unfold LightM; exact inferInstance
set_option maxRecDepth 100000 in
set_option maxHeartbeats 4000000 in
theorem light30_any (x : Mp) (w : World) (h : MpAt w x) :
    Calls Try.prog 23 #[.agg (mpA x)] w fun e w' => e = .returned (.bool (decide (LightM x))) ∧ Below w.heap.size w w' := by
  obtain ⟨c, hc⟩ : ∃ c, c = decide (LightM x) := ⟨_, rfl⟩
  rw [← hc]
  have hiff : c = true ↔ ((∀ y ∈ x.el, y.e.data.length ≤ 5000) ∧ x.el.length ≤ 20 ∧ x.ml.length ≤ 30 ∧ x.d.length ≤ 33000) := by rw [hc]; exact decide_eq_true_iff
  have Hc := Lib.hid hiff
  clear hc hiff
  obtain ⟨hens, hmem, hdat⟩ := h
  have hmx : x.el.length ≤ maxLen := Nat.le_trans hens.sl.le hens.sl.max
  unfold maxLen at hmx
  clear hmem hdat
  obtain ⟨kind, frm, dst, term, index, logTerm, commit, round, ok, force, eo, ec, el, si, st, mo, mc, ml, ao, ac, d⟩ := x
  dsimp only [mpA] at Hc hens hmx ⊢
  obtain ⟨W1, hW1⟩ : ∃ W1, W1 = w.alloc (.cells #[.int .i64 kind, .int .i64 frm, .int .i64 dst, .int .u64 term, .int .u64 index, .int .u64 logTerm, .int .u64 commit, .int .u64 round, .bool ok, .bool force, .slice eo el.length ec, .int .u64 si, .int .u64 st, .slice mo ml.length mc, .slice ao d.length ac] 49) := ⟨_, rfl⟩
  have hB1 : Below w.heap.size w W1 := by rw [hW1]; exact below_new _ _
  have k1 : W1.heap[w.heap.size]? = some (.cells #[.int .i64 kind, .int .i64 frm, .int .i64 dst, .int .u64 term, .int .u64 index, .int .u64 logTerm, .int .u64 commit, .int .u64 round, .bool ok, .bool force, .slice eo el.length ec, .int .u64 si, .int .u64 st, .slice mo ml.length mc, .slice ao d.length ac] 49) := by rw [hW1]; exact heap_alloc_new _ _
  have z1 : w.heap.size < W1.heap.size := (Array.getElem?_eq_some_iff.1 k1).1
  have hens1 := hens.below hB1
  have p10 : W1.cell? ⟨w.heap.size, 10, none⟩ = some (.slice eo el.length ec) := block_cell k1 10
  go_enter Try.func23, Try.ntmps23
  go_upto_region 1 with fail
  rw [← hW1]
  clear hW1
  go_wp2_with fail
  clear p10
  go_loopw [8] (fun u wr => ∃ i : Nat, u = .int .i64 (i : Nat) ∧ i ≤ el.length ∧ Hid (∀ x ∈ el.take i, x.e.data.length ≤ 5000) ∧ Below W1.heap.size W1 wr) (fun u _ => el.length - (intOf u).toNat)
  case atStart => exact ⟨0, rfl, Nat.zero_le _, Lib.hid (by simp), Below.refl _ _⟩
  case round =>
    obtain ⟨i, rfl, hi, Hinv, hB⟩ := hrel
    by_cases hlt : i < el.length
    · have g1 := hens1.below hB
      obtain ⟨b1, o1, rfl, p0, p1, p2⟩ := g1.get i hlt
      have i0 : (0 : Int) ≤ (i : Int) := by omega
      have i1 : (i : Int) < (el.length : Int) := by omega
      have hz := hB.size
      by_cases h5 : el[i].e.data.length ≤ 5000
      · have h5b : ¬ (5000 : Int) < (el[i].e.data.length : Int) := by omega
        have hnext : ∀ x ∈ el.take (i + 1), x.e.data.length ≤ 5000 := by
          rw [List.take_succ_eq_append_getElem hlt]
          intro x hx
          rcases List.mem_append.1 hx with hx | hx
          · exact Hinv.out x hx
          · simp at hx; subst hx; exact h5
        have Hnext := Lib.hid hnext
        clear hnext h5
        go_wp2_with fail
        go_roundw
        case rel => exact ⟨i + 1, by simp, by omega, Hnext, hB.alloc hz _⟩
        case measure => simp [intOf]; omega
      · have h5b : (5000 : Int) < (el[i].e.data.length : Int) := by omega
        have hcf : Hid (c = false) := by
          show _ = _
          rw [Bool.eq_false_iff, ne_eq, Hc.out]
          intro hl
          exact h5 (hl.1 _ (List.getElem_mem hlt))
        clear h5
        go_wp2_with fail
        go_ret
        exact ⟨by rw [hcf.out]; rfl, below_on hB1 (hB.alloc hz _) (Nat.le_refl _)⟩
    · have hii : i = el.length := by omega
      subst hii
      have hcl : Hid (c = true ↔ (el.length ≤ 20 ∧ ml.length ≤ 30 ∧ d.length ≤ 33000)) := by
        show _ ↔ _
        rw [Hc.out]
        have hh := Hinv.out
        rw [List.take_length] at hh
        exact ⟨fun h => h.2, fun h => ⟨hh, h⟩⟩
      have kr := (hB.block _ z1).trans k1
      obtain ⟨p10, p13, p14⟩ := (⟨block_cell kr 10, block_cell kr 13, block_cell kr 14⟩ : wr.cell? ⟨w.heap.size, 10, none⟩ = some (.slice eo el.length ec) ∧ wr.cell? ⟨w.heap.size, 13, none⟩ = some (.slice mo ml.length mc) ∧ wr.cell? ⟨w.heap.size, 14, none⟩ = some (.slice ao d.length ac))
      have hBw := below_on hB1 hB (Nat.le_refl _)
      clear hlt Hinv
      by_cases q1 : el.length ≤ 20
      · have r1 : (el.length : Int) ≤ 20 := by omega
        by_cases q2 : ml.length ≤ 30
        · have r2 : (ml.length : Int) ≤ 30 := by omega
          by_cases q3 : d.length ≤ 33000
          · have r3 : (d.length : Int) ≤ 33000 := by omega
            go_wp2_with fail
            go_ret
            exact ⟨ret_bool (by simp; exact (hcl.out.2 ⟨q1, q2, q3⟩)), hBw⟩
          · have r3 : ¬ (d.length : Int) ≤ 33000 := by omega
            have hf : Hid (c = false) := by show _ = _; rw [Bool.eq_false_iff, ne_eq, hcl.out]; omega
            go_wp2_with fail
            go_ret
            exact ⟨by rw [hf.out]; rfl, hBw⟩
        · have r2 : ¬ (ml.length : Int) ≤ 30 := by omega
          have hf : Hid (c = false) := by show _ = _; rw [Bool.eq_false_iff, ne_eq, hcl.out]; omega
          go_wp2_with fail
          go_ret
          exact ⟨by rw [hf.out]; rfl, hBw⟩
      · have r1 : ¬ (el.length : Int) ≤ 20 := by omega
        have hf : Hid (c = false) := by show _ = _; rw [Bool.eq_false_iff, ne_eq, hcl.out]; omega
        go_wp2_with fail
        go_ret
        exact ⟨by rw [hf.out]; rfl, hBw⟩
end Go.Proofs.Ytlphpjgiaflfkaa
