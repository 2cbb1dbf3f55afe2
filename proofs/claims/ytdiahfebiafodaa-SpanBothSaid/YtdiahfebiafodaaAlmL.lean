/- The law's lives, and AlmanacTells' walk. No statement of the seat is proved here. -/
import Derived.Test.YtdiahfebiafodaaAlmG
import Derived.Test.YtdiahfebiafodaaOpenS
namespace Go.Proofs.Ytdiahfebiafodaa
set_option linter.unusedVariables false
set_option linter.unusedSimpArgs false
set_option linter.unusedSectionVars false
open Go Go.RowKit Go.Shelf

theorem Sps.lit {w : World} (l : List Sp) (cs : Array Value) (T : TypeId) (hcs : cs.toList = (l.map spCells).flatten) (hm : l.length ≤ 1000) :
    Sps (w.alloc (.cells cs T)) (some ⟨w.heap.size, 0, .none⟩) l.length l := by
  refine ⟨?_, Nat.le_refl _, by unfold maxLen; omega, fun h => (by cases h), fun j u hu => ⟨w.heap.size, 0, rfl, ?_⟩⟩
  · clear hcs hm
    induction l with
    | nil => rfl
    | cons s l ih =>
      simp only [List.map_cons, List.flatten_cons, List.length_append, List.length_cons, ih, sp_len]; omega
  · rw [cell?_new, Nat.zero_add, ← Array.getElem?_toList, hcs]; exact hu

theorem eql_ptr (g : Nat) (w : World) : (binOp .eql 24 (.pointer (some ⟨g, 0, none⟩)) (.pointer none)).run Try.prog w = .ok (.bool false) w := by
  first | rfl | kernel_rfl | (simp [binOp, go_sem]; done)

set_option maxRecDepth 10000 in
set_option maxHeartbeats 1000000 in
theorem lives9_any (w : World) : Calls Try.prog 11 #[] w fun e w' => e = .returned (.bool true) ∧ Below w.heap.size w w' := by
  have hrow : rowErr [⟨10, 20⟩] = 0 := by decide
  have hfr : freeL [⟨10, 20⟩] 5 30 = [⟨5, 10⟩, ⟨20, 30⟩] := by decide
  have hc1 : closedL [⟨10, 20⟩] 10 = true := by decide
  have hc2 : closedL [⟨10, 20⟩] 20 = false := by decide
  go_enter Try.func11, Try.ntmps11
  go_wp2_with fail
  have hs := Sps.lit (w := w) [⟨10, 20⟩] #[.int .i64 10, .int .i64 20] 30 rfl (by simp)
  refine (new_any _ _ [⟨10, 20⟩] _ hs).mono ?_
  rintro e w1 ⟨⟨v, rfl, hv, -⟩, hb1⟩
  obtain ⟨hA, g, rfl⟩ := hv hrow
  rw [hrow]
  go_wp2_with fail
  refine (free_any _ 5 30 [⟨10, 20⟩] w1 hrow hA).mono ?_
  rintro e w2 ⟨⟨ao, cap, rfl, hs2⟩, hb2⟩
  rw [hfr] at hs2 ⊢
  go_wp2_with fail
  have hs3 := Sps.lit (w := w2) [⟨5, 10⟩, ⟨20, 30⟩] #[.int .i64 5, .int .i64 10, .int .i64 20, .int .i64 30] 30 rfl (by simp)
  refine (same_any ao (some ⟨w2.heap.size, 0, none⟩) cap 2 [⟨5, 10⟩, ⟨20, 30⟩] [⟨5, 10⟩, ⟨20, 30⟩] _ (hs2.below (below_new _ _)) hs3).mono ?_
  rintro e w3 ⟨rfl, hb3⟩
  have hA3 := (hA.below hb2).below (below_on (below_new _ _) hb3 (Nat.le_refl _))
  have hb : Below w.heap.size w w3 := below_on (below_on (below_on (below_on (below_new _ _) hb1 (Nat.le_refl _)) hb2 (Nat.le_refl _)) (below_new _ _) (Nat.le_refl _)) hb3 (Nat.le_refl _)
  go_wp2_with fail
  refine (closed_any _ [⟨10, 20⟩] 10 w3 (by simp) hA3).mono ?_
  rintro e w4 ⟨rfl, hb4⟩
  rw [hc1]
  go_wp2_with fail
  refine (closed_any _ [⟨10, 20⟩] 20 w4 (by simp) (hA3.below hb4)).mono ?_
  rintro e w5 ⟨rfl, hb5⟩
  rw [hc2]
  go_wp2_with fail
  go_ret
  exact ⟨rfl, below_on (below_on hb hb4 (Nat.le_refl _)) hb5 (Nat.le_refl _)⟩

theorem eqb (b : Bool) (w : World) : (binOp .eql 4 (.bool b) (.bool b)).run Try.prog w = .ok (.bool true) w := by
  cases b <;> first | rfl | kernel_rfl | (simp [binOp, go_sem]; done)

set_option maxRecDepth 10000 in
set_option maxHeartbeats 1000000 in
theorem almanacTells_walk (ao : Option Addr) (cap : Nat) (l : List Sp) (t : Int) (w : World) (hs : Sps w ao cap l) (hok : SpOk l) (t0 : -9223372036854775808 ≤ t) (t1 : t ≤ 9223372036854775807) :
    Calls Try.prog 3 #[.slice ao l.length cap, .int .i64 t] w fun e w' => e = .returned (.bool true) ∧ Below w.heap.size w w' := by
  have hm := hs.max
  have hle := hs.le
  unfold maxLen at hm
  have heqb := eqb
  have heqs := eql_sp
  have hgs := guard_sp
  by_cases hl : 100 < l.length
  · go_enter Try.func3, Try.ntmps3
    go_wp2_with fail
    refine (lives9_any _).mono ?_
    rintro e w1 ⟨rfl, hb1⟩
    go_wp2_with fail
    go_ret
    exact ⟨rfl, hb1⟩
  · have hnew := new_any ao cap l w hs
    go_enter Try.func3, Try.ntmps3
    go_wp2_with fail
    refine hnew.mono ?_
    rintro e w1 ⟨⟨v, rfl, hv, hv0⟩, hb1⟩
    have hs1 := hs.below hb1
    by_cases h0 : rowErr l = 0
    · obtain ⟨hA, g, rfl⟩ := hv h0
      clear hv hv0
      have hrow := refRow_any ao cap l w1 hs1
      rw [h0] at hrow ⊢
      go_wp2_with fail
      refine hrow.mono ?_
      rintro e w2 ⟨rfl, hb2⟩
      have hA2 := hA.below hb2
      have hs2 := hs1.below hb2
      have hB2 := below_on hb1 hb2 (Nat.le_refl _)
      go_wp2_with fail
      refine (next_any _ l t w2 (by omega) hA2).mono ?_
      rintro e w3 ⟨rfl, hb3⟩
      have hA3 := hA2.below hb3
      have hs3 := hs2.below hb3
      have hB3 := below_on hB2 hb3 (Nat.le_refl _)
      obtain ⟨R, hR⟩ : ∃ R, R = nextR l t := ⟨_, rfl⟩
      obtain ⟨F, hF⟩ : ∃ F, F = nextF l t := ⟨_, rfl⟩
      have hrn := fun w' => refNext_any ao cap l t w'
      rw [← hR, ← hF] at hrn ⊢
      clear hR hF
      obtain ⟨x, y⟩ := R
      unfold spVal at hrn ⊢
      simp only at hrn ⊢
      go_wp2_with fail
      refine (hrn _ (hs3.below (below_new _ _))).mono ?_
      rintro e w4 ⟨rfl, hb4⟩
      have hk8 := (hb4.cell (p := ⟨w3.heap.size, 0, none⟩) (by simp)).trans (cell?_new w3 #[.int .i64 x, .int .i64 y] 30 (0, 0) 0)
      have hk9 := (hb4.cell (p := ⟨w3.heap.size, 1, none⟩) (by simp)).trans (cell?_new w3 #[.int .i64 x, .int .i64 y] 30 (0, 0) 1)
      simp at hk8 hk9
      have hX : Below w3.heap.size w3 w4 := below_on (below_new _ _) hb4 (Nat.le_refl _)
      have hA4 := hA3.below hX
      have hs4 := hs3.below hX
      have hB4 := below_on hB3 hX (Nat.le_refl _)
      obtain ⟨hch, -⟩ := row_chain h0
      have hcl := closed_has l t 0 hch
      have hhas := fun w' => refHas_any ao cap l t w' h0
      have hclo := fun w' => closed_any (.pointer (some ⟨g, 0, none⟩)) l t w' (by omega)
      obtain ⟨c, hc⟩ : ∃ c, c = hasL l t := ⟨_, rfl⟩
      rw [hcl] at hclo
      rw [← hc] at hclo hhas
      clear hc hcl hch h0
      go_wp2_with fail
      refine (hclo _ (hA4.below (below_new _ _))).mono ?_
      rintro e w5 ⟨rfl, hb5⟩
      have hY : Below w4.heap.size w4 w5 := below_on (below_new _ _) hb5 (Nat.le_refl _)
      have hka := (hb5.cell (p := ⟨w4.heap.size, 0, none⟩) (by simp)).trans (cell?_new w4 #[.int .i64 x, .int .i64 y] 30 (0, 0) 0)
      have hkb := (hb5.cell (p := ⟨w4.heap.size, 1, none⟩) (by simp)).trans (cell?_new w4 #[.int .i64 x, .int .i64 y] 30 (0, 0) 1)
      simp at hka hkb
      have hk8' := (hY.cell (cell?_lt hk8)).trans hk8
      have hk9' := (hY.cell (cell?_lt hk9)).trans hk9
      have hs5 := hs4.below hY
      have hA5 := hA4.below hY
      have hB5 := below_on hB4 hY (Nat.le_refl _)
      clear hk8 hk9
      go_wp2_with fail
      refine (hhas _ hs5).mono ?_
      rintro e w6 ⟨rfl, hb6⟩
      have hk8 := (hb6.cell (cell?_lt hk8')).trans hk8'
      have hk9 := (hb6.cell (cell?_lt hk9')).trans hk9'
      have hka' := (hb6.cell (cell?_lt hka)).trans hka
      have hkb' := (hb6.cell (cell?_lt hkb)).trans hkb
      have hs6 := hs5.below hb6
      have hA6 := hA5.below hb6
      have hB6 := below_on hB5 hb6 (Nat.le_refl _)
      clear hk8' hk9' hka hkb
      have hqe := heqs x y x y w6
      simp at hqe
      go_wp2_with fail
      refine (almRow_any _ l w6 (by omega) hA6).mono ?_
      rintro e w7 ⟨⟨ao7, cap7, rfl, hs7⟩, hb7⟩
      go_wp2_with fail
      refine (same_any ao7 ao cap7 cap l l w7 hs7 (hs6.below hb7)).mono ?_
      rintro e w8 ⟨rfl, hb8⟩
      have hdd : decide (l = l) = true := by simp
      rw [hdd]
      go_wp2_with fail
      refine (lives9_any _).mono ?_
      rintro e w9 ⟨rfl, hb9⟩
      go_wp2_with fail
      go_ret
      exact ⟨rfl, below_on (below_on (below_on hB6 hb7 (Nat.le_refl _)) hb8 (Nat.le_refl _)) hb9 (Nat.le_refl _)⟩
    · obtain rfl := hv0 h0
      have hrow := refRow_any ao cap l w1 hs1
      obtain ⟨er, her⟩ : ∃ er, er = rowErr l := ⟨_, rfl⟩
      rw [← her] at hrow h0 ⊢
      have h1 : ((er : Nat) : Int) ≠ 0 := by omega
      clear her hv hv0
      go_wp2_with fail
      refine hrow.mono ?_
      rintro e w2 ⟨rfl, hb2⟩
      go_wp2_with fail
      refine (lives9_any _).mono ?_
      rintro e w3 ⟨rfl, hb3⟩
      go_wp2_with fail
      go_ret
      exact ⟨rfl, below_on (below_on hb1 hb2 (Nat.le_refl _)) hb3 (Nat.le_refl _)⟩
end Go.Proofs.Ytdiahfebiafodaa
