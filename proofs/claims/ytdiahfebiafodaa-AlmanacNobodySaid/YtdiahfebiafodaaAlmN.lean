/- AlmanacNobody's walk. No statement of the seat is proved here. -/
import Derived.Test.YtdiahfebiafodaaAlmZ
namespace Go.Proofs.Ytdiahfebiafodaa
set_option linter.unusedVariables false
set_option linter.unusedSimpArgs false
set_option linter.unusedSectionVars false
open Go Go.RowKit Go.Shelf

theorem one_any (x y : Int) (W : World) : Calls Try.prog 27 #[.int .i64 x, .int .i64 y] W fun e W' => e = .returned (.int .i64 1) ∧ Below W.heap.size W W' := by
  go_enter Try.func27, Try.ntmps27
  go_wp2
  go_ret
  exact ⟨rfl, Below.refl _ _⟩

set_option maxRecDepth 10000 in
set_option maxHeartbeats 1000000 in
theorem almanacNobody_walk (t f u : Int) (w : World) (t0 : -9223372036854775808 ≤ t) (t1 : t ≤ 9223372036854775807) (f0 : -9223372036854775808 ≤ f) (f1 : f ≤ 9223372036854775807) (u0 : -9223372036854775808 ≤ u) (u1 : u ≤ 9223372036854775807) :
    Calls Try.prog 6 #[.int .i64 t, .int .i64 f, .int .i64 u] w fun e w' => e = .returned (.bool true) ∧ Below w.heap.size w w' := by
  have hn : rowErr [] = 0 := by decide
  have hcl : cutL [] f u = [] := rfl
  have hclo : closedL [] t = false := rfl
  have hnx : nextF [] t = false := rfl
  have hnr : nextR [] t = ⟨0, 0⟩ := rfl
  have hlost := fun w' v (hv : Alm w' v []) => lost_any 27 #[] (fun _ _ => 1) (enters_of Try.func27 (by kernel_rfl) rfl) v [] f u w' (by simp) hv (fun W x y _ => by simpa using one_any x y W)
  have hs0 : sumL (fun _ _ => 1) (cutL [] f u) 0 = 0 := by rw [hcl]; rfl
  rw [hs0] at hlost
  have hfree := fun w' pa (h : Alm w' (.pointer pa) []) => free_any pa f u [] w' hn h
  have hreff := fun w' => refFree_any none 0 [] f u w' hn (Sps.nil w')
  obtain ⟨Fr, hFr⟩ : ∃ Fr, Fr = freeL [] f u := ⟨_, rfl⟩
  rw [← hFr] at hreff hfree
  clear hFr hcl hs0 hn
  go_enter Try.func6, Try.ntmps6
  go_wp2_with fail
  refine (lives9_any _).mono ?_
  rintro e w1 ⟨rfl, hb1⟩
  go_wp2_with fail
  obtain ⟨wS, hwS⟩ : ∃ wS, wS = (w1.alloc (.cells #[.slice none 0 0] 49)).alloc (.cells #[.pointer none, .pointer (some ⟨w1.heap.size, 0, none⟩)] 24) := ⟨_, rfl⟩
  rw [← hwS]
  have hBS : Below w1.heap.size w1 wS := by rw [hwS]; exact below_on (below_new _ _) (below_new _ _) (Nat.le_refl _)
  have c0 : wS.cell? ⟨w1.heap.size, 0, none⟩ = some (.slice none 0 0) := by rw [hwS, (below_new _ _).cell (by simp)]; exact cell?_new _ _ _ _ _
  have c1 : wS.cell? ⟨w1.heap.size + 1, 0, none⟩ = some (.pointer none) := by
    have := cell?_new (w1.alloc (.cells #[.slice none 0 0] 49)) #[.pointer none, .pointer (some ⟨w1.heap.size, 0, none⟩)] 24 (0, 0) 0
    rw [World.size_alloc] at this
    rw [hwS]; exact this
  have c2 : wS.cell? ⟨w1.heap.size + 1, 1, none⟩ = some (.pointer (some ⟨w1.heap.size, 0, none⟩)) := by
    have := cell?_new (w1.alloc (.cells #[.slice none 0 0] 49)) #[.pointer none, .pointer (some ⟨w1.heap.size, 0, none⟩)] 24 (0, 0) 1
    rw [World.size_alloc] at this
    rw [hwS]; exact this
  have hBw := below_on hb1 hBS (Nat.le_refl _)
  have hAN : Alm wS (.pointer none) [] := .inl ⟨rfl, rfl⟩
  have hAE : Alm wS (.pointer (some ⟨w1.heap.size, 0, none⟩)) [] := .inr ⟨_, none, 0, rfl, c0, Sps.nil _⟩
  clear hwS
  go_loopw [21] (fun v wr => ∃ i : Nat, v = .int .i64 i ∧ i ≤ 2 ∧ Below wS.heap.size wS wr) (fun v _ => 2 - (intOf v).toNat)
  case atStart => exact ⟨0, rfl, by omega, Below.refl _ _⟩
  case round =>
    obtain ⟨i, rfl, hi, hbr⟩ := hrel
    match i, hi with
    | 0, _ =>
      have hA := hAN.below hbr
      have d1 := (hbr.cell (cell?_lt c1)).trans c1
      go_wp2_with fail
      refine (next_any _ [] t wr (by simp) hA).mono ?_
      rintro e w3 ⟨rfl, hb3⟩
      have hA3 := hA.below hb3
      rw [hnx, hnr, show spVal ⟨0, 0⟩ = .agg #[.int .i64 0, .int .i64 0] from rfl]
      go_wp2_with fail
      refine (hfree _ _ (hA3.below (below_new _ _))).mono ?_
      rintro e w4 ⟨⟨ao4, cap4, rfl, hs4⟩, hb4⟩
      have hX := below_on (below_new w3 (.cells #[.int .i64 0, .int .i64 0] 30)) hb4 (Nat.le_refl _)
      have hA4 := hA3.below hX
      have B4 := below_on (below_on hbr hb3 (Nat.le_refl _)) hX (Nat.le_refl _)
      go_wp2_with fail
      refine (closed_any _ [] t w4 (by simp) hA4).mono ?_
      rintro e w5 ⟨rfl, hb5⟩
      rw [hclo]
      go_wp2_with fail
      refine (almRow_any _ [] w5 (by simp) (hA4.below hb5)).mono ?_
      rintro e w6 ⟨⟨ao6, cap6, rfl, -⟩, hb6⟩
      have hA6 := (hA4.below hb5).below hb6
      go_wp2_with fail
      refine (hlost w6 _ hA6).mono ?_
      rintro e w7 ⟨rfl, hb7⟩
      go_wp2_with fail
      refine (hreff w7).mono ?_
      rintro e w8 ⟨⟨ao8, cap8, rfl, hs8⟩, hb8⟩
      have B7 := below_on (below_on hb5 hb6 (Nat.le_refl _)) hb7 (Nat.le_refl _)
      go_wp2_with fail
      refine (same_any ao4 ao8 cap4 cap8 Fr Fr w8 ((hs4.below B7).below hb8) hs8).mono ?_
      rintro e w9 ⟨rfl, hb9⟩
      have hdd : decide (Fr = Fr) = true := by simp
      rw [hdd]
      have B9 := below_on (below_on (below_on B4 B7 (Nat.le_refl _)) hb8 (Nat.le_refl _)) hb9 (Nat.le_refl _)
      go_wp2_with fail
      go_roundw
      case rel => exact ⟨1, by simp, by omega, B9⟩
      case measure => simp [intOf]
    | 1, _ =>
      have hA := hAE.below hbr
      have d1 := (hbr.cell (cell?_lt c2)).trans c2
      go_wp2_with fail
      refine (next_any _ [] t wr (by simp) hA).mono ?_
      rintro e w3 ⟨rfl, hb3⟩
      have hA3 := hA.below hb3
      rw [hnx, hnr, show spVal ⟨0, 0⟩ = .agg #[.int .i64 0, .int .i64 0] from rfl]
      go_wp2_with fail
      refine (hfree _ _ (hA3.below (below_new _ _))).mono ?_
      rintro e w4 ⟨⟨ao4, cap4, rfl, hs4⟩, hb4⟩
      have hX := below_on (below_new w3 (.cells #[.int .i64 0, .int .i64 0] 30)) hb4 (Nat.le_refl _)
      have hA4 := hA3.below hX
      have B4 := below_on (below_on hbr hb3 (Nat.le_refl _)) hX (Nat.le_refl _)
      go_wp2_with fail
      refine (closed_any _ [] t w4 (by simp) hA4).mono ?_
      rintro e w5 ⟨rfl, hb5⟩
      rw [hclo]
      go_wp2_with fail
      refine (almRow_any _ [] w5 (by simp) (hA4.below hb5)).mono ?_
      rintro e w6 ⟨⟨ao6, cap6, rfl, -⟩, hb6⟩
      have hA6 := (hA4.below hb5).below hb6
      go_wp2_with fail
      refine (hlost w6 _ hA6).mono ?_
      rintro e w7 ⟨rfl, hb7⟩
      go_wp2_with fail
      refine (hreff w7).mono ?_
      rintro e w8 ⟨⟨ao8, cap8, rfl, hs8⟩, hb8⟩
      have B7 := below_on (below_on hb5 hb6 (Nat.le_refl _)) hb7 (Nat.le_refl _)
      go_wp2_with fail
      refine (same_any ao4 ao8 cap4 cap8 Fr Fr w8 ((hs4.below B7).below hb8) hs8).mono ?_
      rintro e w9 ⟨rfl, hb9⟩
      have hdd : decide (Fr = Fr) = true := by simp
      rw [hdd]
      have B9 := below_on (below_on (below_on B4 B7 (Nat.le_refl _)) hb8 (Nat.le_refl _)) hb9 (Nat.le_refl _)
      go_wp2_with fail
      go_roundw
      case rel => exact ⟨2, by simp, by omega, B9⟩
      case measure => simp [intOf]
    | 2, _ =>
      go_wp2_with fail
      go_ret
      exact ⟨rfl, below_on hBw hbr (Nat.le_refl _)⟩
end Go.Proofs.Ytdiahfebiafodaa
