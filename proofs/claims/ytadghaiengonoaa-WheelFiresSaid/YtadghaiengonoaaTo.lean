/- slots: how two things stand to one another. No statement of the seat is proved here. -/
import Derived.Test.YtadghaiengonoaaTh
import Derived.Deep.RegionLaw
namespace Go.Proofs.Ytadghaiengonoaa
set_option linter.unusedVariables false
set_option linter.unusedSimpArgs false
set_option linter.unusedSectionVars false
open Go Go.RowKit

theorem cmp64_any (x y : Int) (W : World) : Calls Try.prog 49 #[.int .i64 x, .int .i64 y] W fun e W' => e = .returned (.int .i64 (if x < y then -1 else if y < x then 1 else 0)) ∧ W = W' := by
  have hn : ∀ z W, Calls Try.prog 59 #[.int .i64 z] W fun e W' => e = .returned (.bool false) ∧ W = W' := fun z W => by
    go_enter Try.func59, Try.ntmps59
    go_wp2_with fail
    go_ret
    exact ⟨rfl, rfl⟩
  have Hn := Lib.hid hn
  clear hn
  by_cases h1 : x < y
  · go_enter Try.func49, Try.ntmps49
    go_wp2_with (go_at_call 59; refine (Hn.out _ _).mono ?_; rintro e w1 ⟨rfl, rfl⟩)
    go_ret
    exact ⟨rfl, rfl⟩
  · by_cases h2 : y < x
    · go_enter Try.func49, Try.ntmps49
      go_wp2_with (go_at_call 59; refine (Hn.out _ _).mono ?_; rintro e w1 ⟨rfl, rfl⟩)
      go_ret
      exact ⟨rfl, rfl⟩
    · go_enter Try.func49, Try.ntmps49
      go_wp2_with (go_at_call 59; refine (Hn.out _ _).mono ?_; rintro e w1 ⟨rfl, rfl⟩)
      go_ret
      exact ⟨rfl, rfl⟩
theorem cmpu64_any (x y : Int) (W : World) : Calls Try.prog 50 #[.int .u64 x, .int .u64 y] W fun e W' => e = .returned (.int .i64 (if x < y then -1 else if y < x then 1 else 0)) ∧ W = W' := by
  have hn : ∀ z W, Calls Try.prog 60 #[.int .u64 z] W fun e W' => e = .returned (.bool false) ∧ W = W' := fun z W => by
    go_enter Try.func60, Try.ntmps60
    go_wp2_with fail
    go_ret
    exact ⟨rfl, rfl⟩
  have Hn := Lib.hid hn
  clear hn
  by_cases h1 : x < y
  · go_enter Try.func50, Try.ntmps50
    go_wp2_with (go_at_call 60; refine (Hn.out _ _).mono ?_; rintro e w1 ⟨rfl, rfl⟩)
    go_ret
    exact ⟨rfl, rfl⟩
  · by_cases h2 : y < x
    · go_enter Try.func50, Try.ntmps50
      go_wp2_with (go_at_call 60; refine (Hn.out _ _).mono ?_; rintro e w1 ⟨rfl, rfl⟩)
      go_ret
      exact ⟨rfl, rfl⟩
    · go_enter Try.func50, Try.ntmps50
      go_wp2_with (go_at_call 60; refine (Hn.out _ _).mono ?_; rintro e w1 ⟨rfl, rfl⟩)
      go_ret
      exact ⟨rfl, rfl⟩
theorem or2_any (x y : Int) (W : World) (b : Nat) (h0 : W.cell? ⟨b, 0, none⟩ = some (.int .i64 x)) (h1 : W.cell? ⟨b, 1, none⟩ = some (.int .i64 y)) :
    Calls Try.prog 48 #[.slice (some ⟨b, 0, none⟩) 2 2] W fun e W' => e = .returned (.int .i64 (if x ≠ 0 then x else y)) ∧ W = W' := by
  go_enter Try.func48, Try.ntmps48
  go_wp2_with fail
  go_loopw [8] (fun u wr => ∃ k : Nat, u = .int .i64 (k : Nat) ∧ k ≤ 2 ∧ (1 ≤ k → x = 0) ∧ (2 ≤ k → y = 0) ∧ W = wr) (fun u _ => 2 - (intOf u).toNat)
  case atStart => exact ⟨0, rfl, by omega, by simp, by simp, rfl⟩
  case round =>
    obtain ⟨k, rfl, hk, k1, k2, hw⟩ := hrel
    subst hw
    have hk3 : k = 0 ∨ k = 1 ∨ k = 2 := by omega
    rcases hk3 with rfl | rfl | rfl
    · by_cases hx : x = 0
      · subst hx
        go_wp2_with fail
        go_roundw
        case rel => exact ⟨1, rfl, by omega, by simp, by simp, by first | rfl | trivial⟩
        case measure => simp [intOf]
      · have hx2 : (x != 0) = true := by simpa using hx
        go_wp2_with fail
        go_ret
        exact ⟨by simp [hx], rfl⟩
    · have hx := k1 (by omega)
      subst hx
      by_cases hy : y = 0
      · subst hy
        go_wp2_with fail
        go_roundw
        case rel => exact ⟨2, rfl, by omega, by simp, by simp, by first | rfl | trivial⟩
        case measure => simp [intOf]
      · have hx2 : (y != 0) = true := by simpa using hy
        go_wp2_with fail
        go_ret
        exact ⟨by simp, rfl⟩
    · have hx := k1 (by omega)
      have hy := k2 (by omega)
      subst hx hy
      go_wp2_with fail
      go_ret
      exact ⟨by simp, rfl⟩

def orderN (x y : Th) : Int := if (if x.due < y.due then (-1 : Int) else if y.due < x.due then 1 else 0) ≠ 0 then (if x.due < y.due then (-1 : Int) else if y.due < x.due then 1 else 0) else (if x.id < y.id then (-1 : Int) else if y.id < x.id then 1 else 0)
theorem orderN_lt (x y : Th) : orderN x y < 0 ↔ thLt x y = true := by
  rw [thLt_iff]
  unfold orderN
  by_cases h1 : x.due < y.due
  · simp [h1]
  · by_cases h2 : y.due < x.due
    · simp [h1, h2]; omega
    · have h3 : x.due = y.due := by omega
      by_cases h4 : x.id < y.id
      · simp [h3, h4]
      · by_cases h5 : y.id < x.id
        · simp [h3, h4, h5]
        · simp [h3, h4, h5]
set_option maxRecDepth 100000 in
set_option maxHeartbeats 4000000 in
theorem order_any (x y : Th) (W : World) : Calls Try.prog 30 #[thVal x, thVal y] W fun e W' => e = .returned (.int .i64 (orderN x y)) ∧ Below W.heap.size W W' := by
  have Hc := Lib.hid (fun W => cmp64_any x.due y.due W)
  have Hu := Lib.hid (fun W => cmpu64_any x.id y.id W)
  obtain ⟨c, hc⟩ : ∃ c, c = (if x.due < y.due then (-1 : Int) else if y.due < x.due then 1 else 0) := ⟨_, rfl⟩
  obtain ⟨u, hu⟩ : ∃ u, u = (if x.id < y.id then (-1 : Int) else if y.id < x.id then 1 else 0) := ⟨_, rfl⟩
  have ho : orderN x y = if c ≠ 0 then c else u := by rw [hc, hu]; rfl
  rw [ho]
  rw [← hc] at Hc
  rw [← hu] at Hu
  have Hor := Lib.hid (fun W b h0 h1 => or2_any c u W b h0 h1)
  obtain ⟨r, hr⟩ : ∃ r, r = if c ≠ 0 then c else u := ⟨_, rfl⟩
  rw [← hr] at Hor ⊢
  clear hc hu ho hr
  obtain ⟨xi, xg, xd⟩ := x
  obtain ⟨yi, yg, yd⟩ := y
  dsimp only [thVal] at *
  obtain ⟨W1, hW1⟩ : ∃ W1, W1 = W.alloc (.cells #[.int .u64 xi, .int .u64 xg, .int .i64 xd] 30) := ⟨_, rfl⟩
  have hB1 : Below W.heap.size W W1 := by rw [hW1]; exact below_new _ _
  have e1 : W1.heap.size = W.heap.size + 1 := by rw [hW1]; exact World.size_alloc _ _
  have k1 : W1.heap[W.heap.size]? = some (.cells #[.int .u64 xi, .int .u64 xg, .int .i64 xd] 30 (0, 0)) := by rw [hW1]; exact heap_alloc_new _ _
  obtain ⟨W2, hW2⟩ : ∃ W2, W2 = W1.alloc (.cells #[.int .u64 yi, .int .u64 yg, .int .i64 yd] 30) := ⟨_, rfl⟩
  have hB2 : Below W1.heap.size W1 W2 := by rw [hW2]; exact below_new _ _
  have m2 : W2.heap[W.heap.size + 1]? = some (.cells #[.int .u64 yi, .int .u64 yg, .int .i64 yd] 30 (0, 0)) := by rw [hW2, ← e1]; exact heap_alloc_new _ _
  have k2 := (hB2.block _ (Array.getElem?_eq_some_iff.1 k1).1).trans k1
  have hBw := below_on hB1 hB2 (Nat.le_refl _)
  go_enter Try.func30, Try.ntmps30
  go_upto_region 1 with fail
  rw [← hW1, ← hW2]
  clear hW1 hW2 hB1 hB2 e1 k1
  have hS : ∀ W', Below W2.heap.size W2 W' → (W'.cell? ⟨W.heap.size, 2, none⟩ = some (.int .i64 xd) ∧ W'.cell? ⟨W.heap.size + 1, 2, none⟩ = some (.int .i64 yd) ∧ W'.cell? ⟨W.heap.size, 0, none⟩ = some (.int .u64 xi) ∧ W'.cell? ⟨W.heap.size + 1, 0, none⟩ = some (.int .u64 yi)) := fun W' hb => by
    have a := (hb.block _ (Array.getElem?_eq_some_iff.1 k2).1).trans k2
    have b := (hb.block _ (Array.getElem?_eq_some_iff.1 m2).1).trans m2
    exact ⟨block_cell a 2, block_cell b 2, block_cell a 0, block_cell b 0⟩
  have HS := Lib.hid hS
  have hd : Below W2.heap.size W2 W2.drew := (Below.refl _ _).drew
  clear hS k2 m2
  refine wp_region_held_drew (S := fun W' => (W'.cell? ⟨W.heap.size, 2, none⟩ = some (.int .i64 xd) ∧ W'.cell? ⟨W.heap.size + 1, 2, none⟩ = some (.int .i64 yd) ∧ W'.cell? ⟨W.heap.size, 0, none⟩ = some (.int .u64 xi) ∧ W'.cell? ⟨W.heap.size + 1, 0, none⟩ = some (.int .u64 yi))) (by kernel_rfl) (HS.out _ hd) (fun hHeld => ?_)
  refine wpAnyH_take (i := 0) (v := ?_) rfl (by kernel_rfl) (by kernel_rfl) (by kernel_rfl) (fun _ _ _ h => h) (Or.inl ⟨by rfl, ?_⟩) (by assumption) ?_
  rotate_left
  · intro w8 hSw; obtain ⟨g1, g2, g3, g4⟩ := hSw; go_simp; (try with_reducible rfl)
  simp only [Act.put, List.getElem_toArray, List.getElem_cons_zero, List.getElem_cons_succ, List.setIfInBounds_toArray, List.set_cons_zero, List.set_cons_succ]
  refine wpAnyH_take (i := 1) (v := ?_) rfl (by kernel_rfl) (by kernel_rfl) (by kernel_rfl) (fun _ _ _ h => h) (Or.inl ⟨by rfl, ?_⟩) (by assumption) ?_
  rotate_left
  · intro w8 hSw; obtain ⟨g1, g2, g3, g4⟩ := hSw; go_simp; (try with_reducible rfl)
  simp only [Act.put, List.getElem_toArray, List.getElem_cons_zero, List.getElem_cons_succ, List.setIfInBounds_toArray, List.set_cons_zero, List.set_cons_succ]
  refine wpAnyH_take (i := 2) (v := ?_) rfl (by kernel_rfl) (by kernel_rfl) (by kernel_rfl) (fun _ _ _ h => h) (Or.inl ⟨by rfl, ?_⟩) (by assumption) ?_
  rotate_left
  · intro w8 hSw; obtain ⟨g1, g2, g3, g4⟩ := hSw; go_simp; (try with_reducible rfl)
  simp only [Act.put, List.getElem_toArray, List.getElem_cons_zero, List.getElem_cons_succ, List.setIfInBounds_toArray, List.set_cons_zero, List.set_cons_succ]
  refine wpAnyH_take (i := 3) (v := ?_) rfl (by kernel_rfl) (by kernel_rfl) (by kernel_rfl) (fun _ _ _ h => h) (Or.inl ⟨by rfl, ?_⟩) (by assumption) ?_
  rotate_left
  · intro w8 hSw; obtain ⟨g1, g2, g3, g4⟩ := hSw; go_simp; (try with_reducible rfl)
  simp only [Act.put, List.getElem_toArray, List.getElem_cons_zero, List.getElem_cons_succ, List.setIfInBounds_toArray, List.set_cons_zero, List.set_cons_succ]
  refine wpAnyH_take (i := 5) (v := ?_) rfl (by kernel_rfl) (by kernel_rfl) (by kernel_rfl) (fun _ _ _ h => h) (Or.inl ⟨by rfl, ?_⟩) (by assumption) ?_
  rotate_left
  · intro w8 hSw; obtain ⟨g1, g2, g3, g4⟩ := hSw; go_simp; (try with_reducible rfl)
  simp only [Act.put, List.getElem_toArray, List.getElem_cons_zero, List.getElem_cons_succ, List.setIfInBounds_toArray, List.set_cons_zero, List.set_cons_succ]
  refine wpAnyH_take (i := 6) (v := ?_) rfl (by kernel_rfl) (by kernel_rfl) (by kernel_rfl) (fun _ _ _ h => h) (Or.inl ⟨by rfl, ?_⟩) (by assumption) ?_
  rotate_left
  · intro w8 hSw; obtain ⟨g1, g2, g3, g4⟩ := hSw; go_simp; (try with_reducible rfl)
  simp only [Act.put, List.getElem_toArray, List.getElem_cons_zero, List.getElem_cons_succ, List.setIfInBounds_toArray, List.set_cons_zero, List.set_cons_succ]
  refine wpAnyH_take (i := 7) (v := ?_) rfl (by kernel_rfl) (by kernel_rfl) (by kernel_rfl) (fun _ _ _ h => h) (Or.inl ⟨by rfl, ?_⟩) (by assumption) ?_
  rotate_left
  · intro w8 hSw; obtain ⟨g1, g2, g3, g4⟩ := hSw; go_simp; (try with_reducible rfl)
  simp only [Act.put, List.getElem_toArray, List.getElem_cons_zero, List.getElem_cons_succ, List.setIfInBounds_toArray, List.set_cons_zero, List.set_cons_succ]
  refine wpAnyH_take (i := 8) (v := ?_) rfl (by kernel_rfl) (by kernel_rfl) (by kernel_rfl) (fun _ _ _ h => h) (Or.inl ⟨by rfl, ?_⟩) (by assumption) ?_
  rotate_left
  · intro w8 hSw; obtain ⟨g1, g2, g3, g4⟩ := hSw; go_simp; (try with_reducible rfl)
  simp only [Act.put, List.getElem_toArray, List.getElem_cons_zero, List.getElem_cons_succ, List.setIfInBounds_toArray, List.set_cons_zero, List.set_cons_succ]
  refine wpAnyH_ready (rs := [4]) (by kernel_rfl) (by simp) ?_
  refine AllReadyH.cons rfl (fun K hK => ?_) AllReadyH.nil
  go_simp
  go_at_call 49
  refine (Hc.out _).mono ?_
  rintro e w5 ⟨rfl, rfl⟩
  refine hK.out _ _ (HS.out _ hd) (fun hHeld => ?_)
  clear hK K
  try simp only [Act.put, List.getElem_toArray, List.getElem_cons_zero, List.getElem_cons_succ, List.setIfInBounds_toArray, List.set_cons_zero, List.set_cons_succ]
  refine wpAnyH_ready (rs := [9]) (by kernel_rfl) (by simp) ?_
  refine AllReadyH.cons rfl (fun K hK => ?_) AllReadyH.nil
  go_simp
  go_at_call 50
  refine (Hu.out _).mono ?_
  rintro e w6 ⟨rfl, rfl⟩
  refine hK.out _ _ (HS.out _ hd) (fun hHeld => ?_)
  clear hK K
  try simp only [Act.put, List.getElem_toArray, List.getElem_cons_zero, List.getElem_cons_succ, List.setIfInBounds_toArray, List.set_cons_zero, List.set_cons_succ]
  refine wpAnyH_ready (rs := [10]) (by kernel_rfl) (by simp) ?_
  refine AllReadyH.cons rfl (fun K hK => ?_) AllReadyH.nil
  go_simp
  obtain ⟨W5, hW5⟩ : ∃ W5, W5 = (W2.alloc (.cells #[.int .i64 c, .int .i64 u] 3)).drew := ⟨_, rfl⟩
  have hB5 : Below W2.heap.size W2 W5 := by rw [hW5]; exact (below_new _ _).drew
  have k5 : W5.heap[W2.heap.size]? = some (.cells #[.int .i64 c, .int .i64 u] 3 (0, 0)) := by rw [hW5]; exact heap_alloc_new W2 _
  rw [← hW5]
  clear hW5
  refine hK.out _ _ (HS.out _ hB5) (fun hHeld => ?_)
  clear hK K
  try simp only [Act.put, List.getElem_toArray, List.getElem_cons_zero, List.getElem_cons_succ, List.setIfInBounds_toArray, List.set_cons_zero, List.set_cons_succ]
  have q0 : W5.cell? ⟨W2.heap.size, 0, none⟩ = some (.int .i64 c) := block_cell k5 0
  have q1 : W5.cell? ⟨W2.heap.size, 1, none⟩ = some (.int .i64 u) := block_cell k5 1
  refine wpAnyH_ready (rs := [11]) (by kernel_rfl) (by simp) ?_
  refine AllReadyH.cons rfl (fun K hK => ?_) AllReadyH.nil
  go_simp
  go_at_call 48
  refine (Hor.out W5 _ q0 q1).mono ?_
  rintro e w6 ⟨rfl, rfl⟩
  refine hK.out _ _ (HS.out _ hB5) (fun hHeld => ?_)
  clear hK K
  try simp only [Act.put, List.getElem_toArray, List.getElem_cons_zero, List.getElem_cons_succ, List.setIfInBounds_toArray, List.set_cons_zero, List.set_cons_succ]
  refine wpAnyH_take (i := 12) (v := ?_) rfl (by kernel_rfl) (by kernel_rfl) (by kernel_rfl) (fun _ _ _ h => h) (Or.inl ⟨by rfl, ?_⟩) (by assumption) ?_
  rotate_left
  · intro w8 hSw; obtain ⟨g1, g2, g3, g4⟩ := hSw; go_simp; (try with_reducible rfl)
  simp only [Act.put, List.getElem_toArray, List.getElem_cons_zero, List.getElem_cons_succ, List.setIfInBounds_toArray, List.set_cons_zero, List.set_cons_succ]
  refine wpAnyH_done (by kernel_rfl) ?_ _
  go_wp2_with fail
  go_ret
  exact ⟨rfl, below_on hBw hB5 (Nat.le_refl _)⟩
end Go.Proofs.Ytadghaiengonoaa
