/- The walk of the law LazySizes. -/
import Derived.Test.YtljlgphieefdmaaLazyS
import Derived.Test.YtljlgphieefdmaaLazyU
namespace Go.Proofs.Ytljlgphieefdmaa
set_option linter.unusedVariables false
set_option linter.unusedSimpArgs false
set_option linter.unusedSectionVars false
open Go Go.RowKit Go.Shelf

set_option maxRecDepth 100000 in
set_option maxHeartbeats 4000000 in
theorem sizes_mid (n i : Int) (w : World) (h0 : 1000 < n) (h1 : n ≤ 65536) : Calls Try.prog 5 #[.int .i64 n, .int .i64 i] w fun e w' => e = .returned (.bool true) ∧ Below w.heap.size w w' := by
  go_enter Try.func5, Try.ntmps5
  go_wp2_with fail
  refine (lives_true _).mono ?_
  rintro e w1 ⟨rfl, hB⟩
  go_wp2_with fail
  go_ret
  exact ⟨rfl, hB⟩
set_option maxRecDepth 100000 in
set_option maxHeartbeats 4000000 in
theorem sizes_out (n i : Int) (w : World) (h : n < 0 ∨ 65536 < n) : Calls Try.prog 5 #[.int .i64 n, .int .i64 i] w fun e w' => e = .returned (.bool true) ∧ Below w.heap.size w w' := by
  have hi : i < 0 ∨ ((0 : Nat) : Int) ≤ i := by omega
  have hh := h
  rcases h with h | h <;> rcases hi with hi | hi
  all_goals
    have hi2 : i < 0 ∨ ((0 : Nat) : Int) ≤ i := by omega
    have Hh := Lib.hid hh
    have Hi2 := Lib.hid hi2
    clear hh hi2
    go_enter Try.func5, Try.ntmps5
    go_wp2_with fail
    refine (rows_none n .nilFunc (.inl rfl) _ Hh.out).mono ?_
    rintro e w1 ⟨T, rfl, hT, hB1⟩
    go_wp2_with fail
    refine (tat_out _ T none 0 0 0 i hT Hi2.out).mono ?_
    rintro e w' ⟨rfl, rfl⟩
    go_wp2_with fail
    refine (tlen_at _ T none 0 0 0 hT).mono ?_
    rintro e w' ⟨rfl, rfl⟩
    go_wp2_with fail
    refine (lives_true _).mono ?_
    rintro e w2 ⟨rfl, hB2⟩
    go_wp2_with fail
    go_ret
    exact ⟨by simp <;> omega, below_on hB1 hB2 (Nat.le_refl _)⟩
set_option maxRecDepth 100000 in
set_option maxHeartbeats 4000000 in
theorem sizes_in (n : Nat) (i : Int) (w : World) (h : n ≤ 1000) : Calls Try.prog 5 #[.int .i64 n, .int .i64 i] w fun e w' => e = .returned (.bool true) ∧ Below w.heap.size w w' := by
  have hz : (0 : Int) ≤ n := by omega
  rcases (show i < 0 ∨ (0 ≤ i ∧ i < n) ∨ (0 ≤ i ∧ (n : Int) ≤ i) by omega) with hi | ⟨hi0, hi⟩ | ⟨hi0, hi⟩
  · go_enter Try.func5, Try.ntmps5
    go_wp2_with fail
    refine (rows_nil n _ (by omega)).mono ?_
    rintro e w1 ⟨L, rfl, hL, hT, hC, hB1⟩
    obtain ⟨ao, cap, hT1, hown⟩ := hT
    rw [hL] at hT1
    clear hL hown hC
    go_wp2_with fail
    refine (tat_out _ _ ao n cap 0 i hT1 (by omega)).mono ?_
    rintro e w' ⟨rfl, rfl⟩
    go_wp2_with fail
    refine (tlen_at _ _ ao n cap 0 hT1).mono ?_
    rintro e w' ⟨rfl, rfl⟩
    go_wp2_with fail
    refine (lives_true _).mono ?_
    rintro e w2 ⟨rfl, hB2⟩
    go_wp2_with fail
    go_ret
    exact ⟨by simp <;> omega, below_on hB1 hB2 (Nat.le_refl _)⟩
  · obtain ⟨j, rfl⟩ := Int.eq_ofNat_of_zero_le hi0
    go_enter Try.func5, Try.ntmps5
    go_wp2_with fail
    refine (rows_nil n _ (by omega)).mono ?_
    rintro e w1 ⟨L, rfl, hL, hT, hC, hB1⟩
    have hA := tat_nil1 w.heap.size w1 _ _ _ L j (by omega) (by omega) hT hC (by omega) hB1.size
    rw [hL] at hA
    have HA := Lib.hid hA
    clear hA hL hT hC
    go_wp2_with fail
    refine HA.out.mono ?_
    rintro e w3 ⟨rfl, ⟨ao, cap, hT1⟩, hB3⟩
    go_wp2_with fail
    refine (tlen_at _ _ ao n cap 1 hT1).mono ?_
    rintro e w' ⟨rfl, rfl⟩
    go_wp2_with fail
    refine (lives_true _).mono ?_
    rintro e w2 ⟨rfl, hB2⟩
    go_wp2_with fail
    go_ret
    exact ⟨by simp, below_on (hB1.trans hB3) hB2 (Nat.le_refl _)⟩
  · go_enter Try.func5, Try.ntmps5
    go_wp2_with fail
    refine (rows_nil n _ (by omega)).mono ?_
    rintro e w1 ⟨L, rfl, hL, hT, hC, hB1⟩
    obtain ⟨ao, cap, hT1, hown⟩ := hT
    rw [hL] at hT1
    clear hL hown hC
    go_wp2_with fail
    refine (tat_out _ _ ao n cap 0 i hT1 (by omega)).mono ?_
    rintro e w' ⟨rfl, rfl⟩
    go_wp2_with fail
    refine (tlen_at _ _ ao n cap 0 hT1).mono ?_
    rintro e w' ⟨rfl, rfl⟩
    go_wp2_with fail
    refine (lives_true _).mono ?_
    rintro e w2 ⟨rfl, hB2⟩
    go_wp2_with fail
    go_ret
    exact ⟨by simp <;> omega, below_on hB1 hB2 (Nat.le_refl _)⟩
theorem lazySizes_walk (n i : Int) (w : World) (h0 : -9223372036854775808 ≤ n) (h1 : n ≤ 9223372036854775807) (h2 : -9223372036854775808 ≤ i) (h3 : i ≤ 9223372036854775807) :
    Calls Try.prog 5 #[.int .i64 n, .int .i64 i] w fun e w' => e = .returned (.bool true) ∧ Below w.heap.size w w' := by
  rcases (show (n < 0 ∨ 65536 < n) ∨ (1000 < n ∧ n ≤ 65536) ∨ (0 ≤ n ∧ n ≤ 1000) by omega) with h | ⟨h, h'⟩ | ⟨h, h'⟩
  · exact sizes_out n i w h
  · exact sizes_mid n i w h h'
  · obtain ⟨m, rfl⟩ := Int.eq_ofNat_of_zero_le h
    exact sizes_in m i w (by omega)
end Go.Proofs.Ytljlgphieefdmaa
