/- The walk of the law ReadsNobody. -/
import Derived.Test.YtiboaafelabpfaaReadsE
namespace Go.Proofs.Ytiboaafelabpfaa
open Go Go.RowKit

set_option maxHeartbeats 4000000 in
theorem readsNobody_walk (x y : Int) (w : World) (_ : 0 ≤ x) (_ : x ≤ 18446744073709551615) (_ : 0 ≤ y) (_ : y ≤ 18446744073709551615) :
    Calls Try.prog 5 #[.int .u64 x, .int .u64 y] w fun e w' => e = .returned (.bool true) ∧ Below w.heap.size w w' := by
  go_enter Try.func5, Try.ntmps5
  have q0 : Q ((w.alloc (.cells #[.bool false, .int .u64 0, .int .u64 0, .slice none 0 0] 56)).alloc (.cells #[.pointer none, .pointer (some ⟨w.heap.size, 0, none⟩)] 24)) w.heap.size false 0 0 none 0 0 :=
    (heap_alloc_old _ _ (by simp)).trans (heap_alloc_new _ _)
  obtain ⟨W0, hW0⟩ : ∃ W0, W0 = (w.alloc (.cells #[.bool false, .int .u64 0, .int .u64 0, .slice none 0 0] 56)).alloc (.cells #[.pointer none, .pointer (some ⟨w.heap.size, 0, none⟩)] 24) := ⟨_, rfl⟩
  rw [← hW0] at q0
  have hb0 : Below w.heap.size w W0 := by rw [hW0]; exact below_on (below_new _ _) (below_new _ _) (by simp)
  have hz0 : W0.heap.size = w.heap.size + 2 := by rw [hW0]; simp
  have k0 : W0.cell? ⟨w.heap.size + 1, 0, none⟩ = some (.pointer none) := by
    have := cell?_new (w.alloc (.cells #[.bool false, .int .u64 0, .int .u64 0, .slice none 0 0] 56)) #[.pointer none, .pointer (some ⟨w.heap.size, 0, none⟩)] 24 (0, 0) 0
    rw [hW0]; simp
  have k1 : W0.cell? ⟨w.heap.size + 1, 1, none⟩ = some (.pointer (some ⟨w.heap.size, 0, none⟩)) := by
    have := cell?_new (w.alloc (.cells #[.bool false, .int .u64 0, .int .u64 0, .slice none 0 0] 56)) #[.pointer none, .pointer (some ⟨w.heap.size, 0, none⟩)] 24 (0, 0) 1
    rw [hW0]; simp
  go_wp2
  rw [← hW0]
  clear hW0
  go_loopw [15] (fun i wx => ∃ k : Nat, k ≤ 2 ∧ i = .int .i64 k ∧ Below W0.heap.size W0 wx) (fun i _ => 2 - (intOf i).toNat)
  case atStart => exact ⟨0, by omega, rfl, Below.refl _ _⟩
  case round =>
    obtain ⟨k, hk, rfl, hB⟩ := hrel
    rcases (show k = 0 ∨ k = 1 ∨ k = 2 by omega) with rfl | rfl | rfl
    · have d0 := (hB.cell (p := ⟨w.heap.size + 1, 0, none⟩) (by simp; omega)).trans k0
      go_wp2_with fail
      refine (ask_nil _ x y).mono ?_
      rintro e w1 ⟨rfl, rfl⟩
      go_wp2_with fail
      refine (confirm_nil _ x).mono ?_
      rintro e w1 ⟨rfl, rfl⟩
      go_wp2_with fail
      refine (begin_nil _).mono ?_
      rintro e w1 ⟨rfl, rfl⟩
      go_wp2_with fail
      refine (round_nil _).mono ?_
      rintro e w1 ⟨rfl, rfl⟩
      go_wp2_with fail
      refine (take_nil _ x).mono ?_
      rintro e w1 ⟨rfl, hBt⟩
      have hB2 := below_on hB hBt (Nat.le_refl _)
      go_wp2_with fail
      refine (drop_nil _).mono ?_
      rintro e w1 ⟨rfl, rfl⟩
      go_wp2_with fail
      refine (len_nil _).mono ?_
      rintro e w1 ⟨rfl, rfl⟩
      go_wp2_with fail
      go_roundw
      case rel => exact ⟨1, by omega, by go_num, hB2⟩
      case measure => simp [intOf]
    · have d0 := (hB.cell (p := ⟨w.heap.size + 1, 1, none⟩) (by simp; omega)).trans k1
      have q1 : Q wr w.heap.size false 0 0 none 0 0 := (hB.block _ (by omega)).trans q0
      go_wp2_with fail
      refine (ask_not _ _ _ _ x y _ _ _ q1).mono ?_
      rintro e w1 ⟨rfl, rfl⟩
      go_wp2_with fail
      refine (confirm_not _ _ _ _ x _ _ _ q1).mono ?_
      rintro e w1 ⟨rfl, rfl⟩
      go_wp2_with fail
      refine (begin_not _ _ _ _ _ _ _ q1).mono ?_
      rintro e w1 ⟨rfl, rfl⟩
      go_wp2_with fail
      refine (round_at _ _ _ _ _ _ _ _ q1).mono ?_
      rintro e w1 ⟨rfl, rfl⟩
      go_wp2_with fail
      refine (take_not _ _ _ _ x _ _ _ q1).mono ?_
      rintro e w1 ⟨rfl, hBt⟩
      have hB2 := below_on hB hBt (Nat.le_refl _)
      have q2 : Q w1 w.heap.size false 0 0 none 0 0 := (hB2.block _ (by omega)).trans q0
      go_wp2_with fail
      refine (drop_not _ _ _ _ _ _ _ q2).mono ?_
      rintro e w1 ⟨rfl, rfl⟩
      go_wp2_with fail
      refine (len_at _ _ _ _ _ _ _ _ q2).mono ?_
      rintro e w1 ⟨rfl, rfl⟩
      go_wp2_with fail
      go_roundw
      case rel => exact ⟨2, by omega, by go_num, hB2⟩
      case measure => simp [intOf]
    · go_wp2_with fail
      refine (lives_true _).mono ?_
      rintro e w1 ⟨rfl, hB2⟩
      go_wp2_with fail
      go_ret
      exact ⟨rfl, below_on hb0 (below_on hB hB2 (Nat.le_refl _)) (by omega)⟩
end Go.Proofs.Ytiboaafelabpfaa
