/- lives, and what a nil queue does. No statement of the seat is proved here. -/
import Derived.Test.YtiboaafelabpfaaReadsD
namespace Go.Proofs.Ytiboaafelabpfaa
set_option linter.unusedVariables false
set_option linter.unusedSimpArgs false
set_option linter.unusedSectionVars false
open Go Go.RowKit

set_option maxHeartbeats 2000000 in
theorem lives_true (w : World) : Calls Try.prog 6 #[] w fun e w' => e = .returned (.bool true) ∧ Below w.heap.size w w' := by
  go_enter Try.func6, Try.ntmps6
  go_wp2_with (go_at_call 7; refine (new_any _).mono ?_; rintro e w1 ⟨rfl, q1, b1⟩)
  have r1 : Wait w1 none 0 [] := Rw.nil _ _ _
  go_wp2_with (go_at_call 18; refine (ask_ok w1 _ 0 0 7 3 none 0 [] q1 r1 (by decide) (by decide) (by decide)).mono ?_; rintro e w2 ⟨rfl, a2, c2, q2, r2, g2⟩)
  simp only [List.length_nil, List.nil_append, Nat.zero_add, Int.zero_add] at q2 r2
  go_wp2_with (go_at_call 11; refine (confirm_at w2 _ 1 0 1 a2 1 c2 q2).mono ?_; rintro e w3 ⟨rfl, q3, g3⟩)
  have r3 : Wait w3 a2 c2 [⟨7, 3, 1⟩] := Rw.grown r2 g3 (elem?_of q2) (by decide)
  have hl : ([⟨7, 3, 1⟩] : List Rd).length ≤ 1000 := by simp
  have em : max (0 : Int) (min 1 1) = 1 := by omega
  rw [em] at q3
  have f1 : ([⟨7, 3, 1⟩] : List Rd).filter (ripe 1 2) = [] := by simp [ripe]
  have f2 : ([⟨7, 3, 1⟩] : List Rd).filter (fun r => !ripe 1 2 r) = [⟨7, 3, 1⟩] := by simp [ripe]
  have f3 : ([⟨7, 3, 1⟩] : List Rd).filter (ripe 1 3) = [⟨7, 3, 1⟩] := by simp [ripe]
  have T := take_at w3 _ 1 _ 2 a2 c2 [⟨7, 3, 1⟩] q3 r3 hl
  have hT := Lib.hid T
  clear T
  refine hT.out.mono ?_
  intro e w4 hp
  simp only [Parted, f1, f2, List.length_nil, List.length_cons, Nat.zero_add] at hp
  obtain ⟨a4, c4, a5, c5, rfl, s4, q4, s5, g4⟩ := hp
  go_wp2_with fail
  have T := take_at w4 _ 1 _ 3 a5 c5 [⟨7, 3, 1⟩] q4 s5 hl
  have hT := Lib.hid T
  clear T
  refine hT.out.mono ?_
  intro e w5 hp
  simp only [Parted, f3, List.length_nil, List.length_cons, Nat.zero_add] at hp
  obtain ⟨a6, c6, a7, c7, rfl, s6, q6, s7, g5⟩ := hp
  obtain ⟨b', off, rfl, d0, d1, d2⟩ := Wait.get s6 0 (by simp)
  simp at d0 d1 d2
  go_wp2_with fail
  go_ret
  have b2 := below_grown b1 g2 (Nat.le_refl _) b1.size
  have b3 := below_grown b2 g3 (Nat.le_refl _) b2.size
  have b4 := below_grown b3 g4 (Nat.le_refl _) b3.size
  exact ⟨rfl, below_grown b4 g5 (Nat.le_refl _) b4.size⟩
end Go.Proofs.Ytiboaafelabpfaa
