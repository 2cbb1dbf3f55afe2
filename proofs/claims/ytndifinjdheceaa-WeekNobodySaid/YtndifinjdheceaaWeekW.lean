/- The walks of WeekTells, WeekCounts, WeekSteps, WeekBack, WeekNobody. No statement of the seat is proved here. -/
import Derived.Test.YtndifinjdheceaaWeekR
import Derived.Test.YtndifinjdheceaaOpenS
namespace Go.Proofs.Ytndifinjdheceaa
set_option linter.unusedVariables false
set_option linter.unusedSimpArgs false
set_option linter.unusedSectionVars false
open Go Go.RowKit

set_option maxHeartbeats 2000000 in
theorem weekCounts_walk (ao : Option Addr) (cap : Nat) (l : List Sp) (f t n : Int) (w : World) (hs : Sps w ao cap l) (hok : SpOk l) (f0 : -9223372036854775808 ≤ f) (f1 : f ≤ 9223372036854775807) (t0 : -9223372036854775808 ≤ t) (t1 : t ≤ 9223372036854775807) (n0 : -9223372036854775808 ≤ n) (n1 : n ≤ 9223372036854775807) :
    Calls Try.prog 3 #[.slice ao l.length cap, .int .i64 f, .int .i64 t, .int .i64 n] w fun e w' => e = .returned (.bool true) ∧ Below w.heap.size w w' := by
  have hm := hs.max
  have hle := hs.le
  unfold maxLen at hm
  by_cases hl : 100 < l.length
  · go_enter Try.func3, Try.ntmps3
    go_wp2_with fail
    refine (lives8_any _).mono ?_
    rintro e w1 ⟨rfl, hb1⟩
    go_wp2_with fail
    go_ret
    exact ⟨rfl, hb1⟩
  have hwr := wrong_any ao cap l w hs
  by_cases hE : weekErr l = 0
  · rw [hE] at hwr
    go_enter Try.func3, Try.ntmps3
    go_wp2_with fail
    refine hwr.mono ?_
    rintro e w1 ⟨rfl, hb1⟩
    go_wp2_with fail
    refine (new_ok ao cap l w1 (hs.below hb1) hE).mono ?_
    rintro e w2 ⟨p, b, ao2, cap2, rfl, hP2, hbb, hb2⟩
    have B2 := below_on hb1 hb2 (Nat.le_refl _)
    have hwb : w.heap.size ≤ b := Nat.le_trans hb1.size hbb
    go_wp2_with fail
    refine (nth_pl n n1 w2 hP2).mono ?_
    obtain ⟨V, hV⟩ : ∃ V, V = nthW l n := ⟨_, rfl⟩
    rw [← hV]
    have HV := Lib.hid hV
    clear hV
    obtain ⟨v1, v2⟩ := V
    rintro e w3 ⟨rfl, hP3, hg3⟩
    have B3 := below_grown B2 hg3 hwb B2.size
    go_wp2_with fail
    refine (refNth8_any ao cap l n w3 hE n1 (hs.below B3)).mono ?_
    rw [← HV.out]
    rintro e w4 ⟨rfl, hb4⟩
    have hP4 := hP3.below hb4
    have B4 := below_on B3 hb4 (Nat.le_refl _)
    go_wp2_with fail
    refine (until_pl f w4 hP4).mono ?_
    obtain ⟨F, hF⟩ : ∃ F, F = untilL l f := ⟨_, rfl⟩
    rw [← hF]
    have HF := Lib.hid hF
    clear hF
    rintro e w5 ⟨rfl, hP5, hg5⟩
    have B5 := below_grown B4 hg5 hwb B4.size
    go_wp2_with fail
    refine (refUntil_at ao cap l f w5 hE (hs.below B5)).mono ?_
    rw [← HF.out]
    rintro e w6 ⟨rfl, hb6⟩
    have hP6 := hP5.below hb6
    have B6 := below_on B5 hb6 (Nat.le_refl _)
    go_wp2_with fail
    refine (between_pl f t w6 hP6).mono ?_
    obtain ⟨T, hT⟩ : ∃ F, F = betweenL l f t := ⟨_, rfl⟩
    rw [← hT]
    have HT := Lib.hid hT
    clear hT
    rintro e w7 ⟨rfl, hP7, hg7⟩
    have B7 := below_grown B6 hg7 hwb B6.size
    go_wp2_with fail
    refine (refBetween_any ao cap l f t w7 hE (hs.below B7)).mono ?_
    rw [← HT.out]
    rintro e w8 ⟨rfl, hb8⟩
    have B8 := below_on B7 hb8 (Nat.le_refl _)
    go_wp2_with fail
    refine (lives8_any _).mono ?_
    rintro e w9 ⟨rfl, hb9⟩
    have B9 := below_on B8 hb9 (Nat.le_refl _)
    go_wp2_with fail
    go_ret
    exact ⟨rfl, B9⟩
  · have hE1 : (((weekErr l : Nat) : Int) != 0) = true := by simp; omega
    generalize weekErr l = E at hwr hE1
    go_enter Try.func3, Try.ntmps3
    go_wp2_with fail
    refine hwr.mono ?_
    rintro e w1 ⟨rfl, hb1⟩
    go_wp2_with fail
    refine (lives8_any _).mono ?_
    rintro e w2 ⟨rfl, hb2⟩
    go_wp2_with fail
    go_ret
    exact ⟨rfl, below_on hb1 hb2 (Nat.le_refl _)⟩
theorem openL_in (l : List Sp) (t : Int) : openL l t = true ∨ openL l t = false := by cases openL l t <;> simp
set_option maxHeartbeats 2000000 in
theorem weekSteps_walk (ao : Option Addr) (cap : Nat) (l : List Sp) (t : Int) (w : World) (hs : Sps w ao cap l) (hok : SpOk l) (t0 : -9223372036854775808 ≤ t) (t1 : t ≤ 9223372036854775807) :
    Calls Try.prog 5 #[.slice ao l.length cap, .int .i64 t] w fun e w' => e = .returned (.bool true) ∧ Below w.heap.size w w' := by
  have hm := hs.max
  have hle := hs.le
  unfold maxLen at hm
  by_cases hl : 100 < l.length
  · go_enter Try.func5, Try.ntmps5
    go_wp2_with fail
    refine (lives8_any _).mono ?_
    rintro e w1 ⟨rfl, hb1⟩
    go_wp2_with fail
    go_ret
    exact ⟨rfl, hb1⟩
  have hwr := wrong_any ao cap l w hs
  by_cases hE : weekErr l = 0
  · rw [hE] at hwr
    by_cases ht0 : t < 0
    · go_enter Try.func5, Try.ntmps5
      go_wp2_with fail
      refine hwr.mono ?_
      rintro e w1 ⟨rfl, hb1⟩
      go_wp2_with fail
      refine (lives8_any _).mono ?_
      rintro e w2 ⟨rfl, hb2⟩
      go_wp2_with fail
      go_ret
      exact ⟨rfl, below_on hb1 hb2 (Nat.le_refl _)⟩
    by_cases ht1 : 2251799813685248 ≤ t
    · go_enter Try.func5, Try.ntmps5
      go_wp2_with fail
      refine hwr.mono ?_
      rintro e w1 ⟨rfl, hb1⟩
      go_wp2_with fail
      refine (lives8_any _).mono ?_
      rintro e w2 ⟨rfl, hb2⟩
      go_wp2_with fail
      go_ret
      exact ⟨rfl, below_on hb1 hb2 (Nat.le_refl _)⟩
    have hst := until_step hE t (by omega) (by omega)
    have hbt := between_step hE t (by omega) (by omega)
    have hz := until_zero hE
    have hu1 := until_le hE t
    have hu2 := until_le hE (t + 1)
    have e2 : IntKind.i64.wrap (t + 1) = t + 1 := IntWalk.i64_in _ (by omega)
    obtain ⟨U, hU⟩ : ∃ U, U = untilL l t := ⟨_, rfl⟩
    obtain ⟨V, hV⟩ : ∃ V, V = untilL l (t + 1) := ⟨_, rfl⟩
    obtain ⟨O, hO⟩ : ∃ O, O = openL l t := ⟨_, rfl⟩
    obtain ⟨X, hX⟩ : ∃ X, X = betweenL l t (t + 1) := ⟨_, rfl⟩
    rw [← hU, ← hV, ← hO] at hst
    rw [← hO, ← hX] at hbt
    rw [← hU] at hu1
    rw [← hV] at hu2
    have HU := Lib.hid hU
    have HV := Lib.hid hV
    have HO := Lib.hid hO
    have HX := Lib.hid hX
    have Hz := Lib.hid hz
    clear hU hV hO hX hz
    have e3 : IntKind.i64.wrap (V - U) = V - U := IntWalk.i64_in _ (by omega)
    cases O
    all_goals
      simp only [if_true, if_false, Bool.false_eq_true] at hst hbt
      subst hbt
      go_enter Try.func5, Try.ntmps5
      go_wp2_with fail
      refine hwr.mono ?_
      rintro e w1 ⟨rfl, hb1⟩
      go_wp2_with fail
      refine (new_ok ao cap l w1 (hs.below hb1) hE).mono ?_
      rintro e w2 ⟨p, b, ao2, cap2, rfl, hP2, hbb, hb2⟩
      have B2 := below_on hb1 hb2 (Nat.le_refl _)
      have hwb : w.heap.size ≤ b := Nat.le_trans hb1.size hbb
      go_wp2_with fail
      refine (open_pl t w2 hP2).mono ?_
      rw [← HO.out]
      rintro e w3 ⟨rfl, hb3⟩
      have hP3 := hP2.below hb3
      have B3 := below_on B2 hb3 (Nat.le_refl _)
      go_wp2_with fail
      refine (until_pl (t + 1) w3 hP3).mono ?_
      rw [← HV.out]
      rintro e w4 ⟨rfl, hP4, hg4⟩
      have B4 := below_grown B3 hg4 hwb B3.size
      go_wp2_with fail
      refine (until_pl t w4 hP4).mono ?_
      rw [← HU.out]
      rintro e w5 ⟨rfl, hP5, hg5⟩
      have B5 := below_grown B4 hg5 hwb B4.size
      go_wp2_with fail
      refine (between_pl t (t + 1) w5 hP5).mono ?_
      rw [← HX.out]
      rintro e w6 ⟨rfl, hP6, hg6⟩
      have B6 := below_grown B5 hg6 hwb B5.size
      go_wp2_with fail
      refine (until_pl 0 w6 hP6).mono ?_
      rw [Hz.out]
      rintro e w7 ⟨rfl, hP7, hg7⟩
      have B7 := below_grown B6 hg7 hwb B6.size
      go_wp2_with fail
      refine (lives8_any _).mono ?_
      rintro e w8 ⟨rfl, hb8⟩
      have B8 := below_on B7 hb8 (Nat.le_refl _)
      go_wp2_with fail
      go_ret
      exact ⟨rfl, B8⟩
  · have hE1 : (((weekErr l : Nat) : Int) != 0) = true := by simp; omega
    generalize weekErr l = E at hwr hE1
    go_enter Try.func5, Try.ntmps5
    go_wp2_with fail
    refine hwr.mono ?_
    rintro e w1 ⟨rfl, hb1⟩
    go_wp2_with fail
    refine (lives8_any _).mono ?_
    rintro e w2 ⟨rfl, hb2⟩
    go_wp2_with fail
    go_ret
    exact ⟨rfl, below_on hb1 hb2 (Nat.le_refl _)⟩
set_option maxHeartbeats 2000000 in
theorem weekBack_walk (ao : Option Addr) (cap : Nat) (l : List Sp) (n : Int) (w : World) (hs : Sps w ao cap l) (hok : SpOk l) (n0 : -9223372036854775808 ≤ n) (n1 : n ≤ 9223372036854775807) :
    Calls Try.prog 4 #[.slice ao l.length cap, .int .i64 n] w fun e w' => e = .returned (.bool true) ∧ Below w.heap.size w w' := by
  have hm := hs.max
  have hle := hs.le
  unfold maxLen at hm
  by_cases hl : 100 < l.length
  · go_enter Try.func4, Try.ntmps4
    go_wp2_with fail
    refine (lives8_any _).mono ?_
    rintro e w1 ⟨rfl, hb1⟩
    go_wp2_with fail
    go_ret
    exact ⟨rfl, hb1⟩
  have hwr := wrong_any ao cap l w hs
  by_cases hE : weekErr l = 0
  · rw [hE] at hwr
    have hback := nth_back hE n
    have hnone := nth_none hE n
    obtain ⟨V, hV⟩ : ∃ V, V = nthW l n := ⟨_, rfl⟩
    rw [← hV] at hback hnone
    have HV := Lib.hid hV
    clear hV
    obtain ⟨v1, v2⟩ := V
    simp only at hback hnone
    by_cases hv : v2 = 0
    · subst hv
      obtain ⟨hop, hun⟩ := hback rfl
      clear hnone hback
      have Hop := Lib.hid hop
      have Hun := Lib.hid hun
      clear hop hun
      go_enter Try.func4, Try.ntmps4
      go_wp2_with fail
      refine hwr.mono ?_
      rintro e w1 ⟨rfl, hb1⟩
      go_wp2_with fail
      refine (new_ok ao cap l w1 (hs.below hb1) hE).mono ?_
      rintro e w2 ⟨p, b, ao2, cap2, rfl, hP2, hbb, hb2⟩
      have B2 := below_on hb1 hb2 (Nat.le_refl _)
      have hwb : w.heap.size ≤ b := Nat.le_trans hb1.size hbb
      go_wp2_with fail
      refine (nth_pl n n1 w2 hP2).mono ?_
      rw [← HV.out]
      rintro e w3 ⟨rfl, hP3, hg3⟩
      have B3 := below_grown B2 hg3 hwb B2.size
      go_wp2_with fail
      refine (open_pl v1 w3 hP3).mono ?_
      rw [Hop.out]
      rintro e w4 ⟨rfl, hb4⟩
      have hP4 := hP3.below hb4
      have B4 := below_on B3 hb4 (Nat.le_refl _)
      go_wp2_with fail
      refine (until_pl v1 w4 hP4).mono ?_
      rw [Hun.out]
      rintro e w5 ⟨rfl, hP5, hg5⟩
      have B5 := below_grown B4 hg5 hwb B4.size
      go_wp2_with fail
      refine (lives8_any _).mono ?_
      rintro e w6 ⟨rfl, hb6⟩
      have B6 := below_on B5 hb6 (Nat.le_refl _)
      go_wp2_with fail
      go_ret
      exact ⟨rfl, B6⟩
    · obtain ⟨hv1, hor⟩ := hnone hv
      subst hv1
      clear hback hnone
      have hv2 : ((v2 : Int) != 0) = true := by simp; omega
      by_cases hn : n < 0
      · clear hor
        go_enter Try.func4, Try.ntmps4
        go_wp2_with fail
        refine hwr.mono ?_
        rintro e w1 ⟨rfl, hb1⟩
        go_wp2_with fail
        refine (new_ok ao cap l w1 (hs.below hb1) hE).mono ?_
        rintro e w2 ⟨p, b, ao2, cap2, rfl, hP2, hbb, hb2⟩
        have B2 := below_on hb1 hb2 (Nat.le_refl _)
        have hwb : w.heap.size ≤ b := Nat.le_trans hb1.size hbb
        go_wp2_with fail
        refine (nth_pl n n1 w2 hP2).mono ?_
        rw [← HV.out]
        rintro e w3 ⟨rfl, hP3, hg3⟩
        have B3 := below_grown B2 hg3 hwb B2.size
        go_wp2_with fail
        refine (lives8_any _).mono ?_
        rintro e w6 ⟨rfl, hb6⟩
        have B6 := below_on B3 hb6 (Nat.le_refl _)
        go_wp2_with fail
        go_ret
        exact ⟨rfl, B6⟩
      by_cases hln : l = []
      · subst hln
        clear hor
        go_enter Try.func4, Try.ntmps4
        go_wp2_with fail
        refine hwr.mono ?_
        rintro e w1 ⟨rfl, hb1⟩
        go_wp2_with fail
        refine (new_ok ao cap [] w1 (hs.below hb1) hE).mono ?_
        rintro e w2 ⟨p, b, ao2, cap2, rfl, hP2, hbb, hb2⟩
        have B2 := below_on hb1 hb2 (Nat.le_refl _)
        have hwb : w.heap.size ≤ b := Nat.le_trans hb1.size hbb
        go_wp2_with fail
        refine (nth_pl n n1 w2 hP2).mono ?_
        rw [← HV.out]
        rintro e w3 ⟨rfl, hP3, hg3⟩
        have B3 := below_grown B2 hg3 hwb B2.size
        go_wp2_with fail
        refine (lives8_any _).mono ?_
        rintro e w6 ⟨rfl, hb6⟩
        have B6 := below_on B3 hb6 (Nat.le_refl _)
        go_wp2_with fail
        go_ret
        exact ⟨rfl, B6⟩
      have hun : untilL l 2251799813685248 ≤ n := by
        rcases hor with h | h | h
        · exact absurd h hn
        · exact absurd h hln
        · exact h
      have hlz : 0 < l.length := by cases l with
        | nil => exact absurd rfl hln
        | cons s l => simp
      have hlz2 : ((l.length : Int) == 0) = false := by simp; omega
      clear hor hln
      obtain ⟨U, hU⟩ : ∃ U, U = untilL l 2251799813685248 := ⟨_, rfl⟩
      rw [← hU] at hun
      have HU := Lib.hid hU
      clear hU
      go_enter Try.func4, Try.ntmps4
      go_wp2_with fail
      refine hwr.mono ?_
      rintro e w1 ⟨rfl, hb1⟩
      go_wp2_with fail
      refine (new_ok ao cap l w1 (hs.below hb1) hE).mono ?_
      rintro e w2 ⟨p, b, ao2, cap2, rfl, hP2, hbb, hb2⟩
      have B2 := below_on hb1 hb2 (Nat.le_refl _)
      have hwb : w.heap.size ≤ b := Nat.le_trans hb1.size hbb
      go_wp2_with fail
      refine (nth_pl n n1 w2 hP2).mono ?_
      rw [← HV.out]
      rintro e w3 ⟨rfl, hP3, hg3⟩
      have B3 := below_grown B2 hg3 hwb B2.size
      go_wp2_with fail
      refine (until_pl 2251799813685248 w3 hP3).mono ?_
      rw [← HU.out]
      rintro e w4 ⟨rfl, hP4, hg4⟩
      have B4 := below_grown B3 hg4 hwb B3.size
      go_wp2_with fail
      refine (lives8_any _).mono ?_
      rintro e w6 ⟨rfl, hb6⟩
      have B6 := below_on B4 hb6 (Nat.le_refl _)
      go_wp2_with fail
      go_ret
      exact ⟨rfl, B6⟩
  · have hE1 : (((weekErr l : Nat) : Int) != 0) = true := by simp; omega
    generalize weekErr l = E at hwr hE1
    go_enter Try.func4, Try.ntmps4
    go_wp2_with fail
    refine hwr.mono ?_
    rintro e w1 ⟨rfl, hb1⟩
    go_wp2_with fail
    refine (lives8_any _).mono ?_
    rintro e w2 ⟨rfl, hb2⟩
    go_wp2_with fail
    go_ret
    exact ⟨rfl, below_on hb1 hb2 (Nat.le_refl _)⟩
set_option maxHeartbeats 2000000 in
theorem weekTells_walk (ao : Option Addr) (cap : Nat) (l : List Sp) (t : Int) (w : World) (hs : Sps w ao cap l) (hok : SpOk l) (t0 : -9223372036854775808 ≤ t) (t1 : t ≤ 9223372036854775807) :
    Calls Try.prog 6 #[.slice ao l.length cap, .int .i64 t] w fun e w' => e = .returned (.bool true) ∧ Below w.heap.size w w' := by
  have hm := hs.max
  have hle := hs.le
  unfold maxLen at hm
  by_cases hl : 100 < l.length
  · go_enter Try.func6, Try.ntmps6
    go_wp2_with fail
    refine (lives8_any _).mono ?_
    rintro e w1 ⟨rfl, hb1⟩
    go_wp2_with fail
    go_ret
    exact ⟨rfl, hb1⟩
  have hwr := fun w' h' => wrong_any ao cap l w' h'
  by_cases hE : weekErr l = 0
  · rw [hE] at hwr
    obtain ⟨h0, hw⟩ := week_row hE
    obtain ⟨O, hO⟩ : ∃ O, O = openL l t := ⟨_, rfl⟩
    obtain ⟨T, hT⟩ : ∃ T, T = lenL l := ⟨_, rfl⟩
    have HO := Lib.hid hO
    have HT := Lib.hid hT
    have H0 := Lib.hid h0
    clear hO hT h0
    go_enter Try.func6, Try.ntmps6
    go_wp2_with fail
    refine (new_ok ao cap l w hs hE).mono ?_
    rintro e w2 ⟨p, b, ao2, cap2, rfl, hP2, hwb, B2⟩
    go_wp2_with fail
    refine (hwr _ (hs.below B2)).mono ?_
    rintro e w3 ⟨rfl, hb3⟩
    have hP3 := hP2.below hb3
    have B3 := below_on B2 hb3 (Nat.le_refl _)
    go_wp2_with fail
    refine (total_pl w3 hP3).mono ?_
    rw [← HT.out]
    rintro e w4 ⟨rfl, hP4, hg4⟩
    have B4 := below_grown B3 hg4 hwb B3.size
    go_wp2_with fail
    refine (refLen_any ao cap l w4 H0.out (hs.below B4)).mono ?_
    rw [← HT.out]
    rintro e w5 ⟨rfl, hb5⟩
    have hP5 := hP4.below hb5
    have B5 := below_on B4 hb5 (Nat.le_refl _)
    go_wp2_with fail
    refine (open_pl t w5 hP5).mono ?_
    rw [← HO.out]
    rintro e w6 ⟨rfl, hb6⟩
    have hP6 := hP5.below hb6
    have B6 := below_on B5 hb6 (Nat.le_refl _)
    go_wp2_with fail
    refine (refOpen_any ao cap l t w6 H0.out (hs.below B6)).mono ?_
    rw [← HO.out]
    rintro e w7 ⟨rfl, hb7⟩
    have hP7 := hP6.below hb7
    have B7 := below_on B6 hb7 (Nat.le_refl _)
    go_wp2_with fail
    refine (row_pl w7 hP7).mono ?_
    rintro e w8 ⟨⟨ao8, cap8, rfl, hs8⟩, hb8⟩
    have B8 := below_on B7 hb8 (Nat.le_refl _)
    go_wp2_with fail
    refine (same_any ao8 ao cap8 cap l l w8 hs8 (hs.below B8)).mono ?_
    rw [decide_eq_true (rfl : l = l)]
    rintro e w9 ⟨rfl, hb9⟩
    have B9 := below_on B8 hb9 (Nat.le_refl _)
    go_wp2_with fail
    refine (lives8_any _).mono ?_
    rintro e w10 ⟨rfl, hb10⟩
    have B10 := below_on B9 hb10 (Nat.le_refl _)
    go_wp2_with fail
    go_ret
    exact ⟨rfl, B10⟩
  · have hE1 : (((weekErr l : Nat) : Int) != 0) = true := by simp; omega
    have hnew := new_no ao cap l w hs hE
    generalize weekErr l = E at hwr hE1 hnew
    go_enter Try.func6, Try.ntmps6
    go_wp2_with fail
    refine hnew.mono ?_
    rintro e w1 ⟨rfl, hb1⟩
    go_wp2_with fail
    refine (hwr _ (hs.below hb1)).mono ?_
    rintro e w2 ⟨rfl, hb2⟩
    have B2 := below_on hb1 hb2 (Nat.le_refl _)
    go_wp2_with fail
    refine (lives8_any _).mono ?_
    rintro e w3 ⟨rfl, hb3⟩
    go_wp2_with fail
    go_ret
    exact ⟨rfl, below_on B2 hb3 (Nat.le_refl _)⟩
set_option maxHeartbeats 2000000 in
theorem weekNobody_walk (t n : Int) (w : World) (t0 : -9223372036854775808 ≤ t) (t1 : t ≤ 9223372036854775807) (n0 : -9223372036854775808 ≤ n) (n1 : n ≤ 9223372036854775807) :
    Calls Try.prog 7 #[.int .i64 t, .int .i64 n] w fun e w' => e = .returned (.bool true) ∧ Below w.heap.size w w' := by
  go_enter Try.func7, Try.ntmps7
  go_wp2_with fail
  obtain ⟨W, hW⟩ : ∃ W, W = (w.alloc (.cells #[.slice none 0 0, .pointer none] 46)).alloc (.cells #[.pointer none, .pointer (some ⟨w.heap.size, 0, none⟩)] 25) := ⟨_, rfl⟩
  have hc : ∀ k : Nat, k < 2 → ∃ v, W.cell? ⟨w.heap.size + 1, k, none⟩ = some v ∧ NoPlan W v := by
    intro k hk
    rw [hW]
    have h1 : ((w.alloc (.cells #[.slice none 0 0, .pointer none] 46)).alloc (.cells #[.pointer none, .pointer (some ⟨w.heap.size, 0, none⟩)] 25)).cell? ⟨w.heap.size, 1, none⟩ = some (.pointer none) := by
      rw [World.cell?_alloc_past _ _ _ (by simp)]
      exact cell?_new _ _ _ _ 1
    rcases (by omega : k = 0 ∨ k = 1) with rfl | rfl
    · exact ⟨.pointer none, by rw [World.cell?_alloc_at _ _ _ _ (by simp)]; rfl, .inl rfl⟩
    · exact ⟨.pointer (some ⟨w.heap.size, 0, none⟩), by rw [World.cell?_alloc_at _ _ _ _ (by simp)]; rfl, .inr ⟨_, rfl, h1⟩⟩
  have hbW : Below w.heap.size w W := by rw [hW]; exact (below_new _ _).alloc (by simp) _
  rw [← hW]
  have Hc := Lib.hid hc
  clear hW hc
  go_loop [15] (fun v => ∃ k : Nat, k ≤ 2 ∧ v = .int .i64 k) (fun v => 2 - (intOf v).toNat)
  case atStart => exact ⟨0, by omega, rfl⟩
  case round =>
    obtain ⟨k, hk, rfl⟩ := hrel
    by_cases hlt : k < 2
    · obtain ⟨v, hv, hN⟩ := Hc.out k hlt
      have i0 : (0 : Int) ≤ (k : Int) := by omega
      have i1 : (k : Int) < 2 := by omega
      have h1 := nth_no v n W hN
      have h2 := total_no v W hN
      have h3 := open_no v t W hN
      have h4 := until_no v t W hN
      have h5 := between_no v n t W hN
      have h6 := row_no v W hN
      have H1 := Lib.hid h1
      have H2 := Lib.hid h2
      have H3 := Lib.hid h3
      have H4 := Lib.hid h4
      have H5 := Lib.hid h5
      have H6 := Lib.hid h6
      have hvv : ∃ g, v = .pointer g := by
        rcases hN with rfl | ⟨g, rfl, -⟩ <;> exact ⟨_, rfl⟩
      obtain ⟨g, rfl⟩ := hvv
      clear h1 h2 h3 h4 h5 h6 hN
      go_wp2_with fail
      refine H1.out.mono ?_
      rintro e w1 ⟨rfl, rfl⟩
      go_wp2_with fail
      refine H2.out.mono ?_
      rintro e w1 ⟨rfl, rfl⟩
      go_wp2_with fail
      refine H3.out.mono ?_
      rintro e w1 ⟨rfl, rfl⟩
      go_wp2_with fail
      refine H4.out.mono ?_
      rintro e w1 ⟨rfl, rfl⟩
      go_wp2_with fail
      refine H5.out.mono ?_
      rintro e w1 ⟨rfl, rfl⟩
      go_wp2_with fail
      refine H6.out.mono ?_
      rintro e w1 ⟨rfl, rfl⟩
      go_wp2_with fail
      go_round
      case rel => exact ⟨k + 1, by omega, by go_num⟩
      case measure => simp [intOf]; omega
    · have hi' : k = 2 := by omega
      subst hi'
      go_wp2_with fail
      refine (lives8_any _).mono ?_
      rintro e w3 ⟨rfl, hb3⟩
      go_wp2_with fail
      go_ret
      exact ⟨rfl, below_on hbW hb3 (Nat.le_refl _)⟩
end Go.Proofs.Ytndifinjdheceaa
