/- SegmentNames: the walk. No statement of the seat is proved here. -/
import Derived.Test.YtlphpjgiaflfkaaSx
namespace Go.Proofs.Ytlphpjgiaflfkaa
set_option linter.unusedVariables false
set_option linter.unusedSimpArgs false
set_option linter.unusedSectionVars false
open Go Go.RowKit Go.Shelf

theorem name_no (n : Nat) (h : n < 1 ∨ 1152921504606846976 ≤ n) : nameOf n = [] := by unfold nameOf; rw [if_pos h]
theorem name_yes (n : Nat) (h1 : 1 ≤ n) (h2 : n < 1152921504606846976) : ∃ r, nameOf n = 76 :: r ∧ (76 :: r : List UInt8).length = 16 := by
  have h : nameOf n = nameL n 0 := by unfold nameOf; rw [if_neg (by omega)]
  have hl := nameL_len n 0
  rw [nameL_head] at h hl
  exact ⟨_, h, hl⟩
theorem neq_s (s : ByteArray) (w : World) : (binOp .neq 9 (.string s) (.string s)).run Try.prog w = .ok (.bool false) w := by simp [go_sem]
set_option maxRecDepth 100000 in
set_option maxHeartbeats 4000000 in
theorem segmentNames_walk (a b : Int) (s : ByteArray) (w : World) (a0 : 0 ≤ a) (a1 : a ≤ 18446744073709551615) (b0 : 0 ≤ b) (b1 : b ≤ 18446744073709551615) :
    Calls Try.prog 5 #[.int .u64 a, .int .u64 b, .string s] w fun e w' => e = .returned (.bool true) ∧ Below w.heap.size w w' := by
  obtain ⟨⟨l⟩⟩ := s
  obtain ⟨x, rfl⟩ := Int.eq_ofNat_of_zero_le a0
  obtain ⟨y, rfl⟩ := Int.eq_ofNat_of_zero_le b0
  have hsz : (⟨⟨l⟩⟩ : ByteArray).size = l.length := by simp [ByteArray.size]
  by_cases hl : 100 < l.length
  · have hl1 : (100 : Int) < (l.length : Int) := by omega
    go_enter Try.func5, Try.ntmps5
    go_wp2_with fail
    refine (lives24_any _).mono ?_
    rintro e w1 ⟨rfl, hB1⟩
    go_wp2_with fail
    go_ret
    exact ⟨rfl, hB1⟩
  · have hl1 : ¬ (100 : Int) < (l.length : Int) := by omega
    have hf1 := fun W => segFirst_any l W (by omega)
    have hf2 := fun W => segRefFirst_any l W (by omega)
    have hnx1 := fun W => segName_any x (by omega) W
    have hnx2 := fun W => segRefName_any x (by omega) W
    have hny := fun W => segName_any y (by omega) W
    have hback := name_first l
    obtain ⟨F, hF⟩ : ∃ F, F = firstOf l := ⟨_, rfl⟩
    simp only [← hF] at hf1 hf2 hback
    clear hF
    obtain ⟨n, ok⟩ := F
    simp only at hf1 hf2
    have hnq := neq_s
    have hnb : (binOp .neq 4 (.bool ok) (.bool ok)).run Try.prog = fun w => .ok (.bool false) w := by funext w; cases ok <;> kernel_rfl
    have hnbw : ∀ w, (binOp .neq 4 (.bool ok) (.bool ok)).run Try.prog w = .ok (.bool false) w := fun w => by rw [hnb]
    clear hnb
    have Hf1 := Lib.hid hf1
    have Hf2 := Lib.hid hf2
    have Hx1 := Lib.hid hnx1
    have Hx2 := Lib.hid hnx2
    have Hy := Lib.hid hny
    clear hf1 hf2 hnx1 hnx2 hny
    have hnn : ok = true → ∀ W, Calls Try.prog 21 #[.int .u64 (n : Nat)] W fun e w' => e = .returned (.string ⟨l.toArray⟩) ∧ Below W.heap.size W w' := fun h W => by
      obtain ⟨h1, h2⟩ := hback n (by rw [h])
      have := segName_any n (by omega) W
      rw [h1] at this
      exact this
    go_enter Try.func5, Try.ntmps5
    go_wp2_with fail
    refine (Hf1.out _).mono ?_
    rintro e w1 ⟨rfl, hB1⟩
    go_wp2_with fail
    refine (Hf2.out _).mono ?_
    rintro e w2 ⟨rfl, hB2'⟩
    have hB2 := below_on hB1 hB2' (Nat.le_refl _)
    go_wp2_with fail
    refine (Hx1.out _).mono ?_
    rintro e w3 ⟨rfl, hB3'⟩
    have hB3 := below_on hB2 hB3' (Nat.le_refl _)
    go_wp2_with fail
    refine (Hx2.out _).mono ?_
    rintro e w4 ⟨rfl, hB4'⟩
    have hB4 := below_on hB3 hB4' (Nat.le_refl _)
    clear hback
    cases ok
    · go_upto_if 52 with fail
      go_wp2_with fail
      refine (Hx1.out _).mono ?_
      rintro e w6 ⟨rfl, hB6'⟩
      have hB6 := below_on hB4 hB6' (Nat.le_refl _)
      go_wp2_with fail
      refine (Hy.out _).mono ?_
      rintro e w7 ⟨rfl, hB7'⟩
      have hB7 := below_on hB6 hB7' (Nat.le_refl _)
      clear hnq hnbw
      by_cases hx : x < 1 ∨ 1152921504606846976 ≤ x
      · rw [name_no x hx]
        have Hx := Lib.hid hx
        clear hx
        go_upto_if 62 with fail
        go_wp2_with fail
        refine (lives24_any _).mono ?_
        rintro e w8 ⟨rfl, hB8⟩
        go_wp2_with fail
        go_ret
        exact ⟨rfl, below_on hB7 hB8 (Nat.le_refl _)⟩
      · obtain ⟨r, er, lr⟩ := name_yes x (by omega) (by omega)
        by_cases hy : y < 1 ∨ 1152921504606846976 ≤ y
        · rw [name_no y hy, er]
          have Hx := Lib.hid hx
          have Hyy := Lib.hid hy
          have Her := Lib.hid er
          clear hx hy er lr
          go_upto_if 62 with fail
          go_wp2_with fail
          refine (lives24_any _).mono ?_
          rintro e w8 ⟨rfl, hB8⟩
          go_wp2_with fail
          go_ret
          exact ⟨rfl, below_on hB7 hB8 (Nat.le_refl _)⟩
        · obtain ⟨r2, er2, lr2⟩ := name_yes y (by omega) (by omega)
          have hfx := fun W => segFirst_any (76 :: r) W (by omega)
          have hn1 := first_name x (by omega) (by omega)
          rw [er] at hn1
          simp only [hn1] at hfx
          have hless := less_names x y (by omega) (by omega) (by omega) (by omega)
          rw [er, er2] at hless
          have hlss : ∀ W, (binOp .lss 9 (.string ⟨(76 :: r).toArray⟩) (.string ⟨(76 :: r2).toArray⟩)).run Try.prog W = .ok (.bool (decide (x < y))) W := fun W => by
            rw [binOp_string_lss, ByteArray.toList_eq, ByteArray.toList_eq, hless]; rfl
          have hlt : (decide ((x : Int) < (y : Int))) = decide (x < y) := by simp
          have hbe : ∀ W, (binOp .eql 4 (.bool (decide (x < y))) (.bool (decide ((x : Int) < (y : Int))))).run Try.prog W = .ok (.bool true) W := fun W => by rw [hlt]; cases decide (x < y) <;> kernel_rfl
          have hs16 : (⟨(76 :: r).toArray⟩ : ByteArray).size = 16 := by rw [← lr]; simp [ByteArray.size]
          rw [er, er2]
          have Hfx := Lib.hid hfx
          have Hx := Lib.hid hx
          have Hyy := Lib.hid hy
          have Her := Lib.hid er
          clear hx hy er er2 lr lr2 hfx hn1 hlt hlss
          go_upto_if 62 with fail
          go_wp2_with fail
          refine (Hfx.out _).mono ?_
          rintro e w8 ⟨rfl, hB8'⟩
          have hB8 := below_on hB7 hB8' (Nat.le_refl _)
          go_wp2_with fail
          refine (lives24_any _).mono ?_
          rintro e w9 ⟨rfl, hB9⟩
          go_wp2_with fail
          go_ret
          exact ⟨rfl, below_on hB8 hB9 (Nat.le_refl _)⟩
    · go_wp2_with fail
      refine (hnn (by trivial) _).mono ?_
      rintro e w5 ⟨rfl, hB5'⟩
      have hB5 := below_on hB4 hB5' (Nat.le_refl _)
      go_wp2_with fail
      refine (Hx1.out _).mono ?_
      rintro e w6 ⟨rfl, hB6'⟩
      have hB6 := below_on hB5 hB6' (Nat.le_refl _)
      go_wp2_with fail
      refine (Hy.out _).mono ?_
      rintro e w7 ⟨rfl, hB7'⟩
      have hB7 := below_on hB6 hB7' (Nat.le_refl _)
      clear hnq hnbw
      by_cases hx : x < 1 ∨ 1152921504606846976 ≤ x
      · rw [name_no x hx]
        have Hx := Lib.hid hx
        clear hx
        go_upto_if 62 with fail
        go_wp2_with fail
        refine (lives24_any _).mono ?_
        rintro e w8 ⟨rfl, hB8⟩
        go_wp2_with fail
        go_ret
        exact ⟨rfl, below_on hB7 hB8 (Nat.le_refl _)⟩
      · obtain ⟨r, er, lr⟩ := name_yes x (by omega) (by omega)
        by_cases hy : y < 1 ∨ 1152921504606846976 ≤ y
        · rw [name_no y hy, er]
          have Hx := Lib.hid hx
          have Hyy := Lib.hid hy
          have Her := Lib.hid er
          clear hx hy er lr
          go_upto_if 62 with fail
          go_wp2_with fail
          refine (lives24_any _).mono ?_
          rintro e w8 ⟨rfl, hB8⟩
          go_wp2_with fail
          go_ret
          exact ⟨rfl, below_on hB7 hB8 (Nat.le_refl _)⟩
        · obtain ⟨r2, er2, lr2⟩ := name_yes y (by omega) (by omega)
          have hfx := fun W => segFirst_any (76 :: r) W (by omega)
          have hn1 := first_name x (by omega) (by omega)
          rw [er] at hn1
          simp only [hn1] at hfx
          have hless := less_names x y (by omega) (by omega) (by omega) (by omega)
          rw [er, er2] at hless
          have hlss : ∀ W, (binOp .lss 9 (.string ⟨(76 :: r).toArray⟩) (.string ⟨(76 :: r2).toArray⟩)).run Try.prog W = .ok (.bool (decide (x < y))) W := fun W => by
            rw [binOp_string_lss, ByteArray.toList_eq, ByteArray.toList_eq, hless]; rfl
          have hlt : (decide ((x : Int) < (y : Int))) = decide (x < y) := by simp
          have hbe : ∀ W, (binOp .eql 4 (.bool (decide (x < y))) (.bool (decide ((x : Int) < (y : Int))))).run Try.prog W = .ok (.bool true) W := fun W => by rw [hlt]; cases decide (x < y) <;> kernel_rfl
          have hs16 : (⟨(76 :: r).toArray⟩ : ByteArray).size = 16 := by rw [← lr]; simp [ByteArray.size]
          rw [er, er2]
          have Hfx := Lib.hid hfx
          have Hx := Lib.hid hx
          have Hyy := Lib.hid hy
          have Her := Lib.hid er
          clear hx hy er er2 lr lr2 hfx hn1 hlt hlss
          go_upto_if 62 with fail
          go_wp2_with fail
          refine (Hfx.out _).mono ?_
          rintro e w8 ⟨rfl, hB8'⟩
          have hB8 := below_on hB7 hB8' (Nat.le_refl _)
          go_wp2_with fail
          refine (lives24_any _).mono ?_
          rintro e w9 ⟨rfl, hB9⟩
          go_wp2_with fail
          go_ret
          exact ⟨rfl, below_on hB8 hB9 (Nat.le_refl _)⟩
end Go.Proofs.Ytlphpjgiaflfkaa
