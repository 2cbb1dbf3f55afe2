/- SpanSides' walk. No statement of the seat is proved here. -/
import Derived.Test.YtdiahfebiafodaaSides
import Derived.Test.YtdiahfebiafodaaOpenS
namespace Go.Proofs.Ytdiahfebiafodaa
set_option linter.unusedVariables false
set_option linter.unusedSimpArgs false
set_option linter.unusedSectionVars false
open Go Go.RowKit Go.Shelf

set_option maxRecDepth 10000 in
set_option maxHeartbeats 2000000 in
theorem spanSides_walk (ao : Option Addr) (cap : Nat) (l : List Sp) (x n : Int) (w : World) (hs : Sps w ao cap l) (hok : SpOk l) (x0 : -9223372036854775808 ≤ x) (x1 : x ≤ 9223372036854775807) (n0 : -9223372036854775808 ≤ n) (n1 : n ≤ 9223372036854775807) :
    Calls Try.prog 8 #[.slice ao l.length cap, .int .i64 x, .int .i64 n] w fun e w' => e = .returned (.bool true) ∧ Below w.heap.size w w' := by
  have hm := hs.max
  have hle := hs.le
  unfold maxLen at hm
  have heqb := eqb
  by_cases hl : 100 < l.length
  · go_enter Try.func8, Try.ntmps8
    go_wp2_with fail
    refine (lives7_any _).mono ?_
    rintro e w1 ⟨rfl, hb1⟩
    go_wp2_with fail
    go_ret
    exact ⟨rfl, hb1⟩
  have hrow := row_any ao cap l w hs
  by_cases h0 : rowErr l = 0
  · rw [h0] at hrow
    by_cases hx0 : x < 0
    · go_enter Try.func8, Try.ntmps8
      go_wp2_with fail
      refine hrow.mono ?_
      rintro e w1 ⟨rfl, hb1⟩
      go_wp2_with fail
      refine (lives7_any _).mono ?_
      rintro e w2 ⟨rfl, hb2⟩
      go_wp2_with fail
      go_ret
      exact ⟨rfl, below_on hb1 hb2 (Nat.le_refl _)⟩
    by_cases hx1 : 1125899906842624 < x
    · go_enter Try.func8, Try.ntmps8
      go_wp2_with fail
      refine hrow.mono ?_
      rintro e w1 ⟨rfl, hb1⟩
      go_wp2_with fail
      refine (lives7_any _).mono ?_
      rintro e w2 ⟨rfl, hb2⟩
      go_wp2_with fail
      go_ret
      exact ⟨rfl, below_on hb1 hb2 (Nat.le_refl _)⟩
    obtain ⟨hch, hlen⟩ := row_chain h0
    have hr := rights_row h0
    have hT := lenL_H h0
    have htwo := parts_two l hr x (by omega) (by omega)
    have hA0 := lenL_nonneg _ (parts_le l 0 x)
    have hB0 := lenL_nonneg _ (parts_le l x 1125899906842624)
    have hwi := fun f t w' (h : Sps w' ao cap l) => within_any ao cap l f t w' (by omega) h
    have hwv := fun f t => within_row h0 f t
    simp only [hwv] at hwi
    have hlenA := fun w' (h : Sps w' ao cap l) => len_any ao cap l w' (by omega) h
    rw [hwv, parts_whole l hr] at hlenA
    have hnth := fun w' (h : Sps w' ao cap l) => nth_any ao cap l n w' h0 n1 h
    have hhas := fun t w' (h : Sps w' ao cap l) => spHas_any ao cap l t w' h0 h
    have hone := one_sec l x 0 hch
    have hwA := fun w' (h : Sps w' ao cap l) => hwi 0 x w' h
    have hwB := fun w' (h : Sps w' ao cap l) => hwi x 1125899906842624 w' h
    have hwC := fun w' (h : Sps w' ao cap l) => hwi x (x + 1) w' h
    have hhX := fun w' (h : Sps w' ao cap l) => hhas x w' h
    have hnk : (nthV l n).2 = true → hasL l (nthV l n).1 = true ∧ lenL (parts l 0 (nthV l n).1) = n := by
      intro h
      unfold nthV at h ⊢
      by_cases g : n < 0
      · rw [if_pos g] at h; cases h
      · rw [if_neg g] at h ⊢
        have := nth_in l 0 n hch (Int.le_refl _) (by omega) h
        exact ⟨this.1, this.2.2⟩
    have hnd : (nthV l n).2 = (decide (0 ≤ n) && decide (n < lenL l)) := by
      unfold nthV
      by_cases g : n < 0
      · rw [if_pos g]; have : ¬ 0 ≤ n := by omega
        simp [this]
      · rw [if_neg g, nth_ok l n hr (by omega)]; have : 0 ≤ n := by omega
        simp [this]
    obtain ⟨V, hV⟩ : ∃ V, V = nthV l n := ⟨_, rfl⟩
    rw [← hV] at hnth hnk hnd
    clear hV
    obtain ⟨vt, vk⟩ := V
    simp only at hnth hnk hnd
    have hwD := fun w' (h : Sps w' ao cap l) => hwi 0 vt w' h
    have hhV := fun w' (h : Sps w' ao cap l) => hhas vt w' h
    obtain ⟨T, hTe⟩ : ∃ T, T = lenL l := ⟨_, rfl⟩
    obtain ⟨A, hAe⟩ : ∃ A, A = lenL (parts l 0 x) := ⟨_, rfl⟩
    obtain ⟨B, hBe⟩ : ∃ B, B = lenL (parts l x 1125899906842624) := ⟨_, rfl⟩
    rw [← hTe, ← hAe, ← hBe] at htwo
    rw [← hTe] at hT hlenA hnd
    rw [← hAe] at hwA hA0
    rw [← hBe] at hwB hB0
    have e1 : IntKind.i64.wrap (A + B) = T := by rw [htwo]; exact IntWalk.i64_in _ (by omega)
    have e2 : IntKind.i64.wrap (x + 1) = x + 1 := IntWalk.i64_in _ (by omega)
    have hneT : (T != T) = false := by simp
    have hnen : (n != n) = false := by simp
    rw [hone] at hwC
    obtain ⟨hx, hhx⟩ : ∃ hx, hx = hasL l x := ⟨_, rfl⟩
    rw [← hhx] at hwC hhX
    clear hhx hTe hAe hBe hone hwv hwi hhas h0 hch hr htwo
    go_enter Try.func8, Try.ntmps8
    go_wp2_with fail
    refine hrow.mono ?_
    rintro e w1 ⟨rfl, hb1⟩
    go_wp2_with fail
    refine (hwA _ (hs.below hb1)).mono ?_
    rintro e w2 ⟨rfl, hb2⟩
    have B2 := below_on hb1 hb2 (Nat.le_refl _)
    go_wp2_with fail
    refine (hwB _ (hs.below B2)).mono ?_
    rintro e w3 ⟨rfl, hb3⟩
    have B3 := below_on B2 hb3 (Nat.le_refl _)
    go_wp2_with fail
    refine (hlenA _ (hs.below B3)).mono ?_
    rintro e w4 ⟨rfl, hb4⟩
    have B4 := below_on B3 hb4 (Nat.le_refl _)
    go_wp2_with fail
    refine (hnth _ (hs.below B4)).mono ?_
    rintro e w5 ⟨rfl, hb5⟩
    have B5 := below_on B4 hb5 (Nat.le_refl _)
    by_cases hn : n < 0
    · have hvk : vk = false := by rw [hnd]; have : ¬ 0 ≤ n := by omega
                                  simp [this]
      subst hvk
      clear hnk hnd
      go_wp2_with fail
      refine (hhX _ (hs.below B5)).mono ?_
      rintro e wa ⟨rfl, hba⟩
      have Ba := below_on B5 hba (Nat.le_refl _)
      cases hx with
      | true =>
        simp only [Bool.false_eq_true, if_false, if_true, reduceIte] at hwC
        by_cases hxH : x = 1125899906842624
        · subst hxH
          go_wp2_with fail
          refine (lives7_any _).mono ?_
          rintro e wz ⟨rfl, hbz⟩
          go_wp2_with fail
          go_ret
          exact ⟨by first | rfl | simp, below_on Ba hbz (Nat.le_refl _)⟩
        · have hxe : (x == 1125899906842624) = false := by simpa using hxH
          go_wp2_with fail
          refine (hwC _ (hs.below Ba)).mono ?_
          rintro e wb ⟨rfl, hbb⟩
          have Bb := below_on Ba hbb (Nat.le_refl _)
          go_wp2_with fail
          refine (lives7_any _).mono ?_
          rintro e wz ⟨rfl, hbz⟩
          go_wp2_with fail
          go_ret
          exact ⟨by first | rfl | simp, below_on Bb hbz (Nat.le_refl _)⟩
      | false =>
        simp only [Bool.false_eq_true, if_false, if_true, reduceIte] at hwC
        by_cases hxH : x = 1125899906842624
        · subst hxH
          go_wp2_with fail
          refine (lives7_any _).mono ?_
          rintro e wz ⟨rfl, hbz⟩
          go_wp2_with fail
          go_ret
          exact ⟨by first | rfl | simp, below_on Ba hbz (Nat.le_refl _)⟩
        · have hxe : (x == 1125899906842624) = false := by simpa using hxH
          go_wp2_with fail
          refine (hwC _ (hs.below Ba)).mono ?_
          rintro e wb ⟨rfl, hbb⟩
          have Bb := below_on Ba hbb (Nat.le_refl _)
          go_wp2_with fail
          refine (lives7_any _).mono ?_
          rintro e wz ⟨rfl, hbz⟩
          go_wp2_with fail
          go_ret
          exact ⟨by first | rfl | simp, below_on Bb hbz (Nat.le_refl _)⟩
    · by_cases hnT : n < T
      · have hvk : vk = true := by rw [hnd]; have : 0 ≤ n := by omega
                                   simp [this, hnT]
        subst hvk
        obtain ⟨k1, k2⟩ := hnk rfl
        rw [k1] at hhV
        rw [k2] at hwD
        clear hnk hnd k1 k2
        go_wp2_with fail
        refine (hlenA _ (hs.below B5)).mono ?_
        rintro e w6 ⟨rfl, hb6⟩
        have B6 := below_on B5 hb6 (Nat.le_refl _)
        go_wp2_with fail
        refine (hhV _ (hs.below B6)).mono ?_
        rintro e w7 ⟨rfl, hb7⟩
        have B7 := below_on B6 hb7 (Nat.le_refl _)
        go_wp2_with fail
        refine (hwD _ (hs.below B7)).mono ?_
        rintro e w8 ⟨rfl, hb8⟩
        have B8 := below_on B7 hb8 (Nat.le_refl _)
        go_wp2_with fail
        refine (hhX _ (hs.below B8)).mono ?_
        rintro e wa ⟨rfl, hba⟩
        have Ba := below_on B8 hba (Nat.le_refl _)
        cases hx with
        | true =>
          simp only [Bool.false_eq_true, if_false, if_true, reduceIte] at hwC
          by_cases hxH : x = 1125899906842624
          · subst hxH
            go_wp2_with fail
            refine (lives7_any _).mono ?_
            rintro e wz ⟨rfl, hbz⟩
            go_wp2_with fail
            go_ret
            exact ⟨by first | rfl | simp, below_on Ba hbz (Nat.le_refl _)⟩
          · have hxe : (x == 1125899906842624) = false := by simpa using hxH
            go_wp2_with fail
            refine (hwC _ (hs.below Ba)).mono ?_
            rintro e wb ⟨rfl, hbb⟩
            have Bb := below_on Ba hbb (Nat.le_refl _)
            go_wp2_with fail
            refine (lives7_any _).mono ?_
            rintro e wz ⟨rfl, hbz⟩
            go_wp2_with fail
            go_ret
            exact ⟨by first | rfl | simp, below_on Bb hbz (Nat.le_refl _)⟩
        | false =>
          simp only [Bool.false_eq_true, if_false, if_true, reduceIte] at hwC
          by_cases hxH : x = 1125899906842624
          · subst hxH
            go_wp2_with fail
            refine (lives7_any _).mono ?_
            rintro e wz ⟨rfl, hbz⟩
            go_wp2_with fail
            go_ret
            exact ⟨by first | rfl | simp, below_on Ba hbz (Nat.le_refl _)⟩
          · have hxe : (x == 1125899906842624) = false := by simpa using hxH
            go_wp2_with fail
            refine (hwC _ (hs.below Ba)).mono ?_
            rintro e wb ⟨rfl, hbb⟩
            have Bb := below_on Ba hbb (Nat.le_refl _)
            go_wp2_with fail
            refine (lives7_any _).mono ?_
            rintro e wz ⟨rfl, hbz⟩
            go_wp2_with fail
            go_ret
            exact ⟨by first | rfl | simp, below_on Bb hbz (Nat.le_refl _)⟩
      · have hvk : vk = false := by rw [hnd]; simp [hnT]
        subst hvk
        clear hnk hnd
        go_wp2_with fail
        refine (hlenA _ (hs.below B5)).mono ?_
        rintro e w6 ⟨rfl, hb6⟩
        have B6 := below_on B5 hb6 (Nat.le_refl _)
        go_wp2_with fail
        refine (hhX _ (hs.below B6)).mono ?_
        rintro e wa ⟨rfl, hba⟩
        have Ba := below_on B6 hba (Nat.le_refl _)
        cases hx with
        | true =>
          simp only [Bool.false_eq_true, if_false, if_true, reduceIte] at hwC
          by_cases hxH : x = 1125899906842624
          · subst hxH
            go_wp2_with fail
            refine (lives7_any _).mono ?_
            rintro e wz ⟨rfl, hbz⟩
            go_wp2_with fail
            go_ret
            exact ⟨by first | rfl | simp, below_on Ba hbz (Nat.le_refl _)⟩
          · have hxe : (x == 1125899906842624) = false := by simpa using hxH
            go_wp2_with fail
            refine (hwC _ (hs.below Ba)).mono ?_
            rintro e wb ⟨rfl, hbb⟩
            have Bb := below_on Ba hbb (Nat.le_refl _)
            go_wp2_with fail
            refine (lives7_any _).mono ?_
            rintro e wz ⟨rfl, hbz⟩
            go_wp2_with fail
            go_ret
            exact ⟨by first | rfl | simp, below_on Bb hbz (Nat.le_refl _)⟩
        | false =>
          simp only [Bool.false_eq_true, if_false, if_true, reduceIte] at hwC
          by_cases hxH : x = 1125899906842624
          · subst hxH
            go_wp2_with fail
            refine (lives7_any _).mono ?_
            rintro e wz ⟨rfl, hbz⟩
            go_wp2_with fail
            go_ret
            exact ⟨by first | rfl | simp, below_on Ba hbz (Nat.le_refl _)⟩
          · have hxe : (x == 1125899906842624) = false := by simpa using hxH
            go_wp2_with fail
            refine (hwC _ (hs.below Ba)).mono ?_
            rintro e wb ⟨rfl, hbb⟩
            have Bb := below_on Ba hbb (Nat.le_refl _)
            go_wp2_with fail
            refine (lives7_any _).mono ?_
            rintro e wz ⟨rfl, hbz⟩
            go_wp2_with fail
            go_ret
            exact ⟨by first | rfl | simp, below_on Bb hbz (Nat.le_refl _)⟩
  · obtain ⟨er, her⟩ : ∃ er, er = rowErr l := ⟨_, rfl⟩
    rw [← her] at hrow h0
    have h1 : (((er : Nat) : Int) != 0) = true := by simp; omega
    clear her
    go_enter Try.func8, Try.ntmps8
    go_wp2_with fail
    refine hrow.mono ?_
    rintro e w1 ⟨rfl, hb1⟩
    go_wp2_with fail
    refine (lives7_any _).mono ?_
    rintro e w2 ⟨rfl, hb2⟩
    go_wp2_with fail
    go_ret
    exact ⟨rfl, below_on hb1 hb2 (Nat.le_refl _)⟩
end Go.Proofs.Ytdiahfebiafodaa
