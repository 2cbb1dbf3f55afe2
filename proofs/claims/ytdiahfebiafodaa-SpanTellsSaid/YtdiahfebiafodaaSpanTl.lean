/- SpanTells' walk. No statement of the seat is proved here. -/
import Derived.Test.YtdiahfebiafodaaSpanT
import Derived.Test.YtdiahfebiafodaaOpenS
namespace Go.Proofs.Ytdiahfebiafodaa
set_option linter.unusedVariables false
set_option linter.unusedSimpArgs false
set_option linter.unusedSectionVars false
open Go Go.RowKit Go.Shelf
open Go.Sort (grow)

set_option maxRecDepth 10000 in
set_option maxHeartbeats 2000000 in
theorem spanTells_walk (ao : Option Addr) (cap : Nat) (a : List Sp) (ao2 : Option Addr) (cap2 : Nat) (b : List Sp) (t by_ : Int) (w : World) (hs : Sps w ao cap a) (hok : SpOk a) (hs2 : Sps w ao2 cap2 b) (hok2 : SpOk b) (t0 : -9223372036854775808 ≤ t) (t1 : t ≤ 9223372036854775807) (b0 : -9223372036854775808 ≤ by_) (b1 : by_ ≤ 9223372036854775807) :
    Calls Try.prog 9 #[.slice ao a.length cap, .slice ao2 b.length cap2, .int .i64 t, .int .i64 by_] w fun e w' => e = .returned (.bool true) ∧ Below w.heap.size w w' := by
  have hm := hs.max
  have hle := hs.le
  unfold maxLen at hm
  have heqb := eqb
  by_cases hl : 100 < a.length
  · go_enter Try.func9, Try.ntmps9
    go_wp2_with fail
    refine (lives7_any _).mono ?_
    rintro e w1 ⟨rfl, hb1⟩
    go_wp2_with fail
    go_ret
    exact ⟨rfl, hb1⟩
  by_cases hl2 : 100 < b.length
  · go_enter Try.func9, Try.ntmps9
    go_wp2_with fail
    refine (lives7_any _).mono ?_
    rintro e w1 ⟨rfl, hb1⟩
    go_wp2_with fail
    go_ret
    exact ⟨rfl, hb1⟩
  have hadd := fun w' => add_any t by_ w' t0 t1 b0 b1
  have hrad := fun w' => refAdd_any t by_ w' t0 t1 b0 b1
  obtain ⟨P, hP⟩ : ∃ P, P = addS t by_ := ⟨_, rfl⟩
  rw [← hP] at hadd hrad
  clear hP
  obtain ⟨ax, ae⟩ := P
  unfold addBody at hadd hrad
  simp only at hadd hrad
  have hrow := fun w' (h : Sps w' ao cap a) => row_any ao cap a w' h
  have hrrow := fun w' (h : Sps w' ao cap a) => refRow_any ao cap a w' h
  obtain ⟨er, her⟩ : ∃ er, er = rowErr a := ⟨_, rfl⟩
  rw [← her] at hrow hrrow
  clear her
  have hsm := fun w' (h : Sps w' ao cap a) (h2 : Sps w' ao2 cap2 b) => spSame_any ao ao2 cap cap2 a b w' h h2
  have hrsm := fun w' (h : Sps w' ao cap a) (h2 : Sps w' ao2 cap2 b) => same_any ao ao2 cap cap2 a b w' h h2
  obtain ⟨sm, hsm0⟩ : ∃ sm, sm = decide (a = b) := ⟨_, rfl⟩
  rw [← hsm0] at hsm hrsm
  clear hsm0
  have hss := fun w' (h : Sps w' ao cap a) => spSame_any ao ao cap cap a a w' h h
  have hdd : decide (a = a) = true := by simp
  rw [hdd] at hss
  have eq1 : ∀ w', (binOp .eql 3 (.int .i64 ((er : Nat) : Int)) (.int .i64 ((er : Nat) : Int))).run Try.prog w' = .ok (.bool true) w' := fun w' => by simp [binOp, go_sem]
  go_enter Try.func9, Try.ntmps9
  go_wp2_with fail
  go_loopw [26] (fun v wr => ∃ i : Nat, v = .int .i64 i ∧ i ≤ a.length ∧ Below w.heap.size w wr) (fun v _ => a.length - (intOf v).toNat)
  case atStart => exact ⟨0, rfl, Nat.zero_le _, Below.refl _ _⟩
  case round =>
    obtain ⟨i, rfl, hi, hb⟩ := hrel
    by_cases hlt : i < a.length
    · obtain ⟨bb, off, rfl, c0, c1⟩ := (hs.below hb).get i hlt
      obtain ⟨s, hsd⟩ : ∃ s, s = a[i] := ⟨_, rfl⟩
      rw [← hsd] at c0 c1
      clear hsd
      have h1 := fun W => right_any s W
      have h2 := fun W => refRight_any s W
      obtain ⟨r, hr⟩ : ∃ r, r = s.right := ⟨_, rfl⟩
      rw [← hr] at h1 h2
      clear hr
      obtain ⟨x, y⟩ := s
      unfold spVal at h1 h2
      simp only at c0 c1 h1 h2
      have k0 := cell_regrown (w := wr.alloc (.cells #[.int .i64 x, .int .i64 y] 30)) (a := ⟨wr.heap.size, 0, none⟩) (v := .int .i64 x) (by rw [cell?_new]; rfl)
      have k1 := cell_regrown (w := wr.alloc (.cells #[.int .i64 x, .int .i64 y] 30)) (a := ⟨wr.heap.size, 1, none⟩) (v := .int .i64 y) (by rw [cell?_new]; rfl)
      cases r with
      | true =>
        have cR := fun d os => Calls.regrown_of (h1 (grow (redrawn (wr.alloc (.cells #[.int .i64 x, .int .i64 y] 30)) d) os))
        have cS := fun d os => Calls.regrown_of (h2 (grow (redrawn (wr.alloc (.cells #[.int .i64 x, .int .i64 y] 30)) d) os))
        clear h1 h2
        go_wp2_with fail
        refine wp_region_quiet_below (by kernel_rfl) (by kernel_rfl) (WQ.out ?_)
        refine WQ.grown (by kernel_rfl) (.agg #[.int .i64 x, .int .i64 y]) (fun d os => by go_simp) ?_
        simp only [Act.put, List.setIfInBounds_toArray, List.set_cons_zero, List.set_cons_succ]
        refine WQ.grown (by kernel_rfl) (.bool true) (fun d os => by go_simp) ?_
        simp only [Act.put, List.setIfInBounds_toArray, List.set_cons_zero, List.set_cons_succ]
        refine WQ.grown (by kernel_rfl) (.agg #[.int .i64 x, .int .i64 y]) (fun d os => by go_simp) ?_
        simp only [Act.put, List.setIfInBounds_toArray, List.set_cons_zero, List.set_cons_succ]
        refine WQ.grown (by kernel_rfl) (.bool true) (fun d os => by go_simp) ?_
        simp only [Act.put, List.setIfInBounds_toArray, List.set_cons_zero, List.set_cons_succ]
        refine WQ.grown (by kernel_rfl) (.bool false) (fun d os => by go_simp) ?_
        simp only [Act.put, List.setIfInBounds_toArray, List.set_cons_zero, List.set_cons_succ]
        refine WQ.nil ?_
        intro _ hw'
        obtain ⟨⟨dq, osq⟩, hw''⟩ := hw'
        subst hw''
        go_wp2_with fail
        go_roundw
        case rel => exact ⟨i + 1, by simp, by omega, below_on (below_on hb (below_new _ _) (Nat.le_refl _)) (below_regrown _ dq osq) (Nat.le_refl _)⟩
        case measure => simp [intOf]; omega
      | false =>
        have cR := fun d os => Calls.regrown_of (h1 (grow (redrawn (wr.alloc (.cells #[.int .i64 x, .int .i64 y] 30)) d) os))
        have cS := fun d os => Calls.regrown_of (h2 (grow (redrawn (wr.alloc (.cells #[.int .i64 x, .int .i64 y] 30)) d) os))
        clear h1 h2
        go_wp2_with fail
        refine wp_region_quiet_below (by kernel_rfl) (by kernel_rfl) (WQ.out ?_)
        refine WQ.grown (by kernel_rfl) (.agg #[.int .i64 x, .int .i64 y]) (fun d os => by go_simp) ?_
        simp only [Act.put, List.setIfInBounds_toArray, List.set_cons_zero, List.set_cons_succ]
        refine WQ.grown (by kernel_rfl) (.bool false) (fun d os => by go_simp) ?_
        simp only [Act.put, List.setIfInBounds_toArray, List.set_cons_zero, List.set_cons_succ]
        refine WQ.grown (by kernel_rfl) (.agg #[.int .i64 x, .int .i64 y]) (fun d os => by go_simp) ?_
        simp only [Act.put, List.setIfInBounds_toArray, List.set_cons_zero, List.set_cons_succ]
        refine WQ.grown (by kernel_rfl) (.bool false) (fun d os => by go_simp) ?_
        simp only [Act.put, List.setIfInBounds_toArray, List.set_cons_zero, List.set_cons_succ]
        refine WQ.grown (by kernel_rfl) (.bool false) (fun d os => by go_simp) ?_
        simp only [Act.put, List.setIfInBounds_toArray, List.set_cons_zero, List.set_cons_succ]
        refine WQ.nil ?_
        intro _ hw'
        obtain ⟨⟨dq, osq⟩, hw''⟩ := hw'
        subst hw''
        go_wp2_with fail
        go_roundw
        case rel => exact ⟨i + 1, by simp, by omega, below_on (below_on hb (below_new _ _) (Nat.le_refl _)) (below_regrown _ dq osq) (Nat.le_refl _)⟩
        case measure => simp [intOf]; omega
    · have hi' : i = a.length := by omega
      subst hi'
      go_wp2_with fail
      refine (hadd _).mono ?_
      rintro e w1 ⟨rfl, hb1⟩
      go_wp2_with fail
      refine (hrad _).mono ?_
      rintro e w2 ⟨rfl, hb2⟩
      have B2 := below_on (below_on hb hb1 (Nat.le_refl _)) hb2 (Nat.le_refl _)
      go_wp2_with fail
      refine (hrow _ (hs.below B2)).mono ?_
      rintro e w3 ⟨rfl, hb3⟩
      have B3 := below_on B2 hb3 (Nat.le_refl _)
      go_wp2_with fail
      refine (hrrow _ (hs.below B3)).mono ?_
      rintro e w4 ⟨rfl, hb4⟩
      have B4 := below_on B3 hb4 (Nat.le_refl _)
      go_wp2_with fail
      refine (hsm _ (hs.below B4) (hs2.below B4)).mono ?_
      rintro e w5 ⟨rfl, hb5⟩
      have B5 := below_on B4 hb5 (Nat.le_refl _)
      go_wp2_with fail
      refine (hrsm _ (hs.below B5) (hs2.below B5)).mono ?_
      rintro e w6 ⟨rfl, hb6⟩
      have B6 := below_on B5 hb6 (Nat.le_refl _)
      go_wp2_with fail
      refine (hss _ (hs.below B6)).mono ?_
      rintro e w7 ⟨rfl, hb7⟩
      have B7 := below_on B6 hb7 (Nat.le_refl _)
      go_wp2_with fail
      refine (lives7_any _).mono ?_
      rintro e w8 ⟨rfl, hb8⟩
      go_wp2_with fail
      go_ret
      exact ⟨by first | rfl | simp, below_on B7 hb8 (Nat.le_refl _)⟩
end Go.Proofs.Ytdiahfebiafodaa
