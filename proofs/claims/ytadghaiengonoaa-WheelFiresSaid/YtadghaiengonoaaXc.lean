/- wheel: none, instant, Now, place. No statement of the seat is proved here. -/
import Derived.Test.YtadghaiengonoaaXb
import Derived.Test.YtadghaiengonoaaVa
namespace Go.Proofs.Ytadghaiengonoaa
set_option linter.unusedVariables false
set_option linter.unusedSimpArgs false
set_option linter.unusedSectionVars false
open Go Go.RowKit Go.Maps

theorem meas4 (i : Nat) (h : i < 4) : 4 - (intOf (.int .i64 ((i : Int) + 1))).toNat < 4 - (intOf (.int .i64 (i : Nat))).toNat := by simp only [intOf]; omega
theorem below_drewN1 {B : Nat} {W0 W : World} (h : Below B W0 W) (n : Nat) : Below B W0 (W.drewN n) := ⟨h.os, h.tape, h.output, h.size, h.block⟩
theorem below_drewN2 {B : Nat} {W0 W : World} (h : Below B W0 W) (n m : Nat) : Below B W0 ((W.drewN n).drewN m) := ⟨h.os, h.tape, h.output, h.size, h.block⟩
def Inst (t : Int) : Prop := 0 ≤ t ∧ t ≤ 1125899906842624
theorem sinst_any (t : Int) (W : World) : Calls Try.prog 56 #[.int .i64 t] W fun e W' => e = .returned (.bool (decide (0 ≤ t) && decide (t ≤ 1125899906842624))) ∧ W' = W := by
  by_cases h : 0 ≤ t
  · go_enter Try.func56, Try.ntmps56
    go_wp2_with fail
    go_ret
    exact ⟨ret_bool (by simp [h]), rfl⟩
  · have h2 : ¬ (0 ≤ t) := h
    go_enter Try.func56, Try.ntmps56
    go_wp2_with fail
    go_ret
    exact ⟨ret_bool (by simp; omega), rfl⟩
theorem add_yes (t : Int) (h : Inst t) (W : World) : Calls Try.prog 42 #[.int .i64 t, .int .i64 0] W fun e W' => e = .returned (.tuple #[.int .i64 t, .int .i64 0]) ∧ W' = W := by
  have Hs := Lib.hid (sinst_any t W)
  obtain ⟨h1, h2⟩ := h
  have y1 : (decide (0 ≤ t) && decide (t ≤ 1125899906842624)) = true := by simp [h1, h2]
  rw [y1] at Hs
  have w1 : wrap64 (1125899906842624 - t) = 1125899906842624 - t := IntWalk.wrap64_in _ (by omega)
  have w2 : wrap64 (-t) = -t := IntWalk.wrap64_in _ (by omega)
  have w3 : wrap64 (t + 0) = t := by rw [Int.add_zero]; exact IntWalk.wrap64_in _ (by omega)
  have w4 : wrap64 t = t := IntWalk.wrap64_in _ (by omega)
  clear y1
  go_enter Try.func42, Try.ntmps42
  go_wp2_with fail
  refine Hs.out.mono ?_
  rintro e W2 ⟨rfl, rfl⟩
  go_wp2_with fail
  all_goals
    go_ret2
    first | exact ⟨rfl, rfl⟩ | exact ⟨by rw [w4]; rfl, rfl⟩ | exact ⟨by rw [w3]; rfl, rfl⟩
theorem add_no (t : Int) (h : ¬ Inst t) (W : World) : Calls Try.prog 42 #[.int .i64 t, .int .i64 0] W fun e W' => e = .returned (.tuple #[.int .i64 0, .int .i64 2]) ∧ W' = W := by
  have Hs := Lib.hid (sinst_any t W)
  have y1 : (decide (0 ≤ t) && decide (t ≤ 1125899906842624)) = false := by
    unfold Inst at h
    simp only [Bool.and_eq_false_iff, decide_eq_false_iff_not]; omega
  rw [y1] at Hs
  clear y1
  go_enter Try.func42, Try.ntmps42
  go_wp2_with fail
  refine Hs.out.mono ?_
  rintro e W2 ⟨rfl, rfl⟩
  go_wp2_with fail
  go_ret2
  exact ⟨rfl, rfl⟩
theorem inst_yes (t : Int) (h : Inst t) (W : World) : Calls Try.prog 23 #[.int .i64 t] W fun e W' => e = .returned (.bool true) ∧ W' = W := by
  have Ha := Lib.hid (add_yes t h W)
  go_enter Try.func23, Try.ntmps23
  go_wp2_with fail
  refine Ha.out.mono ?_
  rintro e W2 ⟨rfl, rfl⟩
  go_wp2_with fail
  go_ret
  exact ⟨rfl, rfl⟩
theorem inst_no (t : Int) (h : ¬ Inst t) (W : World) : Calls Try.prog 23 #[.int .i64 t] W fun e W' => e = .returned (.bool false) ∧ W' = W := by
  have Ha := Lib.hid (add_no t h W)
  go_enter Try.func23, Try.ntmps23
  go_wp2_with fail
  refine Ha.out.mono ?_
  rintro e W2 ⟨rfl, rfl⟩
  go_wp2_with fail
  go_ret
  exact ⟨rfl, rfl⟩
theorem wnone_no (W : World) (w pf : Nat) (hc : W.cell? ⟨w, 5, none⟩ = some (.pointer (some ⟨pf, 0, none⟩))) (hl : w < W.heap.size) : Calls Try.prog 25 #[.pointer (some ⟨w, 0, none⟩)] W fun e W' => e = .returned (.bool false) ∧ W' = W := by
  go_enter Try.func25, Try.ntmps25
  go_wp2_with fail
  go_ret
  exact ⟨rfl, rfl⟩
def WNone (W : World) (q : Option Addr) : Prop := ∀ W', Below W.heap.size W W' → Calls Try.prog 25 #[.pointer q] W' fun e W'' => e = .returned (.bool true) ∧ W'' = W'
theorem WNone.nil (W : World) : WNone W none := fun W' _ => by
  go_enter Try.func25, Try.ntmps25
  go_wp2_with fail
  go_ret
  exact ⟨rfl, rfl⟩
theorem WNone.zero {W : World} {w : Nat} (hc : W.cell? ⟨w, 5, none⟩ = some (.pointer none)) : WNone W (some ⟨w, 0, none⟩) := fun W' hb => by
  have hl := cell?_lt hc
  have hc2 : W'.cell? ⟨w, 5, none⟩ = some (.pointer none) := (hb.cell (p := ⟨w, 5, none⟩) hl).trans hc
  have hl2 : w < W'.heap.size := Nat.lt_of_lt_of_le hl hb.size
  go_enter Try.func25, Try.ntmps25
  go_wp2_with fail
  go_ret
  exact ⟨rfl, rfl⟩
set_option maxRecDepth 100000 in
set_option maxHeartbeats 4000000 in
theorem place_any (W : World) (w : Nat) (now due : Int) (hc : W.cell? ⟨w, 0, none⟩ = some (.int .i64 now)) (hn : Inst now) (hd : Inst due) :
    Calls Try.prog 43 #[.pointer (some ⟨w, 0, none⟩), .int .i64 due] W fun e W' => e = .returned (.tuple #[.int .i64 (ringN now due : Nat), .int .i64 (slotN (ringN now due) due : Nat)]) ∧ Below W.heap.size W W' := by
  have hl := cell?_lt hc
  obtain ⟨hn1, hn2⟩ := hn
  obtain ⟨hd1, hd2⟩ := hd
  go_enter Try.func43, Try.ntmps43
  go_wp2_with fail
  go_loopw [6] (fun u wr => ∃ i : Nat, u = .int .i64 (i : Nat) ∧ i ≤ 4 ∧ Hid (i ≤ ringN now due) ∧ Below W.heap.size W wr) (fun u _ => 4 - (intOf u).toNat)
  case atStart => exact ⟨0, rfl, by omega, Nat.zero_le _, Below.refl _ _⟩
  case round =>
    obtain ⟨i, rfl, hi, hge, hb⟩ := hrel
    have hc2 : wr.cell? ⟨w, 0, none⟩ = some (.int .i64 now) := (hb.cell (p := ⟨w, 0, none⟩) hl).trans hc
    have hl2 : w < wr.heap.size := Nat.lt_of_lt_of_le hl hb.size
    have Hb := Lib.hid hb
    clear hb
    by_cases hi4 : i = 4
    · subst hi4
      have hr : ringN now due = 4 := Nat.le_antisymm (ringN_le _ _) hge.out
      have Hr := Lib.hid hr
      clear hr
      go_wp2_with fail
      go_ret2
      exact ⟨by rw [Hr.out]; rfl, Hb.out⟩
    · by_cases hdn : now < due
      · have x1 : due > now := hdn
        have hcases := Lib.hid (ring_cases now due)
        rcases (by omega : i = 0 ∨ i = 1 ∨ i = 2 ∨ i = 3) with rfl | rfl | rfl | rfl
        · by_cases hx : due / 64 = now / 64
          · have hxb : (due / 64 == now / 64) = true := by simp [hx]
            have hr : ringN now due = 0 := by
              have := hge.out
              have hc3 := hcases.out
              omega
            have Hr := Lib.hid hr
            have hs : slotN 0 due = (due % 64).toNat := by simp [slotN, wid]
            have Hs := Lib.hid hs
            have hat := atM_and (due)
            clear hr hs
            go_wp2_with fail
            go_quiet (fail)
            go_wp2_with fail
            go_quiet (fail)
            go_wp2_with fail
            go_ret2
            refine ⟨?_, below_drewN2 Hb.out _ _⟩
            rw [Hr.out, Hs.out]
            rfl
          · have hxb : (due / 64 == now / 64) = false := by simp [hx]
            have Hx := Lib.hid hx
            clear hx
            go_wp2_with fail
            go_quiet (fail)
            go_wp2_with fail
            go_roundw
            case rel => exact ⟨1, rfl, by omega, (by
              have := hge.out
              have hx2 := Hx.out
              have hc3 := hcases.out
              show 1 ≤ ringN now due
              omega), below_drewN1 Hb.out _⟩
            case measure => simp [intOf]
        · by_cases hx : due / 4096 = now / 4096
          · have hxb : (due / 4096 == now / 4096) = true := by simp [hx]
            have hr : ringN now due = 1 := by
              have := hge.out
              have hc3 := hcases.out
              omega
            have Hr := Lib.hid hr
            have hs : slotN 1 due = (due / 64 % 64).toNat := by simp [slotN, wid]
            have Hs := Lib.hid hs
            have hat := atM_and (due / 64)
            clear hr hs
            go_wp2_with fail
            go_quiet (fail)
            go_wp2_with fail
            go_quiet (fail)
            go_wp2_with fail
            go_ret2
            refine ⟨?_, below_drewN2 Hb.out _ _⟩
            rw [Hr.out, Hs.out]
            rfl
          · have hxb : (due / 4096 == now / 4096) = false := by simp [hx]
            have Hx := Lib.hid hx
            clear hx
            go_wp2_with fail
            go_quiet (fail)
            go_wp2_with fail
            go_roundw
            case rel => exact ⟨2, rfl, by omega, (by
              have := hge.out
              have hx2 := Hx.out
              have hc3 := hcases.out
              show 2 ≤ ringN now due
              omega), below_drewN1 Hb.out _⟩
            case measure => simp [intOf]
        · by_cases hx : due / 262144 = now / 262144
          · have hxb : (due / 262144 == now / 262144) = true := by simp [hx]
            have hr : ringN now due = 2 := by
              have := hge.out
              have hc3 := hcases.out
              omega
            have Hr := Lib.hid hr
            have hs : slotN 2 due = (due / 4096 % 64).toNat := by simp [slotN, wid]
            have Hs := Lib.hid hs
            have hat := atM_and (due / 4096)
            clear hr hs
            go_wp2_with fail
            go_quiet (fail)
            go_wp2_with fail
            go_quiet (fail)
            go_wp2_with fail
            go_ret2
            refine ⟨?_, below_drewN2 Hb.out _ _⟩
            rw [Hr.out, Hs.out]
            rfl
          · have hxb : (due / 262144 == now / 262144) = false := by simp [hx]
            have Hx := Lib.hid hx
            clear hx
            go_wp2_with fail
            go_quiet (fail)
            go_wp2_with fail
            go_roundw
            case rel => exact ⟨3, rfl, by omega, (by
              have := hge.out
              have hx2 := Hx.out
              have hc3 := hcases.out
              show 3 ≤ ringN now due
              omega), below_drewN1 Hb.out _⟩
            case measure => simp [intOf]
        · by_cases hx : due / 16777216 = now / 16777216
          · have hxb : (due / 16777216 == now / 16777216) = true := by simp [hx]
            have hr : ringN now due = 3 := by
              have := hge.out
              have hc3 := hcases.out
              omega
            have Hr := Lib.hid hr
            have hs : slotN 3 due = (due / 262144 % 64).toNat := by simp [slotN, wid]
            have Hs := Lib.hid hs
            have hat := atM_and (due / 262144)
            clear hr hs
            go_wp2_with fail
            go_quiet (fail)
            go_wp2_with fail
            go_quiet (fail)
            go_wp2_with fail
            go_ret2
            refine ⟨?_, below_drewN2 Hb.out _ _⟩
            rw [Hr.out, Hs.out]
            rfl
          · have hxb : (due / 16777216 == now / 16777216) = false := by simp [hx]
            have Hx := Lib.hid hx
            clear hx
            go_wp2_with fail
            go_quiet (fail)
            go_wp2_with fail
            go_roundw
            case rel => exact ⟨4, rfl, by omega, (by
              have := hge.out
              have hx2 := Hx.out
              have hc3 := hcases.out
              show 4 ≤ ringN now due
              omega), below_drewN1 Hb.out _⟩
            case measure => simp [intOf]
      · have x1 : ¬ due > now := hdn
        have hld : ∀ W', Below wr.heap.size wr W' → (Instr.loadAt 2 (.pointer (some ⟨w, 0, none⟩))).run Try.prog W' = .ok (.int .i64 now) W' := fun W' hw => by
          have hc3 : W'.cell? ⟨w, 0, none⟩ = some (.int .i64 now) := (hw.cell (p := ⟨w, 0, none⟩) hl2).trans hc2
          go_simp
        have hr : ringN now due = 4 := by unfold ringN; rw [if_pos (by omega)]
        have Hr := Lib.hid hr
        have hi3 : i < 4 := by omega
        have x2 : (i : Int) < 4 := by omega
        have w1 : wrap64 ((i : Int) + 1) = (i : Int) + 1 := IntWalk.wrap64_in _ (by omega)
        clear hr
        go_upto_region 4 with fail
        go_cut [6, 30] (fun v u wx => v = .int .i64 (i : Nat) ∧ u = .bool false ∧ Below wr.heap.size wr wx)
        case first =>
          refine wp_region_held_drew (S := fun W' => (Instr.loadAt 2 (.pointer (some ⟨w, 0, none⟩))).run Try.prog W' = .ok (.int .i64 now) W') (by kernel_rfl) (hld wr.drew (Below.refl _ _).drew) (fun hHeld => ?_)
          refine wpAnyH_take (i := 0) (v := ?_) rfl (by kernel_rfl) (by kernel_rfl) (by kernel_rfl) (fun _ _ _ h => h) (Or.inl ⟨by rfl, ?_⟩) (by assumption) ?_
          rotate_left
          · intro w8 hSw; clear hSw; go_simp; (try with_reducible rfl)
          simp only [Act.put, List.getElem_toArray, List.getElem_cons_zero, List.getElem_cons_succ, List.setIfInBounds_toArray, List.set_cons_zero, List.set_cons_succ]
          refine wpAnyH_take (i := 1) (v := ?_) rfl (by kernel_rfl) (by kernel_rfl) (by kernel_rfl) (fun _ _ _ h => h) (Or.inl ⟨by rfl, ?_⟩) (by assumption) ?_
          rotate_left
          · intro w8 hSw; clear hSw; go_simp; (try with_reducible rfl)
          simp only [Act.put, List.getElem_toArray, List.getElem_cons_zero, List.getElem_cons_succ, List.setIfInBounds_toArray, List.set_cons_zero, List.set_cons_succ]
          refine wpAnyH_take (i := 2) (v := ?_) rfl (by kernel_rfl) (by kernel_rfl) (by kernel_rfl) (fun _ _ _ h => h) (Or.inl ⟨by rfl, ?_⟩) (by assumption) ?_
          rotate_left
          · intro w8 hSw; clear hSw; go_simp; (try with_reducible rfl)
          simp only [Act.put, List.getElem_toArray, List.getElem_cons_zero, List.getElem_cons_succ, List.setIfInBounds_toArray, List.set_cons_zero, List.set_cons_succ]
          refine wpAnyH_take (i := 3) (v := ?_) rfl (by kernel_rfl) (by kernel_rfl) (by kernel_rfl) (fun _ _ _ h => h) (Or.inl ⟨by rfl, ?_⟩) (by assumption) ?_
          rotate_left
          · intro w8 hSw; clear hSw; go_simp; (try with_reducible rfl)
          simp only [Act.put, List.getElem_toArray, List.getElem_cons_zero, List.getElem_cons_succ, List.setIfInBounds_toArray, List.set_cons_zero, List.set_cons_succ]
          refine wpAnyH_take (i := 4) (v := .int .i64 now) rfl (by kernel_rfl) (by kernel_rfl) (by kernel_rfl) (fun _ _ _ h => h) (Or.inl ⟨by rfl, ?_⟩) (by assumption) ?_
          · intro w8 hSw; exact ld_takeT rfl hSw rfl
          simp only [Act.put, List.getElem_toArray, List.getElem_cons_zero, List.getElem_cons_succ, List.setIfInBounds_toArray, List.set_cons_zero, List.set_cons_succ]
          refine wpAnyH_take (i := 5) (v := ?_) rfl (by kernel_rfl) (by kernel_rfl) (by kernel_rfl) (fun _ _ _ h => h) (Or.inl ⟨by rfl, ?_⟩) (by assumption) ?_
          rotate_left
          · intro w8 hSw; clear hSw; go_simp; (try with_reducible rfl)
          simp only [Act.put, List.getElem_toArray, List.getElem_cons_zero, List.getElem_cons_succ, List.setIfInBounds_toArray, List.set_cons_zero, List.set_cons_succ]
          refine wpAnyH_take (i := 6) (v := ?_) rfl (by kernel_rfl) (by kernel_rfl) (by kernel_rfl) (fun _ _ _ h => h) (Or.inl ⟨by rfl, ?_⟩) (by assumption) ?_
          rotate_left
          · intro w8 hSw; clear hSw; go_simp; (try with_reducible rfl)
          simp only [Act.put, List.getElem_toArray, List.getElem_cons_zero, List.getElem_cons_succ, List.setIfInBounds_toArray, List.set_cons_zero, List.set_cons_succ]
          refine wpAnyH_take (i := 7) rfl (by kernel_rfl) (by kernel_rfl) (by kernel_rfl) (fun _ _ _ h => h) (Or.inr ⟨by rfl, rfl⟩) (by assumption) ?_
          simp only [Act.put, List.getElem_toArray, List.getElem_cons_zero, List.getElem_cons_succ, List.setIfInBounds_toArray, List.set_cons_zero, List.set_cons_succ]
          refine wpAnyH_take (i := 8) rfl (by kernel_rfl) (by kernel_rfl) (by kernel_rfl) (fun _ _ _ h => h) (Or.inr ⟨by rfl, rfl⟩) (by assumption) ?_
          simp only [Act.put, List.getElem_toArray, List.getElem_cons_zero, List.getElem_cons_succ, List.setIfInBounds_toArray, List.set_cons_zero, List.set_cons_succ]
          refine wpAnyH_take (i := 9) rfl (by kernel_rfl) (by kernel_rfl) (by kernel_rfl) (fun _ _ _ h => h) (Or.inr ⟨by rfl, rfl⟩) (by assumption) ?_
          simp only [Act.put, List.getElem_toArray, List.getElem_cons_zero, List.getElem_cons_succ, List.setIfInBounds_toArray, List.set_cons_zero, List.set_cons_succ]
          refine wpAnyH_take (i := 10) rfl (by kernel_rfl) (by kernel_rfl) (by kernel_rfl) (fun _ _ _ h => h) (Or.inr ⟨by rfl, rfl⟩) (by assumption) ?_
          simp only [Act.put, List.getElem_toArray, List.getElem_cons_zero, List.getElem_cons_succ, List.setIfInBounds_toArray, List.set_cons_zero, List.set_cons_succ]
          refine wpAnyH_take (i := 11) rfl (by kernel_rfl) (by kernel_rfl) (by kernel_rfl) (fun _ _ _ h => h) (Or.inr ⟨by rfl, rfl⟩) (by assumption) ?_
          simp only [Act.put, List.getElem_toArray, List.getElem_cons_zero, List.getElem_cons_succ, List.setIfInBounds_toArray, List.set_cons_zero, List.set_cons_succ]
          refine wpAnyH_take (i := 12) rfl (by kernel_rfl) (by kernel_rfl) (by kernel_rfl) (fun _ _ _ h => h) (Or.inr ⟨by rfl, rfl⟩) (by assumption) ?_
          simp only [Act.put, List.getElem_toArray, List.getElem_cons_zero, List.getElem_cons_succ, List.setIfInBounds_toArray, List.set_cons_zero, List.set_cons_succ]
          refine wpAnyH_take (i := 13) rfl (by kernel_rfl) (by kernel_rfl) (by kernel_rfl) (fun _ _ _ h => h) (Or.inr ⟨by rfl, rfl⟩) (by assumption) ?_
          simp only [Act.put, List.getElem_toArray, List.getElem_cons_zero, List.getElem_cons_succ, List.setIfInBounds_toArray, List.set_cons_zero, List.set_cons_succ]
          refine wpAnyH_take (i := 14) rfl (by kernel_rfl) (by kernel_rfl) (by kernel_rfl) (fun _ _ _ h => h) (Or.inr ⟨by rfl, rfl⟩) (by assumption) ?_
          simp only [Act.put, List.getElem_toArray, List.getElem_cons_zero, List.getElem_cons_succ, List.setIfInBounds_toArray, List.set_cons_zero, List.set_cons_succ]
          refine wpAnyH_take (i := 15) rfl (by kernel_rfl) (by kernel_rfl) (by kernel_rfl) (fun _ _ _ h => h) (Or.inr ⟨by rfl, rfl⟩) (by assumption) ?_
          simp only [Act.put, List.getElem_toArray, List.getElem_cons_zero, List.getElem_cons_succ, List.setIfInBounds_toArray, List.set_cons_zero, List.set_cons_succ]
          refine wpAnyH_take (i := 16) rfl (by kernel_rfl) (by kernel_rfl) (by kernel_rfl) (fun _ _ _ h => h) (Or.inr ⟨by rfl, rfl⟩) (by assumption) ?_
          simp only [Act.put, List.getElem_toArray, List.getElem_cons_zero, List.getElem_cons_succ, List.setIfInBounds_toArray, List.set_cons_zero, List.set_cons_succ]
          refine wpAnyH_take (i := 17) rfl (by kernel_rfl) (by kernel_rfl) (by kernel_rfl) (fun _ _ _ h => h) (Or.inr ⟨by rfl, rfl⟩) (by assumption) ?_
          simp only [Act.put, List.getElem_toArray, List.getElem_cons_zero, List.getElem_cons_succ, List.setIfInBounds_toArray, List.set_cons_zero, List.set_cons_succ]
          refine wpAnyH_take (i := 18) rfl (by kernel_rfl) (by kernel_rfl) (by kernel_rfl) (fun _ _ _ h => h) (Or.inr ⟨by rfl, rfl⟩) (by assumption) ?_
          simp only [Act.put, List.getElem_toArray, List.getElem_cons_zero, List.getElem_cons_succ, List.setIfInBounds_toArray, List.set_cons_zero, List.set_cons_succ]
          refine wpAnyH_take (i := 19) rfl (by kernel_rfl) (by kernel_rfl) (by kernel_rfl) (fun _ _ _ h => h) (Or.inr ⟨by rfl, rfl⟩) (by assumption) ?_
          simp only [Act.put, List.getElem_toArray, List.getElem_cons_zero, List.getElem_cons_succ, List.setIfInBounds_toArray, List.set_cons_zero, List.set_cons_succ]
          refine wpAnyH_take (i := 20) rfl (by kernel_rfl) (by kernel_rfl) (by kernel_rfl) (fun _ _ _ h => h) (Or.inr ⟨by rfl, rfl⟩) (by assumption) ?_
          simp only [Act.put, List.getElem_toArray, List.getElem_cons_zero, List.getElem_cons_succ, List.setIfInBounds_toArray, List.set_cons_zero, List.set_cons_succ]
          refine wpAnyH_take (i := 21) (v := ?_) rfl (by kernel_rfl) (by kernel_rfl) (by kernel_rfl) (fun _ _ _ h => h) (Or.inl ⟨by rfl, ?_⟩) (by assumption) ?_
          rotate_left
          · intro w8 hSw; clear hSw; go_simp; (try with_reducible rfl)
          simp only [Act.put, List.getElem_toArray, List.getElem_cons_zero, List.getElem_cons_succ, List.setIfInBounds_toArray, List.set_cons_zero, List.set_cons_succ]
          refine wpAnyH_done (by kernel_rfl) ?_ _
          go_wp2_with fail
          go_meet
          exact ⟨rfl, rfl, (Below.refl _ _).drew⟩
        case rest =>
          obtain ⟨rfl, rfl, hB5⟩ := hcut
          go_wp2_with fail
          go_roundw
          case rel => exact ⟨i + 1, by first | rfl | rw [w1]; rfl, hi3, (by show i + 1 ≤ ringN now due; rw [Hr.out]; exact hi3), below_on Hb.out hB5 (Nat.le_refl _)⟩
          case measure =>
            first | rw [w1] | skip
            exact meas4 i hi3
end Go.Proofs.Ytadghaiengonoaa
