/- Lemmas for DeadlinePlays (DeadlineNobody). No statement of the seat is proved here. -/
import Derived.Test.YtedlplkomfiahaaQ28
namespace Go.Proofs.Ytedlplkomfiahaa
set_option linter.unusedVariables false
set_option linter.unusedSimpArgs false
set_option linter.unusedSectionVars false
open Go Go.RowKit Go.Maps Go.Deep
theorem meas3w (i : Nat) (h : i < 3) : 3 - (intOf (.int .i64 ((i : Int) + 1))).toNat < 3 - (intOf (.int .i64 (i : Nat))).toNat := by simp only [intOf]; omega
set_option maxRecDepth 100000 in
set_option maxHeartbeats 8000000 in
theorem deadlineNobody_run (W : World) (id tb : Int) : Calls Try.prog 6 #[.int .u64 id, .int .i64 tb] W fun e W' => e = .returned (.bool true) ∧ Below W.heap.size W W' := by
  have hzr : ∀ w, (zeroValue bkT).run Try.prog w = .ok (.agg #[.pointer none, .int .u64 0]) w := fun w => by kernel_rfl
  have hzs : ∀ w, (zeroValue rsT).run Try.prog w = .ok (.agg #[.int .i64 0, .int .u64 0, .slice none 0 0]) w := fun w => by kernel_rfl
  obtain ⟨W1, hW1⟩ : ∃ W1, W1 = W.alloc (.cells #[.pointer none, .int .u64 0] bkT) := ⟨_, rfl⟩
  obtain ⟨p1, hp1⟩ : ∃ p, p = W.heap.size := ⟨_, rfl⟩
  have hB1 : Below W.heap.size W W1 := by rw [hW1]; exact below_new _ _
  have hx1 : W1.heap[p1]? = some (.cells #[.pointer none, .int .u64 0] bkT (0, 0)) := by rw [hW1, hp1]; exact heap_alloc_new _ _
  have HB1 := Lib.hid hB1
  have X1 := Lib.hid hx1
  have Hcl := Lib.hid (bclone_none (BNone.nil W1))
  clear hB1 hx1
  go_enter Try.func6, Try.ntmps6
  go_wp2_with fail
  rw [← hW1, ← hp1]
  clear hW1 hp1
  refine (show Calls _ _ _ _ _ from Hcl.out).mono ?_
  rintro e W2 ⟨c, rfl, hc, hb2⟩
  obtain ⟨W3, hW3⟩ : ∃ W3, W3 = W2.alloc (.cells #[.pointer none, .pointer (some ⟨p1, 0, none⟩), .pointer (some ⟨c, 0, none⟩)] 23) := ⟨_, rfl⟩
  obtain ⟨p3, hp3⟩ : ∃ p, p = W2.heap.size := ⟨_, rfl⟩
  have hB3 : Below W2.heap.size W2 W3 := by rw [hW3]; exact below_new _ _
  have hx3 : W3.heap[p3]? = some (.cells #[.pointer none, .pointer (some ⟨p1, 0, none⟩), .pointer (some ⟨c, 0, none⟩)] 23 (0, 0)) := by rw [hW3, hp3]; exact heap_alloc_new _ _
  have hn1 : BNone W3 (some ⟨p1, 0, none⟩) := by
    have h1 := block_cell (bx_below (below_on hb2 hB3 (Nat.le_refl _)) X1.out) 0
    simp at h1
    exact BNone.zero h1
  have hn2 : BNone W3 (some ⟨c, 0, none⟩) := (BNone.zero hc).below hB3
  have X3 := Lib.hid hx3
  have N1 := Lib.hid hn1
  have N2 := Lib.hid hn2
  have HB3 := Lib.hid (below_on HB1.out (below_on hb2 hB3 (Nat.le_refl _)) (Nat.le_refl _))
  clear hB3 hx3 hn1 hn2 hb2 hc
  go_wp2_with fail
  rw [← hW3, ← hp3]
  clear hW3 hp3
  go_loopw [23] (fun u wr => ∃ i : Nat, u = .int .i64 (i : Nat) ∧ i ≤ 3 ∧ Hid (Below W3.heap.size W3 wr)) (fun u _ => 3 - (intOf u).toNat)
  case atStart => exact ⟨0, rfl, by omega, (Below.refl _ W3 : Below W3.heap.size W3 W3)⟩
  case round =>
    obtain ⟨i, rfl, hi, hb⟩ := hrel
    have x3 := bx_below hb.out X3.out
    by_cases hil : i < 3
    · have x1 : (i : Int) < 3 := by omega
      obtain ⟨q, hq, hno⟩ : ∃ q, wr.cell? ⟨p3, i, none⟩ = some (.pointer q) ∧ BNone wr q := by
        have c0 := block_cell x3 0
        have c1 := block_cell x3 1
        have c2 := block_cell x3 2
        simp at c0 c1 c2
        rcases (by omega : i = 0 ∨ i = 1 ∨ i = 2) with rfl | rfl | rfl
        · exact ⟨none, c0, BNone.nil _⟩
        · exact ⟨_, c1, N1.out.below hb.out⟩
        · exact ⟨_, c2, N2.out.below hb.out⟩
      have hl3 := (Array.getElem?_eq_some_iff.1 x3).1
      have Hno := Lib.hid hno
      have Hi := Lib.hid hil
      have w1 : wrap64 ((i : Int) + 1) = (i : Int) + 1 := IntWalk.wrap64_in _ (by omega)
      have Hw1 := Lib.hid w1
      have Hs1 := Lib.hid (bset_none hno id tb)
      clear hil hi hno x3 w1
      go_wp2_with fail
      refine (show Calls _ _ _ _ _ from Hs1.out).mono ?_
      rintro e V1 ⟨rfl, hv⟩
      have HV1 := Lib.hid hv
      have Hs2 := Lib.hid (bclear_none (Hno.out.below hv) id)
      clear hv hq hl3
      go_wp2_with fail
      refine (show Calls _ _ _ _ _ from Hs2.out).mono ?_
      rintro e V2 ⟨rfl, hv⟩
      unfold thVal
      obtain ⟨V3, hV3⟩ : ∃ V3, V3 = V2.alloc (.cells #[.int .u64 0, .int .u64 0, .int .i64 0] thT) := ⟨_, rfl⟩
      have hB : Below V2.heap.size V2 V3 := by rw [hV3]; exact below_new _ _
      have HV3 := Lib.hid (below_on HV1.out (below_on hv hB (Nat.le_refl _)) (Nat.le_refl _))
      have Hs3 := Lib.hid (bget_none (Hno.out.below HV3.out) id)
      clear hv hB
      go_wp2_with fail
      rw [← hV3]
      clear hV3
      refine (show Calls _ _ _ _ _ from Hs3.out).mono ?_
      rintro e V4 ⟨rfl, hv⟩
      unfold thVal
      obtain ⟨V5, hV5⟩ : ∃ V5, V5 = V4.alloc (.cells #[.int .u64 0, .int .u64 0, .int .i64 0] thT) := ⟨_, rfl⟩
      have hB : Below V4.heap.size V4 V5 := by rw [hV5]; exact below_new _ _
      have HV5 := Lib.hid (below_on HV3.out (below_on hv hB (Nat.le_refl _)) (Nat.le_refl _))
      have Hs4 := Lib.hid (badv_none (Hno.out.below HV5.out) tb)
      clear hv hB
      go_wp2_with fail
      rw [← hV5]
      clear hV5
      refine (show Calls _ _ _ _ _ from Hs4.out).mono ?_
      rintro e V6 ⟨rfl, hv⟩
      have HV6 := Lib.hid (below_on HV5.out hv (Nat.le_refl _))
      have Hs5 := Lib.hid (bstate_none (Hno.out.below HV6.out))
      clear hv
      go_wp2_with fail
      refine (show Calls _ _ _ _ _ from Hs5.out).mono ?_
      rintro e V7 ⟨rfl, hv⟩
      have HV7 := Lib.hid (below_on HV6.out hv (Nat.le_refl _))
      have Hs6 := Lib.hid (plain13_any V7 0 0 none 0 [] (Tt.nil V7).thr (by simp))
      simp only [List.length_nil] at Hs6
      unfold dsV at *
      clear hv
      go_wp2_with fail
      refine (show Calls _ _ _ _ _ from Hs6.out).mono ?_
      rintro e V8 ⟨a, c8, rfl, ho, hv⟩
      have HV8 := Lib.hid (below_on HV7.out hv (Nat.le_refl _))
      have Hs7 := Lib.hid (rsame13_eq V8 0 0 a c8 [] none 0 (rx_own ho rfl) (Rt.nil V8) (by simp))
      simp only [List.length_nil] at Hs7 ⊢
      unfold dsV at *
      clear hv ho
      go_wp2_with fail
      refine (show Calls _ _ _ _ _ from Hs7.out).mono ?_
      rintro e V9 ⟨rfl, hv⟩
      have HV9 := Lib.hid (below_on hb.out (below_on HV8.out hv (Nat.le_refl _)) (Nat.le_refl _))
      have w1 := Hw1.out
      clear hv
      go_wp2_with fail
      go_roundw
      case rel => exact ⟨i + 1, by first | rfl | rw [w1]; rfl, Hi.out, HV9⟩
      case measure =>
        first | rw [w1] | skip
        exact meas3w i Hi.out
    · obtain rfl : i = 3 := by omega
      have x1 : ¬ ((3 : Nat) : Int) < 3 := by omega
      have Hlv := Lib.hid (lives13 wr)
      clear hi hil x3
      go_wp2_with fail
      refine (show Calls _ _ _ _ _ from Hlv.out).mono ?_
      rintro e V6 ⟨rfl, hb6⟩
      go_wp2_with fail
      go_ret
      exact ⟨rfl, below_on HB3.out (below_on hb.out hb6 (Nat.le_refl _)) (Nat.le_refl _)⟩
theorem deadlineNobody_walk (id tb : Int) (W : World) (i1 : 0 ≤ id) (i2 : id ≤ 18446744073709551615) (t1 : -9223372036854775808 ≤ tb) (t2 : tb ≤ 9223372036854775807) : Calls Try.prog 6 #[.int .u64 id, .int .i64 tb] W fun e W' => e = .returned (.bool true) ∧ Below W.heap.size W W' := deadlineNobody_run W id tb
end Go.Proofs.Ytedlplkomfiahaa
