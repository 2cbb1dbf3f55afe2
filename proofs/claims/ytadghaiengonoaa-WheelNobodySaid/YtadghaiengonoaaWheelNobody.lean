/- WheelNobody: the walk. No statement of the seat is proved here. -/
import Derived.Test.YtadghaiengonoaaXr
import Derived.Test.YtadghaiengonoaaOpenT
namespace Go.Proofs.Ytadghaiengonoaa
set_option linter.unusedVariables false
set_option linter.unusedSimpArgs false
set_option linter.unusedSectionVars false
open Go Go.RowKit Go.Maps

theorem meas2w (i : Nat) (h : i < 2) : 2 - (intOf (.int .i64 ((i : Int) + 1))).toNat < 2 - (intOf (.int .i64 (i : Nat))).toNat := by simp only [intOf]; omega
set_option maxRecDepth 100000 in
set_option maxHeartbeats 4000000 in
theorem wheelNobody_run (W : World) (t : Th) (tb : Int) : Calls Try.prog 7 #[thVal t, .int .i64 tb] W fun e W' => e = .returned (.bool true) ∧ Below W.heap.size W W' := by
  have hzr : ∀ w, (zeroValue whT).run Try.prog w = .ok (.agg #[.int .i64 0, .pointer none, .pointer none, .pointer none, .pointer none, .pointer none]) w := fun w => by kernel_rfl
  have hzf : ∀ w, (zeroValue fiT).run Try.prog w = .ok (.agg #[.int .i64 0, .int .i64 0, .int .i64 0, .int .i64 0, .int .i64 0]) w := fun w => by kernel_rfl
  have hq0 : ∀ V, (binOp .neq fiT (.agg #[.int .i64 0, .int .i64 0, .int .i64 0, .int .i64 0, .int .i64 0]) (.agg #[.int .i64 0, .int .i64 0, .int .i64 0, .int .i64 0, .int .i64 0])).run Try.prog V = .ok (.bool false) V := fun V => by kernel_rfl
  obtain ⟨W1, hW1⟩ : ∃ W1, W1 = W.alloc (.cells #[.int .u64 t.id, .int .u64 t.gen, .int .i64 t.due] thT) := ⟨_, rfl⟩
  obtain ⟨W2, hW2⟩ : ∃ W2, W2 = W1.alloc (.cells #[.int .i64 0, .pointer none, .pointer none, .pointer none, .pointer none, .pointer none] whT) := ⟨_, rfl⟩
  unfold thVal
  go_enter Try.func7, Try.ntmps7
  go_upto_region 3 with fail
  rw [← hW1, ← hW2]
  have hz1 : W1.heap.size = W.heap.size + 1 := by rw [hW1]; simp
  have hz2 : W2.heap.size = W.heap.size + 2 := by rw [hW2]; simp [hz1]
  obtain ⟨W3, hW3⟩ : ∃ W3, W3 = W2.alloc (.cells #[.pointer none, .pointer (some ⟨W.heap.size + 1, 0, none⟩)] 24) := ⟨_, rfl⟩
  have hB3 : Below W.heap.size W W3 := by rw [hW3, hW2, hW1]; exact below_on (below_on (below_new _ _) (below_new _ _) (Nat.le_refl _)) (below_new _ _) (Nat.le_refl _)
  have hs3 : W3.heap[W2.heap.size]? = some (.cells #[.pointer none, .pointer (some ⟨W.heap.size + 1, 0, none⟩)] 24 (0, 0)) := by rw [hW3]; exact heap_alloc_new _ _
  have hr3 : W3.heap[W1.heap.size]? = some (.cells #[.int .i64 0, .pointer none, .pointer none, .pointer none, .pointer none, .pointer none] whT (0, 0)) := by
    rw [hW3, hW2]; exact (heap_alloc_old _ _ (by simp)).trans (heap_alloc_new _ _)
  have ht3 : W3.heap[W.heap.size]? = some (.cells #[.int .u64 t.id, .int .u64 t.gen, .int .i64 t.due] thT (0, 0)) := by
    rw [hW3, hW2, hW1]; exact (heap_alloc_old _ _ (by simp; omega)).trans ((heap_alloc_old _ _ (by simp)).trans (heap_alloc_new _ _))
  have hz3 : W3.heap.size = W.heap.size + 3 := by rw [hW3]; simp [hz2]
  have hs : ∀ W', Below W3.heap.size W3 W' → W'.cell? ⟨W2.heap.size, 0, none⟩ = some (.pointer none) ∧ W'.cell? ⟨W2.heap.size, 1, none⟩ = some (.pointer (some ⟨W.heap.size + 1, 0, none⟩)) ∧ W'.cell? ⟨W.heap.size, 0, none⟩ = some (.int .u64 t.id) ∧ W'.cell? ⟨W.heap.size, 1, none⟩ = some (.int .u64 t.gen) ∧ W'.cell? ⟨W.heap.size, 2, none⟩ = some (.int .i64 t.due) ∧ W'.cell? ⟨W.heap.size + 1, 5, none⟩ = some (.pointer none) := fun W' hw => by
    have a := (hw.block _ (by rw [hz2, hz3]; omega)).trans hs3
    have b := (hw.block _ (by rw [hz3]; omega)).trans ht3
    have c := (hw.block _ (by rw [hz1, hz3]; omega)).trans hr3
    have a0 := block_cell a 0
    have a1 := block_cell a 1
    have b0 := block_cell b 0
    have b1 := block_cell b 1
    have b2 := block_cell b 2
    have c5 := block_cell c 5
    rw [hz1] at c5
    simp at a0 a1 b0 b1 b2 c5
    exact ⟨a0, a1, b0, b1, b2, c5⟩
  have Hs := Lib.hid hs
  have HB3 := Lib.hid hB3
  rw [← hW3]
  have hl2 : W2.heap.size < W3.heap.size := by omega
  have hl0 : W.heap.size < W3.heap.size := by omega
  have hz2' : W2.heap.size = W.heap.size + 1 + 1 := hz2
  rw [hz2'] at Hs hl2
  obtain ⟨p2, hp2⟩ : ∃ p2, p2 = W.heap.size + 1 + 1 := ⟨_, rfl⟩
  rw [← hp2] at Hs hl2 ⊢
  obtain ⟨p1, hp1⟩ : ∃ p1, p1 = W.heap.size + 1 := ⟨_, rfl⟩
  rw [← hp1] at Hs ⊢
  obtain ⟨p0, hp0⟩ : ∃ p0, p0 = W.heap.size := ⟨_, rfl⟩
  have Hp0 := Lib.hid hp0
  rw [← hp0] at Hs hl0 ⊢
  clear hs hB3 hs3 hr3 ht3 hW3 hW2 hW1 hzr hz1 hz2 hz2' hz3 hp2 hp1 hp0
  go_loopw [21] (fun u wr => ∃ i : Nat, u = .int .i64 (i : Nat) ∧ i ≤ 2 ∧ Below W3.heap.size W3 wr) (fun u _ => 2 - (intOf u).toNat)
  case atStart => exact ⟨0, rfl, by omega, Below.refl _ _⟩
  case round =>
    obtain ⟨i, rfl, hi, hb⟩ := hrel
    obtain ⟨c0, c1, t0, t1, t2, c5⟩ := Hs.out wr hb
    by_cases hil : i < 2
    · have x1 : (i : Int) < 2 := by omega
      obtain ⟨q, hq, hno⟩ : ∃ q, wr.cell? ⟨p2, i, none⟩ = some (.pointer q) ∧ WNone wr q := by
        rcases (by omega : i = 0 ∨ i = 1) with rfl | rfl
        · exact ⟨none, c0, WNone.nil _⟩
        · exact ⟨_, c1, WNone.zero c5⟩
      have hl2r := Nat.lt_of_lt_of_le hl2 hb.size
      have hl0r := Nat.lt_of_lt_of_le hl0 hb.size
      have hbw : ∀ W', Below wr.heap.size wr W' → WNone W' q := fun W' h => hno.below h
      have Hbw := Lib.hid hbw
      have Hb := Lib.hid hb
      have Hi := Lib.hid hil
      have Ht := Lib.hid (fun W' (h : Below wr.heap.size wr W') => (⟨(h.cell (p := ⟨p0, 0, none⟩) hl0r).trans t0, (h.cell (p := ⟨p0, 1, none⟩) hl0r).trans t1, (h.cell (p := ⟨p0, 2, none⟩) hl0r).trans t2, Nat.lt_of_lt_of_le hl0r h.size⟩ : W'.cell? ⟨p0, 0, none⟩ = some (.int .u64 t.id) ∧ W'.cell? ⟨p0, 1, none⟩ = some (.int .u64 t.gen) ∧ W'.cell? ⟨p0, 2, none⟩ = some (.int .i64 t.due) ∧ p0 < W'.heap.size))
      have w1 : wrap64 ((i : Int) + 1) = (i : Int) + 1 := IntWalk.wrap64_in _ (by omega)
      clear hno hb c0 c1 c5 hil hi hbw t0 t1 t2
      go_wp2_with fail
      refine (adv_none wr q tb (Hbw.out _ (Below.refl _ _))).mono ?_
      rintro e U1 ⟨rfl, hU1⟩
      obtain ⟨t0, t1, t2, tl⟩ := Ht.out U1 hU1
      go_wp2_with fail
      refine (cancel_none U1 q t.id (Hbw.out _ hU1)).mono ?_
      rintro e U2 ⟨rfl, hU2⟩
      have hB2 := below_on hU1 hU2 (Nat.le_refl _)
      obtain ⟨V2, hV2⟩ : ∃ V2, V2 = U2.alloc (.cells #[.int .u64 0, .int .u64 0, .int .i64 0] thT) := ⟨_, rfl⟩
      have hB2' : Below wr.heap.size wr V2 := below_on hB2 (by rw [hV2]; exact below_new _ _) (Nat.le_refl _)
      clear t0 t1 t2 tl hU1 hU2 hB2
      unfold thVal
      go_upto_region 7 with fail
      rw [← hV2]
      clear hV2
      obtain ⟨t0, t1, t2, tl⟩ := Ht.out V2 hB2'
      go_wp2_with fail
      refine (wget_none V2 q t.id (Hbw.out _ hB2')).mono ?_
      rintro e U3 ⟨rfl, hU3⟩
      have hB3 := below_on hB2' hU3 (Nat.le_refl _)
      obtain ⟨V3, hV3⟩ : ∃ V3, V3 = U3.alloc (.cells #[.int .u64 0, .int .u64 0, .int .i64 0] thT) := ⟨_, rfl⟩
      have hB3' : Below wr.heap.size wr V3 := below_on hB3 (by rw [hV3]; exact below_new _ _) (Nat.le_refl _)
      clear t0 t1 t2 tl hU3 hB3 hB2'
      unfold thVal
      go_upto_region 8 with fail
      rw [← hV3]
      clear hV3
      go_wp2_with fail
      refine (next_none_w V3 q (Hbw.out _ hB3')).mono ?_
      rintro e U4 ⟨rfl, hU4⟩
      subst hU4
      obtain ⟨t0, t1, t2, tl⟩ := Ht.out U4 hB3'
      go_wp2_with fail
      refine (show Calls _ _ _ _ _ from arm_none U4 q t (Hbw.out _ hB3')).mono ?_
      rintro e U5 ⟨rfl, hU5⟩
      have hB5 := below_on hB3' hU5 (Nat.le_refl _)
      clear t0 t1 t2 tl hU5 hB3'
      go_wp2_with fail
      refine (all_none U5 q (Hbw.out _ hB5)).mono ?_
      rintro e U6 ⟨rfl, hU6⟩
      subst hU6
      go_wp2_with fail
      refine (wlen_none U6 q (Hbw.out _ hB5)).mono ?_
      rintro e U7 ⟨rfl, hU7⟩
      have hB7 := below_on hB5 hU7 (Nat.le_refl _)
      clear hU7 hB5
      go_wp2_with fail
      refine (wnow_none U7 q (Hbw.out _ hB7)).mono ?_
      rintro e U8 ⟨rfl, hU8⟩
      subst hU8
      go_wp2_with fail
      refine (spread_none U8 q (Hbw.out _ hB7)).mono ?_
      rintro e U9 ⟨rfl, hU9⟩
      have hB9 := below_on Hb.out (below_on hB7 hU9 (Nat.le_refl _)) (Nat.le_refl _)
      have HB9 := Lib.hid hB9
      clear hU9 hB7 hB9
      unfold fiVal
      go_wp2_with fail
      go_roundw
      case rel => exact ⟨i + 1, by first | rfl | rw [w1]; rfl, Hi.out, HB9.out⟩
      case measure =>
        first | rw [w1] | skip
        exact meas2w i Hi.out
    · obtain rfl : i = 2 := by omega
      have Hlv := Lib.hid (lives_wheel wr)
      have Hb := Lib.hid (below_on HB3.out hb (Nat.le_refl _))
      clear hb c0 c1 t0 t1 t2 c5 hi hil
      go_wp2_with fail
      refine Hlv.out.mono ?_
      rintro e W5 ⟨rfl, hb5⟩
      go_wp2_with fail
      go_ret
      exact ⟨rfl, below_on Hb.out hb5 (Nat.le_refl _)⟩
theorem wheelNobody_walk (t : Th) (tb : Int) (W : World) (hok : ThOk t) (h1 : -9223372036854775808 ≤ tb) (h2 : tb ≤ 9223372036854775807) : Calls Try.prog 7 #[thVal t, .int .i64 tb] W fun e W' => e = .returned (.bool true) ∧ Below W.heap.size W W' := wheelNobody_run W t tb
end Go.Proofs.Ytadghaiengonoaa
