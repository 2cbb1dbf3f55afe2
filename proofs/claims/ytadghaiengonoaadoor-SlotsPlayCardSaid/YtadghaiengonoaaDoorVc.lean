/- slots: the example that the laws end with; a ring that no call made. No statement of the seat is proved here. -/
import Derived.Test.YtadghaiengonoaaDoorVb
namespace Go.Proofs.YtadghaiengonoaaDoor
set_option linter.unusedVariables false
set_option linter.unusedSimpArgs false
set_option linter.unusedSectionVars false
open Go Go.RowKit Go.Maps

theorem Tab.pos {W : World} (h : Tab W) : 0 < W.heap.size := cell?_lt (h 0 (by decide))
theorem len_none (W : World) (q : Option Addr) (hno : NoneIs W q) : Calls Tryd.prog 15 #[.pointer q] W fun e W' => e = .returned (.int .i64 0) ∧ W' = W := by
  have Hno := Lib.hid (hno W (Below.refl _ _))
  go_enter Tryd.func15, Tryd.ntmps15
  go_wp2_with fail
  refine Hno.out.mono ?_
  rintro e W2 ⟨rfl, rfl⟩
  go_wp2_with fail
  go_ret
  exact ⟨rfl, rfl⟩
theorem used_none (W : World) (q : Option Addr) (hno : NoneIs W q) : Calls Tryd.prog 16 #[.pointer q] W fun e W' => e = .returned (.int .u64 0) ∧ W' = W := by
  have Hno := Lib.hid (hno W (Below.refl _ _))
  go_enter Tryd.func16, Tryd.ntmps16
  go_wp2_with fail
  refine Hno.out.mono ?_
  rintro e W2 ⟨rfl, rfl⟩
  go_wp2_with fail
  go_ret
  exact ⟨rfl, rfl⟩
theorem next_none (W : World) (q : Option Addr) (f : Int) (hno : NoneIs W q) : Calls Tryd.prog 22 #[.pointer q, .int .i64 f] W fun e W' => e = .returned (.tuple #[.int .i64 0, .int .i64 0, .bool false]) ∧ W' = W := by
  have Hus := Lib.hid (used_none W q hno)
  go_enter Tryd.func22, Tryd.ntmps22
  go_wp2_with fail
  refine Hus.out.mono ?_
  rintro e W2 ⟨rfl, rfl⟩
  go_wp2_with fail
  go_ret3
  exact ⟨rfl, rfl⟩
set_option maxRecDepth 100000 in
theorem put_none (W : World) (q : Option Addr) (s : Int) (t : Th) (hno : NoneIs W q) :
    Calls Tryd.prog 23 #[.pointer q, .int .i64 s, thVal t] W fun e W' => e = .returned (.int .i64 1) ∧ Below W.heap.size W W' := by
  obtain ⟨ti, tg, td⟩ := t
  have hB1 := below_new W (.cells #[.int .u64 ti, .int .u64 tg, .int .i64 td] thT)
  obtain ⟨W1, hW1⟩ : ∃ W1, W1 = W.alloc (.cells #[.int .u64 ti, .int .u64 tg, .int .i64 td] thT) := ⟨_, rfl⟩
  rw [← hW1] at hB1
  have Hno := Lib.hid (hno W1 hB1)
  unfold thVal
  go_enter Tryd.func23, Tryd.ntmps23
  go_wp2_with fail
  rw [← hW1]
  clear hW1
  refine Hno.out.mono ?_
  rintro e W2 ⟨rfl, hW2⟩
  subst hW2
  go_wp2_with fail
  go_ret
  exact ⟨rfl, hB1⟩
theorem NoneIs.nil (W : World) : NoneIs W none := fun W' _ => none_nil W'
theorem NoneIs.zero {W : World} {r : Nat} (hc : W.cell? ⟨r, 65, none⟩ = some (.map none)) : NoneIs W (some ⟨r, 0, none⟩) := fun W' hb => none_zero W' r ((hb.cell (p := ⟨r, 65, none⟩) (cell?_lt hc)).trans hc) (Nat.lt_of_lt_of_le (cell?_lt hc) hb.size)
theorem idok_small (i : Nat) (h : i < 1000000) : IdOk (i : Int) := ⟨by omega, by omega⟩
set_option maxRecDepth 100000 in
set_option maxHeartbeats 2000000 in
theorem lives_slots (W : World) (hT : Tab W) : Calls Tryd.prog 6 #[] W fun e W' => e = .returned (.bool true) ∧ Below W.heap.size W W' := by
  go_enter Tryd.func6, Tryd.ntmps6
  go_wp2_with fail
  refine (new_ring W).mono ?_
  rintro e W1 ⟨rfl, hR1, hB1⟩
  have hp1 := put_ok W1 _ _ 0 60 [] ⟨1, 0, 0⟩ hR1 (by decide) (by simp) (idok_small 1 (by decide)) (by decide)
  have Hp1 := Lib.hid hp1
  have HR1 := Lib.hid hR1
  clear hp1 hR1
  go_wp2_with fail
  refine (show Calls _ _ _ _ _ from Hp1.out).mono ?_
  rintro e W2 ⟨rfl, hR2, hG2⟩
  have hp2 := put_ok W2 _ _ 1 3 _ ⟨2, 0, 0⟩ hR2 (by decide) (by simp) (idok_small 2 (by decide)) (by decide)
  have Hp2 := Lib.hid hp2
  have HG2 := Lib.hid hG2
  clear hp2 hR2 hG2
  go_wp2_with fail
  refine (show Calls _ _ _ _ _ from Hp2.out).mono ?_
  rintro e W3 ⟨rfl, hR3, hG3⟩
  have hF1 : ∀ i, More (fun _ => False) W W1 i → W.heap.size ≤ i := fun i hi => hi.elim (fun h => h.elim) (fun h => h.1)
  have hB2 : Below W.heap.size W W2 := hB1.trans (HG2.out.above hB1.size hF1)
  have hB3 : Below W.heap.size W W3 := hB2.trans (hG3.above hB2.size (fun i hi => hi.elim (hF1 i) (fun h => Nat.le_trans hB1.size h.1)))
  have hT3 := hT.below hB3 hT.pos
  have n1 := next_ring W3 _ _ _ _ 10 hR3 (by simp) hT3
  have n2 := next_ring W3 _ _ _ _ 61 hR3 (by simp) hT3
  have n3 := len_ring W3 _ _ _ _ hR3
  have N1 := Lib.hid n1
  have N2 := Lib.hid n2
  have N3 := Lib.hid n3
  clear n1 n2 n3 hR3 hG3
  go_wp2_with fail
  refine N1.out.mono ?_
  rintro e W4 ⟨⟨s1, h1, rfl⟩, hW4⟩
  subst hW4
  have e1 : s1 = 50 := h1.uniq ⟨by decide, ⟨((⟨1, 0, 0⟩ : Th), 60), by simp, by decide⟩, fun j hj p hp => by
    simp at hp
    rcases hp with rfl | rfl
    · show 60 ≠ (atM 10 + j) % 64
      rw [show atM 10 = 10 from by decide]; omega
    · show 3 ≠ (atM 10 + j) % 64
      rw [show atM 10 = 10 from by decide]; omega⟩
  subst e1
  go_wp2_with fail
  refine N2.out.mono ?_
  rintro e W5 ⟨⟨s2, h2, rfl⟩, hW5⟩
  subst hW5
  have e2 : s2 = 6 := h2.uniq ⟨by decide, ⟨((⟨2, 0, 0⟩ : Th), 3), by simp, by decide⟩, fun j hj p hp => by
    simp at hp
    rcases hp with rfl | rfl
    · show 60 ≠ (atM 61 + j) % 64
      rw [show atM 61 = 61 from by decide]; omega
    · show 3 ≠ (atM 61 + j) % 64
      rw [show atM 61 = 61 from by decide]; omega⟩
  subst e2
  have a10 : atM 10 = 10 := by decide
  have a61 : atM 61 = 61 := by decide
  go_wp2_with fail
  refine N3.out.mono ?_
  rintro e W6 ⟨rfl, hW6⟩
  subst hW6
  go_wp2_with fail
  go_ret
  exact ⟨rfl, hB3⟩
theorem meas2 (i : Nat) (h : i < 2) : 2 - (intOf (.int .i64 ((i : Int) + 1))).toNat < 2 - (intOf (.int .i64 (i : Nat))).toNat := by simp only [intOf]; omega
set_option maxRecDepth 100000 in
set_option maxHeartbeats 4000000 in
theorem slotsNobody_run (W : World) (s : Int) (t : Th) (hT : Tab W) : Calls Tryd.prog 5 #[.int .i64 s, thVal t] W fun e W' => e = .returned (.bool true) ∧ Below W.heap.size W W' := by
  have hzr : ∀ w, (zeroValue 54).run Tryd.prog w = .ok (.agg (List.replicate 64 (Value.slice none 0 0) ++ [Value.int .u64 0, Value.map none]).toArray) w := fun w => by kernel_rfl
  obtain ⟨Z, hZ⟩ : ∃ Z, Z = (List.replicate 64 (Value.slice none 0 0) ++ [Value.int .u64 0, Value.map none]).toArray := ⟨_, rfl⟩
  rw [← hZ] at hzr
  have HZ := Lib.hid hZ
  clear hZ
  obtain ⟨W1, hW1⟩ : ∃ W1, W1 = W.alloc (.cells #[.int .u64 t.id, .int .u64 t.gen, .int .i64 t.due] thT) := ⟨_, rfl⟩
  obtain ⟨W2, hW2⟩ : ∃ W2, W2 = W1.alloc (.cells Z rgT) := ⟨_, rfl⟩
  unfold thVal
  go_enter Tryd.func5, Tryd.ntmps5
  go_upto_region 3 with fail
  rw [← hW1, ← hW2]
  obtain ⟨b1, hb1⟩ : ∃ b1, b1 = W2.heap.size := ⟨_, rfl⟩
  have hz1 : W1.heap.size = W.heap.size + 1 := by rw [hW1]; simp
  have hz2 : W2.heap.size = W.heap.size + 2 := by rw [hW2]; simp [hz1]
  obtain ⟨W3, hW3⟩ : ∃ W3, W3 = W2.alloc (.cells #[.pointer none, .pointer (some ⟨W.heap.size + 1, 0, none⟩)] 38) := ⟨_, rfl⟩
  have hB3 : Below W.heap.size W W3 := by rw [hW3, hW2, hW1]; exact below_on (below_on (below_new _ _) (below_new _ _) (Nat.le_refl _)) (below_new _ _) (Nat.le_refl _)
  have hs3 : W3.heap[W2.heap.size]? = some (.cells #[.pointer none, .pointer (some ⟨W.heap.size + 1, 0, none⟩)] 38 (0, 0)) := by rw [hW3]; exact heap_alloc_new _ _
  have hr3 : W3.heap[W1.heap.size]? = some (.cells Z rgT (0, 0)) := by
    rw [hW3, hW2]; exact (heap_alloc_old _ _ (by simp)).trans (heap_alloc_new _ _)
  have ht3 : W3.heap[W.heap.size]? = some (.cells #[.int .u64 t.id, .int .u64 t.gen, .int .i64 t.due] thT (0, 0)) := by
    rw [hW3, hW2, hW1]; exact (heap_alloc_old _ _ (by simp; omega)).trans ((heap_alloc_old _ _ (by simp)).trans (heap_alloc_new _ _))
  have hz3 : W3.heap.size = W.heap.size + 3 := by rw [hW3]; simp [hz2]
  have hs : ∀ W', Below W3.heap.size W3 W' → W'.cell? ⟨W2.heap.size, 0, none⟩ = some (.pointer none) ∧ W'.cell? ⟨W2.heap.size, 1, none⟩ = some (.pointer (some ⟨W.heap.size + 1, 0, none⟩)) ∧ W'.cell? ⟨W.heap.size, 0, none⟩ = some (.int .u64 t.id) ∧ W'.cell? ⟨W.heap.size, 1, none⟩ = some (.int .u64 t.gen) ∧ W'.cell? ⟨W.heap.size, 2, none⟩ = some (.int .i64 t.due) ∧ W'.cell? ⟨W.heap.size + 1, 65, none⟩ = some (.map none) := fun W' hw => by
    have a := (hw.block _ (by rw [hz2, hz3]; omega)).trans hs3
    have b := (hw.block _ (by rw [hz3]; omega)).trans ht3
    have c := (hw.block _ (by rw [hz1, hz3]; omega)).trans hr3
    have a0 := block_cell a 0
    have a1 := block_cell a 1
    have b0 := block_cell b 0
    have b1 := block_cell b 1
    have b2 := block_cell b 2
    have c5 := block_cell c 65
    rw [HZ.out] at c5
    rw [hz1] at c5
    simp at a0 a1 b0 b1 b2
    exact ⟨a0, a1, b0, b1, b2, by rw [c5]; rfl⟩
  have Hs := Lib.hid hs
  have HB3 := Lib.hid hB3
  rw [← hW3]
  have hl2 : W2.heap.size < W3.heap.size := by omega
  have hl0 : W.heap.size < W3.heap.size := by omega
  have hz2' : W2.heap.size = W.heap.size + 1 + 1 := hz2
  rw [hz2'] at Hs hl2
  obtain ⟨p2, hp2⟩ : ∃ p2, p2 = W.heap.size + 1 + 1 := ⟨_, rfl⟩
  rw [← hp2] at Hs hl2 ⊢
  clear hs hB3 hs3 hr3 ht3 hW3 hW2 hW1 hzr HZ hz1 hz2 hz2' hz3 hb1 hp2
  go_loopw [21] (fun u wr => ∃ i : Nat, u = .int .i64 (i : Nat) ∧ i ≤ 2 ∧ Below W3.heap.size W3 wr) (fun u _ => 2 - (intOf u).toNat)
  case atStart => exact ⟨0, rfl, by omega, Below.refl _ _⟩
  case round =>
    obtain ⟨i, rfl, hi, hb⟩ := hrel
    obtain ⟨c0, c1, t0, t1, t2, c5⟩ := Hs.out wr hb
    by_cases hil : i < 2
    · have x1 : (i : Int) < 2 := by omega
      obtain ⟨q, hq, hno⟩ : ∃ q, wr.cell? ⟨p2, i, none⟩ = some (.pointer q) ∧ NoneIs wr q := by
        rcases (by omega : i = 0 ∨ i = 1) with rfl | rfl
        · exact ⟨none, c0, NoneIs.nil _⟩
        · exact ⟨_, c1, NoneIs.zero c5⟩
      have hl2r := Nat.lt_of_lt_of_le hl2 hb.size
      have hl0r := Nat.lt_of_lt_of_le hl0 hb.size
      have H1 := Lib.hid (fun W' (h : Below wr.heap.size wr W') => drop_none W' q t.id (fun W'' h2 => hno W'' (below_on h h2 (Nat.le_refl _))))
      have H2 := Lib.hid (fun W' (h : Below wr.heap.size wr W') => get_none W' q t.id (fun W'' h2 => hno W'' (below_on h h2 (Nat.le_refl _))))
      have H3 := Lib.hid (fun W' (h : Below wr.heap.size wr W') => next_none W' q s (fun W'' h2 => hno W'' (below_on h h2 (Nat.le_refl _))))
      have H4 := Lib.hid (fun W' (h : Below wr.heap.size wr W') => put_none W' q s t (fun W'' h2 => hno W'' (below_on h h2 (Nat.le_refl _))))
      have H5 := Lib.hid (fun W' (h : Below wr.heap.size wr W') => take_none W' q s (fun W'' h2 => hno W'' (below_on h h2 (Nat.le_refl _))))
      have H6 := Lib.hid (fun W' (h : Below wr.heap.size wr W') => look_none W' q s (fun W'' h2 => hno W'' (below_on h h2 (Nat.le_refl _))))
      have H7 := Lib.hid (fun W' (h : Below wr.heap.size wr W') => len_none W' q (fun W'' h2 => hno W'' (below_on h h2 (Nat.le_refl _))))
      have H8 := Lib.hid (fun W' (h : Below wr.heap.size wr W') => used_none W' q (fun W'' h2 => hno W'' (below_on h h2 (Nat.le_refl _))))
      have Hb := Lib.hid hb
      have Hi := Lib.hid hil
      have w1 : wrap64 ((i : Int) + 1) = (i : Int) + 1 := IntWalk.wrap64_in _ (by omega)
      unfold thVal at H1 H2 H4
      clear hno hb c0 c1 c5 hil hi
      go_wp2_with fail
      refine (H1.out _ (Below.refl _ _)).mono ?_
      rintro e U1 ⟨rfl, hU1⟩
      have t0' := (hU1.cell (p := ⟨W.heap.size, 0, none⟩) hl0r).trans t0
      have z1 := hU1.size
      have hl1 := Nat.lt_of_lt_of_le hl0r z1
      go_wp2_with fail
      have hV1 := below_on hU1 (below_new U1 (.cells #[.int .u64 0, .int .u64 0, .int .i64 0] thT)) (Nat.le_refl _)
      refine (H2.out _ hV1).mono ?_
      rintro e U2 ⟨rfl, hU2'⟩
      have hU2 := below_on hV1 hU2' (Nat.le_refl _)
      clear hU2' hV1
      go_wp2_with fail
      have hV2 := below_on hU2 (below_new U2 (.cells #[.int .u64 0, .int .u64 0, .int .i64 0] thT)) (Nat.le_refl _)
      refine (H3.out _ hV2).mono ?_
      rintro e U3 ⟨rfl, hU3'⟩
      subst hU3'
      have s0 := (hV2.cell (p := ⟨W.heap.size, 0, none⟩) hl0r).trans t0
      have s1 := (hV2.cell (p := ⟨W.heap.size, 1, none⟩) hl0r).trans t1
      have s2 := (hV2.cell (p := ⟨W.heap.size, 2, none⟩) hl0r).trans t2
      obtain ⟨V2, hV2e⟩ : ∃ V2, V2 = U2.alloc (.cells #[.int .u64 0, .int .u64 0, .int .i64 0] thT) := ⟨_, rfl⟩
      rw [← hV2e] at hV2 s0 s1 s2 ⊢
      clear hV2e
      have hl3 := Nat.lt_of_lt_of_le hl0r hV2.size
      go_wp2_with fail
      refine (H4.out _ hV2).mono ?_
      rintro e U4 ⟨rfl, hU4'⟩
      have hU4 := below_on hV2 hU4' (Nat.le_refl _)
      clear hU4'
      go_wp2_with fail
      refine (H5.out _ hU4).mono ?_
      rintro e U5 ⟨rfl, hU5'⟩
      have hU5 := below_on hU4 hU5' (Nat.le_refl _)
      clear hU5'
      go_wp2_with fail
      refine (H6.out _ hU5).mono ?_
      rintro e U6 ⟨rfl, hU6'⟩
      have hU6 := below_on hU5 hU6' (Nat.le_refl _)
      clear hU6'
      go_wp2_with fail
      refine (H7.out _ hU6).mono ?_
      rintro e U7 ⟨rfl, hU7'⟩
      subst hU7'
      go_wp2_with fail
      refine (H8.out _ hU6).mono ?_
      rintro e U8 ⟨rfl, hU8'⟩
      subst hU8'
      go_wp2_with fail
      go_roundw
      case rel => exact ⟨i + 1, by first | rfl | rw [w1]; rfl, Hi.out, below_on Hb.out hU6 (Nat.le_refl _)⟩
      case measure =>
        first | rw [w1] | skip
        exact meas2 i Hi.out
    · have x1 : ¬ (i : Int) < 2 := by omega
      have hBW := below_on HB3.out hb (Nat.le_refl _)
      have Hlv := Lib.hid (lives_slots wr (hT.below hBW hT.pos))
      clear hil c0 c1 t0 t1 t2 c5
      go_wp2_with fail
      refine Hlv.out.mono ?_
      rintro e U9 ⟨rfl, hU9⟩
      go_wp2_with fail
      go_ret
      exact ⟨rfl, below_on hBW hU9 (Nat.le_refl _)⟩
end Go.Proofs.YtadghaiengonoaaDoor
