/- Lemmas for WheelPlays (Xzd). No statement of the seat is proved here. -/
import Derived.Test.YtadghaiengonoaaP20
namespace Go.Proofs.Ytadghaiengonoaa
set_option linter.unusedVariables false
set_option linter.unusedSimpArgs false
set_option linter.unusedSectionVars false
open Go Go.RowKit Go.Maps Go.Deep
theorem guard_thv (op : BinOp) (p q : Operand) (x y : Th) (w : World) : (eqGuard op thT p q (thVal x) (thVal y)).run Try.prog w = .ok () w := run_eqGuard_agg w op _ p q _ _ (by kernel_rfl)
set_option maxRecDepth 100000 in
set_option maxHeartbeats 8000000 in
theorem wdo_get (Wb W : World) (F : Nat → Prop) (w : Nat) (now : Int) (X : List Th) (ao : Option Addr) (cap : Nat) (o : WOp) (hk : o.kind = 4) (hW : Wo Wb W F w now X) (hR : Rt W ao cap (slot0 X)) (hA : RAp W F ao) (hid : IdOk o.t.id) :
    Calls Try.prog 17 #[.pointer (some ⟨w, 0, none⟩), rwV now ao X.length cap, wopVal o] W (WDone Wb W F w) := by
  obtain ⟨ok, ⟨ti, tg, td⟩⟩ := o
  unfold rwV wopVal
  simp only at hk hid
  subst hk
  obtain ⟨W1, hW1⟩ : ∃ W1, W1 = W.alloc (.cells #[.int .i64 now, .slice ao X.length cap] rwT) := ⟨_, rfl⟩
  obtain ⟨W2, hW2⟩ : ∃ W2, W2 = W1.alloc (.cells #[.int .i64 4, .int .u64 ti, .int .u64 tg, .int .i64 td] wopT) := ⟨_, rfl⟩
  obtain ⟨W3, hW3⟩ : ∃ W3, W3 = W2.alloc (.cells #[.int .i64 0, .slice none 0 0] rwT) := ⟨_, rfl⟩
  obtain ⟨b1, hb1⟩ : ∃ b, b = W.heap.size := ⟨_, rfl⟩
  obtain ⟨b2, hb2⟩ : ∃ b, b = W.heap.size + 1 := ⟨_, rfl⟩
  obtain ⟨b3, hb3⟩ : ∃ b, b = W.heap.size + 1 + 1 := ⟨_, rfl⟩
  have z1 : W1.heap.size = W.heap.size + 1 := by rw [hW1]; simp
  have z2 : W2.heap.size = W.heap.size + 1 + 1 := by rw [hW2]; simp [z1]
  have B1 : Below W.heap.size W W1 := by rw [hW1]; exact below_new _ _
  have B2 : Below W1.heap.size W1 W2 := by rw [hW2]; exact below_new _ _
  have B3 : Below W2.heap.size W2 W3 := by rw [hW3]; exact below_new _ _
  have hB3 := below_on (below_on B1 B2 (Nat.le_refl _)) B3 (Nat.le_refl _)
  have t1 : W3.heap[b1]? = some (.cells #[.int .i64 now, .slice ao X.length cap] rwT (0, 0)) := by
    rw [B3.block b1 (by omega), B2.block b1 (by omega), hW1, hb1]; exact heap_alloc_new _ _
  have t2 : W3.heap[b2]? = some (.cells #[.int .i64 4, .int .u64 ti, .int .u64 tg, .int .i64 td] wopT (0, 0)) := by
    rw [B3.block b2 (by omega), hW2, hb2, ← z1]; exact heap_alloc_new _ _
  have t3 : W3.heap[b3]? = some (.cells #[.int .i64 0, .slice none 0 0] rwT (0, 0)) := by
    rw [hW3, hb3, ← z2]; exact heap_alloc_new _ _
  have Hup : Hid (W.heap.size ≤ b1 ∧ W.heap.size ≤ b2 ∧ W.heap.size ≤ b3) := ⟨by omega, by omega, by omega⟩
  have Hap : Hid (b1 ≠ b2 ∧ b1 ≠ b3 ∧ b2 ≠ b3) := ⟨by omega, by omega, by omega⟩
  have HB3 := Lib.hid hB3
  have T1 := Lib.hid t1
  have T2 := Lib.hid t2
  have T3 := Lib.hid t3
  clear z1 z2 B1 B2 B3 hB3 t1 t2 t3
  have c0 := block_cell T2.out 0
  have c1 := block_cell T2.out 1
  have c2 := block_cell T2.out 2
  have c3 := block_cell T2.out 3
  simp at c0 c1 c2 c3
  have l2 := (Array.getElem?_eq_some_iff.1 T2.out).1
  obtain ⟨W4, hW4⟩ : ∃ W4, W4 = W3.alloc (.cells #[.int .u64 ti, .int .u64 tg, .int .i64 td] thT) := ⟨_, rfl⟩
  obtain ⟨b4, hb4⟩ : ∃ b, b = W3.heap.size := ⟨_, rfl⟩
  have hB4 : Below W3.heap.size W3 W4 := by rw [hW4]; exact below_new _ _
  have t4 : W4.heap[b4]? = some (.cells #[.int .u64 ti, .int .u64 tg, .int .i64 td] thT (0, 0)) := by rw [hW4, hb4]; exact heap_alloc_new _ _
  have HB4 := Lib.hid hB4
  have T4 := Lib.hid t4
  clear hB4 t4
  have HWo := Lib.hid hW
  have HRt := Lib.hid hR
  have HA := Lib.hid hA
  have Hid2 := Lib.hid hid
  clear hW hR hA hid
  go_enter Try.func17, Try.ntmps17
  go_upto_region 1 with fail
  rw [← hW1, ← hW2, ← hW3, ← hb3, ← hb2, ← hb1]
  clear hW1 hW2 hW3 hb1 hb2 hb3
  go_upto_region 2 with fail
  rw [← hW4, ← hb4]
  have Hb4 : Hid (W.heap.size ≤ b4) := (by rw [hb4]; exact HB3.out.size : W.heap.size ≤ b4)
  have Hb43 : Hid (b3 < b4 ∧ b3 < W4.heap.size) := (by have h7 := (Array.getElem?_eq_some_iff.1 T3.out).1; have h8 := HB4.out.size; exact ⟨by rw [hb4]; exact h7, Nat.lt_of_lt_of_le h7 h8⟩ : b3 < b4 ∧ b3 < W4.heap.size)
  have HBW4 : Hid (W.heap.size ≤ W4.heap.size) := (Nat.le_trans HB3.out.size HB4.out.size : W.heap.size ≤ W4.heap.size)
  clear hW4 c1 c2 c3 l2 hb4 c0
  have d2 := bx_below HB4.out T2.out
  have c0 := block_cell d2 0
  simp at c0
  have l2 := (Array.getElem?_eq_some_iff.1 d2).1
  clear d2
  have hw4 := below_on HB3.out HB4.out (Nat.le_refl _)
  have HRt4 := Lib.hid (HRt.out.below hw4)
  have Hx := Lib.hid (And.intro HWo.out.okX.2.2.2.2 HWo.out.okX.2.2.1)
  have Hw4 := Lib.hid hw4
  have g1 := bx_below HB4.out T1.out
  have p0 := block_cell g1 0
  have p1 := block_cell g1 1
  obtain ⟨e0, e1, e2, -, -, -⟩ := set3_res (t := ⟨ti, tg, td⟩) T4.out
  simp at p0 p1
  simp only at e0 e1 e2
  have l1 := (Array.getElem?_eq_some_iff.1 g1).1
  have l4 := (Array.getElem?_eq_some_iff.1 T4.out).1
  clear hw4 g1
  have HF : Hid (∀ i, W.heap.size ≤ i → ¬ F i) := (fun i hi h => by have := HWo.out.bd i h; omega : ∀ i, W.heap.size ≤ i → ¬ F i)
  have Hg := Lib.hid (get_f (HWo.out.below Hw4.out) ti Hid2.out)
  go_wp2_with fail
  refine Hg.out.mono ?_
  rintro e V1 ⟨rfl, hb⟩
  obtain ⟨⟨yi, yg, yd⟩, hy⟩ : ∃ y, y = canT X ti := ⟨_, rfl⟩
  obtain ⟨bo, hbo⟩ : ∃ bo, bo = canB X ti := ⟨_, rfl⟩
  rw [← hy, ← hbo]
  unfold thVal
  have d1 := bx_below hb (bx_below HB4.out T1.out)
  have d4 := bx_below hb T4.out
  have q0 := block_cell d1 0
  have q1 := block_cell d1 1
  obtain ⟨k0, k1, k2, -, -, -⟩ := set3_res (t := ⟨ti, tg, td⟩) d4
  simp at q0 q1
  simp only at k0 k1 k2
  have m1 := (Array.getElem?_eq_some_iff.1 d1).1
  have m4 := (Array.getElem?_eq_some_iff.1 d4).1
  have HY := Lib.hid (And.intro hy hbo)
  have HV1 := Lib.hid hb
  clear hy hbo hb d1 d4 p0 p1 e0 e1 e2 l1 l4
  obtain ⟨Z, hZ⟩ : ∃ Z, Z = V1.alloc (.cells #[.int .u64 yi, .int .u64 yg, .int .i64 yd] thT) := ⟨_, rfl⟩
  obtain ⟨b5, hb5⟩ : ∃ b, b = V1.heap.size := ⟨_, rfl⟩
  have hBZ : Below V1.heap.size V1 Z := by rw [hZ]; exact below_new _ _
  have x5 : Z.heap[b5]? = some (.cells #[.int .u64 yi, .int .u64 yg, .int .i64 yd] thT (0, 0)) := by rw [hZ, hb5]; exact heap_alloc_new _ _
  have hn5 : V1.heap.size ≤ b5 := by omega
  have X5 := Lib.hid x5
  have HN := Lib.hid hn5
  have HBZ := Lib.hid (below_on HV1.out hBZ (Nat.le_refl _))
  clear hBZ x5 hn5
  have hfi := find_any Z ao cap (slot0 X) ti (HRt4.out.below HBZ.out) (by rw [slot0_len]; have := Hx.out.1; omega)
  rw [slot0_len] at hfi
  have Hfi := Lib.hid hfi
  clear hfi
  go_wp2_with fail
  rw [← hZ, ← hb5]
  clear hZ hb5
  refine Hfi.out.mono ?_
  rintro e V9 ⟨rfl, hb9⟩
  have HB9 := Lib.hid (below_on HBZ.out hb9 (Nat.le_refl _))
  have Y5 := Lib.hid (bx_below hb9 X5.out)
  have Y1 := Lib.hid (bx_below (below_on HBZ.out hb9 (Nat.le_refl _)) (bx_below HB4.out T1.out))
  have Hne : Hid (b1 ≠ b3 ∧ b5 ≠ b3) := (by have h7 := Hb43.out.2; have h8 := HV1.out.size; have h9 := HN.out; have h6 := Hap.out; exact ⟨by omega, by omega⟩ : b1 ≠ b3 ∧ b5 ≠ b3)
  clear hb9 q0 q1 k0 k1 k2 m1 m4
  by_cases hin : ∃ u ∈ X, u.id = ti
  · obtain ⟨k, hk, hki, hv⟩ := findV_yes hin
    rw [hv]
    have hcy := can_yes Hx.out.2 (List.getElem_mem hk)
    rw [hki] at hcy
    have hyk : (⟨yi, yg, yd⟩ : Th) = X[k] := HY.out.1.trans hcy.1
    obtain rfl : bo = true := HY.out.2.trans hcy.2
    obtain ⟨bx, fx, rfl, hbx, c0', c1', c2', c3'⟩ := rx_cells (HRt4.out.below HB9.out) k hk
    have hbxF := HA.out _ rfl
    rw [← hyk] at c0' c1' c2'
    simp only at c0' c1' c2'
    have hneq : bx ≠ b3 := fun e => by have h1 := hbxF.1; have h2 := Hup.out.2.2; simp only at h1; omega
    have Hst : Hid (∀ U V10 : World, (V10.heap[b1]? = V9.heap[b1]? ∧ V10.heap[b5]? = V9.heap[b5]? ∧ V10.heap[bx]? = V9.heap[bx]?) → (∀ i, i ≠ b3 → U.heap[i]? = V10.heap[i]?) → U.heap[b1]? = V9.heap[b1]? ∧ U.heap[b5]? = V9.heap[b5]? ∧ U.heap[bx]? = V9.heap[bx]?) := (fun U V10 h hU => ⟨(hU b1 Hne.out.1).trans h.1, (hU b5 Hne.out.2).trans h.2.1, (hU bx hneq).trans h.2.2⟩ : ∀ U V10 : World, (V10.heap[b1]? = V9.heap[b1]? ∧ V10.heap[b5]? = V9.heap[b5]? ∧ V10.heap[bx]? = V9.heap[bx]?) → (∀ i, i ≠ b3 → U.heap[i]? = V10.heap[i]?) → U.heap[b1]? = V9.heap[b1]? ∧ U.heap[b5]? = V9.heap[b5]? ∧ U.heap[bx]? = V9.heap[bx]?)
    have hld : ∀ W', (W'.heap[b1]? = V9.heap[b1]? ∧ W'.heap[b5]? = V9.heap[b5]? ∧ W'.heap[bx]? = V9.heap[bx]?) → (Instr.loadAt rwT (.pointer (some ⟨b1, 0, none⟩))).run Try.prog W' = .ok (.agg #[.int .i64 now, .slice (some ⟨bx, fx, none⟩) X.length cap]) W' ∧ (Instr.loadAt thT (.pointer (some ⟨b5, 0, none⟩))).run Try.prog W' = .ok (thVal ⟨yi, yg, yd⟩) W' ∧ (Instr.loadAt rtsT (.pointer (some ⟨b1, 1, none⟩))).run Try.prog W' = .ok (.slice (some ⟨bx, fx, none⟩) X.length cap) W' ∧ (Instr.loadAt rtT (.pointer (some ⟨bx, fx + k * 4, none⟩))).run Try.prog W' = .ok (rtVal (⟨yi, yg, yd⟩, 0)) W' := fun W' hw => by
      have p1 := block_cell (hw.1.trans Y1.out) 1
      simp at p1
      exact ⟨ldRb (hw.1.trans Y1.out) _ _ _ rfl, ldTb ⟨yi, yg, yd⟩ (hw.2.1.trans Y5.out), ldS p1, ldRt ⟨yi, yg, yd⟩ 0 ((World.cell?_of_block (a := ⟨bx, fx + k * 4, none⟩) hw.2.2).trans c0') ((World.cell?_of_block (a := ⟨bx, fx + k * 4 + 1, none⟩) hw.2.2).trans c1') ((World.cell?_of_block (a := ⟨bx, fx + k * 4 + 2, none⟩) hw.2.2).trans c2') ((World.cell?_of_block (a := ⟨bx, fx + k * 4 + 3, none⟩) hw.2.2).trans c3')⟩
    have HldU := Lib.hid hld
    have Hlt := Lib.hid (And.intro (Array.getElem?_eq_some_iff.1 Y1.out).1 (And.intro (Array.getElem?_eq_some_iff.1 Y5.out).1 hbx))
    have heq := eq_rtv ⟨yi, yg, yd⟩
    have hgd : ∀ p q V, (eqGuard .eql rtT p q (rtVal (⟨yi, yg, yd⟩, 0)) (rtVal (⟨yi, yg, yd⟩, 0))).run Try.prog V = .ok () V := fun p q V => guard_rt .eql p q _ _ V
    have n1 : ¬ (k : Int) < 0 := by omega
    have n2 : (k : Int) ≥ 0 := by omega
    have n3 : (k : Int) < (X.length : Int) := by omega
    have Hk := Lib.hid hk
    clear hv hcy hyk hki hin hbxF c0' c1' c2' c3' hneq hld hbx hk
    go_upto_region 20 with fail
    refine wp_region_held_drew (S := fun W' => W'.heap[b1]? = V9.heap[b1]? ∧ W'.heap[b5]? = V9.heap[b5]? ∧ W'.heap[bx]? = V9.heap[bx]?) (by kernel_rfl) ⟨rfl, rfl, rfl⟩ (fun hHeld => ?_)
    refine wpAnyH_take (i := 0) (v := .agg #[.int .i64 now, .slice (some ⟨bx, fx, none⟩) X.length cap]) rfl (by kernel_rfl) (by kernel_rfl) (by kernel_rfl) (fun _ _ _ h => h) (Or.inl ⟨by rfl, ?_⟩) (by assumption) ?_
    · intro w8 hSw; exact ld_takeT rfl (HldU.out w8 hSw).1 rfl
    simp only [Act.put, List.getElem_toArray, List.getElem_cons_zero, List.getElem_cons_succ, List.setIfInBounds_toArray, List.set_cons_zero, List.set_cons_succ]
    refine wpAnyH_take (i := 1) (v := ?_) rfl (by kernel_rfl) (by kernel_rfl) (by kernel_rfl) (fun _ _ _ h => h) (Or.inl ⟨by rfl, ?_⟩) (by assumption) ?_
    rotate_left
    · intro w8 hSw; clear hSw; go_simp; (try with_reducible rfl)
    simp only [Act.put, List.getElem_toArray, List.getElem_cons_zero, List.getElem_cons_succ, List.setIfInBounds_toArray, List.set_cons_zero, List.set_cons_succ]
    refine wpAnyH_take (i := 2) (v := ?_) rfl (by kernel_rfl) (by kernel_rfl) (by kernel_rfl) (fun _ _ _ h => h) (Or.inl ⟨by rfl, ?_⟩) (by assumption) ?_
    rotate_left
    · intro w8 hSw; clear hSw; go_simp; (try with_reducible rfl)
    simp only [Act.put, List.getElem_toArray, List.getElem_cons_zero, List.getElem_cons_succ, List.setIfInBounds_toArray, List.set_cons_zero, List.set_cons_succ]
    refine wpAnyH_take (i := 3) (v := ?_) rfl (by kernel_rfl) (by kernel_rfl) (by kernel_rfl) (fun _ _ _ h => h) (Or.inl ⟨by rfl, ?_⟩) (by assumption) ?_
    rotate_left
    · intro w8 hSw; clear hSw; go_simp; (try with_reducible rfl)
    simp only [Act.put, List.getElem_toArray, List.getElem_cons_zero, List.getElem_cons_succ, List.setIfInBounds_toArray, List.set_cons_zero, List.set_cons_succ]
    refine wpAnyH_take (i := 4) (v := ?_) rfl (by kernel_rfl) (by kernel_rfl) (by kernel_rfl) (fun _ _ _ h => h) (Or.inl ⟨by rfl, ?_⟩) (by assumption) ?_
    rotate_left
    · intro w8 hSw; clear hSw; go_simp; (try with_reducible rfl)
    simp only [Act.put, List.getElem_toArray, List.getElem_cons_zero, List.getElem_cons_succ, List.setIfInBounds_toArray, List.set_cons_zero, List.set_cons_succ]
    refine wpAnyH_take (i := 5) (v := ?_) rfl (by kernel_rfl) (by kernel_rfl) (by kernel_rfl) (fun _ _ _ h => h) (Or.inl ⟨by rfl, ?_⟩) (by assumption) ?_
    rotate_left
    · intro w8 hSw; clear hSw; go_simp; (try with_reducible rfl)
    simp only [Act.put, List.getElem_toArray, List.getElem_cons_zero, List.getElem_cons_succ, List.setIfInBounds_toArray, List.set_cons_zero, List.set_cons_succ]
    refine wpAnyH_take (i := 6) (v := ?_) rfl (by kernel_rfl) (by kernel_rfl) (by kernel_rfl) (fun _ _ _ h => h) (Or.inl ⟨by rfl, ?_⟩) (by assumption) ?_
    rotate_left
    · intro w8 hSw; clear hSw; go_simp; (try with_reducible rfl)
    simp only [Act.put, List.getElem_toArray, List.getElem_cons_zero, List.getElem_cons_succ, List.setIfInBounds_toArray, List.set_cons_zero, List.set_cons_succ]
    refine wpAnyH_take (i := 7) (v := .bool false) rfl (by kernel_rfl) (by kernel_rfl) (by kernel_rfl) (fun _ _ _ h => h) (Or.inl ⟨by rfl, ?_⟩) (by assumption) ?_
    · intro w8 hSw; clear hSw; go_simp; (try omega)
    simp only [Act.put, List.getElem_toArray, List.getElem_cons_zero, List.getElem_cons_succ, List.setIfInBounds_toArray, List.set_cons_zero, List.set_cons_succ]
    refine wpAnyH_take (i := 8) (v := ?_) rfl (by kernel_rfl) (by kernel_rfl) (by kernel_rfl) (fun _ _ _ h => h) (Or.inl ⟨by rfl, ?_⟩) (by assumption) ?_
    rotate_left
    · intro w8 hSw; clear hSw; go_simp; (try with_reducible rfl)
    simp only [Act.put, List.getElem_toArray, List.getElem_cons_zero, List.getElem_cons_succ, List.setIfInBounds_toArray, List.set_cons_zero, List.set_cons_succ]
    refine wpAnyH_take (i := 9) rfl (by kernel_rfl) (by kernel_rfl) (by kernel_rfl) (fun _ _ _ h => h) (Or.inr ⟨by rfl, rfl⟩) (by assumption) ?_
    simp only [Act.put, List.getElem_toArray, List.getElem_cons_zero, List.getElem_cons_succ, List.setIfInBounds_toArray, List.set_cons_zero, List.set_cons_succ]
    refine wpAnyH_take (i := 10) rfl (by kernel_rfl) (by kernel_rfl) (by kernel_rfl) (fun _ _ _ h => h) (Or.inr ⟨by rfl, rfl⟩) (by assumption) ?_
    simp only [Act.put, List.getElem_toArray, List.getElem_cons_zero, List.getElem_cons_succ, List.setIfInBounds_toArray, List.set_cons_zero, List.set_cons_succ]
    refine wpAnyH_take (i := 11) rfl (by kernel_rfl) (by kernel_rfl) (by kernel_rfl) (fun _ _ _ h => h) (Or.inr ⟨by rfl, rfl⟩) (by assumption) ?_
    simp only [Act.put, List.getElem_toArray, List.getElem_cons_zero, List.getElem_cons_succ, List.setIfInBounds_toArray, List.set_cons_zero, List.set_cons_succ]
    refine wpAnyH_take (i := 12) (v := ?_) rfl (by kernel_rfl) (by kernel_rfl) (by kernel_rfl) (fun _ _ _ h => h) (Or.inl ⟨by rfl, ?_⟩) (by assumption) ?_
    rotate_left
    · intro w8 hSw; clear hSw; go_simp; (try with_reducible rfl)
    simp only [Act.put, List.getElem_toArray, List.getElem_cons_zero, List.getElem_cons_succ, List.setIfInBounds_toArray, List.set_cons_zero, List.set_cons_succ]
    refine wpAnyH_take (i := 13) (v := ?_) rfl (by kernel_rfl) (by kernel_rfl) (by kernel_rfl) (fun _ _ _ h => h) (Or.inl ⟨by rfl, ?_⟩) (by assumption) ?_
    rotate_left
    · intro w8 hSw; clear hSw; go_simp; (try with_reducible rfl)
    simp only [Act.put, List.getElem_toArray, List.getElem_cons_zero, List.getElem_cons_succ, List.setIfInBounds_toArray, List.set_cons_zero, List.set_cons_succ]
    refine wpAnyH_take (i := 14) (v := ?_) rfl (by kernel_rfl) (by kernel_rfl) (by kernel_rfl) (fun _ _ _ h => h) (Or.inl ⟨by rfl, ?_⟩) (by assumption) ?_
    rotate_left
    · intro w8 hSw; clear hSw; go_simp; (try with_reducible rfl)
    simp only [Act.put, List.getElem_toArray, List.getElem_cons_zero, List.getElem_cons_succ, List.setIfInBounds_toArray, List.set_cons_zero, List.set_cons_succ]
    refine wpAnyH_take (i := 15) (v := ?_) rfl (by kernel_rfl) (by kernel_rfl) (by kernel_rfl) (fun _ _ _ h => h) (Or.inl ⟨by rfl, ?_⟩) (by assumption) ?_
    rotate_left
    · intro w8 hSw; clear hSw; go_simp; (try with_reducible rfl)
    simp only [Act.put, List.getElem_toArray, List.getElem_cons_zero, List.getElem_cons_succ, List.setIfInBounds_toArray, List.set_cons_zero, List.set_cons_succ]
    refine wpAnyH_take (i := 16) (v := ?_) rfl (by kernel_rfl) (by kernel_rfl) (by kernel_rfl) (fun _ _ _ h => h) (Or.inl ⟨by rfl, ?_⟩) (by assumption) ?_
    rotate_left
    · intro w8 hSw; clear hSw; go_simp; (try with_reducible rfl)
    simp only [Act.put, List.getElem_toArray, List.getElem_cons_zero, List.getElem_cons_succ, List.setIfInBounds_toArray, List.set_cons_zero, List.set_cons_succ]
    refine wpAnyH_take (i := 17) (v := thVal ⟨yi, yg, yd⟩) rfl (by kernel_rfl) (by kernel_rfl) (by kernel_rfl) (fun _ _ _ h => h) (Or.inl ⟨by rfl, ?_⟩) (by assumption) ?_
    · intro w8 hSw; exact ld_takeT rfl (HldU.out w8 hSw).2.1 rfl
    simp only [Act.put, List.getElem_toArray, List.getElem_cons_zero, List.getElem_cons_succ, List.setIfInBounds_toArray, List.set_cons_zero, List.set_cons_succ]
    refine wpAnyH_take (i := 19) (v := ?_) rfl (by kernel_rfl) (by kernel_rfl) (by kernel_rfl) (fun _ _ _ h => h) (Or.inl ⟨by rfl, ?_⟩) (by assumption) ?_
    rotate_left
    · intro w8 hSw; clear hSw; go_simp; (try with_reducible rfl)
    simp only [Act.put, List.getElem_toArray, List.getElem_cons_zero, List.getElem_cons_succ, List.setIfInBounds_toArray, List.set_cons_zero, List.set_cons_succ]
    refine wpAnyH_take (i := 20) (v := .slice (some ⟨bx, fx, none⟩) X.length cap) rfl (by kernel_rfl) (by kernel_rfl) (by kernel_rfl) (fun _ _ _ h => h) (Or.inl ⟨by rfl, ?_⟩) (by assumption) ?_
    · intro w8 hSw; exact ld_takeT rfl (HldU.out w8 hSw).2.2.1 rfl
    simp only [Act.put, List.getElem_toArray, List.getElem_cons_zero, List.getElem_cons_succ, List.setIfInBounds_toArray, List.set_cons_zero, List.set_cons_succ]
    refine wpAnyH_take (i := 21) (v := ?_) rfl (by kernel_rfl) (by kernel_rfl) (by kernel_rfl) (fun _ _ _ h => h) (Or.inl ⟨by rfl, ?_⟩) (by assumption) ?_
    rotate_left
    · intro w8 hSw; clear hSw; go_simp; (try with_reducible rfl)
    simp only [Act.put, List.getElem_toArray, List.getElem_cons_zero, List.getElem_cons_succ, List.setIfInBounds_toArray, List.set_cons_zero, List.set_cons_succ]
    refine wpAnyH_take (i := 22) (v := ?_) rfl (by kernel_rfl) (by kernel_rfl) (by kernel_rfl) (fun _ _ _ h => h) (Or.inl ⟨by rfl, ?_⟩) (by assumption) ?_
    rotate_left
    · intro w8 hSw; clear hSw; go_simp; (try with_reducible rfl)
    simp only [Act.put, List.getElem_toArray, List.getElem_cons_zero, List.getElem_cons_succ, List.setIfInBounds_toArray, List.set_cons_zero, List.set_cons_succ]
    refine wpAnyH_take (i := 23) (v := rtVal (⟨yi, yg, yd⟩, 0)) rfl (by kernel_rfl) (by kernel_rfl) (by kernel_rfl) (fun _ _ _ h => h) (Or.inl ⟨by rfl, ?_⟩) (by assumption) ?_
    · intro w8 hSw; exact ld_takeT rfl (HldU.out w8 hSw).2.2.2 rfl
    simp only [Act.put, List.getElem_toArray, List.getElem_cons_zero, List.getElem_cons_succ, List.setIfInBounds_toArray, List.set_cons_zero, List.set_cons_succ]
    refine wpAnyH_ready (rs := [18]) (by kernel_rfl) (by simp) ?_
    refine AllReadyH.cons rfl (fun K hK => ?_) AllReadyH.nil
    go_simp
    go_at_call 36
    refine (plain_any V9.drew ⟨yi, yg, yd⟩).mono ?_
    rintro e V10 ⟨rfl, hb10⟩
    refine hK.out _ _ ⟨hb10.block b1 Hlt.out.1, hb10.block b5 Hlt.out.2.1, hb10.block bx Hlt.out.2.2⟩ (fun hHeld => ?_)
    clear hK K
    try simp only [Act.put, List.getElem_toArray, List.getElem_cons_zero, List.getElem_cons_succ, List.setIfInBounds_toArray, List.set_cons_zero, List.set_cons_succ]
    refine wpAnyH_take (i := 24) (v := ?_) rfl (by kernel_rfl) (by kernel_rfl) (by kernel_rfl) (fun _ _ _ h => h) (Or.inl ⟨by rfl, ?_⟩) (by assumption) ?_
    rotate_left
    · intro w8 hSw; clear hSw; go_simp; (try with_reducible rfl)
    simp only [Act.put, List.getElem_toArray, List.getElem_cons_zero, List.getElem_cons_succ, List.setIfInBounds_toArray, List.set_cons_zero, List.set_cons_succ]
    refine wpAnyH_take (i := 25) (v := ?_) rfl (by kernel_rfl) (by kernel_rfl) (by kernel_rfl) (fun _ _ _ h => h) (Or.inl ⟨by rfl, ?_⟩) (by assumption) ?_
    rotate_left
    · intro w8 hSw; clear hSw; go_simp; (try with_reducible rfl)
    simp only [Act.put, List.getElem_toArray, List.getElem_cons_zero, List.getElem_cons_succ, List.setIfInBounds_toArray, List.set_cons_zero, List.set_cons_succ]
    refine wpAnyH_take (i := 26) (v := ?_) rfl (by kernel_rfl) (by kernel_rfl) (by kernel_rfl) (fun _ _ _ h => h) (Or.inl ⟨by rfl, ?_⟩) (by assumption) ?_
    rotate_left
    · intro w8 hSw; clear hSw; go_simp; (try with_reducible rfl)
    simp only [Act.put, List.getElem_toArray, List.getElem_cons_zero, List.getElem_cons_succ, List.setIfInBounds_toArray, List.set_cons_zero, List.set_cons_succ]
    refine wpAnyH_take (i := 27) (v := ?_) rfl (by kernel_rfl) (by kernel_rfl) (by kernel_rfl) (fun _ _ _ h => h) (Or.inl ⟨by rfl, ?_⟩) (by assumption) ?_
    rotate_left
    · intro w8 hSw; clear hSw; go_simp; (try with_reducible rfl)
    simp only [Act.put, List.getElem_toArray, List.getElem_cons_zero, List.getElem_cons_succ, List.setIfInBounds_toArray, List.set_cons_zero, List.set_cons_succ]
    have HB10 := below_on HB9.out (below_on (Below.refl _ V9).drew hb10 (Nat.le_refl _)) (Nat.le_refl _)
    have hBU10 := HB10
    have x39 := bx_below hBU10 (bx_below HB4.out T3.out)
    have y0 := block_cell x39 0
    have y1 := block_cell x39 1
    have f0 := block_free x39 0
    have f1 := block_free x39 1
    have l3 := (Array.getElem?_eq_some_iff.1 x39).1
    simp at y0 y1 f0 f1
    obtain ⟨U, hU⟩ := wdone_sets HWo.out.bel.size Hw4.out HRt4.out (HA.out.up HBW4.out) ((HWo.out.below Hw4.out).below hBU10) (Gr.below hBU10) (fun i hi => .inl hi) (bx_below HB4.out T3.out) Hup.out.2.2 (HF.out _ Hup.out.2.2) (.int .i64 now) (.slice (some ⟨bx, fx, none⟩) X.length cap)
    have HU := Lib.hid hU
    have HS9 := Lib.hid hHeld
    clear hU hBU10 x39
    refine wpAnyH_ready (rs := [28]) (by kernel_rfl) (by simp) ?_
    refine AllReadyH.cons rfl (fun K hK => ?_) AllReadyH.nil
    go_simp
    rw [← HU.out.1]
    refine hK.out _ _ (Hst.out U V10 HS9.out HU.out.2.2.2) (fun hHeld => ?_)
    clear hK K y0 y1 f0 f1 l3
    try simp only [Act.put, List.getElem_toArray, List.getElem_cons_zero, List.getElem_cons_succ, List.setIfInBounds_toArray, List.set_cons_zero, List.set_cons_succ]
    refine wpAnyH_take (i := 29) (v := ?_) rfl (by kernel_rfl) (by kernel_rfl) (by kernel_rfl) (fun _ _ _ h => h) (Or.inl ⟨by rfl, ?_⟩) (by assumption) ?_
    rotate_left
    · intro w8 hSw; clear hSw; go_simp; (try with_reducible rfl)
    simp only [Act.put, List.getElem_toArray, List.getElem_cons_zero, List.getElem_cons_succ, List.setIfInBounds_toArray, List.set_cons_zero, List.set_cons_succ]
    refine wpAnyH_done (by kernel_rfl) ?_ _
    have u3 := HU.out.2.2.1
    have u0 := block_cell u3 0
    have u1 := block_cell u3 1
    have ul := (Array.getElem?_eq_some_iff.1 u3).1
    simp at u0 u1
    clear u3
    go_wp2_with fail
    refine bodyPost_ret (v := .tuple #[.agg #[.int .i64 now, .slice (some ⟨bx, fx, none⟩) X.length cap], .bool true]) ?_ rfl ⟨now, X, F, some ⟨bx, fx, none⟩, cap, rfl, HU.out.2.1⟩
    simp [results, Try.results17, go_sem, u0, u1, ul]
  · have hno : ∀ u ∈ X, u.id ≠ ti := fun u hu e => hin ⟨u, hu, e⟩
    rw [findV_no hno]
    have hcn := can_no hno
    have h3 := HY.out.1.trans hcn.1
    simp only [Th.mk.injEq] at h3
    obtain ⟨rfl, rfl, rfl⟩ := h3
    obtain rfl : bo = false := HY.out.2.trans hcn.2
    obtain ⟨V10, hV10⟩ : ∃ V10, V10 = V9.drew := ⟨_, rfl⟩
    have HB10 : Below W4.heap.size W4 V10 := by rw [hV10]; exact HB9.out.drew
    have Hst : Hid (∀ U V10 : World, (V10.heap[b1]? = V9.heap[b1]? ∧ V10.heap[b5]? = V9.heap[b5]?) → (∀ i, i ≠ b3 → U.heap[i]? = V10.heap[i]?) → U.heap[b1]? = V9.heap[b1]? ∧ U.heap[b5]? = V9.heap[b5]?) := (fun U V10 h hU => ⟨(hU b1 Hne.out.1).trans h.1, (hU b5 Hne.out.2).trans h.2⟩ : ∀ U V10 : World, (V10.heap[b1]? = V9.heap[b1]? ∧ V10.heap[b5]? = V9.heap[b5]?) → (∀ i, i ≠ b3 → U.heap[i]? = V10.heap[i]?) → U.heap[b1]? = V9.heap[b1]? ∧ U.heap[b5]? = V9.heap[b5]?)
    have hld : ∀ W', (W'.heap[b1]? = V9.heap[b1]? ∧ W'.heap[b5]? = V9.heap[b5]?) → (Instr.loadAt rwT (.pointer (some ⟨b1, 0, none⟩))).run Try.prog W' = .ok (.agg #[.int .i64 now, .slice ao X.length cap]) W' ∧ (Instr.loadAt thT (.pointer (some ⟨b5, 0, none⟩))).run Try.prog W' = .ok (thVal ⟨0, 0, 0⟩) W' := fun W' hw => ⟨ldRb (hw.1.trans Y1.out) _ _ _ rfl, ldTb ⟨0, 0, 0⟩ (hw.2.trans Y5.out)⟩
    have HldU := Lib.hid hld
    have heq := eq_th ⟨0, 0, 0⟩
    have hgd : ∀ p q V, (eqGuard .eql thT p q (thVal ⟨0, 0, 0⟩) (thVal ⟨0, 0, 0⟩)).run Try.prog V = .ok () V := fun p q V => guard_thv .eql p q _ _ V
    clear hno hcn hin hld
    go_upto_region 20 with fail
    refine wp_region_held_drew (S := fun W' => W'.heap[b1]? = V9.heap[b1]? ∧ W'.heap[b5]? = V9.heap[b5]?) (by kernel_rfl) ⟨rfl, rfl⟩ (fun hHeld => ?_)
    rw [← hV10] at hHeld ⊢
    clear hV10
    refine wpAnyH_take (i := 0) (v := .agg #[.int .i64 now, .slice ao X.length cap]) rfl (by kernel_rfl) (by kernel_rfl) (by kernel_rfl) (fun _ _ _ h => h) (Or.inl ⟨by rfl, ?_⟩) (by assumption) ?_
    · intro w8 hSw; exact ld_takeT rfl (HldU.out w8 hSw).1 rfl
    simp only [Act.put, List.getElem_toArray, List.getElem_cons_zero, List.getElem_cons_succ, List.setIfInBounds_toArray, List.set_cons_zero, List.set_cons_succ]
    refine wpAnyH_take (i := 1) (v := ?_) rfl (by kernel_rfl) (by kernel_rfl) (by kernel_rfl) (fun _ _ _ h => h) (Or.inl ⟨by rfl, ?_⟩) (by assumption) ?_
    rotate_left
    · intro w8 hSw; clear hSw; go_simp; (try with_reducible rfl)
    simp only [Act.put, List.getElem_toArray, List.getElem_cons_zero, List.getElem_cons_succ, List.setIfInBounds_toArray, List.set_cons_zero, List.set_cons_succ]
    refine wpAnyH_take (i := 2) (v := ?_) rfl (by kernel_rfl) (by kernel_rfl) (by kernel_rfl) (fun _ _ _ h => h) (Or.inl ⟨by rfl, ?_⟩) (by assumption) ?_
    rotate_left
    · intro w8 hSw; clear hSw; go_simp; (try with_reducible rfl)
    simp only [Act.put, List.getElem_toArray, List.getElem_cons_zero, List.getElem_cons_succ, List.setIfInBounds_toArray, List.set_cons_zero, List.set_cons_succ]
    refine wpAnyH_take (i := 3) (v := ?_) rfl (by kernel_rfl) (by kernel_rfl) (by kernel_rfl) (fun _ _ _ h => h) (Or.inl ⟨by rfl, ?_⟩) (by assumption) ?_
    rotate_left
    · intro w8 hSw; clear hSw; go_simp; (try with_reducible rfl)
    simp only [Act.put, List.getElem_toArray, List.getElem_cons_zero, List.getElem_cons_succ, List.setIfInBounds_toArray, List.set_cons_zero, List.set_cons_succ]
    refine wpAnyH_take (i := 4) (v := ?_) rfl (by kernel_rfl) (by kernel_rfl) (by kernel_rfl) (fun _ _ _ h => h) (Or.inl ⟨by rfl, ?_⟩) (by assumption) ?_
    rotate_left
    · intro w8 hSw; clear hSw; go_simp; (try with_reducible rfl)
    simp only [Act.put, List.getElem_toArray, List.getElem_cons_zero, List.getElem_cons_succ, List.setIfInBounds_toArray, List.set_cons_zero, List.set_cons_succ]
    refine wpAnyH_take (i := 5) (v := ?_) rfl (by kernel_rfl) (by kernel_rfl) (by kernel_rfl) (fun _ _ _ h => h) (Or.inl ⟨by rfl, ?_⟩) (by assumption) ?_
    rotate_left
    · intro w8 hSw; clear hSw; go_simp; (try with_reducible rfl)
    simp only [Act.put, List.getElem_toArray, List.getElem_cons_zero, List.getElem_cons_succ, List.setIfInBounds_toArray, List.set_cons_zero, List.set_cons_succ]
    refine wpAnyH_take (i := 6) (v := ?_) rfl (by kernel_rfl) (by kernel_rfl) (by kernel_rfl) (fun _ _ _ h => h) (Or.inl ⟨by rfl, ?_⟩) (by assumption) ?_
    rotate_left
    · intro w8 hSw; clear hSw; go_simp; (try with_reducible rfl)
    simp only [Act.put, List.getElem_toArray, List.getElem_cons_zero, List.getElem_cons_succ, List.setIfInBounds_toArray, List.set_cons_zero, List.set_cons_succ]
    refine wpAnyH_take (i := 7) (v := ?_) rfl (by kernel_rfl) (by kernel_rfl) (by kernel_rfl) (fun _ _ _ h => h) (Or.inl ⟨by rfl, ?_⟩) (by assumption) ?_
    rotate_left
    · intro w8 hSw; clear hSw; go_simp; (try with_reducible rfl)
    simp only [Act.put, List.getElem_toArray, List.getElem_cons_zero, List.getElem_cons_succ, List.setIfInBounds_toArray, List.set_cons_zero, List.set_cons_succ]
    refine wpAnyH_take (i := 8) (v := ?_) rfl (by kernel_rfl) (by kernel_rfl) (by kernel_rfl) (fun _ _ _ h => h) (Or.inl ⟨by rfl, ?_⟩) (by assumption) ?_
    rotate_left
    · intro w8 hSw; clear hSw; go_simp; (try with_reducible rfl)
    simp only [Act.put, List.getElem_toArray, List.getElem_cons_zero, List.getElem_cons_succ, List.setIfInBounds_toArray, List.set_cons_zero, List.set_cons_succ]
    refine wpAnyH_take (i := 9) (v := thVal ⟨0, 0, 0⟩) rfl (by kernel_rfl) (by kernel_rfl) (by kernel_rfl) (fun _ _ _ h => h) (Or.inl ⟨by rfl, ?_⟩) (by assumption) ?_
    · intro w8 hSw; exact ld_takeT rfl (HldU.out w8 hSw).2 rfl
    simp only [Act.put, List.getElem_toArray, List.getElem_cons_zero, List.getElem_cons_succ, List.setIfInBounds_toArray, List.set_cons_zero, List.set_cons_succ]
    refine wpAnyH_take (i := 10) (v := thVal ⟨0, 0, 0⟩) rfl (by kernel_rfl) (by kernel_rfl) (by kernel_rfl) (fun _ _ _ h => h) (Or.inl ⟨by rfl, ?_⟩) (by assumption) ?_
    · intro w8 hSw; clear hSw; unfold thVal; go_simp
    simp only [Act.put, List.getElem_toArray, List.getElem_cons_zero, List.getElem_cons_succ, List.setIfInBounds_toArray, List.set_cons_zero, List.set_cons_succ]
    refine wpAnyH_take (i := 11) (v := ?_) rfl (by kernel_rfl) (by kernel_rfl) (by kernel_rfl) (fun _ _ _ h => h) (Or.inl ⟨by rfl, ?_⟩) (by assumption) ?_
    rotate_left
    · intro w8 hSw; clear hSw; go_simp; (try with_reducible rfl)
    simp only [Act.put, List.getElem_toArray, List.getElem_cons_zero, List.getElem_cons_succ, List.setIfInBounds_toArray, List.set_cons_zero, List.set_cons_succ]
    refine wpAnyH_take (i := 12) (v := ?_) rfl (by kernel_rfl) (by kernel_rfl) (by kernel_rfl) (fun _ _ _ h => h) (Or.inl ⟨by rfl, ?_⟩) (by assumption) ?_
    rotate_left
    · intro w8 hSw; clear hSw; go_simp; (try with_reducible rfl)
    simp only [Act.put, List.getElem_toArray, List.getElem_cons_zero, List.getElem_cons_succ, List.setIfInBounds_toArray, List.set_cons_zero, List.set_cons_succ]
    refine wpAnyH_take (i := 13) (v := ?_) rfl (by kernel_rfl) (by kernel_rfl) (by kernel_rfl) (fun _ _ _ h => h) (Or.inl ⟨by rfl, ?_⟩) (by assumption) ?_
    rotate_left
    · intro w8 hSw; clear hSw; go_simp; (try with_reducible rfl)
    simp only [Act.put, List.getElem_toArray, List.getElem_cons_zero, List.getElem_cons_succ, List.setIfInBounds_toArray, List.set_cons_zero, List.set_cons_succ]
    refine wpAnyH_take (i := 14) rfl (by kernel_rfl) (by kernel_rfl) (by kernel_rfl) (fun _ _ _ h => h) (Or.inr ⟨by rfl, rfl⟩) (by assumption) ?_
    simp only [Act.put, List.getElem_toArray, List.getElem_cons_zero, List.getElem_cons_succ, List.setIfInBounds_toArray, List.set_cons_zero, List.set_cons_succ]
    refine wpAnyH_take (i := 15) rfl (by kernel_rfl) (by kernel_rfl) (by kernel_rfl) (fun _ _ _ h => h) (Or.inr ⟨by rfl, rfl⟩) (by assumption) ?_
    simp only [Act.put, List.getElem_toArray, List.getElem_cons_zero, List.getElem_cons_succ, List.setIfInBounds_toArray, List.set_cons_zero, List.set_cons_succ]
    refine wpAnyH_take (i := 16) rfl (by kernel_rfl) (by kernel_rfl) (by kernel_rfl) (fun _ _ _ h => h) (Or.inr ⟨by rfl, rfl⟩) (by assumption) ?_
    simp only [Act.put, List.getElem_toArray, List.getElem_cons_zero, List.getElem_cons_succ, List.setIfInBounds_toArray, List.set_cons_zero, List.set_cons_succ]
    refine wpAnyH_take (i := 17) rfl (by kernel_rfl) (by kernel_rfl) (by kernel_rfl) (fun _ _ _ h => h) (Or.inr ⟨by rfl, rfl⟩) (by assumption) ?_
    simp only [Act.put, List.getElem_toArray, List.getElem_cons_zero, List.getElem_cons_succ, List.setIfInBounds_toArray, List.set_cons_zero, List.set_cons_succ]
    refine wpAnyH_take (i := 18) rfl (by kernel_rfl) (by kernel_rfl) (by kernel_rfl) (fun _ _ _ h => h) (Or.inr ⟨by rfl, rfl⟩) (by assumption) ?_
    simp only [Act.put, List.getElem_toArray, List.getElem_cons_zero, List.getElem_cons_succ, List.setIfInBounds_toArray, List.set_cons_zero, List.set_cons_succ]
    refine wpAnyH_take (i := 19) rfl (by kernel_rfl) (by kernel_rfl) (by kernel_rfl) (fun _ _ _ h => h) (Or.inr ⟨by rfl, rfl⟩) (by assumption) ?_
    simp only [Act.put, List.getElem_toArray, List.getElem_cons_zero, List.getElem_cons_succ, List.setIfInBounds_toArray, List.set_cons_zero, List.set_cons_succ]
    refine wpAnyH_take (i := 20) rfl (by kernel_rfl) (by kernel_rfl) (by kernel_rfl) (fun _ _ _ h => h) (Or.inr ⟨by rfl, rfl⟩) (by assumption) ?_
    simp only [Act.put, List.getElem_toArray, List.getElem_cons_zero, List.getElem_cons_succ, List.setIfInBounds_toArray, List.set_cons_zero, List.set_cons_succ]
    refine wpAnyH_take (i := 21) rfl (by kernel_rfl) (by kernel_rfl) (by kernel_rfl) (fun _ _ _ h => h) (Or.inr ⟨by rfl, rfl⟩) (by assumption) ?_
    simp only [Act.put, List.getElem_toArray, List.getElem_cons_zero, List.getElem_cons_succ, List.setIfInBounds_toArray, List.set_cons_zero, List.set_cons_succ]
    refine wpAnyH_take (i := 22) rfl (by kernel_rfl) (by kernel_rfl) (by kernel_rfl) (fun _ _ _ h => h) (Or.inr ⟨by rfl, rfl⟩) (by assumption) ?_
    simp only [Act.put, List.getElem_toArray, List.getElem_cons_zero, List.getElem_cons_succ, List.setIfInBounds_toArray, List.set_cons_zero, List.set_cons_succ]
    refine wpAnyH_take (i := 23) rfl (by kernel_rfl) (by kernel_rfl) (by kernel_rfl) (fun _ _ _ h => h) (Or.inr ⟨by rfl, rfl⟩) (by assumption) ?_
    simp only [Act.put, List.getElem_toArray, List.getElem_cons_zero, List.getElem_cons_succ, List.setIfInBounds_toArray, List.set_cons_zero, List.set_cons_succ]
    refine wpAnyH_take (i := 24) rfl (by kernel_rfl) (by kernel_rfl) (by kernel_rfl) (fun _ _ _ h => h) (Or.inr ⟨by rfl, rfl⟩) (by assumption) ?_
    simp only [Act.put, List.getElem_toArray, List.getElem_cons_zero, List.getElem_cons_succ, List.setIfInBounds_toArray, List.set_cons_zero, List.set_cons_succ]
    refine wpAnyH_take (i := 25) rfl (by kernel_rfl) (by kernel_rfl) (by kernel_rfl) (fun _ _ _ h => h) (Or.inr ⟨by rfl, rfl⟩) (by assumption) ?_
    simp only [Act.put, List.getElem_toArray, List.getElem_cons_zero, List.getElem_cons_succ, List.setIfInBounds_toArray, List.set_cons_zero, List.set_cons_succ]
    refine wpAnyH_take (i := 26) (v := ?_) rfl (by kernel_rfl) (by kernel_rfl) (by kernel_rfl) (fun _ _ _ h => h) (Or.inl ⟨by rfl, ?_⟩) (by assumption) ?_
    rotate_left
    · intro w8 hSw; clear hSw; go_simp; (try with_reducible rfl)
    simp only [Act.put, List.getElem_toArray, List.getElem_cons_zero, List.getElem_cons_succ, List.setIfInBounds_toArray, List.set_cons_zero, List.set_cons_succ]
    refine wpAnyH_take (i := 27) (v := ?_) rfl (by kernel_rfl) (by kernel_rfl) (by kernel_rfl) (fun _ _ _ h => h) (Or.inl ⟨by rfl, ?_⟩) (by assumption) ?_
    rotate_left
    · intro w8 hSw; clear hSw; go_simp; (try with_reducible rfl)
    simp only [Act.put, List.getElem_toArray, List.getElem_cons_zero, List.getElem_cons_succ, List.setIfInBounds_toArray, List.set_cons_zero, List.set_cons_succ]
    have hBU10 := HB10
    have x39 := bx_below hBU10 (bx_below HB4.out T3.out)
    have y0 := block_cell x39 0
    have y1 := block_cell x39 1
    have f0 := block_free x39 0
    have f1 := block_free x39 1
    have l3 := (Array.getElem?_eq_some_iff.1 x39).1
    simp at y0 y1 f0 f1
    obtain ⟨U, hU⟩ := wdone_sets HWo.out.bel.size Hw4.out HRt4.out (HA.out.up HBW4.out) ((HWo.out.below Hw4.out).below hBU10) (Gr.below hBU10) (fun i hi => .inl hi) (bx_below HB4.out T3.out) Hup.out.2.2 (HF.out _ Hup.out.2.2) (.int .i64 now) (.slice ao X.length cap)
    have HU := Lib.hid hU
    have HS9 := Lib.hid hHeld
    clear hU hBU10 x39
    refine wpAnyH_ready (rs := [28]) (by kernel_rfl) (by simp) ?_
    refine AllReadyH.cons rfl (fun K hK => ?_) AllReadyH.nil
    go_simp
    rw [← HU.out.1]
    refine hK.out _ _ (Hst.out U V10 HS9.out HU.out.2.2.2) (fun hHeld => ?_)
    clear hK K y0 y1 f0 f1 l3
    try simp only [Act.put, List.getElem_toArray, List.getElem_cons_zero, List.getElem_cons_succ, List.setIfInBounds_toArray, List.set_cons_zero, List.set_cons_succ]
    refine wpAnyH_take (i := 29) (v := ?_) rfl (by kernel_rfl) (by kernel_rfl) (by kernel_rfl) (fun _ _ _ h => h) (Or.inl ⟨by rfl, ?_⟩) (by assumption) ?_
    rotate_left
    · intro w8 hSw; clear hSw; go_simp; (try with_reducible rfl)
    simp only [Act.put, List.getElem_toArray, List.getElem_cons_zero, List.getElem_cons_succ, List.setIfInBounds_toArray, List.set_cons_zero, List.set_cons_succ]
    refine wpAnyH_done (by kernel_rfl) ?_ _
    have u3 := HU.out.2.2.1
    have u0 := block_cell u3 0
    have u1 := block_cell u3 1
    have ul := (Array.getElem?_eq_some_iff.1 u3).1
    simp at u0 u1
    clear u3
    go_wp2_with fail
    refine bodyPost_ret (v := .tuple #[.agg #[.int .i64 now, .slice ao X.length cap], .bool true]) ?_ rfl ⟨now, X, F, ao, cap, rfl, HU.out.2.1⟩
    simp [results, Try.results17, go_sem, u0, u1, ul]
end Go.Proofs.Ytadghaiengonoaa
