/- Lemmas for WheelPlays (Xzb). No statement of the seat is proved here. -/
import Derived.Test.YtadghaiengonoaaP20
namespace Go.Proofs.Ytadghaiengonoaa
set_option linter.unusedVariables false
set_option linter.unusedSimpArgs false
set_option linter.unusedSectionVars false
open Go Go.RowKit Go.Maps Go.Deep
set_option maxRecDepth 100000 in
set_option maxHeartbeats 8000000 in
theorem wdo_can (Wb W : World) (F : Nat → Prop) (w : Nat) (now : Int) (X : List Th) (ao : Option Addr) (cap : Nat) (o : WOp) (hk : o.kind = 1) (hW : Wo Wb W F w now X) (hR : Rt W ao cap (slot0 X)) (hA : RAp W F ao) (hid : IdOk o.t.id) :
    Calls Try.prog 17 #[.pointer (some ⟨w, 0, none⟩), rwV now ao X.length cap, wopVal o] W (WDone Wb W F w) := by
  obtain ⟨ok, ⟨ti, tg, td⟩⟩ := o
  unfold rwV wopVal
  simp only at hk hid
  subst hk
  obtain ⟨W1, hW1⟩ : ∃ W1, W1 = W.alloc (.cells #[.int .i64 now, .slice ao X.length cap] rwT) := ⟨_, rfl⟩
  obtain ⟨W2, hW2⟩ : ∃ W2, W2 = W1.alloc (.cells #[.int .i64 1, .int .u64 ti, .int .u64 tg, .int .i64 td] wopT) := ⟨_, rfl⟩
  obtain ⟨W3, hW3⟩ : ∃ W3, W3 = W2.alloc (.cells #[.int .i64 0, .slice none 0 0] rwT) := ⟨_, rfl⟩
  obtain ⟨b1, hb1⟩ : ∃ b, b = W.heap.size := ⟨_, rfl⟩
  obtain ⟨b2, hb2⟩ : ∃ b, b = W.heap.size + 1 := ⟨_, rfl⟩
  obtain ⟨b3, hb3⟩ : ∃ b, b = W.heap.size + 1 + 1 := ⟨_, rfl⟩
  have z1 : W1.heap.size = W.heap.size + 1 := by rw [hW1]; simp
  have z2 : W2.heap.size = W.heap.size + 1 + 1 := by rw [hW2]; simp [z1]
  have B1 : Below W.heap.size W W1 := by rw [hW1]; exact below_new _ _
  have B2 : Below W1.heap.size W1 W2 := by rw [hW2]; exact below_new _ _
  have B3 : Below W2.heap.size W2 W3 := by rw [hW3]; exact below_new _ _
  have hB3 := below_on (below_on B1 B2 (Nat.le_refl _)) B3 (Nat.le_refl _)
  have t1 : W3.heap[b1]? = some (.cells #[.int .i64 now, .slice ao X.length cap] rwT (0, 0)) := by
    rw [B3.block b1 (by omega), B2.block b1 (by omega), hW1, hb1]; exact heap_alloc_new _ _
  have t2 : W3.heap[b2]? = some (.cells #[.int .i64 1, .int .u64 ti, .int .u64 tg, .int .i64 td] wopT (0, 0)) := by
    rw [B3.block b2 (by omega), hW2, hb2, ← z1]; exact heap_alloc_new _ _
  have t3 : W3.heap[b3]? = some (.cells #[.int .i64 0, .slice none 0 0] rwT (0, 0)) := by
    rw [hW3, hb3, ← z2]; exact heap_alloc_new _ _
  have Hup : Hid (W.heap.size ≤ b1 ∧ W.heap.size ≤ b2 ∧ W.heap.size ≤ b3) := ⟨by omega, by omega, by omega⟩
  have Hap : Hid (b1 ≠ b2 ∧ b1 ≠ b3 ∧ b2 ≠ b3) := ⟨by omega, by omega, by omega⟩
  have HB3 := Lib.hid hB3
  have T1 := Lib.hid t1
  have T2 := Lib.hid t2
  have T3 := Lib.hid t3
  clear z1 z2 B1 B2 B3 hB3 t1 t2 t3
  have c0 := block_cell T2.out 0
  have c1 := block_cell T2.out 1
  have c2 := block_cell T2.out 2
  have c3 := block_cell T2.out 3
  simp at c0 c1 c2 c3
  have l2 := (Array.getElem?_eq_some_iff.1 T2.out).1
  obtain ⟨W4, hW4⟩ : ∃ W4, W4 = W3.alloc (.cells #[.int .u64 ti, .int .u64 tg, .int .i64 td] thT) := ⟨_, rfl⟩
  obtain ⟨b4, hb4⟩ : ∃ b, b = W3.heap.size := ⟨_, rfl⟩
  have hB4 : Below W3.heap.size W3 W4 := by rw [hW4]; exact below_new _ _
  have t4 : W4.heap[b4]? = some (.cells #[.int .u64 ti, .int .u64 tg, .int .i64 td] thT (0, 0)) := by rw [hW4, hb4]; exact heap_alloc_new _ _
  have HB4 := Lib.hid hB4
  have T4 := Lib.hid t4
  clear hB4 t4
  have HWo := Lib.hid hW
  have HRt := Lib.hid hR
  have HA := Lib.hid hA
  have Hid2 := Lib.hid hid
  clear hW hR hA hid
  go_enter Try.func17, Try.ntmps17
  go_upto_region 1 with fail
  rw [← hW1, ← hW2, ← hW3, ← hb3, ← hb2, ← hb1]
  clear hW1 hW2 hW3 hb1 hb2 hb3
  go_upto_region 2 with fail
  rw [← hW4, ← hb4]
  have Hb4 : Hid (W.heap.size ≤ b4) := (by rw [hb4]; exact HB3.out.size : W.heap.size ≤ b4)
  have Hb43 : Hid (b3 < b4 ∧ b3 < W4.heap.size) := (by have h7 := (Array.getElem?_eq_some_iff.1 T3.out).1; have h8 := HB4.out.size; exact ⟨by rw [hb4]; exact h7, Nat.lt_of_lt_of_le h7 h8⟩ : b3 < b4 ∧ b3 < W4.heap.size)
  have HBW4 : Hid (W.heap.size ≤ W4.heap.size) := (Nat.le_trans HB3.out.size HB4.out.size : W.heap.size ≤ W4.heap.size)
  clear hW4 c1 c2 c3 l2 hb4 c0
  have d2 := bx_below HB4.out T2.out
  have c0 := block_cell d2 0
  simp at c0
  have l2 := (Array.getElem?_eq_some_iff.1 d2).1
  clear d2
  have hw4 := below_on HB3.out HB4.out (Nat.le_refl _)
  have HRt4 := Lib.hid (HRt.out.below hw4)
  have Hx := Lib.hid (And.intro HWo.out.okX.2.2.2.2 HWo.out.okX.2.2.1)
  have Hw4 := Lib.hid hw4
  have g1 := bx_below HB4.out T1.out
  have p0 := block_cell g1 0
  have p1 := block_cell g1 1
  obtain ⟨e0, e1, e2, -, -, -⟩ := set3_res (t := ⟨ti, tg, td⟩) T4.out
  simp at p0 p1
  simp only at e0 e1 e2
  have l1 := (Array.getElem?_eq_some_iff.1 g1).1
  have l4 := (Array.getElem?_eq_some_iff.1 T4.out).1
  clear hw4 g1
  go_wp2_with fail
  have Hca := Lib.hid (rcan_f W4 now ao cap X ti HRt4.out Hx.out.1 Hx.out.2)
  refine Hca.out.mono ?_
  rintro e V1 ⟨a3, c3, rfl, hr3, hli, hb⟩
  obtain ⟨⟨yi, yg, yd⟩, hy⟩ : ∃ y, y = canT X ti := ⟨_, rfl⟩
  obtain ⟨bo, hbo⟩ : ∃ bo, bo = canB X ti := ⟨_, rfl⟩
  obtain ⟨M, hM⟩ : ∃ M, M = lessId X ti := ⟨_, rfl⟩
  rw [← hM] at hr3
  rw [← hy, ← hbo, ← hM]
  unfold rwV rtVal
  have d1 := bx_below hb (bx_below HB4.out T1.out)
  have d4 := bx_below hb T4.out
  have q0 := block_cell d1 0
  have q1 := block_cell d1 1
  obtain ⟨k0, k1, k2, -, -, -⟩ := set3_res (t := ⟨ti, tg, td⟩) d4
  simp at q0 q1
  simp only at k0 k1 k2
  have m1 := (Array.getElem?_eq_some_iff.1 d1).1
  have m4 := (Array.getElem?_eq_some_iff.1 d4).1
  have HM := Lib.hid hM
  have HY := Lib.hid (And.intro hy hbo)
  have Hr3 := Lib.hid hr3
  have Hli := Lib.hid hli
  have HV1 := Lib.hid hb
  clear hM hy hbo hr3 hli hb d1 d4 p0 p1 e0 e1 e2 l1 l4
  obtain ⟨Z1, hZ1⟩ : ∃ Z1, Z1 = V1.alloc (.cells #[.int .i64 now, .slice a3 M.length c3] rwT) := ⟨_, rfl⟩
  obtain ⟨Z, hZ⟩ : ∃ Z, Z = Z1.alloc (.cells #[.int .u64 yi, .int .u64 yg, .int .i64 yd, .int .i64 0] rtT) := ⟨_, rfl⟩
  obtain ⟨b5, hb5⟩ : ∃ b, b = V1.heap.size := ⟨_, rfl⟩
  obtain ⟨b6, hb6⟩ : ∃ b, b = V1.heap.size + 1 := ⟨_, rfl⟩
  have z1 : Z1.heap.size = V1.heap.size + 1 := by rw [hZ1]; simp
  have B1 : Below V1.heap.size V1 Z1 := by rw [hZ1]; exact below_new _ _
  have B2 : Below Z1.heap.size Z1 Z := by rw [hZ]; exact below_new _ _
  have hBZ := below_on B1 B2 (Nat.le_refl _)
  have x5 : Z.heap[b5]? = some (.cells #[.int .i64 now, .slice a3 M.length c3] rwT (0, 0)) := by
    rw [B2.block b5 (by omega), hZ1, hb5]; exact heap_alloc_new _ _
  have x6 : Z.heap[b6]? = some (.cells #[.int .u64 yi, .int .u64 yg, .int .i64 yd, .int .i64 0] rtT (0, 0)) := by
    rw [hZ, hb6, ← z1]; exact heap_alloc_new _ _
  have hn5 : V1.heap.size ≤ b5 := by omega
  have hn6 : V1.heap.size ≤ b6 := by omega
  have X5 := Lib.hid x5
  have X6 := Lib.hid x6
  have HN := Lib.hid (And.intro hn5 hn6)
  have HBZ := Lib.hid (below_on Hw4.out (below_on HV1.out hBZ (Nat.le_refl _)) (Nat.le_refl _))
  have HBV := Lib.hid hBZ
  clear z1 B1 B2 hBZ x5 x6 hn5 hn6
  have HWZ := Lib.hid (HWo.out.below HBZ.out)
  have Hcn := Lib.hid (canc_f HWZ.out ti Hid2.out)
  go_wp2_with fail
  rw [← hZ1, ← hZ, ← hb6, ← hb5]
  clear hZ1 hZ hb5 hb6
  refine Hcn.out.mono ?_
  rintro e V9 ⟨rfl, F9, hwo9, hg9, hF9⟩
  rw [← HY.out.1, ← HY.out.2]
  rw [← HM.out] at hwo9
  unfold thVal
  have HF : Hid (∀ i, W.heap.size ≤ i → ¬ F i) := (fun i hi h => by have := HWo.out.bd i h; omega : ∀ i, W.heap.size ≤ i → ¬ F i)
  have hWV : W.heap.size ≤ V1.heap.size := Nat.le_trans HBW4.out HV1.out.size
  have k9 : ∀ {b : Nat} {o : Obj}, Z.heap[b]? = some o → W.heap.size ≤ b → V9.heap[b]? = some o := fun hx hb => (hg9.block _ (Array.getElem?_eq_some_iff.1 hx).1 (HF.out _ hb)).trans hx
  have y5 := k9 X5.out (Nat.le_trans hWV HN.out.1)
  have y6 := k9 X6.out (Nat.le_trans hWV HN.out.2)
  have y3 := k9 (bx_below HBV.out (bx_below HV1.out (bx_below HB4.out T3.out))) Hup.out.2.2
  have Hwo9 := Lib.hid hwo9
  have Hg9 := Lib.hid hg9
  have HF9 := Lib.hid hF9
  have Y5 := Lib.hid y5
  have Y6 := Lib.hid y6
  have Y3 := Lib.hid y3
  clear k9 y5 y6 y3 hwo9 hg9 hF9 hWV k0 k1 k2 q0 q1 m1 m4
  obtain ⟨U0, hU0⟩ : ∃ U0, U0 = V9.alloc (.cells #[.int .u64 yi, .int .u64 yg, .int .i64 yd] thT) := ⟨_, rfl⟩
  obtain ⟨b7, hb7⟩ : ∃ b, b = V9.heap.size := ⟨_, rfl⟩
  have hBU : Below V9.heap.size V9 U0 := by rw [hU0]; exact below_new _ _
  have x7 : U0.heap[b7]? = some (.cells #[.int .u64 yi, .int .u64 yg, .int .i64 yd] thT (0, 0)) := by rw [hU0, hb7]; exact heap_alloc_new _ _
  have HBU := Lib.hid hBU
  have X7 := Lib.hid x7
  have hs9 : W4.heap.size ≤ V9.heap.size := Nat.le_trans (below_on HV1.out HBV.out (Nat.le_refl _)).size Hg9.out.size
  have Hne : Hid (b5 ≠ b3 ∧ b6 ≠ b3 ∧ b7 ≠ b3) := (by have h7 := Hb43.out.2; have h8 := HV1.out.size; have h9 := HN.out; exact ⟨by omega, by omega, by omega⟩ : b5 ≠ b3 ∧ b6 ≠ b3 ∧ b7 ≠ b3)
  have u5 := bx_below hBU Y5.out
  have u6 := bx_below hBU Y6.out
  have Hlt := Lib.hid (And.intro (Array.getElem?_eq_some_iff.1 u5).1 (And.intro (Array.getElem?_eq_some_iff.1 u6).1 (Array.getElem?_eq_some_iff.1 x7).1))
  have hld : ∀ W', (W'.heap[b5]? = U0.heap[b5]? ∧ W'.heap[b6]? = U0.heap[b6]? ∧ W'.heap[b7]? = U0.heap[b7]?) → (Instr.loadAt rwT (.pointer (some ⟨b5, 0, none⟩))).run Try.prog W' = .ok (.agg #[.int .i64 now, .slice a3 M.length c3]) W' ∧ (Instr.loadAt rtT (.pointer (some ⟨b6, 0, none⟩))).run Try.prog W' = .ok (rtVal (⟨yi, yg, yd⟩, 0)) W' ∧ (Instr.loadAt thT (.pointer (some ⟨b7, 0, none⟩))).run Try.prog W' = .ok (thVal ⟨yi, yg, yd⟩) W' := fun W' hw =>
    ⟨ldRb (hw.1.trans u5) _ _ _ rfl, ldRtb ⟨yi, yg, yd⟩ (hw.2.1.trans u6), ldTb ⟨yi, yg, yd⟩ (hw.2.2.trans x7)⟩
  have HldU := Lib.hid hld
  have heq := eq_rtv ⟨yi, yg, yd⟩
  have hgd : ∀ p q V, (eqGuard .eql rtT p q (rtVal (⟨yi, yg, yd⟩, 0)) (rtVal (⟨yi, yg, yd⟩, 0))).run Try.prog V = .ok () V := fun p q V => guard_rt .eql p q _ _ V
  clear hBU x7 hs9 u5 u6 hld
  go_upto_region 8 with fail
  rw [← hU0, ← hb7]
  clear hU0 hb7
  refine wp_region_held_drew (S := fun W' => W'.heap[b5]? = U0.heap[b5]? ∧ W'.heap[b6]? = U0.heap[b6]? ∧ W'.heap[b7]? = U0.heap[b7]?) (by kernel_rfl) ⟨rfl, rfl, rfl⟩ (fun hHeld => ?_)
  refine wpAnyH_take (i := 0) (v := .agg #[.int .i64 now, .slice a3 M.length c3]) rfl (by kernel_rfl) (by kernel_rfl) (by kernel_rfl) (fun _ _ _ h => h) (Or.inl ⟨by rfl, ?_⟩) (by assumption) ?_
  · intro w8 hSw; exact ld_takeT rfl (HldU.out w8 hSw).1 rfl
  simp only [Act.put, List.getElem_toArray, List.getElem_cons_zero, List.getElem_cons_succ, List.setIfInBounds_toArray, List.set_cons_zero, List.set_cons_succ]
  refine wpAnyH_take (i := 1) (v := ?_) rfl (by kernel_rfl) (by kernel_rfl) (by kernel_rfl) (fun _ _ _ h => h) (Or.inl ⟨by rfl, ?_⟩) (by assumption) ?_
  rotate_left
  · intro w8 hSw; clear hSw; go_simp; (try with_reducible rfl)
  simp only [Act.put, List.getElem_toArray, List.getElem_cons_zero, List.getElem_cons_succ, List.setIfInBounds_toArray, List.set_cons_zero, List.set_cons_succ]
  refine wpAnyH_take (i := 2) (v := ?_) rfl (by kernel_rfl) (by kernel_rfl) (by kernel_rfl) (fun _ _ _ h => h) (Or.inl ⟨by rfl, ?_⟩) (by assumption) ?_
  rotate_left
  · intro w8 hSw; clear hSw; go_simp; (try with_reducible rfl)
  simp only [Act.put, List.getElem_toArray, List.getElem_cons_zero, List.getElem_cons_succ, List.setIfInBounds_toArray, List.set_cons_zero, List.set_cons_succ]
  refine wpAnyH_take (i := 3) (v := ?_) rfl (by kernel_rfl) (by kernel_rfl) (by kernel_rfl) (fun _ _ _ h => h) (Or.inl ⟨by rfl, ?_⟩) (by assumption) ?_
  rotate_left
  · intro w8 hSw; clear hSw; go_simp; (try with_reducible rfl)
  simp only [Act.put, List.getElem_toArray, List.getElem_cons_zero, List.getElem_cons_succ, List.setIfInBounds_toArray, List.set_cons_zero, List.set_cons_succ]
  refine wpAnyH_take (i := 4) (v := ?_) rfl (by kernel_rfl) (by kernel_rfl) (by kernel_rfl) (fun _ _ _ h => h) (Or.inl ⟨by rfl, ?_⟩) (by assumption) ?_
  rotate_left
  · intro w8 hSw; clear hSw; go_simp; (try with_reducible rfl)
  simp only [Act.put, List.getElem_toArray, List.getElem_cons_zero, List.getElem_cons_succ, List.setIfInBounds_toArray, List.set_cons_zero, List.set_cons_succ]
  refine wpAnyH_take (i := 5) (v := thVal ⟨yi, yg, yd⟩) rfl (by kernel_rfl) (by kernel_rfl) (by kernel_rfl) (fun _ _ _ h => h) (Or.inl ⟨by rfl, ?_⟩) (by assumption) ?_
  · intro w8 hSw; exact ld_takeT rfl (HldU.out w8 hSw).2.2 rfl
  simp only [Act.put, List.getElem_toArray, List.getElem_cons_zero, List.getElem_cons_succ, List.setIfInBounds_toArray, List.set_cons_zero, List.set_cons_succ]
  refine wpAnyH_take (i := 7) (v := rtVal (⟨yi, yg, yd⟩, 0)) rfl (by kernel_rfl) (by kernel_rfl) (by kernel_rfl) (fun _ _ _ h => h) (Or.inl ⟨by rfl, ?_⟩) (by assumption) ?_
  · intro w8 hSw; exact ld_takeT rfl (HldU.out w8 hSw).2.1 rfl
  simp only [Act.put, List.getElem_toArray, List.getElem_cons_zero, List.getElem_cons_succ, List.setIfInBounds_toArray, List.set_cons_zero, List.set_cons_succ]
  refine wpAnyH_ready (rs := [6]) (by kernel_rfl) (by simp) ?_
  refine AllReadyH.cons rfl (fun K hK => ?_) AllReadyH.nil
  go_simp
  go_at_call 36
  refine (plain_any U0.drew ⟨yi, yg, yd⟩).mono ?_
  rintro e V10 ⟨rfl, hb10⟩
  refine hK.out _ _ ⟨hb10.block b5 Hlt.out.1, hb10.block b6 Hlt.out.2.1, hb10.block b7 Hlt.out.2.2⟩ (fun hHeld => ?_)
  clear hK K
  try simp only [Act.put, List.getElem_toArray, List.getElem_cons_zero, List.getElem_cons_succ, List.setIfInBounds_toArray, List.set_cons_zero, List.set_cons_succ]
  refine wpAnyH_take (i := 8) (v := ?_) rfl (by kernel_rfl) (by kernel_rfl) (by kernel_rfl) (fun _ _ _ h => h) (Or.inl ⟨by rfl, ?_⟩) (by assumption) ?_
  rotate_left
  · intro w8 hSw; clear hSw; go_simp; (try with_reducible rfl)
  simp only [Act.put, List.getElem_toArray, List.getElem_cons_zero, List.getElem_cons_succ, List.setIfInBounds_toArray, List.set_cons_zero, List.set_cons_succ]
  refine wpAnyH_take (i := 9) (v := ?_) rfl (by kernel_rfl) (by kernel_rfl) (by kernel_rfl) (fun _ _ _ h => h) (Or.inl ⟨by rfl, ?_⟩) (by assumption) ?_
  rotate_left
  · intro w8 hSw; clear hSw; go_simp; (try with_reducible rfl)
  simp only [Act.put, List.getElem_toArray, List.getElem_cons_zero, List.getElem_cons_succ, List.setIfInBounds_toArray, List.set_cons_zero, List.set_cons_succ]
  have hBU10 := below_on HBU.out (below_on (Below.refl _ U0).drew hb10 (Nat.le_refl _)) (Nat.le_refl _)
  have x39 := bx_below hBU10 Y3.out
  have y0 := block_cell x39 0
  have y1 := block_cell x39 1
  have f0 := block_free x39 0
  have f1 := block_free x39 1
  have l3 := (Array.getElem?_eq_some_iff.1 x39).1
  simp at y0 y1 f0 f1
  have hrZ := Hr3.out.below HBV.out
  obtain ⟨U, hU⟩ := wdone_sets HWo.out.bel.size HBZ.out hrZ (RAp.new HA.out HWo.out.bd HBW4.out Hli.out hrZ) (Hwo9.out.below hBU10) (Hg9.out.trans (Gr.below hBU10)) HF9.out (bx_below HBV.out (bx_below HV1.out (bx_below HB4.out T3.out))) Hup.out.2.2 (HF.out _ Hup.out.2.2) (.int .i64 now) (.slice a3 M.length c3)
  have HU := Lib.hid hU
  have HS9 := Lib.hid hHeld
  clear hU hb10 hBU10 x39 hrZ
  refine wpAnyH_ready (rs := [10]) (by kernel_rfl) (by simp) ?_
  refine AllReadyH.cons rfl (fun K hK => ?_) AllReadyH.nil
  go_simp
  rw [← HU.out.1]
  refine hK.out _ _ ⟨(HU.out.2.2.2 b5 Hne.out.1).trans HS9.out.1, (HU.out.2.2.2 b6 Hne.out.2.1).trans HS9.out.2.1, (HU.out.2.2.2 b7 Hne.out.2.2).trans HS9.out.2.2⟩ (fun hHeld => ?_)
  clear hK K y0 y1 f0 f1 l3
  try simp only [Act.put, List.getElem_toArray, List.getElem_cons_zero, List.getElem_cons_succ, List.setIfInBounds_toArray, List.set_cons_zero, List.set_cons_succ]
  refine wpAnyH_take (i := 11) (v := ?_) rfl (by kernel_rfl) (by kernel_rfl) (by kernel_rfl) (fun _ _ _ h => h) (Or.inl ⟨by rfl, ?_⟩) (by assumption) ?_
  rotate_left
  · intro w8 hSw; clear hSw; go_simp; (try with_reducible rfl)
  simp only [Act.put, List.getElem_toArray, List.getElem_cons_zero, List.getElem_cons_succ, List.setIfInBounds_toArray, List.set_cons_zero, List.set_cons_succ]
  refine wpAnyH_done (by kernel_rfl) ?_ _
  have u3 := HU.out.2.2.1
  have u0 := block_cell u3 0
  have u1 := block_cell u3 1
  have ul := (Array.getElem?_eq_some_iff.1 u3).1
  simp at u0 u1
  clear u3
  go_wp2_with fail
  refine bodyPost_ret (v := .tuple #[.agg #[.int .i64 now, .slice a3 M.length c3], .bool true]) ?_ rfl ⟨now, M, F9, a3, c3, rfl, HU.out.2.1⟩
  simp [results, Try.results17, go_sem, u0, u1, ul]
end Go.Proofs.Ytadghaiengonoaa
