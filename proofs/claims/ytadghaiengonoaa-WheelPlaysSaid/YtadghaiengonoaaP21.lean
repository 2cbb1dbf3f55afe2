/- Lemmas for WheelPlays (Xza). No statement of the seat is proved here. -/
import Derived.Test.YtadghaiengonoaaP20
namespace Go.Proofs.Ytadghaiengonoaa
set_option linter.unusedVariables false
set_option linter.unusedSimpArgs false
set_option linter.unusedSectionVars false
open Go Go.RowKit Go.Maps Go.Deep
set_option maxRecDepth 100000 in
set_option maxHeartbeats 8000000 in
theorem wdo_arm (Wb W : World) (F : Nat → Prop) (w : Nat) (now : Int) (X : List Th) (ao : Option Addr) (cap : Nat) (o : WOp) (hk : o.kind ≠ 1 ∧ o.kind ≠ 2 ∧ o.kind ≠ 3 ∧ o.kind ≠ 4) (hW : Wo Wb W F w now X) (hR : Rt W ao cap (slot0 X)) (hA : RAp W F ao) (hid : IdOk o.t.id) :
    Calls Try.prog 17 #[.pointer (some ⟨w, 0, none⟩), rwV now ao X.length cap, wopVal o] W (WDone Wb W F w) := by
  obtain ⟨ok, ⟨ti, tg, td⟩⟩ := o
  unfold rwV wopVal
  simp only at hk hid
  obtain ⟨h1, h2, h3, h4⟩ := hk
  obtain ⟨W1, hW1⟩ : ∃ W1, W1 = W.alloc (.cells #[.int .i64 now, .slice ao X.length cap] rwT) := ⟨_, rfl⟩
  obtain ⟨W2, hW2⟩ : ∃ W2, W2 = W1.alloc (.cells #[.int .i64 ok, .int .u64 ti, .int .u64 tg, .int .i64 td] wopT) := ⟨_, rfl⟩
  obtain ⟨W3, hW3⟩ : ∃ W3, W3 = W2.alloc (.cells #[.int .i64 0, .slice none 0 0] rwT) := ⟨_, rfl⟩
  obtain ⟨b1, hb1⟩ : ∃ b, b = W.heap.size := ⟨_, rfl⟩
  obtain ⟨b2, hb2⟩ : ∃ b, b = W.heap.size + 1 := ⟨_, rfl⟩
  obtain ⟨b3, hb3⟩ : ∃ b, b = W.heap.size + 1 + 1 := ⟨_, rfl⟩
  have z1 : W1.heap.size = W.heap.size + 1 := by rw [hW1]; simp
  have z2 : W2.heap.size = W.heap.size + 1 + 1 := by rw [hW2]; simp [z1]
  have B1 : Below W.heap.size W W1 := by rw [hW1]; exact below_new _ _
  have B2 : Below W1.heap.size W1 W2 := by rw [hW2]; exact below_new _ _
  have B3 : Below W2.heap.size W2 W3 := by rw [hW3]; exact below_new _ _
  have hB3 := below_on (below_on B1 B2 (Nat.le_refl _)) B3 (Nat.le_refl _)
  have t1 : W3.heap[b1]? = some (.cells #[.int .i64 now, .slice ao X.length cap] rwT (0, 0)) := by
    rw [B3.block b1 (by omega), B2.block b1 (by omega), hW1, hb1]; exact heap_alloc_new _ _
  have t2 : W3.heap[b2]? = some (.cells #[.int .i64 ok, .int .u64 ti, .int .u64 tg, .int .i64 td] wopT (0, 0)) := by
    rw [B3.block b2 (by omega), hW2, hb2, ← z1]; exact heap_alloc_new _ _
  have t3 : W3.heap[b3]? = some (.cells #[.int .i64 0, .slice none 0 0] rwT (0, 0)) := by
    rw [hW3, hb3, ← z2]; exact heap_alloc_new _ _
  have Hup : Hid (W.heap.size ≤ b1 ∧ W.heap.size ≤ b2 ∧ W.heap.size ≤ b3) := ⟨by omega, by omega, by omega⟩
  have Hap : Hid (b1 ≠ b2 ∧ b1 ≠ b3 ∧ b2 ≠ b3) := ⟨by omega, by omega, by omega⟩
  have HB3 := Lib.hid hB3
  have T1 := Lib.hid t1
  have T2 := Lib.hid t2
  have T3 := Lib.hid t3
  clear z1 z2 B1 B2 B3 hB3 t1 t2 t3
  have c0 := block_cell T2.out 0
  have c1 := block_cell T2.out 1
  have c2 := block_cell T2.out 2
  have c3 := block_cell T2.out 3
  simp at c0 c1 c2 c3
  have l2 := (Array.getElem?_eq_some_iff.1 T2.out).1
  obtain ⟨W4, hW4⟩ : ∃ W4, W4 = W3.alloc (.cells #[.int .u64 ti, .int .u64 tg, .int .i64 td] thT) := ⟨_, rfl⟩
  obtain ⟨b4, hb4⟩ : ∃ b, b = W3.heap.size := ⟨_, rfl⟩
  have hB4 : Below W3.heap.size W3 W4 := by rw [hW4]; exact below_new _ _
  have t4 : W4.heap[b4]? = some (.cells #[.int .u64 ti, .int .u64 tg, .int .i64 td] thT (0, 0)) := by rw [hW4, hb4]; exact heap_alloc_new _ _
  have HB4 := Lib.hid hB4
  have T4 := Lib.hid t4
  clear hB4 t4
  have HWo := Lib.hid hW
  have HRt := Lib.hid hR
  have HA := Lib.hid hA
  have Hid2 := Lib.hid hid
  clear hW hR hA hid
  go_enter Try.func17, Try.ntmps17
  go_upto_region 1 with fail
  rw [← hW1, ← hW2, ← hW3, ← hb3, ← hb2, ← hb1]
  clear hW1 hW2 hW3 hb1 hb2 hb3
  go_upto_region 2 with fail
  rw [← hW4, ← hb4]
  have Hb4 : Hid (W.heap.size ≤ b4) := (by rw [hb4]; exact HB3.out.size : W.heap.size ≤ b4)
  have Hb43 : Hid (b3 < b4 ∧ b3 < W4.heap.size) := (by have h7 := (Array.getElem?_eq_some_iff.1 T3.out).1; have h8 := HB4.out.size; exact ⟨by rw [hb4]; exact h7, Nat.lt_of_lt_of_le h7 h8⟩ : b3 < b4 ∧ b3 < W4.heap.size)
  have HBW4 : Hid (W.heap.size ≤ W4.heap.size) := (Nat.le_trans HB3.out.size HB4.out.size : W.heap.size ≤ W4.heap.size)
  clear hW4 c1 c2 c3 l2 hb4 c0
  have d2 := bx_below HB4.out T2.out
  have c0 := block_cell d2 0
  simp at c0
  have l2 := (Array.getElem?_eq_some_iff.1 d2).1
  clear d2
  go_upto_region 3 with fail
  have Hxl := Lib.hid HWo.out.okX.2.2.2.2
  have hw4 := below_on HB3.out HB4.out (Nat.le_refl _)
  have HRt4 := Lib.hid (HRt.out.below hw4)
  have hld : ∀ W', Below W4.heap.size W4 W' → (Instr.loadAt rwT (.pointer (some ⟨b1, 0, none⟩))).run Try.prog W' = .ok (.agg #[.int .i64 now, .slice ao X.length cap]) W' ∧ (Instr.loadAt thT (.pointer (some ⟨b4, 0, none⟩))).run Try.prog W' = .ok (thVal ⟨ti, tg, td⟩) W' := fun W' hw => by
    have g1 := bx_below hw (bx_below HB4.out T1.out)
    have g4 := bx_below hw T4.out
    have p0 := block_cell g1 0
    have p1 := block_cell g1 1
    obtain ⟨e0, e1, e2, -, -, -⟩ := set3_res (t := ⟨ti, tg, td⟩) g4
    simp at p0 p1
    exact ⟨ldRw p0 p1, loadTh (t := ⟨ti, tg, td⟩) e0 e1 e2⟩
  have Hld := Lib.hid hld
  clear hld hw4 c0 l2
  refine wp_region_held_drew (S := fun W' => Below W4.heap.size W4 W') (by kernel_rfl) (Below.refl _ W4).drew (fun hHeld => ?_)
  obtain ⟨V0, hV0⟩ : ∃ V0, V0 = W4.drew := ⟨_, rfl⟩
  rw [← hV0] at hHeld ⊢
  have hB := hHeld
  clear hV0
  refine wpAnyH_take (i := 0) (v := .agg #[.int .i64 now, .slice ao X.length cap]) rfl (by kernel_rfl) (by kernel_rfl) (by kernel_rfl) (fun _ _ _ h => h) (Or.inl ⟨by rfl, ?_⟩) (by assumption) ?_
  · intro w8 hSw; exact ld_takeT rfl (Hld.out w8 hSw).1 rfl
  simp only [Act.put, List.getElem_toArray, List.getElem_cons_zero, List.getElem_cons_succ, List.setIfInBounds_toArray, List.set_cons_zero, List.set_cons_succ]
  refine wpAnyH_take (i := 1) (v := thVal ⟨ti, tg, td⟩) rfl (by kernel_rfl) (by kernel_rfl) (by kernel_rfl) (fun _ _ _ h => h) (Or.inl ⟨by rfl, ?_⟩) (by assumption) ?_
  · intro w8 hSw; exact ld_takeT rfl (Hld.out w8 hSw).2 rfl
  simp only [Act.put, List.getElem_toArray, List.getElem_cons_zero, List.getElem_cons_succ, List.setIfInBounds_toArray, List.set_cons_zero, List.set_cons_succ]
  refine wpAnyH_ready (rs := [2, 7]) (by kernel_rfl) (by simp) ?_
  refine AllReadyH.cons rfl (fun K hK => ?_) (AllReadyH.cons rfl (fun K hK => ?_) AllReadyH.nil)
  · go_simp
    go_at_call 36
    refine (plain_any V0 ⟨ti, tg, td⟩).mono ?_
    rintro e V1 ⟨rfl, hb⟩
    have hBx := below_on hB hb (Nat.le_refl _)
    clear hb hB
    have hB := hBx
    clear hBx
    refine hK.out _ _ hB (fun hHeld => ?_)
    clear hK K
    try simp only [Act.put, List.getElem_toArray, List.getElem_cons_zero, List.getElem_cons_succ, List.setIfInBounds_toArray, List.set_cons_zero, List.set_cons_succ]
    refine wpAnyH_ready (rs := [3, 7]) (by kernel_rfl) (by simp) ?_
    refine AllReadyH.cons rfl (fun K hK => ?_) (AllReadyH.cons rfl (fun K hK => ?_) AllReadyH.nil)
    · go_simp
      have Har := Lib.hid (rarm_any V1 now ao cap X ⟨ti, tg, td⟩ (HRt4.out.below hB) Hxl.out)
      go_at_call 39
      refine (show Calls _ _ _ _ _ from Har.out).mono ?_
      rintro e V2 ⟨a3, c3, rfl, hr3, hli, hb⟩
      have Hli := Lib.hid (show a3 = ao ∨ Lie V1 a3 from hli)
      have HlV := Lib.hid hB.size
      clear Har hli
      have hBx := below_on hB hb (Nat.le_refl _)
      clear hb hB
      have hB := hBx
      clear hBx
      refine hK.out _ _ hB (fun hHeld => ?_)
      clear hK K
      try simp only [Act.put, List.getElem_toArray, List.getElem_cons_zero, List.getElem_cons_succ, List.setIfInBounds_toArray, List.set_cons_zero, List.set_cons_succ]
      unfold rwV
      refine wpAnyH_take (i := 4) (v := ?_) rfl (by kernel_rfl) (by kernel_rfl) (by kernel_rfl) (fun _ _ _ h => h) (Or.inl ⟨by rfl, ?_⟩) (by assumption) ?_
      rotate_left
      · intro w8 hSw; clear hSw; go_simp; (try with_reducible rfl)
      simp only [Act.put, List.getElem_toArray, List.getElem_cons_zero, List.getElem_cons_succ, List.setIfInBounds_toArray, List.set_cons_zero, List.set_cons_succ]
      refine wpAnyH_take (i := 5) (v := ?_) rfl (by kernel_rfl) (by kernel_rfl) (by kernel_rfl) (fun _ _ _ h => h) (Or.inl ⟨by rfl, ?_⟩) (by assumption) ?_
      rotate_left
      · intro w8 hSw; clear hSw; go_simp; (try with_reducible rfl)
      simp only [Act.put, List.getElem_toArray, List.getElem_cons_zero, List.getElem_cons_succ, List.setIfInBounds_toArray, List.set_cons_zero, List.set_cons_succ]
      refine wpAnyH_take (i := 6) (v := ?_) rfl (by kernel_rfl) (by kernel_rfl) (by kernel_rfl) (fun _ _ _ h => h) (Or.inl ⟨by rfl, ?_⟩) (by assumption) ?_
      rotate_left
      · intro w8 hSw; clear hSw; go_simp; (try with_reducible rfl)
      simp only [Act.put, List.getElem_toArray, List.getElem_cons_zero, List.getElem_cons_succ, List.setIfInBounds_toArray, List.set_cons_zero, List.set_cons_succ]
      refine wpAnyH_ready (rs := [7]) (by kernel_rfl) (by simp) ?_
      refine AllReadyH.cons rfl (fun K hK => ?_) AllReadyH.nil
      go_simp
      obtain ⟨V3, hX⟩ : ∃ X, X = V2.alloc (.cells #[.int .i64 0, .slice none 0 0] rwT) := ⟨_, rfl⟩
      obtain ⟨b5, hb5⟩ : ∃ b, b = V2.heap.size := ⟨_, rfl⟩
      have hb : Below V2.heap.size V2 V3 := by rw [hX]; exact below_new _ _
      have x5 : V3.heap[b5]? = some (.cells #[.int .i64 0, .slice none 0 0] rwT (0, 0)) := by rw [hX, hb5]; exact heap_alloc_new _ _
      have n5 : W4.heap.size ≤ b5 := by rw [hb5]; exact hB.size
      have Hb53 := Lib.hid (Nat.lt_of_lt_of_le Hb43.out.2 n5)
      rw [← hX, ← hb5]
      clear hX hb5
      have hrx := (show Rt V3 a3 c3 (slot0 (armX X ⟨ti, tg, td⟩)) from hr3.below hb)
      clear hr3
      have hr3 := hrx
      clear hrx
      have X5 := Lib.hid x5
      clear x5
      have hBx := below_on hB hb (Nat.le_refl _)
      clear hb hB
      have hB := hBx
      clear hBx
      refine hK.out _ _ hB (fun hHeld => ?_)
      clear hK K
      try simp only [Act.put, List.getElem_toArray, List.getElem_cons_zero, List.getElem_cons_succ, List.setIfInBounds_toArray, List.set_cons_zero, List.set_cons_succ]
      refine wpAnyH_ready (rs := [8]) (by kernel_rfl) (by simp) ?_
      refine AllReadyH.cons rfl (fun K hK => ?_) AllReadyH.nil
      have y0 := block_cell X5.out 0
      have y1 := block_cell X5.out 1
      have f0 := block_free X5.out 0
      have f1 := block_free X5.out 1
      have l5 := (Array.getElem?_eq_some_iff.1 X5.out).1
      simp at y0 y1 f0 f1
      obtain ⟨Z, hZ⟩ := two_sets hB n5 X5.out hr3 now (.slice a3 (armX X ⟨ti, tg, td⟩).length c3)
      have HZ := Lib.hid hZ
      clear hZ hr3 hB
      go_simp
      rw [← HZ.out.1]
      refine hK.out _ _ HZ.out.2.1 (fun hHeld => ?_)
      clear hK K y0 y1 f0 f1 l5
      try simp only [Act.put, List.getElem_toArray, List.getElem_cons_zero, List.getElem_cons_succ, List.setIfInBounds_toArray, List.set_cons_zero, List.set_cons_succ]
      refine wpAnyH_take (i := 9) (v := ?_) rfl (by kernel_rfl) (by kernel_rfl) (by kernel_rfl) (fun _ _ _ h => h) (Or.inl ⟨by rfl, ?_⟩) (by assumption) ?_
      rotate_left
      · intro w8 hSw; clear hSw; go_simp; (try with_reducible rfl)
      simp only [Act.put, List.getElem_toArray, List.getElem_cons_zero, List.getElem_cons_succ, List.setIfInBounds_toArray, List.set_cons_zero, List.set_cons_succ]
      refine wpAnyH_done (by kernel_rfl) ?_ _
      have hz1 := HZ.out.2.2.2
      have q0 := block_cell hz1 0
      have q1 := block_cell hz1 1
      simp at q0 q1
      clear hz1
      go_upto_region 4 with fail
      have HBZ := Lib.hid (below_on (below_on HB3.out HB4.out (Nat.le_refl _)) HZ.out.2.1 (Nat.le_refl _))
      have hz5 := HZ.out.2.2.2
      have hz4 := bx_below HZ.out.2.1 T4.out
      have lz5 := (Array.getElem?_eq_some_iff.1 hz5).1
      have lz4 := (Array.getElem?_eq_some_iff.1 hz4).1
      have hF5 : ¬ F b5 := fun e => by have h7 := HWo.out.bd b5 e; have h8 := HBW4.out; omega
      have hF4 : ¬ F b4 := fun e => by have h7 := HWo.out.bd b4 e; have h8 := Hb4.out; omega
      have hld : ∀ W', (W'.heap[b5]? = Z.heap[b5]? ∧ W'.heap[b4]? = Z.heap[b4]?) → (Instr.loadAt rwT (.pointer (some ⟨b5, 0, none⟩))).run Try.prog W' = .ok (.agg #[.int .i64 now, .slice a3 (armX X ⟨ti, tg, td⟩).length c3]) W' ∧ (Instr.loadAt thT (.pointer (some ⟨b4, 0, none⟩))).run Try.prog W' = .ok (thVal ⟨ti, tg, td⟩) W' := fun W' hw => by
        have p0 := block_cell (hw.1.trans hz5) 0
        have p1 := block_cell (hw.1.trans hz5) 1
        obtain ⟨e0, e1, e2, -, -, -⟩ := set3_res (t := ⟨ti, tg, td⟩) (hw.2.trans hz4)
        simp at p0 p1
        exact ⟨ldRw p0 p1, loadTh (t := ⟨ti, tg, td⟩) e0 e1 e2⟩
      have HldZ := Lib.hid hld
      have HF45 := Lib.hid (And.intro hF4 hF5)
      have Hlz := Lib.hid (And.intro lz4 lz5)
      clear hld hz5 hz4 lz4 lz5 hF5 hF4 q0 q1
      have HWZ := Lib.hid (show Wo Wb Z.drew F w now X from HWo.out.below (HBZ.out.drew))
      refine wp_region_held_drew (S := fun W' => W'.heap[b5]? = Z.heap[b5]? ∧ W'.heap[b4]? = Z.heap[b4]?) (by kernel_rfl) ⟨rfl, rfl⟩ (fun hHeld => ?_)
      refine wpAnyH_take (i := 0) (v := .agg #[.int .i64 now, .slice a3 (armX X ⟨ti, tg, td⟩).length c3]) rfl (by kernel_rfl) (by kernel_rfl) (by kernel_rfl) (fun _ _ _ h => h) (Or.inl ⟨by rfl, ?_⟩) (by assumption) ?_
      · intro w8 hSw; exact ld_takeT rfl (HldZ.out w8 hSw).1 rfl
      simp only [Act.put, List.getElem_toArray, List.getElem_cons_zero, List.getElem_cons_succ, List.setIfInBounds_toArray, List.set_cons_zero, List.set_cons_succ]
      refine wpAnyH_take (i := 1) (v := ?_) rfl (by kernel_rfl) (by kernel_rfl) (by kernel_rfl) (fun _ _ _ h => h) (Or.inl ⟨by rfl, ?_⟩) (by assumption) ?_
      rotate_left
      · intro w8 hSw; clear hSw; go_simp; (try with_reducible rfl)
      simp only [Act.put, List.getElem_toArray, List.getElem_cons_zero, List.getElem_cons_succ, List.setIfInBounds_toArray, List.set_cons_zero, List.set_cons_succ]
      refine wpAnyH_take (i := 2) (v := thVal ⟨ti, tg, td⟩) rfl (by kernel_rfl) (by kernel_rfl) (by kernel_rfl) (fun _ _ _ h => h) (Or.inl ⟨by rfl, ?_⟩) (by assumption) ?_
      · intro w8 hSw; exact ld_takeT rfl (HldZ.out w8 hSw).2 rfl
      simp only [Act.put, List.getElem_toArray, List.getElem_cons_zero, List.getElem_cons_succ, List.setIfInBounds_toArray, List.set_cons_zero, List.set_cons_succ]
      refine wpAnyH_take (i := 4) (v := ?_) rfl (by kernel_rfl) (by kernel_rfl) (by kernel_rfl) (fun _ _ _ h => h) (Or.inl ⟨by rfl, ?_⟩) (by assumption) ?_
      rotate_left
      · intro w8 hSw; clear hSw; go_simp; (try with_reducible rfl)
      simp only [Act.put, List.getElem_toArray, List.getElem_cons_zero, List.getElem_cons_succ, List.setIfInBounds_toArray, List.set_cons_zero, List.set_cons_succ]
      refine wpAnyH_ready (rs := [3]) (by kernel_rfl) (by simp) ?_
      refine AllReadyH.cons rfl (fun K hK => ?_) AllReadyH.nil
      go_simp
      go_at_call 10
      refine (arm_o HWZ.out ⟨ti, tg, td⟩ Hid2.out).mono ?_
      rintro e V9 ⟨rfl, F9, hwo9, hg9, hF9⟩
      refine hK.out _ _ ⟨hg9.block b5 Hlz.out.2 HF45.out.2, hg9.block b4 Hlz.out.1 HF45.out.1⟩ (fun hHeld => ?_)
      clear hK K
      try simp only [Act.put, List.getElem_toArray, List.getElem_cons_zero, List.getElem_cons_succ, List.setIfInBounds_toArray, List.set_cons_zero, List.set_cons_succ]
      refine wpAnyH_take (i := 5) (v := ?_) rfl (by kernel_rfl) (by kernel_rfl) (by kernel_rfl) (fun _ _ _ h => h) (Or.inl ⟨by rfl, ?_⟩) (by assumption) ?_
      rotate_left
      · intro w8 hSw; clear hSw; go_simp; (try with_reducible rfl)
      simp only [Act.put, List.getElem_toArray, List.getElem_cons_zero, List.getElem_cons_succ, List.setIfInBounds_toArray, List.set_cons_zero, List.set_cons_succ]
      have x3 := bx_below HZ.out.2.1 (bx_below HB4.out T3.out)
      have lz3 := (Array.getElem?_eq_some_iff.1 x3).1
      have hF3 : ¬ F b3 := fun e => by have h7 := HWo.out.bd b3 e; have h8 := Hup.out.2.2; omega
      have x39 := (hg9.block b3 lz3 hF3).trans x3
      have y0 := block_cell x39 0
      have y1 := block_cell x39 1
      have f0 := block_free x39 0
      have f1 := block_free x39 1
      have l3 := (Array.getElem?_eq_some_iff.1 x39).1
      simp at y0 y1 f0 f1
      have X39 := Lib.hid x39
      have HF3 := Lib.hid (And.intro hF3 lz3)
      have Hwo9 := Lib.hid hwo9
      have hgZ : Gr F Z V9 := (Gr.below (Below.refl _ Z).drew).trans hg9
      have Hg9 := Lib.hid hgZ
      have HF9 := Lib.hid (show ∀ i, F9 i → F i ∨ Z.heap.size ≤ i from hF9)
      have HS9 := Lib.hid hHeld
      clear x3 lz3 hF3 x39 hwo9 hg9 hgZ hF9
      refine wpAnyH_ready (rs := [6]) (by kernel_rfl) (by simp) ?_
      refine AllReadyH.cons rfl (fun K hK => ?_) AllReadyH.nil
      obtain ⟨U, hU⟩ := wdone_sets HWo.out.bel.size HBZ.out HZ.out.2.2.1 (RAp.new HA.out HWo.out.bd (Nat.le_trans HBW4.out HlV.out) Hli.out HZ.out.2.2.1) Hwo9.out Hg9.out HF9.out (bx_below HZ.out.2.1 (bx_below HB4.out T3.out)) Hup.out.2.2 HF3.out.1 (.int .i64 now) (.slice a3 (armX X ⟨ti, tg, td⟩).length c3)
      have HU := Lib.hid hU
      clear hU
      go_simp
      rw [← HU.out.1]
      have n43 : b4 ≠ b3 := fun e => by have h7 := Hb43.out.1; omega
      have n53 : b5 ≠ b3 := fun e => by have h7 := Hb53.out; omega
      refine hK.out _ _ ⟨(HU.out.2.2.2 b5 n53).trans HS9.out.1, (HU.out.2.2.2 b4 n43).trans HS9.out.2⟩ (fun hHeld => ?_)
      clear hK K y0 y1 f0 f1 l3
      try simp only [Act.put, List.getElem_toArray, List.getElem_cons_zero, List.getElem_cons_succ, List.setIfInBounds_toArray, List.set_cons_zero, List.set_cons_succ]
      refine wpAnyH_take (i := 7) (v := ?_) rfl (by kernel_rfl) (by kernel_rfl) (by kernel_rfl) (fun _ _ _ h => h) (Or.inl ⟨by rfl, ?_⟩) (by assumption) ?_
      rotate_left
      · intro w8 hSw; clear hSw; go_simp; (try with_reducible rfl)
      simp only [Act.put, List.getElem_toArray, List.getElem_cons_zero, List.getElem_cons_succ, List.setIfInBounds_toArray, List.set_cons_zero, List.set_cons_succ]
      refine wpAnyH_done (by kernel_rfl) ?_ _
      have u3 := HU.out.2.2.1
      have u0 := block_cell u3 0
      have u1 := block_cell u3 1
      have ul := (Array.getElem?_eq_some_iff.1 u3).1
      simp at u0 u1
      clear u3
      go_wp2_with fail
      refine bodyPost_ret (v := .tuple #[.agg #[.int .i64 now, .slice a3 (armX X ⟨ti, tg, td⟩).length c3], .bool true]) ?_ rfl ⟨now, armX X ⟨ti, tg, td⟩, F9, a3, c3, rfl, HU.out.2.1⟩
      simp [results, Try.results17, go_sem, u0, u1, ul]
    · go_simp
      obtain ⟨V4, hX⟩ : ∃ X, X = V1.alloc (.cells #[.int .i64 0, .slice none 0 0] rwT) := ⟨_, rfl⟩
      obtain ⟨b5, hb5⟩ : ∃ b, b = V1.heap.size := ⟨_, rfl⟩
      have hb : Below V1.heap.size V1 V4 := by rw [hX]; exact below_new _ _
      have x5 : V4.heap[b5]? = some (.cells #[.int .i64 0, .slice none 0 0] rwT (0, 0)) := by rw [hX, hb5]; exact heap_alloc_new _ _
      have n5 : W4.heap.size ≤ b5 := by rw [hb5]; exact hB.size
      have Hb53 := Lib.hid (Nat.lt_of_lt_of_le Hb43.out.2 n5)
      rw [← hX, ← hb5]
      clear hX hb5
      have X5 := Lib.hid x5
      clear x5
      have hBx := below_on hB hb (Nat.le_refl _)
      clear hb hB
      have hB := hBx
      clear hBx
      refine hK.out _ _ hB (fun hHeld => ?_)
      clear hK K
      try simp only [Act.put, List.getElem_toArray, List.getElem_cons_zero, List.getElem_cons_succ, List.setIfInBounds_toArray, List.set_cons_zero, List.set_cons_succ]
      refine wpAnyH_ready (rs := [3]) (by kernel_rfl) (by simp) ?_
      refine AllReadyH.cons rfl (fun K hK => ?_) AllReadyH.nil
      go_simp
      have Har := Lib.hid (rarm_any V4 now ao cap X ⟨ti, tg, td⟩ (HRt4.out.below hB) Hxl.out)
      go_at_call 39
      refine (show Calls _ _ _ _ _ from Har.out).mono ?_
      rintro e V5 ⟨a3, c3, rfl, hr3, hli, hb⟩
      have Hli := Lib.hid (show a3 = ao ∨ Lie V4 a3 from hli)
      have HlV := Lib.hid hB.size
      clear Har hli
      have x5 := bx_below hb X5.out
      clear X5
      have X5 := Lib.hid x5
      clear x5
      have hBx := below_on hB hb (Nat.le_refl _)
      clear hb hB
      have hB := hBx
      clear hBx
      refine hK.out _ _ hB (fun hHeld => ?_)
      clear hK K
      try simp only [Act.put, List.getElem_toArray, List.getElem_cons_zero, List.getElem_cons_succ, List.setIfInBounds_toArray, List.set_cons_zero, List.set_cons_succ]
      unfold rwV
      refine wpAnyH_take (i := 4) (v := ?_) rfl (by kernel_rfl) (by kernel_rfl) (by kernel_rfl) (fun _ _ _ h => h) (Or.inl ⟨by rfl, ?_⟩) (by assumption) ?_
      rotate_left
      · intro w8 hSw; clear hSw; go_simp; (try with_reducible rfl)
      simp only [Act.put, List.getElem_toArray, List.getElem_cons_zero, List.getElem_cons_succ, List.setIfInBounds_toArray, List.set_cons_zero, List.set_cons_succ]
      refine wpAnyH_take (i := 5) (v := ?_) rfl (by kernel_rfl) (by kernel_rfl) (by kernel_rfl) (fun _ _ _ h => h) (Or.inl ⟨by rfl, ?_⟩) (by assumption) ?_
      rotate_left
      · intro w8 hSw; clear hSw; go_simp; (try with_reducible rfl)
      simp only [Act.put, List.getElem_toArray, List.getElem_cons_zero, List.getElem_cons_succ, List.setIfInBounds_toArray, List.set_cons_zero, List.set_cons_succ]
      refine wpAnyH_take (i := 6) (v := ?_) rfl (by kernel_rfl) (by kernel_rfl) (by kernel_rfl) (fun _ _ _ h => h) (Or.inl ⟨by rfl, ?_⟩) (by assumption) ?_
      rotate_left
      · intro w8 hSw; clear hSw; go_simp; (try with_reducible rfl)
      simp only [Act.put, List.getElem_toArray, List.getElem_cons_zero, List.getElem_cons_succ, List.setIfInBounds_toArray, List.set_cons_zero, List.set_cons_succ]
      refine wpAnyH_ready (rs := [8]) (by kernel_rfl) (by simp) ?_
      refine AllReadyH.cons rfl (fun K hK => ?_) AllReadyH.nil
      have y0 := block_cell X5.out 0
      have y1 := block_cell X5.out 1
      have f0 := block_free X5.out 0
      have f1 := block_free X5.out 1
      have l5 := (Array.getElem?_eq_some_iff.1 X5.out).1
      simp at y0 y1 f0 f1
      obtain ⟨Z, hZ⟩ := two_sets hB n5 X5.out hr3 now (.slice a3 (armX X ⟨ti, tg, td⟩).length c3)
      have HZ := Lib.hid hZ
      clear hZ hr3 hB
      go_simp
      rw [← HZ.out.1]
      refine hK.out _ _ HZ.out.2.1 (fun hHeld => ?_)
      clear hK K y0 y1 f0 f1 l5
      try simp only [Act.put, List.getElem_toArray, List.getElem_cons_zero, List.getElem_cons_succ, List.setIfInBounds_toArray, List.set_cons_zero, List.set_cons_succ]
      refine wpAnyH_take (i := 9) (v := ?_) rfl (by kernel_rfl) (by kernel_rfl) (by kernel_rfl) (fun _ _ _ h => h) (Or.inl ⟨by rfl, ?_⟩) (by assumption) ?_
      rotate_left
      · intro w8 hSw; clear hSw; go_simp; (try with_reducible rfl)
      simp only [Act.put, List.getElem_toArray, List.getElem_cons_zero, List.getElem_cons_succ, List.setIfInBounds_toArray, List.set_cons_zero, List.set_cons_succ]
      refine wpAnyH_done (by kernel_rfl) ?_ _
      have hz1 := HZ.out.2.2.2
      have q0 := block_cell hz1 0
      have q1 := block_cell hz1 1
      simp at q0 q1
      clear hz1
      go_upto_region 4 with fail
      have HBZ := Lib.hid (below_on (below_on HB3.out HB4.out (Nat.le_refl _)) HZ.out.2.1 (Nat.le_refl _))
      have hz5 := HZ.out.2.2.2
      have hz4 := bx_below HZ.out.2.1 T4.out
      have lz5 := (Array.getElem?_eq_some_iff.1 hz5).1
      have lz4 := (Array.getElem?_eq_some_iff.1 hz4).1
      have hF5 : ¬ F b5 := fun e => by have h7 := HWo.out.bd b5 e; have h8 := HBW4.out; omega
      have hF4 : ¬ F b4 := fun e => by have h7 := HWo.out.bd b4 e; have h8 := Hb4.out; omega
      have hld : ∀ W', (W'.heap[b5]? = Z.heap[b5]? ∧ W'.heap[b4]? = Z.heap[b4]?) → (Instr.loadAt rwT (.pointer (some ⟨b5, 0, none⟩))).run Try.prog W' = .ok (.agg #[.int .i64 now, .slice a3 (armX X ⟨ti, tg, td⟩).length c3]) W' ∧ (Instr.loadAt thT (.pointer (some ⟨b4, 0, none⟩))).run Try.prog W' = .ok (thVal ⟨ti, tg, td⟩) W' := fun W' hw => by
        have p0 := block_cell (hw.1.trans hz5) 0
        have p1 := block_cell (hw.1.trans hz5) 1
        obtain ⟨e0, e1, e2, -, -, -⟩ := set3_res (t := ⟨ti, tg, td⟩) (hw.2.trans hz4)
        simp at p0 p1
        exact ⟨ldRw p0 p1, loadTh (t := ⟨ti, tg, td⟩) e0 e1 e2⟩
      have HldZ := Lib.hid hld
      have HF45 := Lib.hid (And.intro hF4 hF5)
      have Hlz := Lib.hid (And.intro lz4 lz5)
      clear hld hz5 hz4 lz4 lz5 hF5 hF4 q0 q1
      have HWZ := Lib.hid (show Wo Wb Z.drew F w now X from HWo.out.below (HBZ.out.drew))
      refine wp_region_held_drew (S := fun W' => W'.heap[b5]? = Z.heap[b5]? ∧ W'.heap[b4]? = Z.heap[b4]?) (by kernel_rfl) ⟨rfl, rfl⟩ (fun hHeld => ?_)
      refine wpAnyH_take (i := 0) (v := .agg #[.int .i64 now, .slice a3 (armX X ⟨ti, tg, td⟩).length c3]) rfl (by kernel_rfl) (by kernel_rfl) (by kernel_rfl) (fun _ _ _ h => h) (Or.inl ⟨by rfl, ?_⟩) (by assumption) ?_
      · intro w8 hSw; exact ld_takeT rfl (HldZ.out w8 hSw).1 rfl
      simp only [Act.put, List.getElem_toArray, List.getElem_cons_zero, List.getElem_cons_succ, List.setIfInBounds_toArray, List.set_cons_zero, List.set_cons_succ]
      refine wpAnyH_take (i := 1) (v := ?_) rfl (by kernel_rfl) (by kernel_rfl) (by kernel_rfl) (fun _ _ _ h => h) (Or.inl ⟨by rfl, ?_⟩) (by assumption) ?_
      rotate_left
      · intro w8 hSw; clear hSw; go_simp; (try with_reducible rfl)
      simp only [Act.put, List.getElem_toArray, List.getElem_cons_zero, List.getElem_cons_succ, List.setIfInBounds_toArray, List.set_cons_zero, List.set_cons_succ]
      refine wpAnyH_take (i := 2) (v := thVal ⟨ti, tg, td⟩) rfl (by kernel_rfl) (by kernel_rfl) (by kernel_rfl) (fun _ _ _ h => h) (Or.inl ⟨by rfl, ?_⟩) (by assumption) ?_
      · intro w8 hSw; exact ld_takeT rfl (HldZ.out w8 hSw).2 rfl
      simp only [Act.put, List.getElem_toArray, List.getElem_cons_zero, List.getElem_cons_succ, List.setIfInBounds_toArray, List.set_cons_zero, List.set_cons_succ]
      refine wpAnyH_take (i := 4) (v := ?_) rfl (by kernel_rfl) (by kernel_rfl) (by kernel_rfl) (fun _ _ _ h => h) (Or.inl ⟨by rfl, ?_⟩) (by assumption) ?_
      rotate_left
      · intro w8 hSw; clear hSw; go_simp; (try with_reducible rfl)
      simp only [Act.put, List.getElem_toArray, List.getElem_cons_zero, List.getElem_cons_succ, List.setIfInBounds_toArray, List.set_cons_zero, List.set_cons_succ]
      refine wpAnyH_ready (rs := [3]) (by kernel_rfl) (by simp) ?_
      refine AllReadyH.cons rfl (fun K hK => ?_) AllReadyH.nil
      go_simp
      go_at_call 10
      refine (arm_o HWZ.out ⟨ti, tg, td⟩ Hid2.out).mono ?_
      rintro e V9 ⟨rfl, F9, hwo9, hg9, hF9⟩
      refine hK.out _ _ ⟨hg9.block b5 Hlz.out.2 HF45.out.2, hg9.block b4 Hlz.out.1 HF45.out.1⟩ (fun hHeld => ?_)
      clear hK K
      try simp only [Act.put, List.getElem_toArray, List.getElem_cons_zero, List.getElem_cons_succ, List.setIfInBounds_toArray, List.set_cons_zero, List.set_cons_succ]
      refine wpAnyH_take (i := 5) (v := ?_) rfl (by kernel_rfl) (by kernel_rfl) (by kernel_rfl) (fun _ _ _ h => h) (Or.inl ⟨by rfl, ?_⟩) (by assumption) ?_
      rotate_left
      · intro w8 hSw; clear hSw; go_simp; (try with_reducible rfl)
      simp only [Act.put, List.getElem_toArray, List.getElem_cons_zero, List.getElem_cons_succ, List.setIfInBounds_toArray, List.set_cons_zero, List.set_cons_succ]
      have x3 := bx_below HZ.out.2.1 (bx_below HB4.out T3.out)
      have lz3 := (Array.getElem?_eq_some_iff.1 x3).1
      have hF3 : ¬ F b3 := fun e => by have h7 := HWo.out.bd b3 e; have h8 := Hup.out.2.2; omega
      have x39 := (hg9.block b3 lz3 hF3).trans x3
      have y0 := block_cell x39 0
      have y1 := block_cell x39 1
      have f0 := block_free x39 0
      have f1 := block_free x39 1
      have l3 := (Array.getElem?_eq_some_iff.1 x39).1
      simp at y0 y1 f0 f1
      have X39 := Lib.hid x39
      have HF3 := Lib.hid (And.intro hF3 lz3)
      have Hwo9 := Lib.hid hwo9
      have hgZ : Gr F Z V9 := (Gr.below (Below.refl _ Z).drew).trans hg9
      have Hg9 := Lib.hid hgZ
      have HF9 := Lib.hid (show ∀ i, F9 i → F i ∨ Z.heap.size ≤ i from hF9)
      have HS9 := Lib.hid hHeld
      clear x3 lz3 hF3 x39 hwo9 hg9 hgZ hF9
      refine wpAnyH_ready (rs := [6]) (by kernel_rfl) (by simp) ?_
      refine AllReadyH.cons rfl (fun K hK => ?_) AllReadyH.nil
      obtain ⟨U, hU⟩ := wdone_sets HWo.out.bel.size HBZ.out HZ.out.2.2.1 (RAp.new HA.out HWo.out.bd (Nat.le_trans HBW4.out HlV.out) Hli.out HZ.out.2.2.1) Hwo9.out Hg9.out HF9.out (bx_below HZ.out.2.1 (bx_below HB4.out T3.out)) Hup.out.2.2 HF3.out.1 (.int .i64 now) (.slice a3 (armX X ⟨ti, tg, td⟩).length c3)
      have HU := Lib.hid hU
      clear hU
      go_simp
      rw [← HU.out.1]
      have n43 : b4 ≠ b3 := fun e => by have h7 := Hb43.out.1; omega
      have n53 : b5 ≠ b3 := fun e => by have h7 := Hb53.out; omega
      refine hK.out _ _ ⟨(HU.out.2.2.2 b5 n53).trans HS9.out.1, (HU.out.2.2.2 b4 n43).trans HS9.out.2⟩ (fun hHeld => ?_)
      clear hK K y0 y1 f0 f1 l3
      try simp only [Act.put, List.getElem_toArray, List.getElem_cons_zero, List.getElem_cons_succ, List.setIfInBounds_toArray, List.set_cons_zero, List.set_cons_succ]
      refine wpAnyH_take (i := 7) (v := ?_) rfl (by kernel_rfl) (by kernel_rfl) (by kernel_rfl) (fun _ _ _ h => h) (Or.inl ⟨by rfl, ?_⟩) (by assumption) ?_
      rotate_left
      · intro w8 hSw; clear hSw; go_simp; (try with_reducible rfl)
      simp only [Act.put, List.getElem_toArray, List.getElem_cons_zero, List.getElem_cons_succ, List.setIfInBounds_toArray, List.set_cons_zero, List.set_cons_succ]
      refine wpAnyH_done (by kernel_rfl) ?_ _
      have u3 := HU.out.2.2.1
      have u0 := block_cell u3 0
      have u1 := block_cell u3 1
      have ul := (Array.getElem?_eq_some_iff.1 u3).1
      simp at u0 u1
      clear u3
      go_wp2_with fail
      refine bodyPost_ret (v := .tuple #[.agg #[.int .i64 now, .slice a3 (armX X ⟨ti, tg, td⟩).length c3], .bool true]) ?_ rfl ⟨now, armX X ⟨ti, tg, td⟩, F9, a3, c3, rfl, HU.out.2.1⟩
      simp [results, Try.results17, go_sem, u0, u1, ul]
  · go_simp
    obtain ⟨V6, hX⟩ : ∃ X, X = V0.alloc (.cells #[.int .i64 0, .slice none 0 0] rwT) := ⟨_, rfl⟩
    obtain ⟨b5, hb5⟩ : ∃ b, b = V0.heap.size := ⟨_, rfl⟩
    have hb : Below V0.heap.size V0 V6 := by rw [hX]; exact below_new _ _
    have x5 : V6.heap[b5]? = some (.cells #[.int .i64 0, .slice none 0 0] rwT (0, 0)) := by rw [hX, hb5]; exact heap_alloc_new _ _
    have n5 : W4.heap.size ≤ b5 := by rw [hb5]; exact hB.size
    have Hb53 := Lib.hid (Nat.lt_of_lt_of_le Hb43.out.2 n5)
    rw [← hX, ← hb5]
    clear hX hb5
    have X5 := Lib.hid x5
    clear x5
    have hBx := below_on hB hb (Nat.le_refl _)
    clear hb hB
    have hB := hBx
    clear hBx
    refine hK.out _ _ hB (fun hHeld => ?_)
    clear hK K
    try simp only [Act.put, List.getElem_toArray, List.getElem_cons_zero, List.getElem_cons_succ, List.setIfInBounds_toArray, List.set_cons_zero, List.set_cons_succ]
    refine wpAnyH_ready (rs := [2]) (by kernel_rfl) (by simp) ?_
    refine AllReadyH.cons rfl (fun K hK => ?_) AllReadyH.nil
    go_simp
    go_at_call 36
    refine (plain_any V6 ⟨ti, tg, td⟩).mono ?_
    rintro e V7 ⟨rfl, hb⟩
    have x5 := bx_below hb X5.out
    clear X5
    have X5 := Lib.hid x5
    clear x5
    have hBx := below_on hB hb (Nat.le_refl _)
    clear hb hB
    have hB := hBx
    clear hBx
    refine hK.out _ _ hB (fun hHeld => ?_)
    clear hK K
    try simp only [Act.put, List.getElem_toArray, List.getElem_cons_zero, List.getElem_cons_succ, List.setIfInBounds_toArray, List.set_cons_zero, List.set_cons_succ]
    refine wpAnyH_ready (rs := [3]) (by kernel_rfl) (by simp) ?_
    refine AllReadyH.cons rfl (fun K hK => ?_) AllReadyH.nil
    go_simp
    have Har := Lib.hid (rarm_any V7 now ao cap X ⟨ti, tg, td⟩ (HRt4.out.below hB) Hxl.out)
    go_at_call 39
    refine (show Calls _ _ _ _ _ from Har.out).mono ?_
    rintro e V8 ⟨a3, c3, rfl, hr3, hli, hb⟩
    have Hli := Lib.hid (show a3 = ao ∨ Lie V7 a3 from hli)
    have HlV := Lib.hid hB.size
    clear Har hli
    have x5 := bx_below hb X5.out
    clear X5
    have X5 := Lib.hid x5
    clear x5
    have hBx := below_on hB hb (Nat.le_refl _)
    clear hb hB
    have hB := hBx
    clear hBx
    refine hK.out _ _ hB (fun hHeld => ?_)
    clear hK K
    try simp only [Act.put, List.getElem_toArray, List.getElem_cons_zero, List.getElem_cons_succ, List.setIfInBounds_toArray, List.set_cons_zero, List.set_cons_succ]
    unfold rwV
    refine wpAnyH_take (i := 4) (v := ?_) rfl (by kernel_rfl) (by kernel_rfl) (by kernel_rfl) (fun _ _ _ h => h) (Or.inl ⟨by rfl, ?_⟩) (by assumption) ?_
    rotate_left
    · intro w8 hSw; clear hSw; go_simp; (try with_reducible rfl)
    simp only [Act.put, List.getElem_toArray, List.getElem_cons_zero, List.getElem_cons_succ, List.setIfInBounds_toArray, List.set_cons_zero, List.set_cons_succ]
    refine wpAnyH_take (i := 5) (v := ?_) rfl (by kernel_rfl) (by kernel_rfl) (by kernel_rfl) (fun _ _ _ h => h) (Or.inl ⟨by rfl, ?_⟩) (by assumption) ?_
    rotate_left
    · intro w8 hSw; clear hSw; go_simp; (try with_reducible rfl)
    simp only [Act.put, List.getElem_toArray, List.getElem_cons_zero, List.getElem_cons_succ, List.setIfInBounds_toArray, List.set_cons_zero, List.set_cons_succ]
    refine wpAnyH_take (i := 6) (v := ?_) rfl (by kernel_rfl) (by kernel_rfl) (by kernel_rfl) (fun _ _ _ h => h) (Or.inl ⟨by rfl, ?_⟩) (by assumption) ?_
    rotate_left
    · intro w8 hSw; clear hSw; go_simp; (try with_reducible rfl)
    simp only [Act.put, List.getElem_toArray, List.getElem_cons_zero, List.getElem_cons_succ, List.setIfInBounds_toArray, List.set_cons_zero, List.set_cons_succ]
    refine wpAnyH_ready (rs := [8]) (by kernel_rfl) (by simp) ?_
    refine AllReadyH.cons rfl (fun K hK => ?_) AllReadyH.nil
    have y0 := block_cell X5.out 0
    have y1 := block_cell X5.out 1
    have f0 := block_free X5.out 0
    have f1 := block_free X5.out 1
    have l5 := (Array.getElem?_eq_some_iff.1 X5.out).1
    simp at y0 y1 f0 f1
    obtain ⟨Z, hZ⟩ := two_sets hB n5 X5.out hr3 now (.slice a3 (armX X ⟨ti, tg, td⟩).length c3)
    have HZ := Lib.hid hZ
    clear hZ hr3 hB
    go_simp
    rw [← HZ.out.1]
    refine hK.out _ _ HZ.out.2.1 (fun hHeld => ?_)
    clear hK K y0 y1 f0 f1 l5
    try simp only [Act.put, List.getElem_toArray, List.getElem_cons_zero, List.getElem_cons_succ, List.setIfInBounds_toArray, List.set_cons_zero, List.set_cons_succ]
    refine wpAnyH_take (i := 9) (v := ?_) rfl (by kernel_rfl) (by kernel_rfl) (by kernel_rfl) (fun _ _ _ h => h) (Or.inl ⟨by rfl, ?_⟩) (by assumption) ?_
    rotate_left
    · intro w8 hSw; clear hSw; go_simp; (try with_reducible rfl)
    simp only [Act.put, List.getElem_toArray, List.getElem_cons_zero, List.getElem_cons_succ, List.setIfInBounds_toArray, List.set_cons_zero, List.set_cons_succ]
    refine wpAnyH_done (by kernel_rfl) ?_ _
    have hz1 := HZ.out.2.2.2
    have q0 := block_cell hz1 0
    have q1 := block_cell hz1 1
    simp at q0 q1
    clear hz1
    go_upto_region 4 with fail
    have HBZ := Lib.hid (below_on (below_on HB3.out HB4.out (Nat.le_refl _)) HZ.out.2.1 (Nat.le_refl _))
    have hz5 := HZ.out.2.2.2
    have hz4 := bx_below HZ.out.2.1 T4.out
    have lz5 := (Array.getElem?_eq_some_iff.1 hz5).1
    have lz4 := (Array.getElem?_eq_some_iff.1 hz4).1
    have hF5 : ¬ F b5 := fun e => by have h7 := HWo.out.bd b5 e; have h8 := HBW4.out; omega
    have hF4 : ¬ F b4 := fun e => by have h7 := HWo.out.bd b4 e; have h8 := Hb4.out; omega
    have hld : ∀ W', (W'.heap[b5]? = Z.heap[b5]? ∧ W'.heap[b4]? = Z.heap[b4]?) → (Instr.loadAt rwT (.pointer (some ⟨b5, 0, none⟩))).run Try.prog W' = .ok (.agg #[.int .i64 now, .slice a3 (armX X ⟨ti, tg, td⟩).length c3]) W' ∧ (Instr.loadAt thT (.pointer (some ⟨b4, 0, none⟩))).run Try.prog W' = .ok (thVal ⟨ti, tg, td⟩) W' := fun W' hw => by
      have p0 := block_cell (hw.1.trans hz5) 0
      have p1 := block_cell (hw.1.trans hz5) 1
      obtain ⟨e0, e1, e2, -, -, -⟩ := set3_res (t := ⟨ti, tg, td⟩) (hw.2.trans hz4)
      simp at p0 p1
      exact ⟨ldRw p0 p1, loadTh (t := ⟨ti, tg, td⟩) e0 e1 e2⟩
    have HldZ := Lib.hid hld
    have HF45 := Lib.hid (And.intro hF4 hF5)
    have Hlz := Lib.hid (And.intro lz4 lz5)
    clear hld hz5 hz4 lz4 lz5 hF5 hF4 q0 q1
    have HWZ := Lib.hid (show Wo Wb Z.drew F w now X from HWo.out.below (HBZ.out.drew))
    refine wp_region_held_drew (S := fun W' => W'.heap[b5]? = Z.heap[b5]? ∧ W'.heap[b4]? = Z.heap[b4]?) (by kernel_rfl) ⟨rfl, rfl⟩ (fun hHeld => ?_)
    refine wpAnyH_take (i := 0) (v := .agg #[.int .i64 now, .slice a3 (armX X ⟨ti, tg, td⟩).length c3]) rfl (by kernel_rfl) (by kernel_rfl) (by kernel_rfl) (fun _ _ _ h => h) (Or.inl ⟨by rfl, ?_⟩) (by assumption) ?_
    · intro w8 hSw; exact ld_takeT rfl (HldZ.out w8 hSw).1 rfl
    simp only [Act.put, List.getElem_toArray, List.getElem_cons_zero, List.getElem_cons_succ, List.setIfInBounds_toArray, List.set_cons_zero, List.set_cons_succ]
    refine wpAnyH_take (i := 1) (v := ?_) rfl (by kernel_rfl) (by kernel_rfl) (by kernel_rfl) (fun _ _ _ h => h) (Or.inl ⟨by rfl, ?_⟩) (by assumption) ?_
    rotate_left
    · intro w8 hSw; clear hSw; go_simp; (try with_reducible rfl)
    simp only [Act.put, List.getElem_toArray, List.getElem_cons_zero, List.getElem_cons_succ, List.setIfInBounds_toArray, List.set_cons_zero, List.set_cons_succ]
    refine wpAnyH_take (i := 2) (v := thVal ⟨ti, tg, td⟩) rfl (by kernel_rfl) (by kernel_rfl) (by kernel_rfl) (fun _ _ _ h => h) (Or.inl ⟨by rfl, ?_⟩) (by assumption) ?_
    · intro w8 hSw; exact ld_takeT rfl (HldZ.out w8 hSw).2 rfl
    simp only [Act.put, List.getElem_toArray, List.getElem_cons_zero, List.getElem_cons_succ, List.setIfInBounds_toArray, List.set_cons_zero, List.set_cons_succ]
    refine wpAnyH_take (i := 4) (v := ?_) rfl (by kernel_rfl) (by kernel_rfl) (by kernel_rfl) (fun _ _ _ h => h) (Or.inl ⟨by rfl, ?_⟩) (by assumption) ?_
    rotate_left
    · intro w8 hSw; clear hSw; go_simp; (try with_reducible rfl)
    simp only [Act.put, List.getElem_toArray, List.getElem_cons_zero, List.getElem_cons_succ, List.setIfInBounds_toArray, List.set_cons_zero, List.set_cons_succ]
    refine wpAnyH_ready (rs := [3]) (by kernel_rfl) (by simp) ?_
    refine AllReadyH.cons rfl (fun K hK => ?_) AllReadyH.nil
    go_simp
    go_at_call 10
    refine (arm_o HWZ.out ⟨ti, tg, td⟩ Hid2.out).mono ?_
    rintro e V9 ⟨rfl, F9, hwo9, hg9, hF9⟩
    refine hK.out _ _ ⟨hg9.block b5 Hlz.out.2 HF45.out.2, hg9.block b4 Hlz.out.1 HF45.out.1⟩ (fun hHeld => ?_)
    clear hK K
    try simp only [Act.put, List.getElem_toArray, List.getElem_cons_zero, List.getElem_cons_succ, List.setIfInBounds_toArray, List.set_cons_zero, List.set_cons_succ]
    refine wpAnyH_take (i := 5) (v := ?_) rfl (by kernel_rfl) (by kernel_rfl) (by kernel_rfl) (fun _ _ _ h => h) (Or.inl ⟨by rfl, ?_⟩) (by assumption) ?_
    rotate_left
    · intro w8 hSw; clear hSw; go_simp; (try with_reducible rfl)
    simp only [Act.put, List.getElem_toArray, List.getElem_cons_zero, List.getElem_cons_succ, List.setIfInBounds_toArray, List.set_cons_zero, List.set_cons_succ]
    have x3 := bx_below HZ.out.2.1 (bx_below HB4.out T3.out)
    have lz3 := (Array.getElem?_eq_some_iff.1 x3).1
    have hF3 : ¬ F b3 := fun e => by have h7 := HWo.out.bd b3 e; have h8 := Hup.out.2.2; omega
    have x39 := (hg9.block b3 lz3 hF3).trans x3
    have y0 := block_cell x39 0
    have y1 := block_cell x39 1
    have f0 := block_free x39 0
    have f1 := block_free x39 1
    have l3 := (Array.getElem?_eq_some_iff.1 x39).1
    simp at y0 y1 f0 f1
    have X39 := Lib.hid x39
    have HF3 := Lib.hid (And.intro hF3 lz3)
    have Hwo9 := Lib.hid hwo9
    have hgZ : Gr F Z V9 := (Gr.below (Below.refl _ Z).drew).trans hg9
    have Hg9 := Lib.hid hgZ
    have HF9 := Lib.hid (show ∀ i, F9 i → F i ∨ Z.heap.size ≤ i from hF9)
    have HS9 := Lib.hid hHeld
    clear x3 lz3 hF3 x39 hwo9 hg9 hgZ hF9
    refine wpAnyH_ready (rs := [6]) (by kernel_rfl) (by simp) ?_
    refine AllReadyH.cons rfl (fun K hK => ?_) AllReadyH.nil
    obtain ⟨U, hU⟩ := wdone_sets HWo.out.bel.size HBZ.out HZ.out.2.2.1 (RAp.new HA.out HWo.out.bd (Nat.le_trans HBW4.out HlV.out) Hli.out HZ.out.2.2.1) Hwo9.out Hg9.out HF9.out (bx_below HZ.out.2.1 (bx_below HB4.out T3.out)) Hup.out.2.2 HF3.out.1 (.int .i64 now) (.slice a3 (armX X ⟨ti, tg, td⟩).length c3)
    have HU := Lib.hid hU
    clear hU
    go_simp
    rw [← HU.out.1]
    have n43 : b4 ≠ b3 := fun e => by have h7 := Hb43.out.1; omega
    have n53 : b5 ≠ b3 := fun e => by have h7 := Hb53.out; omega
    refine hK.out _ _ ⟨(HU.out.2.2.2 b5 n53).trans HS9.out.1, (HU.out.2.2.2 b4 n43).trans HS9.out.2⟩ (fun hHeld => ?_)
    clear hK K y0 y1 f0 f1 l3
    try simp only [Act.put, List.getElem_toArray, List.getElem_cons_zero, List.getElem_cons_succ, List.setIfInBounds_toArray, List.set_cons_zero, List.set_cons_succ]
    refine wpAnyH_take (i := 7) (v := ?_) rfl (by kernel_rfl) (by kernel_rfl) (by kernel_rfl) (fun _ _ _ h => h) (Or.inl ⟨by rfl, ?_⟩) (by assumption) ?_
    rotate_left
    · intro w8 hSw; clear hSw; go_simp; (try with_reducible rfl)
    simp only [Act.put, List.getElem_toArray, List.getElem_cons_zero, List.getElem_cons_succ, List.setIfInBounds_toArray, List.set_cons_zero, List.set_cons_succ]
    refine wpAnyH_done (by kernel_rfl) ?_ _
    have u3 := HU.out.2.2.1
    have u0 := block_cell u3 0
    have u1 := block_cell u3 1
    have ul := (Array.getElem?_eq_some_iff.1 u3).1
    simp at u0 u1
    clear u3
    go_wp2_with fail
    refine bodyPost_ret (v := .tuple #[.agg #[.int .i64 now, .slice a3 (armX X ⟨ti, tg, td⟩).length c3], .bool true]) ?_ rfl ⟨now, armX X ⟨ti, tg, td⟩, F9, a3, c3, rfl, HU.out.2.1⟩
    simp [results, Try.results17, go_sem, u0, u1, ul]
end Go.Proofs.Ytadghaiengonoaa
