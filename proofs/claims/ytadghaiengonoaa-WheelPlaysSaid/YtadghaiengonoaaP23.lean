/- Lemmas for WheelPlays (Xzc). No statement of the seat is proved here. -/
import Derived.Test.YtadghaiengonoaaP20
namespace Go.Proofs.Ytadghaiengonoaa
set_option linter.unusedVariables false
set_option linter.unusedSimpArgs false
set_option linter.unusedSectionVars false
open Go Go.RowKit Go.Maps Go.Deep
theorem advL_len (now tb : Int) (X : List Th) : (advL now tb X).length ≤ X.length := by
  unfold advL
  split
  · split
    · exact Nat.zero_le _
    · exact List.length_filter_le _ _
  · exact Nat.zero_le _
set_option maxRecDepth 100000 in
set_option maxHeartbeats 8000000 in
theorem wdo_to (Wb W : World) (F : Nat → Prop) (w : Nat) (now : Int) (X : List Th) (ao : Option Addr) (cap : Nat) (o : WOp) (hk : o.kind = 2) (hW : Wo Wb W F w now X) (hR : Rt W ao cap (slot0 X)) (hA : RAp W F ao) (hid : IdOk o.t.id) :
    Calls Try.prog 17 #[.pointer (some ⟨w, 0, none⟩), rwV now ao X.length cap, wopVal o] W (WDone Wb W F w) := by
  obtain ⟨ok, ⟨ti, tg, td⟩⟩ := o
  unfold rwV wopVal
  simp only at hk hid
  subst hk
  obtain ⟨W1, hW1⟩ : ∃ W1, W1 = W.alloc (.cells #[.int .i64 now, .slice ao X.length cap] rwT) := ⟨_, rfl⟩
  obtain ⟨W2, hW2⟩ : ∃ W2, W2 = W1.alloc (.cells #[.int .i64 2, .int .u64 ti, .int .u64 tg, .int .i64 td] wopT) := ⟨_, rfl⟩
  obtain ⟨W3, hW3⟩ : ∃ W3, W3 = W2.alloc (.cells #[.int .i64 0, .slice none 0 0] rwT) := ⟨_, rfl⟩
  obtain ⟨b1, hb1⟩ : ∃ b, b = W.heap.size := ⟨_, rfl⟩
  obtain ⟨b2, hb2⟩ : ∃ b, b = W.heap.size + 1 := ⟨_, rfl⟩
  obtain ⟨b3, hb3⟩ : ∃ b, b = W.heap.size + 1 + 1 := ⟨_, rfl⟩
  have z1 : W1.heap.size = W.heap.size + 1 := by rw [hW1]; simp
  have z2 : W2.heap.size = W.heap.size + 1 + 1 := by rw [hW2]; simp [z1]
  have B1 : Below W.heap.size W W1 := by rw [hW1]; exact below_new _ _
  have B2 : Below W1.heap.size W1 W2 := by rw [hW2]; exact below_new _ _
  have B3 : Below W2.heap.size W2 W3 := by rw [hW3]; exact below_new _ _
  have hB3 := below_on (below_on B1 B2 (Nat.le_refl _)) B3 (Nat.le_refl _)
  have t1 : W3.heap[b1]? = some (.cells #[.int .i64 now, .slice ao X.length cap] rwT (0, 0)) := by
    rw [B3.block b1 (by omega), B2.block b1 (by omega), hW1, hb1]; exact heap_alloc_new _ _
  have t2 : W3.heap[b2]? = some (.cells #[.int .i64 2, .int .u64 ti, .int .u64 tg, .int .i64 td] wopT (0, 0)) := by
    rw [B3.block b2 (by omega), hW2, hb2, ← z1]; exact heap_alloc_new _ _
  have t3 : W3.heap[b3]? = some (.cells #[.int .i64 0, .slice none 0 0] rwT (0, 0)) := by
    rw [hW3, hb3, ← z2]; exact heap_alloc_new _ _
  have Hup : Hid (W.heap.size ≤ b1 ∧ W.heap.size ≤ b2 ∧ W.heap.size ≤ b3) := ⟨by omega, by omega, by omega⟩
  have Hap : Hid (b1 ≠ b2 ∧ b1 ≠ b3 ∧ b2 ≠ b3) := ⟨by omega, by omega, by omega⟩
  have HB3 := Lib.hid hB3
  have T1 := Lib.hid t1
  have T2 := Lib.hid t2
  have T3 := Lib.hid t3
  clear z1 z2 B1 B2 B3 hB3 t1 t2 t3
  have c0 := block_cell T2.out 0
  have c1 := block_cell T2.out 1
  have c2 := block_cell T2.out 2
  have c3 := block_cell T2.out 3
  simp at c0 c1 c2 c3
  have l2 := (Array.getElem?_eq_some_iff.1 T2.out).1
  obtain ⟨W4, hW4⟩ : ∃ W4, W4 = W3.alloc (.cells #[.int .u64 ti, .int .u64 tg, .int .i64 td] thT) := ⟨_, rfl⟩
  obtain ⟨b4, hb4⟩ : ∃ b, b = W3.heap.size := ⟨_, rfl⟩
  have hB4 : Below W3.heap.size W3 W4 := by rw [hW4]; exact below_new _ _
  have t4 : W4.heap[b4]? = some (.cells #[.int .u64 ti, .int .u64 tg, .int .i64 td] thT (0, 0)) := by rw [hW4, hb4]; exact heap_alloc_new _ _
  have HB4 := Lib.hid hB4
  have T4 := Lib.hid t4
  clear hB4 t4
  have HWo := Lib.hid hW
  have HRt := Lib.hid hR
  have HA := Lib.hid hA
  have Hid2 := Lib.hid hid
  clear hW hR hA hid
  go_enter Try.func17, Try.ntmps17
  go_upto_region 1 with fail
  rw [← hW1, ← hW2, ← hW3, ← hb3, ← hb2, ← hb1]
  clear hW1 hW2 hW3 hb1 hb2 hb3
  go_upto_region 2 with fail
  rw [← hW4, ← hb4]
  have Hb4 : Hid (W.heap.size ≤ b4) := (by rw [hb4]; exact HB3.out.size : W.heap.size ≤ b4)
  have Hb43 : Hid (b3 < b4 ∧ b3 < W4.heap.size) := (by have h7 := (Array.getElem?_eq_some_iff.1 T3.out).1; have h8 := HB4.out.size; exact ⟨by rw [hb4]; exact h7, Nat.lt_of_lt_of_le h7 h8⟩ : b3 < b4 ∧ b3 < W4.heap.size)
  have HBW4 : Hid (W.heap.size ≤ W4.heap.size) := (Nat.le_trans HB3.out.size HB4.out.size : W.heap.size ≤ W4.heap.size)
  clear hW4 c1 c2 c3 l2 hb4 c0
  have d2 := bx_below HB4.out T2.out
  have c0 := block_cell d2 0
  simp at c0
  have l2 := (Array.getElem?_eq_some_iff.1 d2).1
  clear d2
  have hw4 := below_on HB3.out HB4.out (Nat.le_refl _)
  have HRt4 := Lib.hid (HRt.out.below hw4)
  have Hx := Lib.hid (And.intro HWo.out.okX.2.2.2.2 HWo.out.okX.2.2.1)
  have Hw4 := Lib.hid hw4
  have g1 := bx_below HB4.out T1.out
  have p0 := block_cell g1 0
  have p1 := block_cell g1 1
  obtain ⟨e0, e1, e2, -, -, -⟩ := set3_res (t := ⟨ti, tg, td⟩) T4.out
  simp at p0 p1
  simp only at e0 e1 e2
  have l1 := (Array.getElem?_eq_some_iff.1 g1).1
  have l4 := (Array.getElem?_eq_some_iff.1 T4.out).1
  clear hw4 g1
  go_wp2_with fail
  obtain ⟨tb, htb⟩ : ∃ tb, tb = td := ⟨_, rfl⟩
  rw [← htb]
  clear htb
  have Hra := Lib.hid (radv_any W4 now tb ao cap X HRt4.out Hx.out.1 HWo.out.okX.2.1)
  refine Hra.out.mono ?_
  rintro e V1 ⟨a3, c3, a2, c2, rfl, hr3, hr2, hli, hli2, hb⟩
  obtain ⟨N, hN⟩ : ∃ N, N = advN now tb := ⟨_, rfl⟩
  obtain ⟨Y, hY⟩ : ∃ Y, Y = advX now tb X := ⟨_, rfl⟩
  obtain ⟨L, hL⟩ : ∃ L, L = advL now tb X := ⟨_, rfl⟩
  obtain ⟨E, hE⟩ : ∃ E, E = advE now tb := ⟨_, rfl⟩
  have hLl : L.length ≤ 256 := by rw [hL]; exact Nat.le_trans (advL_len now tb X) Hx.out.1
  rw [← hY] at hr3
  rw [← hL] at hr2
  rw [← hN, ← hY, ← hL, ← hE]
  unfold rwV
  have HE := Lib.hid (And.intro hN (And.intro hY (And.intro hL hE)))
  have HLl := Lib.hid hLl
  have Hr3 := Lib.hid hr3
  have Hr2 := Lib.hid hr2
  have Hli := Lib.hid hli
  have Hli2 := Lib.hid hli2
  have HV1 := Lib.hid hb
  clear hN hY hL hE hr3 hr2 hli hli2 hb p0 p1 e0 e1 e2 l1 l4 hLl
  obtain ⟨Z, hZ⟩ : ∃ Z, Z = V1.alloc (.cells #[.int .i64 N, .slice a3 Y.length c3] rwT) := ⟨_, rfl⟩
  obtain ⟨b5, hb5⟩ : ∃ b, b = V1.heap.size := ⟨_, rfl⟩
  have hBZ : Below V1.heap.size V1 Z := by rw [hZ]; exact below_new _ _
  have x5 : Z.heap[b5]? = some (.cells #[.int .i64 N, .slice a3 Y.length c3] rwT (0, 0)) := by rw [hZ, hb5]; exact heap_alloc_new _ _
  have hn5 : V1.heap.size ≤ b5 := by omega
  have X5 := Lib.hid x5
  have HN := Lib.hid hn5
  have HBZ := Lib.hid (below_on Hw4.out (below_on HV1.out hBZ (Nat.le_refl _)) (Nat.le_refl _))
  have HBV := Lib.hid hBZ
  clear hBZ x5 hn5
  have HWZ := Lib.hid (HWo.out.below HBZ.out)
  have Hcn := Lib.hid (adv_o HWZ.out tb)
  go_wp2_with fail
  rw [← hZ, ← hb5]
  clear hZ hb5
  refine Hcn.out.mono ?_
  rintro e V9 ⟨ao9, cap9, rfl, ⟨F9, hwo9, hg9, hF9⟩, htt⟩
  rw [← HE.out.2.2.1, ← HE.out.2.2.2]
  rw [← HE.out.1, ← HE.out.2.1] at hwo9
  rw [← HE.out.2.2.1] at htt
  have HF : Hid (∀ i, W.heap.size ≤ i → ¬ F i) := (fun i hi h => by have := HWo.out.bd i h; omega : ∀ i, W.heap.size ≤ i → ¬ F i)
  have hWV : W.heap.size ≤ V1.heap.size := Nat.le_trans HBW4.out HV1.out.size
  have k9 : ∀ {b : Nat} {o : Obj}, Z.heap[b]? = some o → W.heap.size ≤ b → V9.heap[b]? = some o := fun hx hb => (hg9.block _ (Array.getElem?_eq_some_iff.1 hx).1 (HF.out _ hb)).trans hx
  have y5 := k9 X5.out (Nat.le_trans hWV HN.out)
  have y3 := k9 (bx_below HBV.out (bx_below HV1.out (bx_below HB4.out T3.out))) Hup.out.2.2
  have hr2Z := Hr2.out.below HBV.out
  have hr29 := rt_gr hr2Z hg9 (RAp.new (ao := none) (fun a e => by cases e) HWo.out.bd HBW4.out Hli2.out hr2Z)
  have hsm := same_any V9.drew ao9 cap9 L a2 c2 (slot0 L) (htt.below (Below.refl _ V9).drew) (hr29.below (Below.refl _ V9).drew) (by have := HLl.out; omega) (by rw [slot0_len]; have := HLl.out; omega)
  rw [slot0_len, slot0_fst, decide_eq_true (rfl : L = L)] at hsm
  have Hsm := Lib.hid hsm
  have Hne : Hid (b5 ≠ b3) := (by have h7 := Hb43.out.2; have h8 := HV1.out.size; have h9 := HN.out; omega : b5 ≠ b3)
  have Hlt := Lib.hid (Array.getElem?_eq_some_iff.1 y5).1
  have hld : ∀ W', (W'.heap[b5]? = V9.heap[b5]?) → (Instr.loadAt rwT (.pointer (some ⟨b5, 0, none⟩))).run Try.prog W' = .ok (.agg #[.int .i64 N, .slice a3 Y.length c3]) W' := fun W' hw => ldRb (hw.trans y5) _ _ _ rfl
  have HldU := Lib.hid hld
  have Hwo9 := Lib.hid hwo9
  have Hg9 := Lib.hid hg9
  have HF9 := Lib.hid hF9
  have Y3 := Lib.hid y3
  clear k9 y5 y3 hwo9 hg9 hF9 hWV hr2Z hr29 hsm hld htt
  go_upto_region 16 with fail
  refine wp_region_held_drew (S := fun W' => W'.heap[b5]? = V9.heap[b5]?) (by kernel_rfl) rfl (fun hHeld => ?_)
  refine wpAnyH_take (i := 0) (v := .agg #[.int .i64 N, .slice a3 Y.length c3]) rfl (by kernel_rfl) (by kernel_rfl) (by kernel_rfl) (fun _ _ _ h => h) (Or.inl ⟨by rfl, ?_⟩) (by assumption) ?_
  · intro w8 hSw; exact ld_takeT rfl (HldU.out w8 hSw) rfl
  simp only [Act.put, List.getElem_toArray, List.getElem_cons_zero, List.getElem_cons_succ, List.setIfInBounds_toArray, List.set_cons_zero, List.set_cons_succ]
  refine wpAnyH_take (i := 1) (v := ?_) rfl (by kernel_rfl) (by kernel_rfl) (by kernel_rfl) (fun _ _ _ h => h) (Or.inl ⟨by rfl, ?_⟩) (by assumption) ?_
  rotate_left
  · intro w8 hSw; clear hSw; go_simp; (try with_reducible rfl)
  simp only [Act.put, List.getElem_toArray, List.getElem_cons_zero, List.getElem_cons_succ, List.setIfInBounds_toArray, List.set_cons_zero, List.set_cons_succ]
  refine wpAnyH_take (i := 2) (v := ?_) rfl (by kernel_rfl) (by kernel_rfl) (by kernel_rfl) (fun _ _ _ h => h) (Or.inl ⟨by rfl, ?_⟩) (by assumption) ?_
  rotate_left
  · intro w8 hSw; clear hSw; go_simp; (try with_reducible rfl)
  simp only [Act.put, List.getElem_toArray, List.getElem_cons_zero, List.getElem_cons_succ, List.setIfInBounds_toArray, List.set_cons_zero, List.set_cons_succ]
  refine wpAnyH_take (i := 3) (v := ?_) rfl (by kernel_rfl) (by kernel_rfl) (by kernel_rfl) (fun _ _ _ h => h) (Or.inl ⟨by rfl, ?_⟩) (by assumption) ?_
  rotate_left
  · intro w8 hSw; clear hSw; go_simp; (try with_reducible rfl)
  simp only [Act.put, List.getElem_toArray, List.getElem_cons_zero, List.getElem_cons_succ, List.setIfInBounds_toArray, List.set_cons_zero, List.set_cons_succ]
  refine wpAnyH_take (i := 4) (v := ?_) rfl (by kernel_rfl) (by kernel_rfl) (by kernel_rfl) (fun _ _ _ h => h) (Or.inl ⟨by rfl, ?_⟩) (by assumption) ?_
  rotate_left
  · intro w8 hSw; clear hSw; go_simp; (try with_reducible rfl)
  simp only [Act.put, List.getElem_toArray, List.getElem_cons_zero, List.getElem_cons_succ, List.setIfInBounds_toArray, List.set_cons_zero, List.set_cons_succ]
  refine wpAnyH_take (i := 5) (v := ?_) rfl (by kernel_rfl) (by kernel_rfl) (by kernel_rfl) (fun _ _ _ h => h) (Or.inl ⟨by rfl, ?_⟩) (by assumption) ?_
  rotate_left
  · intro w8 hSw; clear hSw; go_simp; (try with_reducible rfl)
  simp only [Act.put, List.getElem_toArray, List.getElem_cons_zero, List.getElem_cons_succ, List.setIfInBounds_toArray, List.set_cons_zero, List.set_cons_succ]
  refine wpAnyH_take (i := 6) (v := ?_) rfl (by kernel_rfl) (by kernel_rfl) (by kernel_rfl) (fun _ _ _ h => h) (Or.inl ⟨by rfl, ?_⟩) (by assumption) ?_
  rotate_left
  · intro w8 hSw; clear hSw; go_simp; (try with_reducible rfl)
  simp only [Act.put, List.getElem_toArray, List.getElem_cons_zero, List.getElem_cons_succ, List.setIfInBounds_toArray, List.set_cons_zero, List.set_cons_succ]
  refine wpAnyH_ready (rs := [7]) (by kernel_rfl) (by simp) ?_
  refine AllReadyH.cons rfl (fun K hK => ?_) AllReadyH.nil
  go_simp
  go_at_call 20
  refine (Hsm.out).mono ?_
  rintro e V10 ⟨rfl, hb10⟩
  refine hK.out _ _ (hb10.block b5 Hlt.out) (fun hHeld => ?_)
  clear hK K
  try simp only [Act.put, List.getElem_toArray, List.getElem_cons_zero, List.getElem_cons_succ, List.setIfInBounds_toArray, List.set_cons_zero, List.set_cons_succ]
  refine wpAnyH_take (i := 8) (v := ?_) rfl (by kernel_rfl) (by kernel_rfl) (by kernel_rfl) (fun _ _ _ h => h) (Or.inl ⟨by rfl, ?_⟩) (by assumption) ?_
  rotate_left
  · intro w8 hSw; clear hSw; go_simp; (try with_reducible rfl)
  simp only [Act.put, List.getElem_toArray, List.getElem_cons_zero, List.getElem_cons_succ, List.setIfInBounds_toArray, List.set_cons_zero, List.set_cons_succ]
  have hBU10 := below_on (Below.refl _ V9).drew hb10 (Nat.le_refl _)
  have x39 := bx_below hBU10 Y3.out
  have y0 := block_cell x39 0
  have y1 := block_cell x39 1
  have f0 := block_free x39 0
  have f1 := block_free x39 1
  have l3 := (Array.getElem?_eq_some_iff.1 x39).1
  simp at y0 y1 f0 f1
  have hrZ := Hr3.out.below HBV.out
  obtain ⟨U, hU⟩ := wdone_sets HWo.out.bel.size HBZ.out hrZ (RAp.new HA.out HWo.out.bd HBW4.out Hli.out hrZ) (Hwo9.out.below hBU10) (Hg9.out.trans (Gr.below hBU10)) HF9.out (bx_below HBV.out (bx_below HV1.out (bx_below HB4.out T3.out))) Hup.out.2.2 (HF.out _ Hup.out.2.2) (.int .i64 N) (.slice a3 Y.length c3)
  have HU := Lib.hid hU
  have HS9 := Lib.hid hHeld
  clear hU hb10 hBU10 x39 hrZ
  refine wpAnyH_ready (rs := [9]) (by kernel_rfl) (by simp) ?_
  refine AllReadyH.cons rfl (fun K hK => ?_) AllReadyH.nil
  go_simp
  rw [← HU.out.1]
  refine hK.out _ _ ((HU.out.2.2.2 b5 Hne.out).trans HS9.out) (fun hHeld => ?_)
  clear hK K y0 y1 f0 f1 l3
  try simp only [Act.put, List.getElem_toArray, List.getElem_cons_zero, List.getElem_cons_succ, List.setIfInBounds_toArray, List.set_cons_zero, List.set_cons_succ]
  refine wpAnyH_take (i := 10) (v := ?_) rfl (by kernel_rfl) (by kernel_rfl) (by kernel_rfl) (fun _ _ _ h => h) (Or.inl ⟨by rfl, ?_⟩) (by assumption) ?_
  rotate_left
  · intro w8 hSw; clear hSw; go_simp; (try with_reducible rfl)
  simp only [Act.put, List.getElem_toArray, List.getElem_cons_zero, List.getElem_cons_succ, List.setIfInBounds_toArray, List.set_cons_zero, List.set_cons_succ]
  refine wpAnyH_done (by kernel_rfl) ?_ _
  have u3 := HU.out.2.2.1
  have u0 := block_cell u3 0
  have u1 := block_cell u3 1
  have ul := (Array.getElem?_eq_some_iff.1 u3).1
  simp at u0 u1
  clear u3
  go_wp2_with fail
  refine bodyPost_ret (v := .tuple #[.agg #[.int .i64 N, .slice a3 Y.length c3], .bool true]) ?_ rfl ⟨N, Y, F9, a3, c3, rfl, HU.out.2.1⟩
  simp [results, Try.results17, go_sem, u0, u1, ul]
set_option maxRecDepth 100000 in
set_option maxHeartbeats 8000000 in
theorem wdo_by (Wb W : World) (F : Nat → Prop) (w : Nat) (now : Int) (X : List Th) (ao : Option Addr) (cap : Nat) (o : WOp) (hk : o.kind = 3) (hW : Wo Wb W F w now X) (hR : Rt W ao cap (slot0 X)) (hA : RAp W F ao) (hid : IdOk o.t.id) :
    Calls Try.prog 17 #[.pointer (some ⟨w, 0, none⟩), rwV now ao X.length cap, wopVal o] W (WDone Wb W F w) := by
  obtain ⟨ok, ⟨ti, tg, td⟩⟩ := o
  unfold rwV wopVal
  simp only at hk hid
  subst hk
  obtain ⟨W1, hW1⟩ : ∃ W1, W1 = W.alloc (.cells #[.int .i64 now, .slice ao X.length cap] rwT) := ⟨_, rfl⟩
  obtain ⟨W2, hW2⟩ : ∃ W2, W2 = W1.alloc (.cells #[.int .i64 3, .int .u64 ti, .int .u64 tg, .int .i64 td] wopT) := ⟨_, rfl⟩
  obtain ⟨W3, hW3⟩ : ∃ W3, W3 = W2.alloc (.cells #[.int .i64 0, .slice none 0 0] rwT) := ⟨_, rfl⟩
  obtain ⟨b1, hb1⟩ : ∃ b, b = W.heap.size := ⟨_, rfl⟩
  obtain ⟨b2, hb2⟩ : ∃ b, b = W.heap.size + 1 := ⟨_, rfl⟩
  obtain ⟨b3, hb3⟩ : ∃ b, b = W.heap.size + 1 + 1 := ⟨_, rfl⟩
  have z1 : W1.heap.size = W.heap.size + 1 := by rw [hW1]; simp
  have z2 : W2.heap.size = W.heap.size + 1 + 1 := by rw [hW2]; simp [z1]
  have B1 : Below W.heap.size W W1 := by rw [hW1]; exact below_new _ _
  have B2 : Below W1.heap.size W1 W2 := by rw [hW2]; exact below_new _ _
  have B3 : Below W2.heap.size W2 W3 := by rw [hW3]; exact below_new _ _
  have hB3 := below_on (below_on B1 B2 (Nat.le_refl _)) B3 (Nat.le_refl _)
  have t1 : W3.heap[b1]? = some (.cells #[.int .i64 now, .slice ao X.length cap] rwT (0, 0)) := by
    rw [B3.block b1 (by omega), B2.block b1 (by omega), hW1, hb1]; exact heap_alloc_new _ _
  have t2 : W3.heap[b2]? = some (.cells #[.int .i64 3, .int .u64 ti, .int .u64 tg, .int .i64 td] wopT (0, 0)) := by
    rw [B3.block b2 (by omega), hW2, hb2, ← z1]; exact heap_alloc_new _ _
  have t3 : W3.heap[b3]? = some (.cells #[.int .i64 0, .slice none 0 0] rwT (0, 0)) := by
    rw [hW3, hb3, ← z2]; exact heap_alloc_new _ _
  have Hup : Hid (W.heap.size ≤ b1 ∧ W.heap.size ≤ b2 ∧ W.heap.size ≤ b3) := ⟨by omega, by omega, by omega⟩
  have Hap : Hid (b1 ≠ b2 ∧ b1 ≠ b3 ∧ b2 ≠ b3) := ⟨by omega, by omega, by omega⟩
  have HB3 := Lib.hid hB3
  have T1 := Lib.hid t1
  have T2 := Lib.hid t2
  have T3 := Lib.hid t3
  clear z1 z2 B1 B2 B3 hB3 t1 t2 t3
  have c0 := block_cell T2.out 0
  have c1 := block_cell T2.out 1
  have c2 := block_cell T2.out 2
  have c3 := block_cell T2.out 3
  simp at c0 c1 c2 c3
  have l2 := (Array.getElem?_eq_some_iff.1 T2.out).1
  obtain ⟨W4, hW4⟩ : ∃ W4, W4 = W3.alloc (.cells #[.int .u64 ti, .int .u64 tg, .int .i64 td] thT) := ⟨_, rfl⟩
  obtain ⟨b4, hb4⟩ : ∃ b, b = W3.heap.size := ⟨_, rfl⟩
  have hB4 : Below W3.heap.size W3 W4 := by rw [hW4]; exact below_new _ _
  have t4 : W4.heap[b4]? = some (.cells #[.int .u64 ti, .int .u64 tg, .int .i64 td] thT (0, 0)) := by rw [hW4, hb4]; exact heap_alloc_new _ _
  have HB4 := Lib.hid hB4
  have T4 := Lib.hid t4
  clear hB4 t4
  have HWo := Lib.hid hW
  have HRt := Lib.hid hR
  have HA := Lib.hid hA
  have Hid2 := Lib.hid hid
  clear hW hR hA hid
  go_enter Try.func17, Try.ntmps17
  go_upto_region 1 with fail
  rw [← hW1, ← hW2, ← hW3, ← hb3, ← hb2, ← hb1]
  clear hW1 hW2 hW3 hb1 hb2 hb3
  go_upto_region 2 with fail
  rw [← hW4, ← hb4]
  have Hb4 : Hid (W.heap.size ≤ b4) := (by rw [hb4]; exact HB3.out.size : W.heap.size ≤ b4)
  have Hb43 : Hid (b3 < b4 ∧ b3 < W4.heap.size) := (by have h7 := (Array.getElem?_eq_some_iff.1 T3.out).1; have h8 := HB4.out.size; exact ⟨by rw [hb4]; exact h7, Nat.lt_of_lt_of_le h7 h8⟩ : b3 < b4 ∧ b3 < W4.heap.size)
  have HBW4 : Hid (W.heap.size ≤ W4.heap.size) := (Nat.le_trans HB3.out.size HB4.out.size : W.heap.size ≤ W4.heap.size)
  clear hW4 c1 c2 c3 l2 hb4 c0
  have d2 := bx_below HB4.out T2.out
  have c0 := block_cell d2 0
  simp at c0
  have l2 := (Array.getElem?_eq_some_iff.1 d2).1
  clear d2
  have hw4 := below_on HB3.out HB4.out (Nat.le_refl _)
  have HRt4 := Lib.hid (HRt.out.below hw4)
  have Hx := Lib.hid (And.intro HWo.out.okX.2.2.2.2 HWo.out.okX.2.2.1)
  have Hw4 := Lib.hid hw4
  have g1 := bx_below HB4.out T1.out
  have p0 := block_cell g1 0
  have p1 := block_cell g1 1
  obtain ⟨e0, e1, e2, -, -, -⟩ := set3_res (t := ⟨ti, tg, td⟩) T4.out
  simp at p0 p1
  simp only at e0 e1 e2
  have l1 := (Array.getElem?_eq_some_iff.1 g1).1
  have l4 := (Array.getElem?_eq_some_iff.1 T4.out).1
  clear hw4 g1
  go_upto_region 14 with fail
  generalize (if 2251799813685248 < td then 2251799813685248 else td) = q1
  generalize (if q1 < 0 then 0 else q1) = q2
  generalize wrap64 (now + q2) = tb
  go_wp2_with fail
  have Hra := Lib.hid (radv_any W4 now tb ao cap X HRt4.out Hx.out.1 HWo.out.okX.2.1)
  refine Hra.out.mono ?_
  rintro e V1 ⟨a3, c3, a2, c2, rfl, hr3, hr2, hli, hli2, hb⟩
  obtain ⟨N, hN⟩ : ∃ N, N = advN now tb := ⟨_, rfl⟩
  obtain ⟨Y, hY⟩ : ∃ Y, Y = advX now tb X := ⟨_, rfl⟩
  obtain ⟨L, hL⟩ : ∃ L, L = advL now tb X := ⟨_, rfl⟩
  obtain ⟨E, hE⟩ : ∃ E, E = advE now tb := ⟨_, rfl⟩
  have hLl : L.length ≤ 256 := by rw [hL]; exact Nat.le_trans (advL_len now tb X) Hx.out.1
  rw [← hY] at hr3
  rw [← hL] at hr2
  rw [← hN, ← hY, ← hL, ← hE]
  unfold rwV
  have HE := Lib.hid (And.intro hN (And.intro hY (And.intro hL hE)))
  have HLl := Lib.hid hLl
  have Hr3 := Lib.hid hr3
  have Hr2 := Lib.hid hr2
  have Hli := Lib.hid hli
  have Hli2 := Lib.hid hli2
  have HV1 := Lib.hid hb
  clear hN hY hL hE hr3 hr2 hli hli2 hb p0 p1 e0 e1 e2 l1 l4 hLl
  obtain ⟨Z, hZ⟩ : ∃ Z, Z = V1.alloc (.cells #[.int .i64 N, .slice a3 Y.length c3] rwT) := ⟨_, rfl⟩
  obtain ⟨b5, hb5⟩ : ∃ b, b = V1.heap.size := ⟨_, rfl⟩
  have hBZ : Below V1.heap.size V1 Z := by rw [hZ]; exact below_new _ _
  have x5 : Z.heap[b5]? = some (.cells #[.int .i64 N, .slice a3 Y.length c3] rwT (0, 0)) := by rw [hZ, hb5]; exact heap_alloc_new _ _
  have hn5 : V1.heap.size ≤ b5 := by omega
  have X5 := Lib.hid x5
  have HN := Lib.hid hn5
  have HBZ := Lib.hid (below_on Hw4.out (below_on HV1.out hBZ (Nat.le_refl _)) (Nat.le_refl _))
  have HBV := Lib.hid hBZ
  clear hBZ x5 hn5
  have HWZ := Lib.hid (HWo.out.below HBZ.out)
  have Hcn := Lib.hid (adv_o HWZ.out tb)
  go_wp2_with fail
  rw [← hZ, ← hb5]
  clear hZ hb5
  refine Hcn.out.mono ?_
  rintro e V9 ⟨ao9, cap9, rfl, ⟨F9, hwo9, hg9, hF9⟩, htt⟩
  rw [← HE.out.2.2.1, ← HE.out.2.2.2]
  rw [← HE.out.1, ← HE.out.2.1] at hwo9
  rw [← HE.out.2.2.1] at htt
  have HF : Hid (∀ i, W.heap.size ≤ i → ¬ F i) := (fun i hi h => by have := HWo.out.bd i h; omega : ∀ i, W.heap.size ≤ i → ¬ F i)
  have hWV : W.heap.size ≤ V1.heap.size := Nat.le_trans HBW4.out HV1.out.size
  have k9 : ∀ {b : Nat} {o : Obj}, Z.heap[b]? = some o → W.heap.size ≤ b → V9.heap[b]? = some o := fun hx hb => (hg9.block _ (Array.getElem?_eq_some_iff.1 hx).1 (HF.out _ hb)).trans hx
  have y5 := k9 X5.out (Nat.le_trans hWV HN.out)
  have y3 := k9 (bx_below HBV.out (bx_below HV1.out (bx_below HB4.out T3.out))) Hup.out.2.2
  have hr2Z := Hr2.out.below HBV.out
  have hr29 := rt_gr hr2Z hg9 (RAp.new (ao := none) (fun a e => by cases e) HWo.out.bd HBW4.out Hli2.out hr2Z)
  have hsm := same_any V9.drew ao9 cap9 L a2 c2 (slot0 L) (htt.below (Below.refl _ V9).drew) (hr29.below (Below.refl _ V9).drew) (by have := HLl.out; omega) (by rw [slot0_len]; have := HLl.out; omega)
  rw [slot0_len, slot0_fst, decide_eq_true (rfl : L = L)] at hsm
  have Hsm := Lib.hid hsm
  have Hne : Hid (b5 ≠ b3) := (by have h7 := Hb43.out.2; have h8 := HV1.out.size; have h9 := HN.out; omega : b5 ≠ b3)
  have Hlt := Lib.hid (Array.getElem?_eq_some_iff.1 y5).1
  have hld : ∀ W', (W'.heap[b5]? = V9.heap[b5]?) → (Instr.loadAt rwT (.pointer (some ⟨b5, 0, none⟩))).run Try.prog W' = .ok (.agg #[.int .i64 N, .slice a3 Y.length c3]) W' := fun W' hw => ldRb (hw.trans y5) _ _ _ rfl
  have HldU := Lib.hid hld
  have Hwo9 := Lib.hid hwo9
  have Hg9 := Lib.hid hg9
  have HF9 := Lib.hid hF9
  have Y3 := Lib.hid y3
  clear k9 y5 y3 hwo9 hg9 hF9 hWV hr2Z hr29 hsm hld htt
  go_upto_region 16 with fail
  refine wp_region_held_drew (S := fun W' => W'.heap[b5]? = V9.heap[b5]?) (by kernel_rfl) rfl (fun hHeld => ?_)
  refine wpAnyH_take (i := 0) (v := .agg #[.int .i64 N, .slice a3 Y.length c3]) rfl (by kernel_rfl) (by kernel_rfl) (by kernel_rfl) (fun _ _ _ h => h) (Or.inl ⟨by rfl, ?_⟩) (by assumption) ?_
  · intro w8 hSw; exact ld_takeT rfl (HldU.out w8 hSw) rfl
  simp only [Act.put, List.getElem_toArray, List.getElem_cons_zero, List.getElem_cons_succ, List.setIfInBounds_toArray, List.set_cons_zero, List.set_cons_succ]
  refine wpAnyH_take (i := 1) (v := ?_) rfl (by kernel_rfl) (by kernel_rfl) (by kernel_rfl) (fun _ _ _ h => h) (Or.inl ⟨by rfl, ?_⟩) (by assumption) ?_
  rotate_left
  · intro w8 hSw; clear hSw; go_simp; (try with_reducible rfl)
  simp only [Act.put, List.getElem_toArray, List.getElem_cons_zero, List.getElem_cons_succ, List.setIfInBounds_toArray, List.set_cons_zero, List.set_cons_succ]
  refine wpAnyH_take (i := 2) (v := ?_) rfl (by kernel_rfl) (by kernel_rfl) (by kernel_rfl) (fun _ _ _ h => h) (Or.inl ⟨by rfl, ?_⟩) (by assumption) ?_
  rotate_left
  · intro w8 hSw; clear hSw; go_simp; (try with_reducible rfl)
  simp only [Act.put, List.getElem_toArray, List.getElem_cons_zero, List.getElem_cons_succ, List.setIfInBounds_toArray, List.set_cons_zero, List.set_cons_succ]
  refine wpAnyH_take (i := 3) (v := ?_) rfl (by kernel_rfl) (by kernel_rfl) (by kernel_rfl) (fun _ _ _ h => h) (Or.inl ⟨by rfl, ?_⟩) (by assumption) ?_
  rotate_left
  · intro w8 hSw; clear hSw; go_simp; (try with_reducible rfl)
  simp only [Act.put, List.getElem_toArray, List.getElem_cons_zero, List.getElem_cons_succ, List.setIfInBounds_toArray, List.set_cons_zero, List.set_cons_succ]
  refine wpAnyH_take (i := 4) (v := ?_) rfl (by kernel_rfl) (by kernel_rfl) (by kernel_rfl) (fun _ _ _ h => h) (Or.inl ⟨by rfl, ?_⟩) (by assumption) ?_
  rotate_left
  · intro w8 hSw; clear hSw; go_simp; (try with_reducible rfl)
  simp only [Act.put, List.getElem_toArray, List.getElem_cons_zero, List.getElem_cons_succ, List.setIfInBounds_toArray, List.set_cons_zero, List.set_cons_succ]
  refine wpAnyH_take (i := 5) (v := ?_) rfl (by kernel_rfl) (by kernel_rfl) (by kernel_rfl) (fun _ _ _ h => h) (Or.inl ⟨by rfl, ?_⟩) (by assumption) ?_
  rotate_left
  · intro w8 hSw; clear hSw; go_simp; (try with_reducible rfl)
  simp only [Act.put, List.getElem_toArray, List.getElem_cons_zero, List.getElem_cons_succ, List.setIfInBounds_toArray, List.set_cons_zero, List.set_cons_succ]
  refine wpAnyH_take (i := 6) (v := ?_) rfl (by kernel_rfl) (by kernel_rfl) (by kernel_rfl) (fun _ _ _ h => h) (Or.inl ⟨by rfl, ?_⟩) (by assumption) ?_
  rotate_left
  · intro w8 hSw; clear hSw; go_simp; (try with_reducible rfl)
  simp only [Act.put, List.getElem_toArray, List.getElem_cons_zero, List.getElem_cons_succ, List.setIfInBounds_toArray, List.set_cons_zero, List.set_cons_succ]
  refine wpAnyH_ready (rs := [7]) (by kernel_rfl) (by simp) ?_
  refine AllReadyH.cons rfl (fun K hK => ?_) AllReadyH.nil
  go_simp
  go_at_call 20
  refine (Hsm.out).mono ?_
  rintro e V10 ⟨rfl, hb10⟩
  refine hK.out _ _ (hb10.block b5 Hlt.out) (fun hHeld => ?_)
  clear hK K
  try simp only [Act.put, List.getElem_toArray, List.getElem_cons_zero, List.getElem_cons_succ, List.setIfInBounds_toArray, List.set_cons_zero, List.set_cons_succ]
  refine wpAnyH_take (i := 8) (v := ?_) rfl (by kernel_rfl) (by kernel_rfl) (by kernel_rfl) (fun _ _ _ h => h) (Or.inl ⟨by rfl, ?_⟩) (by assumption) ?_
  rotate_left
  · intro w8 hSw; clear hSw; go_simp; (try with_reducible rfl)
  simp only [Act.put, List.getElem_toArray, List.getElem_cons_zero, List.getElem_cons_succ, List.setIfInBounds_toArray, List.set_cons_zero, List.set_cons_succ]
  have hBU10 := below_on (Below.refl _ V9).drew hb10 (Nat.le_refl _)
  have x39 := bx_below hBU10 Y3.out
  have y0 := block_cell x39 0
  have y1 := block_cell x39 1
  have f0 := block_free x39 0
  have f1 := block_free x39 1
  have l3 := (Array.getElem?_eq_some_iff.1 x39).1
  simp at y0 y1 f0 f1
  have hrZ := Hr3.out.below HBV.out
  obtain ⟨U, hU⟩ := wdone_sets HWo.out.bel.size HBZ.out hrZ (RAp.new HA.out HWo.out.bd HBW4.out Hli.out hrZ) (Hwo9.out.below hBU10) (Hg9.out.trans (Gr.below hBU10)) HF9.out (bx_below HBV.out (bx_below HV1.out (bx_below HB4.out T3.out))) Hup.out.2.2 (HF.out _ Hup.out.2.2) (.int .i64 N) (.slice a3 Y.length c3)
  have HU := Lib.hid hU
  have HS9 := Lib.hid hHeld
  clear hU hb10 hBU10 x39 hrZ
  refine wpAnyH_ready (rs := [9]) (by kernel_rfl) (by simp) ?_
  refine AllReadyH.cons rfl (fun K hK => ?_) AllReadyH.nil
  go_simp
  rw [← HU.out.1]
  refine hK.out _ _ ((HU.out.2.2.2 b5 Hne.out).trans HS9.out) (fun hHeld => ?_)
  clear hK K y0 y1 f0 f1 l3
  try simp only [Act.put, List.getElem_toArray, List.getElem_cons_zero, List.getElem_cons_succ, List.setIfInBounds_toArray, List.set_cons_zero, List.set_cons_succ]
  refine wpAnyH_take (i := 10) (v := ?_) rfl (by kernel_rfl) (by kernel_rfl) (by kernel_rfl) (fun _ _ _ h => h) (Or.inl ⟨by rfl, ?_⟩) (by assumption) ?_
  rotate_left
  · intro w8 hSw; clear hSw; go_simp; (try with_reducible rfl)
  simp only [Act.put, List.getElem_toArray, List.getElem_cons_zero, List.getElem_cons_succ, List.setIfInBounds_toArray, List.set_cons_zero, List.set_cons_succ]
  refine wpAnyH_done (by kernel_rfl) ?_ _
  have u3 := HU.out.2.2.1
  have u0 := block_cell u3 0
  have u1 := block_cell u3 1
  have ul := (Array.getElem?_eq_some_iff.1 u3).1
  simp at u0 u1
  clear u3
  go_wp2_with fail
  refine bodyPost_ret (v := .tuple #[.agg #[.int .i64 N, .slice a3 Y.length c3], .bool true]) ?_ rfl ⟨N, Y, F9, a3, c3, rfl, HU.out.2.1⟩
  simp [results, Try.results17, go_sem, u0, u1, ul]
end Go.Proofs.Ytadghaiengonoaa
