/- Lemmas for BagApart (By). No statement of the seat is proved here. -/
import Derived.Test.YtbmkgcoolofmpaaA32
namespace Go.Proofs.Ytbmkgcoolofmpaa
set_option linter.unusedVariables false
set_option linter.unusedSimpArgs false
set_option linter.unusedSectionVars false
open Go Go.RowKit Go.Maps Go.Shelf
theorem MgRow.grF {W W' : World} {F : Nat → Prop} {lo : Option Addr} {lc : Nat} {X : List Mp} (h : MgRow W rmT lo lc X) (hg : Gr F W W') (hF : ∀ i, F i → elem? W i ≠ some rmT) : MgRow W' rmT lo lc X := Rw.gr h hg hF
set_option maxRecDepth 100000 in
set_option maxHeartbeats 8000000 in
theorem do_move (Wb W : World) (F : Nat → Prop) (b room : Nat) (A : List Int) (aA : Option Addr) (cA : Nat) (X : List Mp) (lo : Option Addr) (lc : Nat) (o : BOp) (hk : o.kind = 2) (h : Pr Wb W F b room A aA cA X lo lc) (hA : ∀ a ∈ A, KeyOk a) :
    Calls Try.prog 9 #[.pointer (some ⟨b, 0, none⟩), rV room aA A.length cA lo X.length lc, .agg (oC o)] W (BDone Wb W F b room) := by
  have h5 := h.len
  obtain ⟨⟨l, hbg, hlm⟩, hlow, hiz, hrow, harg⟩ := h
  obtain ⟨W1, hW1⟩ : ∃ W1, W1 = W.alloc (.cells #[.int .i64 (room : Nat), .slice aA A.length cA, .slice lo X.length lc] rbT) := ⟨_, rfl⟩
  obtain ⟨W2, hW2⟩ : ∃ W2, W2 = W1.alloc (.cells (oC o) boT) := ⟨_, rfl⟩
  obtain ⟨W3, hW3⟩ : ∃ W3, W3 = W2.alloc (.cells #[.int .i64 0, .slice none 0 0, .slice none 0 0] rbT) := ⟨_, rfl⟩
  obtain ⟨b1, hb1⟩ : ∃ b, b = W.heap.size := ⟨_, rfl⟩
  obtain ⟨b2, hb2⟩ : ∃ b, b = W.heap.size + 1 := ⟨_, rfl⟩
  obtain ⟨b3, hb3⟩ : ∃ b, b = W.heap.size + 1 + 1 := ⟨_, rfl⟩
  have z1 : W1.heap.size = W.heap.size + 1 := by rw [hW1]; simp
  have z2 : W2.heap.size = W.heap.size + 1 + 1 := by rw [hW2]; simp [z1]
  have B1 : Below W.heap.size W W1 := by rw [hW1]; exact below_new _ _
  have B2 : Below W1.heap.size W1 W2 := by rw [hW2]; exact below_new _ _
  have B3 : Below W2.heap.size W2 W3 := by rw [hW3]; exact below_new _ _
  have hB3 := below_on (below_on B1 B2 (Nat.le_refl _)) B3 (Nat.le_refl _)
  have t1 : W3.heap[b1]? = some (.cells #[.int .i64 (room : Nat), .slice aA A.length cA, .slice lo X.length lc] rbT (0, 0)) := by
    rw [B3.block b1 (by omega), B2.block b1 (by omega), hW1, hb1]; exact heap_alloc_new _ _
  have t2 : W3.heap[b2]? = some (.cells (oC o) boT (0, 0)) := by
    rw [B3.block b2 (by omega), hW2, hb2, ← z1]; exact heap_alloc_new _ _
  have t3 : W3.heap[b3]? = some (.cells #[.int .i64 0, .slice none 0 0, .slice none 0 0] rbT (0, 0)) := by
    rw [hW3, hb3, ← z2]; exact heap_alloc_new _ _
  have Hup : Hid (W.heap.size ≤ b1 ∧ W.heap.size ≤ b2 ∧ W.heap.size ≤ b3) := ⟨by omega, by omega, by omega⟩
  have Hap : Hid (b1 ≠ b2 ∧ b1 ≠ b3 ∧ b2 ≠ b3) := ⟨by omega, by omega, by omega⟩
  have HB3 := Lib.hid hB3
  have T1 := Lib.hid t1
  have T2 := Lib.hid t2
  have T3 := Lib.hid t3
  clear z1 z2 B1 B2 B3 hB3 t1 t2 t3
  have hob := OpBox.of T2.out
  have HOB := Lib.hid hob
  obtain ⟨k0, k1, k2, k18, kmsg, kl⟩ := hob
  rw [hk] at k0
  have Hrm := Lib.hid (rmove_any W3 room A.length cA lc aA lo X o.k o.dst h5 (hrow.below HB3.out))
  unfold rV at Hrm
  have hF0 := hbg.elem
  have H5 := Lib.hid h5
  have HBg := Lib.hid hbg
  have HF : Hid (∀ i, F i → i < W.heap.size ∧ Wb.heap.size ≤ i) := fun i hi => ⟨(hF0 i hi).1, (hF0 i hi).2.1⟩
  have Hp := Lib.hid (And.intro hlm (And.intro hlow (And.intro hiz (And.intro harg hA))))
  have HB3W := Lib.hid HB3.out
  have Hmv := Lib.hid (fun V (hb : Below W.heap.size W V) => bmove_any (hbg.below hb) o.k o.dst)
  clear hbg hlm hlow hiz hrow harg hA h5 hF0 hk
  have q0 := block_cell T1.out 0
  have q1 := block_cell T1.out 1
  have q2 := block_cell T1.out 2
  have ql := bx_lt T1.out
  simp at q0 q1 q2
  unfold rV
  go_enter Try.func9, Try.ntmps9
  go_upto_region 1 with fail
  rw [← hW1, ← hW2, ← hW3, ← hb3, ← hb2, ← hb1]
  clear hW1 hW2 hW3 hb1 hb2 hb3
  go_wp2_with fail
  refine (show Calls _ _ _ _ _ from Hrm.out).mono ?_
  rintro e V4 ⟨lo2, lc2, rfl, hr2, hb4⟩
  unfold rV
  obtain ⟨X2, hX2⟩ : ∃ X2, X2 = moveLk X o.k o.dst := ⟨_, rfl⟩
  obtain ⟨ok, hok⟩ : ∃ ok, ok = inM X o.k o.dst := ⟨_, rfl⟩
  rw [← hX2] at hr2
  rw [← hX2, ← hok]
  have HE := Lib.hid (And.intro hX2 hok)
  have HV4 := Lib.hid hb4
  have HR4 := Lib.hid hr2
  clear q0 q1 q2 ql k0 k1 k2 k18 kmsg kl hb4 hr2 hX2 hok
  go_upto_region 8 with (first
    | (refine wpl_alB rfl rfl ?_
       intro p10 V5 hp10 hb5 hx10 hz5
       have hp10' := Lib.hid (Nat.le_of_eq hp10.symm)
       clear hp10 hz5)
    | (refine wpl_stB rfl rfl rfl rfl ⟨rfl, rfl, rfl⟩ hx10 ?_
       intro V7 hx107 hg7 hz7
       clear hz7))
  have hB7 : Below W3.heap.size W3 V7 := below_on HV4.out (below_grown hb5 hg7 hp10'.out hb5.size) (Nat.le_refl _)
  have HB7 := Lib.hid hB7
  have HBW7 := Lib.hid (below_on HB3W.out hB7 (Nat.le_refl _))
  have HX10 := Lib.hid hx107
  have HR7 := Lib.hid (HR4.out.below (below_grown hb5 hg7 hp10'.out hb5.size))
  have D3 := Lib.hid (bx_below hB7 T3.out)
  have D2 := Lib.hid (bx_below hB7 T2.out)
  have Hp10 : Hid (W3.heap.size ≤ p10) := (Nat.le_trans HV4.out.size hp10'.out : W3.heap.size ≤ p10)
  clear hB7 hb5 hg7 hx107 hx10
  refine wp_region_held_drew (S := fun V => V.heap[p10]? = V7.heap[p10]? ∧ V.heap[b2]? = V7.heap[b2]?) (by kernel_rfl) ⟨rfl, rfl⟩ (fun hHeld => ?_)
  refine wpAnyH_take (i := 0) (v := .agg #[.int .i64 (room : Nat), .slice aA A.length cA, .slice lo2 X2.length lc2]) rfl (by kernel_rfl) (by kernel_rfl) (by kernel_rfl) (fun _ _ _ h => h) (Or.inl ⟨by rfl, ?_⟩) (by assumption) ?_
  · intro w8 hSw; exact ld_takeT rfl (ldRb (hSw.1.trans HX10.out)) rfl
  simp only [Act.put, List.getElem_toArray, List.getElem_cons_zero, List.getElem_cons_succ, List.setIfInBounds_toArray, List.set_cons_zero, List.set_cons_succ]
  refine wpAnyH_take (i := 1) (v := ?_) rfl (by kernel_rfl) (by kernel_rfl) (by kernel_rfl) (fun _ _ _ h => h) (Or.inl ⟨by rfl, ?_⟩) (by assumption) ?_
  rotate_left
  · intro w8 hSw; clear hSw; go_simp; (try with_reducible rfl)
  simp only [Act.put, List.getElem_toArray, List.getElem_cons_zero, List.getElem_cons_succ, List.setIfInBounds_toArray, List.set_cons_zero, List.set_cons_succ]
  refine wpAnyH_take (i := 2) (v := ?_) rfl (by kernel_rfl) (by kernel_rfl) (by kernel_rfl) (fun _ _ _ h => h) (Or.inl ⟨by rfl, ?_⟩) (by assumption) ?_
  rotate_left
  · intro w8 hSw; clear hSw; go_simp; (try with_reducible rfl)
  simp only [Act.put, List.getElem_toArray, List.getElem_cons_zero, List.getElem_cons_succ, List.setIfInBounds_toArray, List.set_cons_zero, List.set_cons_succ]
  refine wpAnyH_take (i := 3) (v := .int .i64 o.k) rfl (by kernel_rfl) (by kernel_rfl) (by kernel_rfl) (fun _ _ _ h => h) (Or.inl ⟨by rfl, ?_⟩) (by assumption) ?_
  · intro w8 hSw; exact ld_takeT rfl (ldI (OpBox.of (hSw.2.trans D2.out)).k) rfl
  simp only [Act.put, List.getElem_toArray, List.getElem_cons_zero, List.getElem_cons_succ, List.setIfInBounds_toArray, List.set_cons_zero, List.set_cons_succ]
  refine wpAnyH_take (i := 4) (v := ?_) rfl (by kernel_rfl) (by kernel_rfl) (by kernel_rfl) (fun _ _ _ h => h) (Or.inl ⟨by rfl, ?_⟩) (by assumption) ?_
  rotate_left
  · intro w8 hSw; clear hSw; go_simp; (try with_reducible rfl)
  simp only [Act.put, List.getElem_toArray, List.getElem_cons_zero, List.getElem_cons_succ, List.setIfInBounds_toArray, List.set_cons_zero, List.set_cons_succ]
  refine wpAnyH_take (i := 5) (v := .int .i64 o.dst) rfl (by kernel_rfl) (by kernel_rfl) (by kernel_rfl) (fun _ _ _ h => h) (Or.inl ⟨by rfl, ?_⟩) (by assumption) ?_
  · intro w8 hSw; exact ld_takeT rfl (ldI (OpBox.of (hSw.2.trans D2.out)).dst) rfl
  simp only [Act.put, List.getElem_toArray, List.getElem_cons_zero, List.getElem_cons_succ, List.setIfInBounds_toArray, List.set_cons_zero, List.set_cons_succ]
  refine wpAnyH_take (i := 7) (v := ?_) rfl (by kernel_rfl) (by kernel_rfl) (by kernel_rfl) (fun _ _ _ h => h) (Or.inl ⟨by rfl, ?_⟩) (by assumption) ?_
  rotate_left
  · intro w8 hSw; clear hSw; go_simp; (try with_reducible rfl)
  simp only [Act.put, List.getElem_toArray, List.getElem_cons_zero, List.getElem_cons_succ, List.setIfInBounds_toArray, List.set_cons_zero, List.set_cons_succ]
  refine wpAnyH_ready (rs := [6]) (by kernel_rfl) (by simp) ?_
  refine AllReadyH.cons rfl (fun K hK => ?_) AllReadyH.nil
  go_simp
  go_at_call 15
  refine ((Hmv.out _ (below_on HBW7.out (Below.refl _ V7).drew (Nat.le_refl _)))).mono ?_
  rintro e V9 ⟨rfl, F1, hbg9, hG9, hF9⟩
  refine hK.out _ _ ⟨(hG9.block p10 (bx_lt HX10.out) (fun e => Nat.lt_irrefl _ (Nat.lt_of_lt_of_le (HF.out _ e).1 (Nat.le_trans HB3W.out.size Hp10.out)))), (hG9.block b2 (bx_lt D2.out) (fun e => Nat.lt_irrefl _ (Nat.lt_of_lt_of_le (HF.out _ e).1 Hup.out.2.1)))⟩ (fun hHeld => ?_)
  clear hK K
  try simp only [Act.put, List.getElem_toArray, List.getElem_cons_zero, List.getElem_cons_succ, List.setIfInBounds_toArray, List.set_cons_zero, List.set_cons_succ]
  rw [inm_map Hp.out.1, ← HE.out.2]
  refine wpAnyH_take (i := 8) (v := ?_) rfl (by kernel_rfl) (by kernel_rfl) (by kernel_rfl) (fun _ _ _ h => h) (Or.inl ⟨by rfl, ?_⟩) (by assumption) ?_
  rotate_left
  · intro w8 hSw; clear hSw; go_simp; (try with_reducible rfl)
  simp only [Act.put, List.getElem_toArray, List.getElem_cons_zero, List.getElem_cons_succ, List.setIfInBounds_toArray, List.set_cons_zero, List.set_cons_succ]
  have hx39 : V9.heap[b3]? = some (.cells #[.int .i64 0, .slice none 0 0, .slice none 0 0] rbT (0, 0)) := by
    have hkV : ∀ {i : Nat} {ob : Obj}, V7.drew.heap[i]? = some ob → W.heap.size ≤ i → V9.heap[i]? = some ob := fun {i} {ob} hx hb => (hG9.block i (bx_lt hx) (fun e => Nat.lt_irrefl _ (Nat.lt_of_lt_of_le (HF.out i e).1 hb))).trans hx
    exact hkV D3.out Hup.out.2.2
  have hr9 : MgRow V9 rmT lo2 lc2 X2 := (HR7.out.below (Below.refl _ V7).drew).grF hG9 (fun i hi e => (HBg.out.below (below_on HBW7.out (Below.refl _ V7).drew (Nat.le_refl _))).off (by decide) (by decide) e hi)
  refine wpAnyH_ready (rs := [9]) (by kernel_rfl) (by simp) ?_
  refine AllReadyH.cons rfl (fun K hK => ?_) AllReadyH.nil
  refine wpo_stB rfl rfl rfl ⟨rfl, rfl, rfl⟩ hx39 (fun U hxU hgU hzU => ?_)
  refine hK.out _ _ ⟨(hgU.block p10 (bx_lt (hHeld.1.trans HX10.out)) (fun e => Nat.lt_irrefl _ (Nat.lt_of_lt_of_le (bx_lt T3.out) ((Option.some.inj e) ▸ Hp10.out)))).trans hHeld.1, (hgU.block b2 (bx_lt (hHeld.2.trans D2.out)) (fun e => Hap.out.2.2 (Option.some.inj e))).trans hHeld.2⟩ (fun hHeld => ?_)
  clear hK K
  try simp only [Act.put, List.getElem_toArray, List.getElem_cons_zero, List.getElem_cons_succ, List.setIfInBounds_toArray, List.set_cons_zero, List.set_cons_succ]
  refine wpAnyH_take (i := 10) (v := ?_) rfl (by kernel_rfl) (by kernel_rfl) (by kernel_rfl) (fun _ _ _ h => h) (Or.inl ⟨by rfl, ?_⟩) (by assumption) ?_
  rotate_left
  · intro w8 hSw; clear hSw; go_simp; (try with_reducible rfl)
  simp only [Act.put, List.getElem_toArray, List.getElem_cons_zero, List.getElem_cons_succ, List.setIfInBounds_toArray, List.set_cons_zero, List.set_cons_succ]
  refine wpAnyH_done (by kernel_rfl) ?_ _
  obtain ⟨e1, e2, e3⟩ := bdone_end (X := X2) (A := A) (aA := aA) (cA := cA) Hp.out.2.1 (below_on HBW7.out (Below.refl _ V7).drew (Nat.le_refl _)) Hup.out.2.2 (bx_lt D3.out) HF.out hbg9 hG9 hF9 (Below.refl _ V9) (by rw [moveLk_map, Hp.out.1, ← moveLk_map, HE.out.1]) hr9 hx39 hgU (fun x hx => Hp.out.2.2.2.1 x (mem_moveLk (HE.out.1 ▸ hx))) Hp.out.2.2.1
  have hfin : BDone Wb W F b room (.returned (.tuple #[.agg #[.int .i64 (room : Nat), .slice aA A.length cA, .slice lo2 X2.length lc2], .bool true])) U := ⟨A, aA, cA, X2, lo2, lc2, _, rfl, e1, Hp.out.2.2.2.2, e2, e3⟩
  have Hfin := Lib.hid hfin
  clear hfin e1 e2 e3
  go_wp2_with fail
  exact bodyPost_ret (v := .tuple #[.agg #[.int .i64 (room : Nat), .slice aA A.length cA, .slice lo2 X2.length lc2], .bool true]) (results_2 Try.results9 rfl rfl (lvRb hxU)) rfl Hfin.out
set_option maxRecDepth 100000 in
set_option maxHeartbeats 8000000 in
theorem do_wall (Wb W : World) (F : Nat → Prop) (b room : Nat) (A : List Int) (aA : Option Addr) (cA : Nat) (X : List Mp) (lo : Option Addr) (lc : Nat) (o : BOp) (hk : o.kind = 3) (h : Pr Wb W F b room A aA cA X lo lc) (hA : ∀ a ∈ A, KeyOk a) (hls : Iz Wb .i64 o.la o.lcap o.ls) (hlk : ∀ a ∈ o.ls, KeyOk a) (hl4 : o.ls.length ≤ 500) :
    Calls Try.prog 9 #[.pointer (some ⟨b, 0, none⟩), rV room aA A.length cA lo X.length lc, .agg (oC o)] W (BDone Wb W F b room) := by
  have h5 := h.len
  obtain ⟨⟨l, hbg, hlm⟩, hlow, hiz, hrow, harg⟩ := h
  obtain ⟨W1, hW1⟩ : ∃ W1, W1 = W.alloc (.cells #[.int .i64 (room : Nat), .slice aA A.length cA, .slice lo X.length lc] rbT) := ⟨_, rfl⟩
  obtain ⟨W2, hW2⟩ : ∃ W2, W2 = W1.alloc (.cells (oC o) boT) := ⟨_, rfl⟩
  obtain ⟨W3, hW3⟩ : ∃ W3, W3 = W2.alloc (.cells #[.int .i64 0, .slice none 0 0, .slice none 0 0] rbT) := ⟨_, rfl⟩
  obtain ⟨b1, hb1⟩ : ∃ b, b = W.heap.size := ⟨_, rfl⟩
  obtain ⟨b2, hb2⟩ : ∃ b, b = W.heap.size + 1 := ⟨_, rfl⟩
  obtain ⟨b3, hb3⟩ : ∃ b, b = W.heap.size + 1 + 1 := ⟨_, rfl⟩
  have z1 : W1.heap.size = W.heap.size + 1 := by rw [hW1]; simp
  have z2 : W2.heap.size = W.heap.size + 1 + 1 := by rw [hW2]; simp [z1]
  have B1 : Below W.heap.size W W1 := by rw [hW1]; exact below_new _ _
  have B2 : Below W1.heap.size W1 W2 := by rw [hW2]; exact below_new _ _
  have B3 : Below W2.heap.size W2 W3 := by rw [hW3]; exact below_new _ _
  have hB3 := below_on (below_on B1 B2 (Nat.le_refl _)) B3 (Nat.le_refl _)
  have t1 : W3.heap[b1]? = some (.cells #[.int .i64 (room : Nat), .slice aA A.length cA, .slice lo X.length lc] rbT (0, 0)) := by
    rw [B3.block b1 (by omega), B2.block b1 (by omega), hW1, hb1]; exact heap_alloc_new _ _
  have t2 : W3.heap[b2]? = some (.cells (oC o) boT (0, 0)) := by
    rw [B3.block b2 (by omega), hW2, hb2, ← z1]; exact heap_alloc_new _ _
  have t3 : W3.heap[b3]? = some (.cells #[.int .i64 0, .slice none 0 0, .slice none 0 0] rbT (0, 0)) := by
    rw [hW3, hb3, ← z2]; exact heap_alloc_new _ _
  have Hup : Hid (W.heap.size ≤ b1 ∧ W.heap.size ≤ b2 ∧ W.heap.size ≤ b3) := ⟨by omega, by omega, by omega⟩
  have Hap : Hid (b1 ≠ b2 ∧ b1 ≠ b3 ∧ b2 ≠ b3) := ⟨by omega, by omega, by omega⟩
  have HB3 := Lib.hid hB3
  have T1 := Lib.hid t1
  have T2 := Lib.hid t2
  have T3 := Lib.hid t3
  clear z1 z2 B1 B2 B3 hB3 t1 t2 t3
  have hob := OpBox.of T2.out
  have HOB := Lib.hid hob
  obtain ⟨k0, k1, k2, k18, kmsg, kl⟩ := hob
  rw [hk] at k0
  have Hrm := Lib.hid (rwall_o W3 room A.length cA o.lcap lc o.ls aA o.la lo X (hls.below (below_on hlow HB3.out (Nat.le_refl _))) h5 (hrow.below HB3.out))
  unfold rV at Hrm
  have hF0 := hbg.elem
  have H5 := Lib.hid h5
  have HBg := Lib.hid hbg
  have HF : Hid (∀ i, F i → i < W.heap.size ∧ Wb.heap.size ≤ i) := fun i hi => ⟨(hF0 i hi).1, (hF0 i hi).2.1⟩
  have Hp := Lib.hid (And.intro hlm (And.intro hlow (And.intro hiz (And.intro harg hA))))
  have HB3W := Lib.hid HB3.out
  have hbw : Wb.heap.size ≤ W.heap.size := hlow.size
  have Hmv := Lib.hid (fun V (hb : Below W.heap.size W V) => bwall_o (hbg.below hb) (Nat.le_trans hbw hb.size) o.ls o.la o.lcap (fun V' hg => hls.below ((below_on hlow hb (Nat.le_refl _)).trans (hg.above (Nat.le_trans hbw hb.size) (fun i hi => (hF0 i hi).2.1)))) hlk hl4)
  have HLS := Lib.hid (And.intro hls hlk)
  clear hbg hlm hlow hiz hrow harg hA h5 hF0 hk hls hlk hl4 hbw
  have q0 := block_cell T1.out 0
  have q1 := block_cell T1.out 1
  have q2 := block_cell T1.out 2
  have ql := bx_lt T1.out
  simp at q0 q1 q2
  unfold rV
  go_enter Try.func9, Try.ntmps9
  go_upto_region 1 with fail
  rw [← hW1, ← hW2, ← hW3, ← hb3, ← hb2, ← hb1]
  clear hW1 hW2 hW3 hb1 hb2 hb3
  go_wp2_with fail
  refine (show Calls _ _ _ _ _ from Hrm.out).mono ?_
  rintro e V4 ⟨lo2, lc2, rfl, hr2, hb4⟩
  unfold rV
  have hlen : ((l.length : Int) - ((keepL (inL o.ls) l).length : Nat)) = ((X.length : Int) - ((keepM o.ls X).length : Nat)) := by
    have e1 : l.length = X.length := by have := congrArg List.length Hp.out.1; simpa using this
    have e2 : (keepL (inL o.ls) l).length = (keepM o.ls X).length := by have := congrArg List.length (keep_map (A := o.ls) Hp.out.1); simpa using this
    rw [e1, e2]
  obtain ⟨lost, hlost⟩ : ∃ lost, lost = ((X.length : Int) - ((keepM o.ls X).length : Nat)) := ⟨_, rfl⟩
  rw [← hlost] at hlen
  rw [← hlost]
  obtain ⟨X2, hX2⟩ : ∃ X2, X2 = keepM o.ls X := ⟨_, rfl⟩
  rw [← hX2] at hr2
  rw [← hX2]
  have HE := Lib.hid (And.intro hX2 hlen)
  have HV4 := Lib.hid hb4
  have HR4 := Lib.hid hr2
  clear q0 q1 q2 ql k0 k1 k2 k18 kmsg kl hb4 hr2 hX2 hlen hlost
  go_upto_region 11 with (first
    | (refine wpl_alB rfl rfl ?_
       intro p10 V5 hp10 hb5 hx10 hz5
       have hp10' := Lib.hid (Nat.le_of_eq hp10.symm)
       clear hp10 hz5)
    | (refine wpl_stB rfl rfl rfl rfl ⟨rfl, rfl, rfl⟩ hx10 ?_
       intro V7 hx107 hg7 hz7
       clear hz7))
  have hB7 : Below W3.heap.size W3 V7 := below_on HV4.out (below_grown hb5 hg7 hp10'.out hb5.size) (Nat.le_refl _)
  have HB7 := Lib.hid hB7
  have HBW7 := Lib.hid (below_on HB3W.out hB7 (Nat.le_refl _))
  have HX10 := Lib.hid hx107
  have HR7 := Lib.hid (HR4.out.below (below_grown hb5 hg7 hp10'.out hb5.size))
  have D3 := Lib.hid (bx_below hB7 T3.out)
  have D2 := Lib.hid (bx_below hB7 T2.out)
  have Hp10 : Hid (W3.heap.size ≤ p10) := (Nat.le_trans HV4.out.size hp10'.out : W3.heap.size ≤ p10)
  clear hB7 hb5 hg7 hx107 hx10
  refine wp_region_held_drew (S := fun V => V.heap[p10]? = V7.heap[p10]? ∧ V.heap[b2]? = V7.heap[b2]?) (by kernel_rfl) ⟨rfl, rfl⟩ (fun hHeld => ?_)
  refine wpAnyH_take (i := 0) (v := .agg #[.int .i64 (room : Nat), .slice o.la o.ls.length o.lcap, .slice lo2 X2.length lc2]) rfl (by kernel_rfl) (by kernel_rfl) (by kernel_rfl) (fun _ _ _ h => h) (Or.inl ⟨by rfl, ?_⟩) (by assumption) ?_
  · intro w8 hSw; exact ld_takeT rfl (ldRb (hSw.1.trans HX10.out)) rfl
  simp only [Act.put, List.getElem_toArray, List.getElem_cons_zero, List.getElem_cons_succ, List.setIfInBounds_toArray, List.set_cons_zero, List.set_cons_succ]
  refine wpAnyH_take (i := 1) (v := ?_) rfl (by kernel_rfl) (by kernel_rfl) (by kernel_rfl) (fun _ _ _ h => h) (Or.inl ⟨by rfl, ?_⟩) (by assumption) ?_
  rotate_left
  · intro w8 hSw; clear hSw; go_simp; (try with_reducible rfl)
  simp only [Act.put, List.getElem_toArray, List.getElem_cons_zero, List.getElem_cons_succ, List.setIfInBounds_toArray, List.set_cons_zero, List.set_cons_succ]
  refine wpAnyH_take (i := 2) (v := ?_) rfl (by kernel_rfl) (by kernel_rfl) (by kernel_rfl) (fun _ _ _ h => h) (Or.inl ⟨by rfl, ?_⟩) (by assumption) ?_
  rotate_left
  · intro w8 hSw; clear hSw; go_simp; (try with_reducible rfl)
  simp only [Act.put, List.getElem_toArray, List.getElem_cons_zero, List.getElem_cons_succ, List.setIfInBounds_toArray, List.set_cons_zero, List.set_cons_succ]
  refine wpAnyH_take (i := 3) (v := .slice o.la o.ls.length o.lcap) rfl (by kernel_rfl) (by kernel_rfl) (by kernel_rfl) (fun _ _ _ h => h) (Or.inl ⟨by rfl, ?_⟩) (by assumption) ?_
  · intro w8 hSw; exact ld_takeT rfl (ldIs (OpBox.of (hSw.2.trans D2.out)).ls) rfl
  simp only [Act.put, List.getElem_toArray, List.getElem_cons_zero, List.getElem_cons_succ, List.setIfInBounds_toArray, List.set_cons_zero, List.set_cons_succ]
  refine wpAnyH_take (i := 5) (v := ?_) rfl (by kernel_rfl) (by kernel_rfl) (by kernel_rfl) (fun _ _ _ h => h) (Or.inl ⟨by rfl, ?_⟩) (by assumption) ?_
  rotate_left
  · intro w8 hSw; clear hSw; go_simp; (try with_reducible rfl)
  simp only [Act.put, List.getElem_toArray, List.getElem_cons_zero, List.getElem_cons_succ, List.setIfInBounds_toArray, List.set_cons_zero, List.set_cons_succ]
  refine wpAnyH_ready (rs := [4]) (by kernel_rfl) (by simp) ?_
  refine AllReadyH.cons rfl (fun K hK => ?_) AllReadyH.nil
  go_simp
  go_at_call 16
  refine ((Hmv.out _ (below_on HBW7.out (Below.refl _ V7).drew (Nat.le_refl _)))).mono ?_
  rintro e V9 ⟨rfl, F1, hbg9, hG9, hF9⟩
  refine hK.out _ _ ⟨(hG9.block p10 (bx_lt HX10.out) (fun e => Nat.lt_irrefl _ (Nat.lt_of_lt_of_le (HF.out _ e).1 (Nat.le_trans HB3W.out.size Hp10.out)))), (hG9.block b2 (bx_lt D2.out) (fun e => Nat.lt_irrefl _ (Nat.lt_of_lt_of_le (HF.out _ e).1 Hup.out.2.1)))⟩ (fun hHeld => ?_)
  clear hK K
  try simp only [Act.put, List.getElem_toArray, List.getElem_cons_zero, List.getElem_cons_succ, List.setIfInBounds_toArray, List.set_cons_zero, List.set_cons_succ]
  rw [HE.out.2]
  refine wpAnyH_take (i := 6) (v := ?_) rfl (by kernel_rfl) (by kernel_rfl) (by kernel_rfl) (fun _ _ _ h => h) (Or.inl ⟨by rfl, ?_⟩) (by assumption) ?_
  rotate_left
  · intro w8 hSw; clear hSw; go_simp; (try with_reducible rfl)
  simp only [Act.put, List.getElem_toArray, List.getElem_cons_zero, List.getElem_cons_succ, List.setIfInBounds_toArray, List.set_cons_zero, List.set_cons_succ]
  have hx39 : V9.heap[b3]? = some (.cells #[.int .i64 0, .slice none 0 0, .slice none 0 0] rbT (0, 0)) := by
    have hkV : ∀ {i : Nat} {ob : Obj}, V7.drew.heap[i]? = some ob → W.heap.size ≤ i → V9.heap[i]? = some ob := fun {i} {ob} hx hb => (hG9.block i (bx_lt hx) (fun e => Nat.lt_irrefl _ (Nat.lt_of_lt_of_le (HF.out i e).1 hb))).trans hx
    exact hkV D3.out Hup.out.2.2
  have hr9 : MgRow V9 rmT lo2 lc2 X2 := (HR7.out.below (Below.refl _ V7).drew).grF hG9 (fun i hi e => (HBg.out.below (below_on HBW7.out (Below.refl _ V7).drew (Nat.le_refl _))).off (by decide) (by decide) e hi)
  refine wpAnyH_ready (rs := [7]) (by kernel_rfl) (by simp) ?_
  refine AllReadyH.cons rfl (fun K hK => ?_) AllReadyH.nil
  refine wpo_stB rfl rfl rfl ⟨rfl, rfl, rfl⟩ hx39 (fun U hxU hgU hzU => ?_)
  refine hK.out _ _ ⟨(hgU.block p10 (bx_lt (hHeld.1.trans HX10.out)) (fun e => Nat.lt_irrefl _ (Nat.lt_of_lt_of_le (bx_lt T3.out) ((Option.some.inj e) ▸ Hp10.out)))).trans hHeld.1, (hgU.block b2 (bx_lt (hHeld.2.trans D2.out)) (fun e => Hap.out.2.2 (Option.some.inj e))).trans hHeld.2⟩ (fun hHeld => ?_)
  clear hK K
  try simp only [Act.put, List.getElem_toArray, List.getElem_cons_zero, List.getElem_cons_succ, List.setIfInBounds_toArray, List.set_cons_zero, List.set_cons_succ]
  refine wpAnyH_take (i := 8) (v := ?_) rfl (by kernel_rfl) (by kernel_rfl) (by kernel_rfl) (fun _ _ _ h => h) (Or.inl ⟨by rfl, ?_⟩) (by assumption) ?_
  rotate_left
  · intro w8 hSw; clear hSw; go_simp; (try with_reducible rfl)
  simp only [Act.put, List.getElem_toArray, List.getElem_cons_zero, List.getElem_cons_succ, List.setIfInBounds_toArray, List.set_cons_zero, List.set_cons_succ]
  refine wpAnyH_done (by kernel_rfl) ?_ _
  obtain ⟨e1, e2, e3⟩ := bdone_end (X := X2) (A := o.ls) (aA := o.la) (cA := o.lcap) Hp.out.2.1 (below_on HBW7.out (Below.refl _ V7).drew (Nat.le_refl _)) Hup.out.2.2 (bx_lt D3.out) HF.out hbg9 hG9 hF9 (Below.refl _ V9) (by rw [keep_map Hp.out.1, HE.out.1]) hr9 hx39 hgU (fun x hx => Hp.out.2.2.2.1 x ((List.mem_filter.1 (show x ∈ keepM o.ls X from HE.out.1 ▸ hx)).1)) HLS.out.1
  have hfin : BDone Wb W F b room (.returned (.tuple #[.agg #[.int .i64 (room : Nat), .slice o.la o.ls.length o.lcap, .slice lo2 X2.length lc2], .bool true])) U := ⟨o.ls, o.la, o.lcap, X2, lo2, lc2, _, rfl, e1, HLS.out.2, e2, e3⟩
  have Hfin := Lib.hid hfin
  clear hfin e1 e2 e3
  go_wp2_with fail
  exact bodyPost_ret (v := .tuple #[.agg #[.int .i64 (room : Nat), .slice o.la o.ls.length o.lcap, .slice lo2 X2.length lc2], .bool true]) (results_2 Try.results9 rfl rfl (lvRb hxU)) rfl Hfin.out
set_option maxRecDepth 100000 in
set_option maxHeartbeats 8000000 in
theorem do_empty (Wb W : World) (F : Nat → Prop) (b room : Nat) (A : List Int) (aA : Option Addr) (cA : Nat) (X : List Mp) (lo : Option Addr) (lc : Nat) (o : BOp) (hk : o.kind = 4) (h : Pr Wb W F b room A aA cA X lo lc) (hA : ∀ a ∈ A, KeyOk a) :
    Calls Try.prog 9 #[.pointer (some ⟨b, 0, none⟩), rV room aA A.length cA lo X.length lc, .agg (oC o)] W (BDone Wb W F b room) := by
  have h5 := h.len
  obtain ⟨⟨l, hbg, hlm⟩, hlow, hiz, hrow, harg⟩ := h
  obtain ⟨W1, hW1⟩ : ∃ W1, W1 = W.alloc (.cells #[.int .i64 (room : Nat), .slice aA A.length cA, .slice lo X.length lc] rbT) := ⟨_, rfl⟩
  obtain ⟨W2, hW2⟩ : ∃ W2, W2 = W1.alloc (.cells (oC o) boT) := ⟨_, rfl⟩
  obtain ⟨W3, hW3⟩ : ∃ W3, W3 = W2.alloc (.cells #[.int .i64 0, .slice none 0 0, .slice none 0 0] rbT) := ⟨_, rfl⟩
  obtain ⟨b1, hb1⟩ : ∃ b, b = W.heap.size := ⟨_, rfl⟩
  obtain ⟨b2, hb2⟩ : ∃ b, b = W.heap.size + 1 := ⟨_, rfl⟩
  obtain ⟨b3, hb3⟩ : ∃ b, b = W.heap.size + 1 + 1 := ⟨_, rfl⟩
  have z1 : W1.heap.size = W.heap.size + 1 := by rw [hW1]; simp
  have z2 : W2.heap.size = W.heap.size + 1 + 1 := by rw [hW2]; simp [z1]
  have B1 : Below W.heap.size W W1 := by rw [hW1]; exact below_new _ _
  have B2 : Below W1.heap.size W1 W2 := by rw [hW2]; exact below_new _ _
  have B3 : Below W2.heap.size W2 W3 := by rw [hW3]; exact below_new _ _
  have hB3 := below_on (below_on B1 B2 (Nat.le_refl _)) B3 (Nat.le_refl _)
  have t1 : W3.heap[b1]? = some (.cells #[.int .i64 (room : Nat), .slice aA A.length cA, .slice lo X.length lc] rbT (0, 0)) := by
    rw [B3.block b1 (by omega), B2.block b1 (by omega), hW1, hb1]; exact heap_alloc_new _ _
  have t2 : W3.heap[b2]? = some (.cells (oC o) boT (0, 0)) := by
    rw [B3.block b2 (by omega), hW2, hb2, ← z1]; exact heap_alloc_new _ _
  have t3 : W3.heap[b3]? = some (.cells #[.int .i64 0, .slice none 0 0, .slice none 0 0] rbT (0, 0)) := by
    rw [hW3, hb3, ← z2]; exact heap_alloc_new _ _
  have Hup : Hid (W.heap.size ≤ b1 ∧ W.heap.size ≤ b2 ∧ W.heap.size ≤ b3) := ⟨by omega, by omega, by omega⟩
  have Hap : Hid (b1 ≠ b2 ∧ b1 ≠ b3 ∧ b2 ≠ b3) := ⟨by omega, by omega, by omega⟩
  have HB3 := Lib.hid hB3
  have T1 := Lib.hid t1
  have T2 := Lib.hid t2
  have T3 := Lib.hid t3
  clear z1 z2 B1 B2 B3 hB3 t1 t2 t3
  have hob := OpBox.of T2.out
  have HOB := Lib.hid hob
  obtain ⟨k0, k1, k2, k18, kmsg, kl⟩ := hob
  rw [hk] at k0
  have hF0 := hbg.elem
  have H5 := Lib.hid h5
  have HBg := Lib.hid hbg
  have HF : Hid (∀ i, F i → i < W.heap.size ∧ Wb.heap.size ≤ i) := fun i hi => ⟨(hF0 i hi).1, (hF0 i hi).2.1⟩
  have Hp := Lib.hid (And.intro hlm (And.intro hlow (And.intro hiz (And.intro harg hA))))
  have HB3W := Lib.hid HB3.out
  have Hmv := Lib.hid (fun V (hb : Below W.heap.size W V) => bempty_o (hbg.below hb))
  have hlen : (l.length : Nat) = X.length := by have := congrArg List.length hlm; simpa using this
  have Hlen := Lib.hid hlen
  have g2 := block_free T1.out 2
  obtain ⟨V7, hV7⟩ : ∃ V, V = W3.setCell ⟨b1, 2, none⟩ (.slice none 0 0) := ⟨_, rfl⟩
  have hx1 : V7.heap[b1]? = some (.cells #[.int .i64 (room : Nat), .slice aA A.length cA, .slice none 0 0] rbT (0, 0)) := by rw [hV7]; exact block_set T1.out 2 _
  have HX1 := Lib.hid hx1
  have D3 : Hid (V7.heap[b3]? = some (.cells #[.int .i64 0, .slice none 0 0, .slice none 0 0] rbT (0, 0))) := (by rw [hV7]; exact (heap_setCell_other W3 ⟨b1, 2, none⟩ b3 _ (fun e => Hap.out.2.1 e.symm)).trans T3.out : V7.heap[b3]? = some (.cells #[.int .i64 0, .slice none 0 0, .slice none 0 0] rbT (0, 0)))
  have HBW7 : Hid (Below W.heap.size W V7) := (by rw [hV7]; exact sets_up HB3.out Hup.out.1 2 _ : Below W.heap.size W V7)
  have HR7 := Lib.hid (show MgRow V7 rmT none 0 [] from Rw.nil V7 rmT 15)
  have HV7 := Lib.hid hV7
  clear hbg hlm hlow hiz hrow harg hA h5 hF0 hk hlen hx1 hV7
  have q0 := block_cell T1.out 0
  have q1 := block_cell T1.out 1
  have q2 := block_cell T1.out 2
  have ql := bx_lt T1.out
  simp at q0 q1 q2
  unfold rV
  go_enter Try.func9, Try.ntmps9
  go_upto_region 1 with fail
  rw [← hW1, ← hW2, ← hW3, ← hb3, ← hb2, ← hb1]
  clear hW1 hW2 hW3 hb1 hb2 hb3
  go_upto_region 15 with fail
  rw [← HV7.out]
  clear q0 q1 q2 ql k0 k1 k2 k18 kmsg kl g2
  refine wp_region_held_drew (S := fun V => V.heap[b1]? = V7.heap[b1]?) (by kernel_rfl) rfl (fun hHeld => ?_)
  refine wpAnyH_take (i := 0) (v := .agg #[.int .i64 (room : Nat), .slice aA A.length cA, .slice none 0 0]) rfl (by kernel_rfl) (by kernel_rfl) (by kernel_rfl) (fun _ _ _ h => h) (Or.inl ⟨by rfl, ?_⟩) (by assumption) ?_
  · intro w8 hSw; exact ld_takeT rfl (ldRb (hSw.trans HX1.out)) rfl
  simp only [Act.put, List.getElem_toArray, List.getElem_cons_zero, List.getElem_cons_succ, List.setIfInBounds_toArray, List.set_cons_zero, List.set_cons_succ]
  refine wpAnyH_take (i := 1) (v := ?_) rfl (by kernel_rfl) (by kernel_rfl) (by kernel_rfl) (fun _ _ _ h => h) (Or.inl ⟨by rfl, ?_⟩) (by assumption) ?_
  rotate_left
  · intro w8 hSw; clear hSw; go_simp; (try with_reducible rfl)
  simp only [Act.put, List.getElem_toArray, List.getElem_cons_zero, List.getElem_cons_succ, List.setIfInBounds_toArray, List.set_cons_zero, List.set_cons_succ]
  refine wpAnyH_take (i := 3) (v := ?_) rfl (by kernel_rfl) (by kernel_rfl) (by kernel_rfl) (fun _ _ _ h => h) (Or.inl ⟨by rfl, ?_⟩) (by assumption) ?_
  rotate_left
  · intro w8 hSw; clear hSw; go_simp; (try with_reducible rfl)
  simp only [Act.put, List.getElem_toArray, List.getElem_cons_zero, List.getElem_cons_succ, List.setIfInBounds_toArray, List.set_cons_zero, List.set_cons_succ]
  refine wpAnyH_ready (rs := [2]) (by kernel_rfl) (by simp) ?_
  refine AllReadyH.cons rfl (fun K hK => ?_) AllReadyH.nil
  go_simp
  go_at_call 17
  refine ((Hmv.out _ (below_on HBW7.out (Below.refl _ V7).drew (Nat.le_refl _)))).mono ?_
  rintro e V9 ⟨rfl, F1, hbg9, hG9, hF9⟩
  refine hK.out _ _ (hG9.block b1 (bx_lt HX1.out) (fun e => Nat.lt_irrefl _ (Nat.lt_of_lt_of_le (HF.out _ e).1 Hup.out.1))) (fun hHeld => ?_)
  clear hK K
  try simp only [Act.put, List.getElem_toArray, List.getElem_cons_zero, List.getElem_cons_succ, List.setIfInBounds_toArray, List.set_cons_zero, List.set_cons_succ]
  rw [Hlen.out]
  refine wpAnyH_take (i := 4) (v := ?_) rfl (by kernel_rfl) (by kernel_rfl) (by kernel_rfl) (fun _ _ _ h => h) (Or.inl ⟨by rfl, ?_⟩) (by assumption) ?_
  rotate_left
  · intro w8 hSw; clear hSw; go_simp; (try with_reducible rfl)
  simp only [Act.put, List.getElem_toArray, List.getElem_cons_zero, List.getElem_cons_succ, List.setIfInBounds_toArray, List.set_cons_zero, List.set_cons_succ]
  have hx39 : V9.heap[b3]? = some (.cells #[.int .i64 0, .slice none 0 0, .slice none 0 0] rbT (0, 0)) := by
    have hkV : ∀ {i : Nat} {ob : Obj}, V7.drew.heap[i]? = some ob → W.heap.size ≤ i → V9.heap[i]? = some ob := fun {i} {ob} hx hb => (hG9.block i (bx_lt hx) (fun e => Nat.lt_irrefl _ (Nat.lt_of_lt_of_le (HF.out i e).1 hb))).trans hx
    exact hkV D3.out Hup.out.2.2
  have hr9 : MgRow V9 rmT none 0 ([] : List Mp) := (HR7.out.below (Below.refl _ V7).drew).grF hG9 (fun i hi e => (HBg.out.below (below_on HBW7.out (Below.refl _ V7).drew (Nat.le_refl _))).off (by decide) (by decide) e hi)
  refine wpAnyH_ready (rs := [5]) (by kernel_rfl) (by simp) ?_
  refine AllReadyH.cons rfl (fun K hK => ?_) AllReadyH.nil
  refine wpo_stB rfl rfl rfl ⟨rfl, rfl, rfl⟩ hx39 (fun U hxU hgU hzU => ?_)
  refine hK.out _ _ ((hgU.block b1 (bx_lt (hHeld.trans HX1.out)) (fun e => Hap.out.2.1 (Option.some.inj e))).trans hHeld) (fun hHeld => ?_)
  clear hK K
  try simp only [Act.put, List.getElem_toArray, List.getElem_cons_zero, List.getElem_cons_succ, List.setIfInBounds_toArray, List.set_cons_zero, List.set_cons_succ]
  refine wpAnyH_take (i := 6) (v := ?_) rfl (by kernel_rfl) (by kernel_rfl) (by kernel_rfl) (fun _ _ _ h => h) (Or.inl ⟨by rfl, ?_⟩) (by assumption) ?_
  rotate_left
  · intro w8 hSw; clear hSw; go_simp; (try with_reducible rfl)
  simp only [Act.put, List.getElem_toArray, List.getElem_cons_zero, List.getElem_cons_succ, List.setIfInBounds_toArray, List.set_cons_zero, List.set_cons_succ]
  refine wpAnyH_done (by kernel_rfl) ?_ _
  obtain ⟨e1, e2, e3⟩ := bdone_end (X := ([] : List Mp)) (A := A) (aA := aA) (cA := cA) Hp.out.2.1 (below_on HBW7.out (Below.refl _ V7).drew (Nat.le_refl _)) Hup.out.2.2 (bx_lt D3.out) HF.out hbg9 hG9 hF9 (Below.refl _ V9) rfl hr9 hx39 hgU (fun x hx => by cases hx) Hp.out.2.2.1
  have hfin : BDone Wb W F b room (.returned (.tuple #[.agg #[.int .i64 (room : Nat), .slice aA A.length cA, .slice none ([] : List Mp).length 0], .bool true])) U := ⟨A, aA, cA, ([] : List Mp), none, 0, _, rfl, e1, Hp.out.2.2.2.2, e2, e3⟩
  have Hfin := Lib.hid hfin
  clear hfin e1 e2 e3
  go_wp2_with fail
  exact bodyPost_ret (v := .tuple #[.agg #[.int .i64 (room : Nat), .slice aA A.length cA, .slice none ([] : List Mp).length 0], .bool true]) (results_2 Try.results9 rfl rfl (lvRb hxU)) rfl Hfin.out
theorem mgrow_one (w : World) (x : Mp) : MgRow (w.alloc (.cells (mC x) mgT)) mgT (some ⟨w.heap.size, 0, none⟩) 1 [x] := by
  have h : (w.alloc (.cells (mC x) mgT)).ownsRow 0 mgT 15 (.slice (some ⟨w.heap.size, 0, none⟩) 1 1) 1 (mFlat [x]) :=
    ⟨by simp [mFlat, mRow, mC], .inr ⟨w.heap.size, 1, _, rfl, Nat.zero_le _, heap_alloc_new w _, Nat.le_refl _, by unfold maxLen; omega, rfl, by simp [mFlat, mRow, mC]⟩⟩
  exact Rw.of_own (rows := [x].map mRow) h rfl (fun r hr => by obtain ⟨y, _, rfl⟩ := List.mem_map.1 hr; rfl)
theorem put_one {room : Nat} {T : Int → Bool} {l l' : List Lt} {X : List Mp} {x : Mp} {n : Nat} (h : l.map Lt.m = X.map Mp.v) (hl : l'.map Lt.m = putsM room T (l.map Lt.m) ([x].map Mp.v)) (hn : l.length + n = l'.length) :
    l'.map Lt.m = (if putOk room T X.length x.v = true then X ++ [x] else X).map Mp.v ∧ n = if putOk room T X.length x.v = true then 1 else 0 := by
  have e1 : l.length = X.length := by have := congrArg List.length h; simpa using this
  have e2 : putsM room T (l.map Lt.m) ([x].map Mp.v) = if putOk room T l.length x.v = true then l.map Lt.m ++ [x.v] else l.map Lt.m := by
    unfold putsM; simp
  rw [e2, e1, h] at hl
  have e3 : l'.length = (l'.map Lt.m).length := by simp
  rw [hl] at e3
  cases hp : putOk room T X.length x.v with
  | true =>
    rw [hp] at hl e3
    simp only [if_true] at hl e3 ⊢
    refine ⟨by rw [hl]; simp, ?_⟩
    simp at e3
    omega
  | false =>
    rw [hp] at hl e3
    simp at hl e3 ⊢
    exact ⟨hl, by omega⟩
theorem eq_one {n : Nat} {ok : Bool} (h : n = if ok = true then 1 else 0) (V : World) : (binOp .eql 3 (.int .i64 (n : Nat)) (.int .i64 1)).run Try.prog V = .ok (.bool ok) V := by
  subst h
  cases ok
  · kernel_rfl
  · kernel_rfl
theorem put_arg {Wb : World} {X : List Mp} {m x : Mp} {ok : Bool} (h : ∀ x ∈ X, MgA Wb x) (hm : MgA Wb m) (hx : x ∈ if ok = true then X ++ [m] else X) : MgA Wb x := by
  cases ok with
  | true =>
    simp only [if_true] at hx
    rcases List.mem_append.1 hx with hx | hx
    · exact h x hx
    · rw [List.mem_singleton.1 hx]; exact hm
  | false => exact h x (by simpa using hx)
set_option maxRecDepth 100000 in
set_option maxHeartbeats 8000000 in
theorem do_put (Wb W : World) (F : Nat → Prop) (b room : Nat) (A : List Int) (aA : Option Addr) (cA : Nat) (X : List Mp) (lo : Option Addr) (lc : Nat) (o : BOp) (hk : o.kind ≠ 1 ∧ o.kind ≠ 2 ∧ o.kind ≠ 3 ∧ o.kind ≠ 4 ∧ o.kind ≠ 5) (h : Pr Wb W F b room A aA cA X lo lc) (hA : ∀ a ∈ A, KeyOk a) (hom : MgA Wb o.m) :
    Calls Try.prog 9 #[.pointer (some ⟨b, 0, none⟩), rV room aA A.length cA lo X.length lc, .agg (oC o)] W (BDone Wb W F b room) := by
  have h5 := h.len
  obtain ⟨⟨l, hbg, hlm⟩, hlow, hiz, hrow, harg⟩ := h
  obtain ⟨W1, hW1⟩ : ∃ W1, W1 = W.alloc (.cells #[.int .i64 (room : Nat), .slice aA A.length cA, .slice lo X.length lc] rbT) := ⟨_, rfl⟩
  obtain ⟨W2, hW2⟩ : ∃ W2, W2 = W1.alloc (.cells (oC o) boT) := ⟨_, rfl⟩
  obtain ⟨W3, hW3⟩ : ∃ W3, W3 = W2.alloc (.cells #[.int .i64 0, .slice none 0 0, .slice none 0 0] rbT) := ⟨_, rfl⟩
  obtain ⟨b1, hb1⟩ : ∃ b, b = W.heap.size := ⟨_, rfl⟩
  obtain ⟨b2, hb2⟩ : ∃ b, b = W.heap.size + 1 := ⟨_, rfl⟩
  obtain ⟨b3, hb3⟩ : ∃ b, b = W.heap.size + 1 + 1 := ⟨_, rfl⟩
  have z1 : W1.heap.size = W.heap.size + 1 := by rw [hW1]; simp
  have z2 : W2.heap.size = W.heap.size + 1 + 1 := by rw [hW2]; simp [z1]
  have B1 : Below W.heap.size W W1 := by rw [hW1]; exact below_new _ _
  have B2 : Below W1.heap.size W1 W2 := by rw [hW2]; exact below_new _ _
  have B3 : Below W2.heap.size W2 W3 := by rw [hW3]; exact below_new _ _
  have hB3 := below_on (below_on B1 B2 (Nat.le_refl _)) B3 (Nat.le_refl _)
  have t1 : W3.heap[b1]? = some (.cells #[.int .i64 (room : Nat), .slice aA A.length cA, .slice lo X.length lc] rbT (0, 0)) := by
    rw [B3.block b1 (by omega), B2.block b1 (by omega), hW1, hb1]; exact heap_alloc_new _ _
  have t2 : W3.heap[b2]? = some (.cells (oC o) boT (0, 0)) := by
    rw [B3.block b2 (by omega), hW2, hb2, ← z1]; exact heap_alloc_new _ _
  have t3 : W3.heap[b3]? = some (.cells #[.int .i64 0, .slice none 0 0, .slice none 0 0] rbT (0, 0)) := by
    rw [hW3, hb3, ← z2]; exact heap_alloc_new _ _
  have Hup : Hid (W.heap.size ≤ b1 ∧ W.heap.size ≤ b2 ∧ W.heap.size ≤ b3) := ⟨by omega, by omega, by omega⟩
  have Hap : Hid (b1 ≠ b2 ∧ b1 ≠ b3 ∧ b2 ≠ b3) := ⟨by omega, by omega, by omega⟩
  have HB3 := Lib.hid hB3
  have T1 := Lib.hid t1
  have T2 := Lib.hid t2
  have T3 := Lib.hid t3
  clear z1 z2 B1 B2 B3 hB3 t1 t2 t3
  have hob := OpBox.of T2.out
  have HOB := Lib.hid hob
  obtain ⟨k0, k1, k2, k18, kmsg, kl⟩ := hob
  have n1 : (o.kind == 1) = false := by simpa using hk.1
  have n2 : (o.kind == 2) = false := by simpa using hk.2.1
  have n3 : (o.kind == 3) = false := by simpa using hk.2.2.1
  have n4 : (o.kind == 4) = false := by simpa using hk.2.2.2.1
  have n5 : (o.kind == 5) = false := by simpa using hk.2.2.2.2
  have hb3w := below_on hlow HB3.out (Nat.le_refl _)
  have Hrm := Lib.hid (rput_o W3 room cA lc A aA lo X o.m (hom.at_.below hb3w) hom.el hom.ml hom.num (hiz.below hb3w) h5 (hrow.below HB3.out))
  unfold rV at Hrm
  have hF0 := hbg.elem
  have H5 := Lib.hid h5
  have HBg := Lib.hid hbg
  have HF : Hid (∀ i, F i → i < W.heap.size ∧ Wb.heap.size ≤ i) := fun i hi => ⟨(hF0 i hi).1, (hF0 i hi).2.1⟩
  have Hp := Lib.hid (And.intro hlm (And.intro hlow (And.intro hiz (And.intro harg hA))))
  have HB3W := Lib.hid HB3.out
  have Hmv := Lib.hid (fun V (hb : Below W.heap.size W V) ao cap (hr : MgRow V mgT ao cap [o.m]) => bput_o (hbg.below hb) (below_on hlow hb (Nat.le_refl _)) [o.m] ao cap hr (fun x hx => by rw [List.mem_singleton.1 hx]; exact hom) (by simp))
  have HOM := Lib.hid hom
  clear hbg hlm hlow hiz hrow harg hA h5 hF0 hk hom hb3w
  have q0 := block_cell T1.out 0
  have q1 := block_cell T1.out 1
  have q2 := block_cell T1.out 2
  have ql := bx_lt T1.out
  simp at q0 q1 q2
  unfold rV
  go_enter Try.func9, Try.ntmps9
  go_upto_region 1 with fail
  rw [← hW1, ← hW2, ← hW3, ← hb3, ← hb2, ← hb1]
  clear hW1 hW2 hW3 hb1 hb2 hb3
  go_wp2_with ((with_reducible show wpList _ _ _ (⟨_, Op.load 37 _, _, _, _, _⟩ :: _) _ _); refine wpl_ldT rfl rfl rfl (by assumption) ?_)
  refine (show Calls _ _ _ _ _ from Hrm.out).mono ?_
  rintro e V4 ⟨lo2, lc2, rfl, hr2, hb4⟩
  unfold rV
  obtain ⟨ok, hok⟩ : ∃ ok, ok = putOk room (inL A) X.length o.m.v := ⟨_, rfl⟩
  rw [← hok] at hr2
  rw [← hok]
  obtain ⟨X2, hX2⟩ : ∃ X2, X2 = if ok = true then X ++ [o.m] else X := ⟨_, rfl⟩
  rw [← hX2] at hr2
  rw [← hX2]
  have HE := Lib.hid (And.intro hX2 hok)
  have HV4 := Lib.hid hb4
  have HR4 := Lib.hid hr2
  clear q0 q1 q2 ql k0 k1 k2 k18 kmsg kl hb4 hr2 hX2 hok n1 n2 n3 n4 n5
  go_upto_region 21 with (first
    | (refine wpl_alB rfl rfl ?_
       intro p10 V5 hp10 hb5 hx10 hz5
       have hp10' := Lib.hid (Nat.le_of_eq hp10.symm)
       clear hp10 hz5)
    | (refine wpl_stB rfl rfl rfl rfl ⟨rfl, rfl, rfl⟩ hx10 ?_
       intro V7 hx107 hg7 hz7
       clear hz7))
  have hB7 : Below W3.heap.size W3 V7 := below_on HV4.out (below_grown hb5 hg7 hp10'.out hb5.size) (Nat.le_refl _)
  have HB7 := Lib.hid hB7
  have HBW7 := Lib.hid (below_on HB3W.out hB7 (Nat.le_refl _))
  have HX10 := Lib.hid hx107
  have HR7 := Lib.hid (HR4.out.below (below_grown hb5 hg7 hp10'.out hb5.size))
  have D3 := Lib.hid (bx_below hB7 T3.out)
  have D2 := Lib.hid (bx_below hB7 T2.out)
  have Hp10 : Hid (W3.heap.size ≤ p10) := (Nat.le_trans HV4.out.size hp10'.out : W3.heap.size ≤ p10)
  clear hB7 hb5 hg7 hx107 hx10
  refine wp_region_held_drew (S := fun V => V.heap[p10]? = V7.heap[p10]? ∧ V.heap[b2]? = V7.heap[b2]?) (by kernel_rfl) ⟨rfl, rfl⟩ (fun hHeld => ?_)
  refine wpAnyH_take (i := 0) (v := .agg #[.int .i64 (room : Nat), .slice aA A.length cA, .slice lo2 X2.length lc2]) rfl (by kernel_rfl) (by kernel_rfl) (by kernel_rfl) (fun _ _ _ h => h) (Or.inl ⟨by rfl, ?_⟩) (by assumption) ?_
  · intro w8 hSw; exact ld_takeT rfl (ldRb (hSw.1.trans HX10.out)) rfl
  simp only [Act.put, List.getElem_toArray, List.getElem_cons_zero, List.getElem_cons_succ, List.setIfInBounds_toArray, List.set_cons_zero, List.set_cons_succ]
  refine wpAnyH_take (i := 1) (v := ?_) rfl (by kernel_rfl) (by kernel_rfl) (by kernel_rfl) (fun _ _ _ h => h) (Or.inl ⟨by rfl, ?_⟩) (by assumption) ?_
  rotate_left
  · intro w8 hSw; clear hSw; go_simp; (try with_reducible rfl)
  simp only [Act.put, List.getElem_toArray, List.getElem_cons_zero, List.getElem_cons_succ, List.setIfInBounds_toArray, List.set_cons_zero, List.set_cons_succ]
  refine wpAnyH_take (i := 2) (v := ?_) rfl (by kernel_rfl) (by kernel_rfl) (by kernel_rfl) (fun _ _ _ h => h) (Or.inl ⟨by rfl, ?_⟩) (by assumption) ?_
  rotate_left
  · intro w8 hSw; clear hSw; go_simp; (try with_reducible rfl)
  simp only [Act.put, List.getElem_toArray, List.getElem_cons_zero, List.getElem_cons_succ, List.setIfInBounds_toArray, List.set_cons_zero, List.set_cons_succ]
  refine wpAnyH_take (i := 3) (v := .agg (mC o.m)) rfl (by kernel_rfl) (by kernel_rfl) (by kernel_rfl) (fun _ _ _ h => h) (Or.inl ⟨by rfl, ?_⟩) (by assumption) ?_
  · intro w8 hSw; exact ld_takeT rfl (OpBox.of (hSw.2.trans D2.out)).msg rfl
  simp only [Act.put, List.getElem_toArray, List.getElem_cons_zero, List.getElem_cons_succ, List.setIfInBounds_toArray, List.set_cons_zero, List.set_cons_succ]
  refine wpAnyH_take (i := 7) (v := ?_) rfl (by kernel_rfl) (by kernel_rfl) (by kernel_rfl) (fun _ _ _ h => h) (Or.inl ⟨by rfl, ?_⟩) (by assumption) ?_
  rotate_left
  · intro w8 hSw; clear hSw; go_simp; (try with_reducible rfl)
  simp only [Act.put, List.getElem_toArray, List.getElem_cons_zero, List.getElem_cons_succ, List.setIfInBounds_toArray, List.set_cons_zero, List.set_cons_succ]
  refine wpAnyH_ready (rs := [4]) (by kernel_rfl) (by simp) ?_
  refine AllReadyH.cons rfl (fun K hK => ?_) AllReadyH.nil
  refine wpo_bsM (.inl rfl) Try.underlying58 rfl rfl ?_
  have hb8 := below_new V7.drew (.cells (mC o.m) mgT)
  have hr8 : MgRow (V7.drew.alloc (.cells (mC o.m) mgT)) mgT (some ⟨V7.drew.heap.size, 0, none⟩) 1 [o.m] := mgrow_one V7.drew o.m
  obtain ⟨V8, hV8⟩ : ∃ V, V = V7.drew.alloc (.cells (mC o.m) mgT) := ⟨_, rfl⟩
  obtain ⟨p8, hp8⟩ : ∃ p, p = V7.drew.heap.size := ⟨_, rfl⟩
  rw [← hV8] at hb8 hr8 ⊢
  rw [← hp8] at hr8 ⊢
  have hbW8 : Below W.heap.size W V8 := below_on (below_on HBW7.out (Below.refl _ V7).drew (Nat.le_refl _)) hb8 (Nat.le_refl _)
  have hm8 := Lib.hid ((Hmv.out V8 hbW8 _ _ hr8).mono fun e W' hp => (by
    obtain ⟨l', n, he, hl', hn, hx⟩ := hp
    exact ⟨l', n, he, hl', hn, hx.pre hb8⟩ : ∃ l' n, e = .returned (.int .i64 (n : Nat)) ∧ l'.map Lt.m = putsM room (inL A) (l.map Lt.m) ([o.m].map Mp.v) ∧ l.length + n = l'.length ∧ Bgx Wb.heap.size V7.drew F b room (inL A) l' W'))
  refine hK.out _ _ ⟨hb8.block p10 (bx_lt HX10.out), hb8.block b2 (bx_lt D2.out)⟩ (fun hHeld => ?_)
  clear hK K hV8 hp8 hb8 hr8 hbW8
  try simp only [Act.put, List.getElem_toArray, List.getElem_cons_zero, List.getElem_cons_succ, List.setIfInBounds_toArray, List.set_cons_zero, List.set_cons_succ]
  refine wpAnyH_ready (rs := [5]) (by kernel_rfl) (by simp) ?_
  refine AllReadyH.cons rfl (fun K hK => ?_) AllReadyH.nil
  go_simp
  go_at_call 14
  refine ((show Calls _ _ _ _ _ from hm8.out)).mono ?_
  rintro e V9 ⟨l', n, rfl, hl', hn, F1, hbg9, hG9, hF9⟩
  refine hK.out _ _ ⟨(hG9.block p10 (bx_lt HX10.out) (fun e => Nat.lt_irrefl _ (Nat.lt_of_lt_of_le (HF.out _ e).1 (Nat.le_trans HB3W.out.size Hp10.out)))), (hG9.block b2 (bx_lt D2.out) (fun e => Nat.lt_irrefl _ (Nat.lt_of_lt_of_le (HF.out _ e).1 Hup.out.2.1)))⟩ (fun hHeld => ?_)
  clear hK K
  try simp only [Act.put, List.getElem_toArray, List.getElem_cons_zero, List.getElem_cons_succ, List.setIfInBounds_toArray, List.set_cons_zero, List.set_cons_succ]
  obtain ⟨hl2, hn2⟩ := put_one Hp.out.1 hl' hn
  rw [← HE.out.2] at hl2 hn2
  refine wpAnyH_take (i := 6) (v := .bool ok) rfl (by kernel_rfl) (by kernel_rfl) (by kernel_rfl) (fun _ _ _ h => h) (Or.inl ⟨by rfl, ?_⟩) (by assumption) ?_
  · intro w8 hSw; exact bin_take rfl rfl (eq_one hn2 w8) rfl rfl
  simp only [Act.put, List.getElem_toArray, List.getElem_cons_zero, List.getElem_cons_succ, List.setIfInBounds_toArray, List.set_cons_zero, List.set_cons_succ]
  refine wpAnyH_take (i := 8) (v := ?_) rfl (by kernel_rfl) (by kernel_rfl) (by kernel_rfl) (fun _ _ _ h => h) (Or.inl ⟨by rfl, ?_⟩) (by assumption) ?_
  rotate_left
  · intro w8 hSw; clear hSw; go_simp; (try with_reducible rfl)
  simp only [Act.put, List.getElem_toArray, List.getElem_cons_zero, List.getElem_cons_succ, List.setIfInBounds_toArray, List.set_cons_zero, List.set_cons_succ]
  have hx39 : V9.heap[b3]? = some (.cells #[.int .i64 0, .slice none 0 0, .slice none 0 0] rbT (0, 0)) := by
    have hkV : ∀ {i : Nat} {ob : Obj}, V7.drew.heap[i]? = some ob → W.heap.size ≤ i → V9.heap[i]? = some ob := fun {i} {ob} hx hb => (hG9.block i (bx_lt hx) (fun e => Nat.lt_irrefl _ (Nat.lt_of_lt_of_le (HF.out i e).1 hb))).trans hx
    exact hkV D3.out Hup.out.2.2
  have hr9 : MgRow V9 rmT lo2 lc2 X2 := (HR7.out.below (Below.refl _ V7).drew).grF hG9 (fun i hi e => (HBg.out.below (below_on HBW7.out (Below.refl _ V7).drew (Nat.le_refl _))).off (by decide) (by decide) e hi)
  refine wpAnyH_ready (rs := [9]) (by kernel_rfl) (by simp) ?_
  refine AllReadyH.cons rfl (fun K hK => ?_) AllReadyH.nil
  refine wpo_stB rfl rfl rfl ⟨rfl, rfl, rfl⟩ hx39 (fun U hxU hgU hzU => ?_)
  refine hK.out _ _ ⟨(hgU.block p10 (bx_lt (hHeld.1.trans HX10.out)) (fun e => Nat.lt_irrefl _ (Nat.lt_of_lt_of_le (bx_lt T3.out) ((Option.some.inj e) ▸ Hp10.out)))).trans hHeld.1, (hgU.block b2 (bx_lt (hHeld.2.trans D2.out)) (fun e => Hap.out.2.2 (Option.some.inj e))).trans hHeld.2⟩ (fun hHeld => ?_)
  clear hK K
  try simp only [Act.put, List.getElem_toArray, List.getElem_cons_zero, List.getElem_cons_succ, List.setIfInBounds_toArray, List.set_cons_zero, List.set_cons_succ]
  refine wpAnyH_take (i := 10) (v := ?_) rfl (by kernel_rfl) (by kernel_rfl) (by kernel_rfl) (fun _ _ _ h => h) (Or.inl ⟨by rfl, ?_⟩) (by assumption) ?_
  rotate_left
  · intro w8 hSw; clear hSw; go_simp; (try with_reducible rfl)
  simp only [Act.put, List.getElem_toArray, List.getElem_cons_zero, List.getElem_cons_succ, List.setIfInBounds_toArray, List.set_cons_zero, List.set_cons_succ]
  refine wpAnyH_done (by kernel_rfl) ?_ _
  obtain ⟨e1, e2, e3⟩ := bdone_end (X := X2) (A := A) (aA := aA) (cA := cA) Hp.out.2.1 (below_on HBW7.out (Below.refl _ V7).drew (Nat.le_refl _)) Hup.out.2.2 (bx_lt D3.out) HF.out hbg9 hG9 hF9 (Below.refl _ V9) (by rw [hl2, HE.out.1]) hr9 hx39 hgU (fun x hx => put_arg Hp.out.2.2.2.1 HOM.out (HE.out.1 ▸ hx)) Hp.out.2.2.1
  have hfin : BDone Wb W F b room (.returned (.tuple #[.agg #[.int .i64 (room : Nat), .slice aA A.length cA, .slice lo2 X2.length lc2], .bool true])) U := ⟨A, aA, cA, X2, lo2, lc2, _, rfl, e1, Hp.out.2.2.2.2, e2, e3⟩
  have Hfin := Lib.hid hfin
  clear hfin e1 e2 e3
  go_wp2_with fail
  exact bodyPost_ret (v := .tuple #[.agg #[.int .i64 (room : Nat), .slice aA A.length cA, .slice lo2 X2.length lc2], .bool true]) (results_2 Try.results9 rfl rfl (lvRb hxU)) rfl Hfin.out
end Go.Proofs.Ytbmkgcoolofmpaa
