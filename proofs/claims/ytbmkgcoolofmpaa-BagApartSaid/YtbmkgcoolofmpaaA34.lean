/- Lemmas for BagApart (Bx Bz Open OpenR OpenE OpenI OpenB Ca Cb BagPlays Cn Co). No statement of the seat is proved here. -/
import Derived.ProofKit
import Derived.OpenShut
import Derived.ShutString
import Derived.ChangeOld
import Derived.Deep.Matrix
import Derived.Deep.Slices
import Derived.Deep.Fields
import Derived.Deep.Strs
import Derived.Deep.MidRow
import Derived.Great.Walk
import Derived.Test.YtbmkgcoolofmpaaA1
import Derived.Test.YtbmkgcoolofmpaaA4
import Derived.Test.YtbmkgcoolofmpaaA20
import Derived.Test.YtbmkgcoolofmpaaA32
import Derived.Test.YtbmkgcoolofmpaaA33
namespace Go.Proofs.Ytbmkgcoolofmpaa
set_option linter.unusedVariables false
set_option linter.unusedSimpArgs false
set_option linter.unusedSectionVars false
open Go Go.RowKit Go.Maps Go.Shelf
set_option maxRecDepth 100000 in
set_option maxHeartbeats 8000000 in
theorem do_look (Wb W : World) (F : Nat → Prop) (b room : Nat) (A : List Int) (aA : Option Addr) (cA : Nat) (X : List Mp) (lo : Option Addr) (lc : Nat) (o : BOp) (hk : o.kind = 5) (h : Pr Wb W F b room A aA cA X lo lc) (hA : ∀ a ∈ A, KeyOk a) :
    Calls Try.prog 9 #[.pointer (some ⟨b, 0, none⟩), rV room aA A.length cA lo X.length lc, .agg (oC o)] W (BDone Wb W F b room) := by
  have h5 := h.len
  obtain ⟨⟨l, hbg, hlm⟩, hlow, hiz, hrow, harg⟩ := h
  unfold rV
  obtain ⟨W1, hW1⟩ : ∃ W1, W1 = W.alloc (.cells #[.int .i64 (room : Nat), .slice aA A.length cA, .slice lo X.length lc] rbT) := ⟨_, rfl⟩
  obtain ⟨W2, hW2⟩ : ∃ W2, W2 = W1.alloc (.cells (oC o) boT) := ⟨_, rfl⟩
  obtain ⟨W3, hW3⟩ : ∃ W3, W3 = W2.alloc (.cells #[.int .i64 0, .slice none 0 0, .slice none 0 0] rbT) := ⟨_, rfl⟩
  obtain ⟨b1, hb1⟩ : ∃ b, b = W.heap.size := ⟨_, rfl⟩
  obtain ⟨b2, hb2⟩ : ∃ b, b = W.heap.size + 1 := ⟨_, rfl⟩
  obtain ⟨b3, hb3⟩ : ∃ b, b = W.heap.size + 1 + 1 := ⟨_, rfl⟩
  have z1 : W1.heap.size = W.heap.size + 1 := by rw [hW1]; simp
  have z2 : W2.heap.size = W.heap.size + 1 + 1 := by rw [hW2]; simp [z1]
  have B1 : Below W.heap.size W W1 := by rw [hW1]; exact below_new _ _
  have B2 : Below W1.heap.size W1 W2 := by rw [hW2]; exact below_new _ _
  have B3 : Below W2.heap.size W2 W3 := by rw [hW3]; exact below_new _ _
  have hB3 := below_on (below_on B1 B2 (Nat.le_refl _)) B3 (Nat.le_refl _)
  have t1 : W3.heap[b1]? = some (.cells #[.int .i64 (room : Nat), .slice aA A.length cA, .slice lo X.length lc] rbT (0, 0)) := by
    rw [B3.block b1 (by omega), B2.block b1 (by omega), hW1, hb1]; exact heap_alloc_new _ _
  have t2 : W3.heap[b2]? = some (.cells (oC o) boT (0, 0)) := by
    rw [B3.block b2 (by omega), hW2, hb2, ← z1]; exact heap_alloc_new _ _
  have t3 : W3.heap[b3]? = some (.cells #[.int .i64 0, .slice none 0 0, .slice none 0 0] rbT (0, 0)) := by
    rw [hW3, hb3, ← z2]; exact heap_alloc_new _ _
  have Hup : Hid (W.heap.size ≤ b1 ∧ W.heap.size ≤ b2 ∧ W.heap.size ≤ b3) := ⟨by omega, by omega, by omega⟩
  have Hap : Hid (b1 ≠ b2 ∧ b1 ≠ b3 ∧ b2 ≠ b3) := ⟨by omega, by omega, by omega⟩
  have HB3 := Lib.hid hB3
  have T1 := Lib.hid t1
  have T2 := Lib.hid t2
  have T3 := Lib.hid t3
  clear z1 z2 B1 B2 B3 hB3 t1 t2 t3
  obtain ⟨k0, k1, -, -, -, kl⟩ := OpBox.of T2.out
  rw [hk] at k0
  have hF0 := hbg.elem
  have hlk := blook_any (hbg.below HB3.out) o.k
  have hbg3 := hbg.below HB3.out
  rw [in_map hlm o.k, lookP_v hlm o.k] at hlk
  have Htk := hlk.mono fun e W' hp => (⟨hp.1, Bgx.same hbg3 hp.2⟩ : TellM (lookP X o.k).v (inR X o.k) e W' ∧ Bgx Wb.heap.size W3 F b room (inL A) l W')
  clear hlk
  have Htk := Lib.hid Htk
  have Hrow := Lib.hid hrow
  have H5 := Lib.hid h5
  have HF : Hid (∀ i, F i → i < W.heap.size ∧ Wb.heap.size ≤ i) := fun i hi => ⟨(hF0 i hi).1, (hF0 i hi).2.1⟩
  have HFr : Hid (∀ i, F i → elem? W3 i ≠ some rmT) := fun i hi e => (hbg.below HB3.out).off (by decide) (by decide) e hi
  have Hp := Lib.hid (And.intro hlm (And.intro hlow (And.intro hiz (And.intro harg hA))))
  clear hbg hbg3 hlm hlow hiz hrow harg hA h5 hF0 hk
  go_enter Try.func9, Try.ntmps9
  go_upto_region 1 with fail
  rw [← hW1, ← hW2, ← hW3, ← hb3, ← hb2, ← hb1]
  clear hW1 hW2 hW3 hb1 hb2 hb3
  go_wp2_with fail
  refine (show Calls _ _ _ _ _ from Htk.out).mono ?_
  rintro e V1 ⟨⟨y, rfl, hyv, hyt⟩, F1, hbg1, hG1, hF1⟩
  have hkV : ∀ {i : Nat} {ob : Obj}, W3.heap[i]? = some ob → W.heap.size ≤ i → V1.heap[i]? = some ob := fun {i} {ob} hx hb => (hG1.block i (bx_lt hx) (fun e => Nat.lt_irrefl _ (Nat.lt_of_lt_of_le (HF.out i e).1 hb))).trans hx
  have D1 := Lib.hid (hkV T1.out Hup.out.1)
  have D2 := Lib.hid (hkV T2.out Hup.out.2.1)
  have D3 := Lib.hid (hkV T3.out Hup.out.2.2)
  have HR1 := Lib.hid (show MgRow V1 rmT lo lc X from Rw.gr (Hrow.out.below HB3.out) hG1 HFr.out)
  have HY := Lib.hid (And.intro hyv hyt)
  have HG := Lib.hid (And.intro hbg1 (And.intro hG1 hF1))
  have HB3W := Lib.hid HB3.out
  clear hkV k0 k1 kl hyv hyt hbg1 hG1 hF1
  go_upto_region 18 with (first
    | (refine wpl_alM rfl (.inl rfl) rfl ?_
       intro p8 V2 hp8 hb2 hx2 hz2
       clear hz2
       have hp8' := Lib.hid (Nat.le_of_eq hp8.symm)
       clear hp8)
    | (refine wpl_stM rfl (.inl rfl) rfl rfl rfl hx2 rfl ?_
       intro V3 hx3 hg3 hz3
       clear hz3))
  have hB3 : Below V1.heap.size V1 V3 := below_grown hb2 hg3 hp8'.out hb2.size
  have d1 := bx_below hB3 D1.out
  have q0 := block_cell d1 0
  have q1 := block_cell d1 1
  have q2 := block_cell d1 2
  have ql := bx_lt d1
  have ob := OpBox.of (bx_below hB3 D2.out)
  obtain ⟨-, k1, -, -, -, kl⟩ := ob
  simp at q0 q1 q2
  have Hrt := Lib.hid (rtake_any V3 room A.length cA lc aA lo X o.k H5.out (HR1.out.below hB3))
  have HB3 := Lib.hid hB3
  have HX8 := Lib.hid hx3
  clear d1 hB3 hx3 hg3 hx2 hb2
  unfold rV at Hrt
  go_wp2_with fail
  refine (show Calls _ _ _ _ _ from Hrt.out).mono ?_
  rintro e V4 ⟨lo2, lc2, rfl, hr2, hb4⟩
  unfold rV
  have HX84 := Lib.hid (bx_below hb4 HX8.out)
  have HB4 := Lib.hid (below_on HB3.out hb4 (Nat.le_refl _))
  have HR4 := Lib.hid hr2
  clear q0 q1 q2 ql k1 kl hb4 hr2
  obtain ⟨X2, hX2⟩ : ∃ X2, X2 = takeL X o.k := ⟨_, rfl⟩
  obtain ⟨y2, hy2⟩ : ∃ y2, y2 = lookP X o.k := ⟨_, rfl⟩
  obtain ⟨ok, hok⟩ : ∃ ok, ok = inR X o.k := ⟨_, rfl⟩
  rw [← hX2] at HR4
  rw [← hX2, ← hy2, ← hok]
  rw [← hy2] at HY
  have HE := Lib.hid (And.intro hX2 (And.intro hy2 hok))
  clear hX2 hy2 hok
  go_upto_region 19 with (first
    | (refine wpl_alB rfl rfl ?_
       intro p10 V5 hp10 hb5 hx10 hz5
       have hp10' := Lib.hid (Nat.le_of_eq hp10.symm)
       clear hp10 hz5)
    | (refine wpl_alM rfl (.inr rfl) rfl ?_
       intro p11 V6 hp11 hb6 hx11 hz6
       have hp11' := Lib.hid (Nat.le_of_eq hp11.symm)
       have hx10' := bx_below hb6 hx10
       clear hp11 hz6)
    | (refine wpl_stB rfl rfl rfl rfl ⟨rfl, rfl, rfl⟩ hx10' ?_
       intro V7 hx107 hg7 hz7
       have hne : p11 ≠ p10 := fun e => Nat.lt_irrefl _ (Nat.lt_of_lt_of_le (bx_lt hx10) (Nat.le_trans hp11'.out (Nat.le_of_eq e)))
       have hx117 := (hg7.block p11 (bx_lt hx11) (fun e => hne (Option.some.inj e))).trans hx11
       clear hz7)
    | (refine wpl_stM rfl (.inr rfl) rfl rfl rfl hx117 rfl ?_
       intro V8 hx118 hg8 hz8
       clear hz8))
  have h8 : p8 ≠ p10 ∧ p8 ≠ p11 := ⟨fun e => Nat.lt_irrefl _ (Nat.lt_of_lt_of_le (bx_lt HX84.out) (e ▸ hp10'.out)), fun e => Nat.lt_irrefl _ (Nat.lt_of_lt_of_le (bx_lt (bx_below hb5 HX84.out)) (e ▸ hp11'.out))⟩
  have hx86 := bx_below hb6 (bx_below hb5 HX84.out)
  have hx87 := (hg7.block p8 (bx_lt hx86) (fun e => h8.1 (Option.some.inj e))).trans hx86
  have hx88 := (hg8.block p8 (bx_lt hx87) (fun e => h8.2 (Option.some.inj e))).trans hx87
  have hB6 : Below V4.heap.size V4 V6 := below_on hb5 hb6 (Nat.le_refl _)
  have hB8 : Below V4.heap.size V4 V8 := below_grown (below_grown hB6 hg7 hp10'.out hB6.size) hg8 (Nat.le_trans hb5.size hp11'.out) (Nat.le_trans hB6.size hg7.size)
  have HB8 := Lib.hid hB8
  have HB5 := Lib.hid hb5
  have hx108 := bx_below (below_on HB4.out hB8 (Nat.le_refl _)) D1.out
  have HX := Lib.hid (And.intro hx88 (And.intro hx108 hx118))
  have hZ : Below V1.heap.size V1 V8 := below_on HB4.out hB8 (Nat.le_refl _)
  have Hsm := Lib.hid (same_yes y y2 V8.drew ((HY.out.2.below (hZ.drew)).at) (by
    rw [HE.out.2.1]
    exact (lookP_arg Hp.out.2.2.2.1 o.k).at_.below (below_on (Gr.trans_below Hp.out.2.1 HB3W.out HG.out.2.1 HF.out) hZ.drew (Nat.le_refl _))) HY.out.1 (by rw [HE.out.2.1]; exact (lookP_arg Hp.out.2.2.2.1 o.k).el) (by rw [HE.out.2.1]; exact (lookP_arg Hp.out.2.2.2.1 o.k).ml))
  have HZ := Lib.hid hZ
  clear h8 hx86 hx87 hx88 hx108 hB6 hB8 hZ hx107 hx118 hx117 hx11 hx10 hx10' hg7 hg8 hb5 hb6 hne
  refine wp_region_held_drew (S := fun V => V.heap[p8]? = V8.heap[p8]? ∧ V.heap[b1]? = V8.heap[b1]? ∧ V.heap[p11]? = V8.heap[p11]?) (by kernel_rfl) ⟨rfl, rfl, rfl⟩ (fun hHeld => ?_)
  refine wpAnyH_take (i := 0) (v := .agg #[.int .i64 (room : Nat), .slice aA A.length cA, .slice lo X.length lc]) rfl (by kernel_rfl) (by kernel_rfl) (by kernel_rfl) (fun _ _ _ h => h) (Or.inl ⟨by rfl, ?_⟩) (by assumption) ?_
  · intro w8 hSw; exact ld_takeT rfl (ldRb (hSw.2.1.trans HX.out.2.1)) rfl
  simp only [Act.put, List.getElem_toArray, List.getElem_cons_zero, List.getElem_cons_succ, List.setIfInBounds_toArray, List.set_cons_zero, List.set_cons_succ]
  refine wpAnyH_take (i := 1) (v := ?_) rfl (by kernel_rfl) (by kernel_rfl) (by kernel_rfl) (fun _ _ _ h => h) (Or.inl ⟨by rfl, ?_⟩) (by assumption) ?_
  rotate_left
  · intro w8 hSw; clear hSw; go_simp; (try with_reducible rfl)
  simp only [Act.put, List.getElem_toArray, List.getElem_cons_zero, List.getElem_cons_succ, List.setIfInBounds_toArray, List.set_cons_zero, List.set_cons_succ]
  refine wpAnyH_take (i := 2) (v := ?_) rfl (by kernel_rfl) (by kernel_rfl) (by kernel_rfl) (fun _ _ _ h => h) (Or.inl ⟨by rfl, ?_⟩) (by assumption) ?_
  rotate_left
  · intro w8 hSw; clear hSw; go_simp; (try with_reducible rfl)
  simp only [Act.put, List.getElem_toArray, List.getElem_cons_zero, List.getElem_cons_succ, List.setIfInBounds_toArray, List.set_cons_zero, List.set_cons_succ]
  refine wpAnyH_take (i := 3) (v := ?_) rfl (by kernel_rfl) (by kernel_rfl) (by kernel_rfl) (fun _ _ _ h => h) (Or.inl ⟨by rfl, ?_⟩) (by assumption) ?_
  rotate_left
  · intro w8 hSw; clear hSw; go_simp; (try with_reducible rfl)
  simp only [Act.put, List.getElem_toArray, List.getElem_cons_zero, List.getElem_cons_succ, List.setIfInBounds_toArray, List.set_cons_zero, List.set_cons_succ]
  refine wpAnyH_take (i := 4) (v := ?_) rfl (by kernel_rfl) (by kernel_rfl) (by kernel_rfl) (fun _ _ _ h => h) (Or.inl ⟨by rfl, ?_⟩) (by assumption) ?_
  rotate_left
  · intro w8 hSw; clear hSw; go_simp; (try with_reducible rfl)
  simp only [Act.put, List.getElem_toArray, List.getElem_cons_zero, List.getElem_cons_succ, List.setIfInBounds_toArray, List.set_cons_zero, List.set_cons_succ]
  refine wpAnyH_take (i := 5) (v := .agg (mC y)) rfl (by kernel_rfl) (by kernel_rfl) (by kernel_rfl) (fun _ _ _ h => h) (Or.inl ⟨by rfl, ?_⟩) (by assumption) ?_
  · intro w8 hSw; exact ld_takeT rfl (ld_mbox mgT mgT (.inl rfl) (hSw.1.trans HX.out.1)) rfl
  simp only [Act.put, List.getElem_toArray, List.getElem_cons_zero, List.getElem_cons_succ, List.setIfInBounds_toArray, List.set_cons_zero, List.set_cons_succ]
  refine wpAnyH_take (i := 6) (v := .agg (mC y2)) rfl (by kernel_rfl) (by kernel_rfl) (by kernel_rfl) (fun _ _ _ h => h) (Or.inl ⟨by rfl, ?_⟩) (by assumption) ?_
  · intro w8 hSw; exact ld_takeT rfl (ld_mbox rmT rmT (.inr rfl) (hSw.2.2.trans HX.out.2.2)) rfl
  simp only [Act.put, List.getElem_toArray, List.getElem_cons_zero, List.getElem_cons_succ, List.setIfInBounds_toArray, List.set_cons_zero, List.set_cons_succ]
  refine wpAnyH_ready (rs := [7]) (by kernel_rfl) (by simp) ?_
  refine AllReadyH.cons rfl (fun K hK => ?_) AllReadyH.nil
  go_simp
  go_at_call 24
  refine ((show Calls _ _ _ _ _ from Hsm.out)).mono ?_
  rintro e V9 ⟨rfl, hb9⟩
  refine hK.out _ _ ⟨hb9.block p8 (bx_lt HX.out.1), hb9.block b1 (bx_lt HX.out.2.1), hb9.block p11 (bx_lt HX.out.2.2)⟩ (fun hHeld => ?_)
  clear hK K
  try simp only [Act.put, List.getElem_toArray, List.getElem_cons_zero, List.getElem_cons_succ, List.setIfInBounds_toArray, List.set_cons_zero, List.set_cons_succ]
  refine wpAnyH_take (i := 8) (v := ?_) rfl (by kernel_rfl) (by kernel_rfl) (by kernel_rfl) (fun _ _ _ h => h) (Or.inl ⟨by rfl, ?_⟩) (by assumption) ?_
  rotate_left
  · intro w8 hSw; clear hSw; go_simp; (try with_reducible rfl)
  simp only [Act.put, List.getElem_toArray, List.getElem_cons_zero, List.getElem_cons_succ, List.setIfInBounds_toArray, List.set_cons_zero, List.set_cons_succ]
  have hB89 : Below V8.heap.size V8 V9 := below_on (Below.refl _ V8).drew hb9 (Nat.le_refl _)
  have hB9 : Below V1.heap.size V1 V9 := below_on HZ.out hB89 (Nat.le_refl _)
  have hx39 := bx_below hB9 D3.out
  have hr9 : MgRow V9 rmT lo lc X := HR1.out.below hB9
  refine wpAnyH_ready (rs := [9]) (by kernel_rfl) (by simp) ?_
  refine AllReadyH.cons rfl (fun K hK => ?_) AllReadyH.nil
  refine wpo_stB rfl rfl rfl ⟨rfl, rfl, rfl⟩ hx39 (fun U hxU hgU hzU => ?_)
  have hn3 : p8 ≠ b3 ∧ b1 ≠ b3 ∧ p11 ≠ b3 := ⟨fun e => Nat.lt_irrefl _ (Nat.lt_of_lt_of_le (bx_lt D3.out) (e ▸ hp8'.out)), Hap.out.2.1, fun e => Nat.lt_irrefl _ (Nat.lt_of_lt_of_le (bx_lt D3.out) (Nat.le_trans HB4.out.size (Nat.le_trans HB5.out.size (e ▸ hp11'.out))))⟩
  refine hK.out _ _ ⟨(hgU.block p8 (bx_lt (hHeld.1.trans HX.out.1)) (fun e => hn3.1 (Option.some.inj e))).trans hHeld.1, (hgU.block b1 (bx_lt (hHeld.2.1.trans HX.out.2.1)) (fun e => hn3.2.1 (Option.some.inj e))).trans hHeld.2.1, (hgU.block p11 (bx_lt (hHeld.2.2.trans HX.out.2.2)) (fun e => hn3.2.2 (Option.some.inj e))).trans hHeld.2.2⟩ (fun hHeld => ?_)
  clear hK K
  try simp only [Act.put, List.getElem_toArray, List.getElem_cons_zero, List.getElem_cons_succ, List.setIfInBounds_toArray, List.set_cons_zero, List.set_cons_succ]
  refine wpAnyH_take (i := 10) (v := ?_) rfl (by kernel_rfl) (by kernel_rfl) (by kernel_rfl) (fun _ _ _ h => h) (Or.inl ⟨by rfl, ?_⟩) (by assumption) ?_
  rotate_left
  · intro w8 hSw; clear hSw; go_simp; (try with_reducible rfl)
  simp only [Act.put, List.getElem_toArray, List.getElem_cons_zero, List.getElem_cons_succ, List.setIfInBounds_toArray, List.set_cons_zero, List.set_cons_succ]
  refine wpAnyH_done (by kernel_rfl) ?_ _
  obtain ⟨e1, e2, e3⟩ := bdone_end (X := X) Hp.out.2.1 HB3W.out Hup.out.2.2 (bx_lt T3.out) HF.out HG.out.1 HG.out.2.1 HG.out.2.2 hB9 Hp.out.1 hr9 hx39 hgU Hp.out.2.2.2.1 Hp.out.2.2.1
  have hfin : BDone Wb W F b room (.returned (.tuple #[.agg #[.int .i64 (room : Nat), .slice aA A.length cA, .slice lo X.length lc], .bool true])) U := ⟨A, aA, cA, X, lo, lc, F1, rfl, e1, Hp.out.2.2.2.2, e2, e3⟩
  have Hfin := Lib.hid hfin
  clear hfin e1 e2 e3
  go_wp2_with fail
  exact bodyPost_ret (v := .tuple #[.agg #[.int .i64 (room : Nat), .slice aA A.length cA, .slice lo X.length lc], .bool true]) (results_2 Try.results9 rfl rfl (lvRb hxU)) rfl Hfin.out
end Go.Proofs.Ytbmkgcoolofmpaa
namespace Go.Proofs.Ytbmkgcoolofmpaa
set_option linter.unusedVariables false
set_option linter.unusedSimpArgs false
set_option linter.unusedSectionVars false
open Go Go.RowKit Go.Maps Go.Shelf
/-- a call that may be made -/
structure OpOk (Wb : World) (o : BOp) : Prop where
  msg : MgA Wb o.m
  ls : Iz Wb .i64 o.la o.lcap o.ls
  keys : ∀ a ∈ o.ls, KeyOk a
  few : o.ls.length ≤ 500
theorem do_any (Wb W : World) (F : Nat → Prop) (b room : Nat) (A : List Int) (aA : Option Addr) (cA : Nat) (X : List Mp) (lo : Option Addr) (lc : Nat) (o : BOp) (ho : OpOk Wb o) (h : Pr Wb W F b room A aA cA X lo lc) (hA : ∀ a ∈ A, KeyOk a) :
    Calls Try.prog 9 #[.pointer (some ⟨b, 0, none⟩), rV room aA A.length cA lo X.length lc, .agg (oC o)] W (BDone Wb W F b room) := by
  by_cases k1 : o.kind = 1
  · exact do_take Wb W F b room A aA cA X lo lc o k1 h hA
  by_cases k2 : o.kind = 2
  · exact do_move Wb W F b room A aA cA X lo lc o k2 h hA
  by_cases k3 : o.kind = 3
  · exact do_wall Wb W F b room A aA cA X lo lc o k3 h hA ho.ls ho.keys ho.few
  by_cases k4 : o.kind = 4
  · exact do_empty Wb W F b room A aA cA X lo lc o k4 h hA
  by_cases k5 : o.kind = 5
  · exact do_look Wb W F b room A aA cA X lo lc o k5 h hA
  exact do_put Wb W F b room A aA cA X lo lc o ⟨k1, k2, k3, k4, k5⟩ h hA ho.msg
theorem lk_nums {n : Int} (h1 : -1 ≤ n) (h2 : n < 9) : wrap64 (n + 1) = n + 1 ∧ -1 ≤ n + 1 ∧ n + 1 ≤ 9 ∧ -100 ≤ n ∧ n ≤ 1000 ∧ IntKind.i64.wrap (n + 1) = n + 1 := by
  refine ⟨by rw [IntWalk.wrap64_in _ (by omega)], by omega, by omega, by omega, by omega, ?_⟩
  simp [IntKind.wrap, IntKind.signed, IntKind.bits]; omega
theorem lk_meas {n : Int} (h1 : -1 ≤ n) (h2 : n < 9) : (9 - (n + 1)).toNat < (9 - n).toNat := by omega
theorem neq_self (c : Bool) (V : World) : (binOp .neq 4 (.bool c) (.bool c)).run Try.prog V = .ok (.bool false) V := by
  cases c <;> kernel_rfl
def intV : Value → Int | .int _ n => n | _ => 0
set_option maxRecDepth 100000 in
set_option maxHeartbeats 8000000 in
theorem like_o (Wb W : World) (F : Nat → Prop) (b room : Nat) (A : List Int) (aA : Option Addr) (cA : Nat) (X : List Mp) (lo : Option Addr) (lc : Nat) (h : Pr Wb W F b room A aA cA X lo lc) :
    Calls Try.prog 10 #[.pointer (some ⟨b, 0, none⟩), rV room aA A.length cA lo X.length lc] W fun e W' => e = .returned (.bool true) ∧ Below W.heap.size W W' := by
  unfold rV
  obtain ⟨W1, hW1⟩ : ∃ W1, W1 = W.alloc (.cells #[.int .i64 (room : Nat), .slice aA A.length cA, .slice lo X.length lc] rbT) := ⟨_, rfl⟩
  obtain ⟨b1, hb1⟩ : ∃ p, p = W.heap.size := ⟨_, rfl⟩
  have hB1 : Below W.heap.size W W1 := by rw [hW1]; exact below_new _ _
  have hx1 : W1.heap[b1]? = some (.cells #[.int .i64 (room : Nat), .slice aA A.length cA, .slice lo X.length lc] rbT (0, 0)) := by rw [hW1, hb1]; exact heap_alloc_new _ _
  have h5 := h.len
  obtain ⟨⟨l, hbg, hlm⟩, hlow, hiz, hrow, harg⟩ := h
  have hll : (l.length : Nat) = X.length := by have := congrArg List.length hlm; simpa using this
  have T1 := Lib.hid hx1
  have HB1 := Lib.hid hB1
  have Hbg := Lib.hid (hbg.below hB1)
  have Hiz := Lib.hid (hiz.below (below_on hlow hB1 (Nat.le_refl _)))
  have Hrow := Lib.hid (hrow.below hB1)
  have Hp := Lib.hid (And.intro hlm (And.intro (below_on hlow hB1 (Nat.le_refl _)) (And.intro harg (And.intro hll h5))))
  clear hx1 hB1 h5 hbg hlm hlow hiz hrow harg hll
  go_enter Try.func10, Try.ntmps10
  go_upto_region 1 with fail
  rw [← hW1, ← hb1]
  clear hW1 hb1
  go_wp2_with fail
  go_loopw [5] (fun u wr => ∃ n : Int, u = .int .i64 n ∧ -1 ≤ n ∧ n ≤ 9 ∧ Hid (Below W1.heap.size W1 wr)) (fun u _ => (9 - intV u).toNat)
  case atStart => exact ⟨-1, rfl, by decide, by decide, Lib.hid (Below.refl _ _)⟩
  case round =>
    obtain ⟨n, rfl, hn1, hn2, Hb⟩ := hrel
    by_cases hlt : n < 9
    · obtain ⟨w1, m1, m2, m3, m4, w2⟩ := lk_nums hn1 hlt
      have Hap := Lib.hid (bapart_o (Hbg.out.below Hb.out.drew) n (key_small ⟨m3, m4⟩))
      have Hhs := Lib.hid (has_o wr.drew aA cA A n (Hiz.out.below Hb.out.drew))
      have Hld := Lib.hid (fun (V : World) (hv : V = wr.drew) => ldIs (W := V) (b := b1) (o := 1) (ao := aA) (n := A.length) (cap := cA) (by rw [hv]; exact block_cell (bx_below Hb.out.drew T1.out) 1))
      have Hm := Lib.hid (lk_meas hn1 hlt)
      have HM := Lib.hid (And.intro m1 m2)
      clear m1 m2 m3 m4 hn1 hn2
      go_upto_region 4 with fail
      refine wp_region_held_drew (S := fun V => V = wr.drew) (by kernel_rfl) rfl (fun hHeld => ?_)
      refine wpAnyH_take (i := 0) (v := ?_) rfl (by kernel_rfl) (by kernel_rfl) (by kernel_rfl) (fun _ _ _ h => h) (Or.inl ⟨by rfl, ?_⟩) (by assumption) ?_
      rotate_left
      · intro w8 hSw; clear hSw; go_simp; (try with_reducible rfl)
      simp only [Act.put, List.getElem_toArray, List.getElem_cons_zero, List.getElem_cons_succ, List.setIfInBounds_toArray, List.set_cons_zero, List.set_cons_succ]
      refine wpAnyH_take (i := 1) (v := ?_) rfl (by kernel_rfl) (by kernel_rfl) (by kernel_rfl) (fun _ _ _ h => h) (Or.inl ⟨by rfl, ?_⟩) (by assumption) ?_
      rotate_left
      · intro w8 hSw; clear hSw; go_simp; (try with_reducible rfl)
      simp only [Act.put, List.getElem_toArray, List.getElem_cons_zero, List.getElem_cons_succ, List.setIfInBounds_toArray, List.set_cons_zero, List.set_cons_succ]
      refine wpAnyH_take (i := 3) (v := ?_) rfl (by kernel_rfl) (by kernel_rfl) (by kernel_rfl) (fun _ _ _ h => h) (Or.inl ⟨by rfl, ?_⟩) (by assumption) ?_
      rotate_left
      · intro w8 hSw; clear hSw; go_simp; (try with_reducible rfl)
      simp only [Act.put, List.getElem_toArray, List.getElem_cons_zero, List.getElem_cons_succ, List.setIfInBounds_toArray, List.set_cons_zero, List.set_cons_succ]
      refine wpAnyH_take (i := 4) (v := .slice aA A.length cA) rfl (by kernel_rfl) (by kernel_rfl) (by kernel_rfl) (fun _ _ _ h => h) (Or.inl ⟨by rfl, ?_⟩) (by assumption) ?_
      · intro w8 hSw; exact ld_takeT rfl (Hld.out w8 hSw) rfl
      simp only [Act.put, List.getElem_toArray, List.getElem_cons_zero, List.getElem_cons_succ, List.setIfInBounds_toArray, List.set_cons_zero, List.set_cons_succ]
      refine wpAnyH_take (i := 5) (v := ?_) rfl (by kernel_rfl) (by kernel_rfl) (by kernel_rfl) (fun _ _ _ h => h) (Or.inl ⟨by rfl, ?_⟩) (by assumption) ?_
      rotate_left
      · intro w8 hSw; clear hSw; go_simp; (try with_reducible rfl)
      simp only [Act.put, List.getElem_toArray, List.getElem_cons_zero, List.getElem_cons_succ, List.setIfInBounds_toArray, List.set_cons_zero, List.set_cons_succ]
      refine wpAnyH_ready (rs := [2]) (by kernel_rfl) (by simp) ?_
      refine AllReadyH.cons rfl (fun K hK => ?_) AllReadyH.nil
      go_simp
      go_at_call 19
      refine (Hap.out).mono ?_
      rintro e V2 ⟨rfl, hv⟩; subst V2
      refine hK.out _ _ rfl (fun hHeld => ?_)
      clear hK K
      try simp only [Act.put, List.getElem_toArray, List.getElem_cons_zero, List.getElem_cons_succ, List.setIfInBounds_toArray, List.set_cons_zero, List.set_cons_succ]
      refine wpAnyH_ready (rs := [6]) (by kernel_rfl) (by simp) ?_
      refine AllReadyH.cons rfl (fun K hK => ?_) AllReadyH.nil
      go_simp
      go_at_call 21
      refine (Hhs.out).mono ?_
      rintro e V2 ⟨rfl, hv⟩; subst V2
      refine hK.out _ _ rfl (fun hHeld => ?_)
      clear hK K
      try simp only [Act.put, List.getElem_toArray, List.getElem_cons_zero, List.getElem_cons_succ, List.setIfInBounds_toArray, List.set_cons_zero, List.set_cons_succ]
      rw [show inL A n = decide (n ∈ A) from rfl]
      obtain ⟨c, hc⟩ : ∃ c, c = decide (n ∈ A) := ⟨_, rfl⟩
      rw [← hc]
      clear hc
      refine wpAnyH_take (i := 7) (v := .bool false) rfl (by kernel_rfl) (by kernel_rfl) (by kernel_rfl) (fun _ _ _ h => h) (Or.inl ⟨by rfl, ?_⟩) (by assumption) ?_
      · intro w8 hSw; exact bin_take rfl rfl (neq_self c w8) rfl rfl
      simp only [Act.put, List.getElem_toArray, List.getElem_cons_zero, List.getElem_cons_succ, List.setIfInBounds_toArray, List.set_cons_zero, List.set_cons_succ]
      refine wpAnyH_done (by kernel_rfl) ?_ _
      go_wp2_with fail
      go_roundw
      case rel => exact ⟨n + 1, by first | rfl | (rw [w1]), HM.out.1, HM.out.2, Lib.hid Hb.out.drew⟩
      case measure => first | exact Hm.out | (simp only [intV]; rw [w1]; exact Hm.out) | (simp only [intV]; exact Hm.out)
    · have hd := bx_below Hb.out T1.out
      have s2 := block_cell hd 2
      have sl := bx_lt hd
      simp at s2
      clear hd hn1 hn2
      go_wp2_with fail
      clear s2 sl hlt
      go_loopw [24] (fun u ws => ∃ k : Nat, u = .int .i64 (k : Nat) ∧ k ≤ X.length ∧ Hid (Below W1.heap.size W1 ws)) (fun u _ => X.length - (intOf u).toNat)
      case atStart => exact ⟨0, rfl, Nat.zero_le _, Hb⟩
      case round =>
        obtain ⟨k, rfl, hk, Hc⟩ := hrel
        by_cases hlt : k < X.length
        · obtain ⟨i0, i1, w1⟩ := rw_nums hlt Hp.out.2.2.2.2
          have hkl : k < l.length := by rw [Hp.out.2.2.2.1]; exact hlt
          obtain ⟨g, o, rfl, hgl, hge, hld⟩ := (Hrow.out.below Hc.out).load k hlt rmT (.inr rfl)
          have hv : l[k].m = X[k].v := by
            have e : (l.map Lt.m)[k]? = (X.map Mp.v)[k]? := by rw [Hp.out.1]
            rw [List.getElem?_map, List.getElem?_map, List.getElem?_eq_getElem hkl, List.getElem?_eq_getElem hlt] at e
            exact Option.some.inj e
          have hma := Hp.out.2.2.1 _ (List.getElem_mem hlt)
          have Hlk := blook_yes (Hbg.out.below Hc.out) k hkl
          obtain ⟨x, hx⟩ : ∃ x, x = X[k] := ⟨_, rfl⟩
          rw [hv, ← hx] at Hlk
          rw [← hx] at hld hma
          have Hlk := Lib.hid Hlk
          have Hld := Lib.hid hld
          have Hgl := Lib.hid hgl
          have Hma := Lib.hid hma
          have Hlt := Lib.hid hlt
          clear hkl hgl hge hld hv hma hx hlt hk
          go_wp2_with fail
          refine (show Calls _ _ _ _ _ from Hlk.out).mono ?_
          rintro e V1 ⟨⟨y, rfl, hyv, hyt⟩, hb2⟩
          have HY := Lib.hid (And.intro hyv hyt)
          have Hb2 := Lib.hid hb2
          clear hyv hyt hb2
          go_upto_region 10 with (first
            | (refine wpl_alM rfl (.inl rfl) rfl ?_
               intro p8 V2 hp8 hb2 hx2 hz2
               clear hz2
               have hp8' := Lib.hid (Nat.le_of_eq hp8.symm)
               clear hp8)
            | (refine wpl_stM rfl (.inl rfl) rfl rfl rfl hx2 rfl ?_
               intro V3 hx3 hg3 hz3
               clear hz3))
          have hB3 : Below V1.heap.size V1 V3 := below_grown hb2 hg3 hp8'.out hb2.size
          have hB13 : Below wr.heap.size wr V3 := below_on Hb2.out hB3 (Nat.le_refl _)
          have HX3 := Lib.hid hx3
          have HC3 := Lib.hid (below_on Hc.out hB13 (Nat.le_refl _))
          have Hsm := Lib.hid (same_yes y x V3.drew ((HY.out.2.below hB3.drew).at) (Hma.out.at_.below (below_on (below_on Hp.out.2.1 Hc.out (Nat.le_refl _)) hB13.drew (Nat.le_refl _))) HY.out.1 Hma.out.el Hma.out.ml)
          have Hg3 := Lib.hid (hB13.block g Hgl.out)
          clear hB3 hB13 hx3 hg3 hb2 hx2
          refine wp_region_held_drew (S := fun V => V.heap[p8]? = V3.heap[p8]? ∧ V.heap[b1]? = V3.heap[b1]? ∧ V.heap[g]? = wr.heap[g]?) (by kernel_rfl) ⟨rfl, rfl, Hg3.out⟩ (fun hHeld => ?_)
          refine wpAnyH_take (i := 0) (v := ?_) rfl (by kernel_rfl) (by kernel_rfl) (by kernel_rfl) (fun _ _ _ h => h) (Or.inl ⟨by rfl, ?_⟩) (by assumption) ?_
          rotate_left
          · intro w8 hSw; clear hSw; go_simp; (try with_reducible rfl)
          simp only [Act.put, List.getElem_toArray, List.getElem_cons_zero, List.getElem_cons_succ, List.setIfInBounds_toArray, List.set_cons_zero, List.set_cons_succ]
          refine wpAnyH_take (i := 1) (v := ?_) rfl (by kernel_rfl) (by kernel_rfl) (by kernel_rfl) (fun _ _ _ h => h) (Or.inl ⟨by rfl, ?_⟩) (by assumption) ?_
          rotate_left
          · intro w8 hSw; clear hSw; go_simp; (try with_reducible rfl)
          simp only [Act.put, List.getElem_toArray, List.getElem_cons_zero, List.getElem_cons_succ, List.setIfInBounds_toArray, List.set_cons_zero, List.set_cons_succ]
          refine wpAnyH_take (i := 2) (v := ?_) rfl (by kernel_rfl) (by kernel_rfl) (by kernel_rfl) (fun _ _ _ h => h) (Or.inl ⟨by rfl, ?_⟩) (by assumption) ?_
          rotate_left
          · intro w8 hSw; clear hSw; go_simp; (try with_reducible rfl)
          simp only [Act.put, List.getElem_toArray, List.getElem_cons_zero, List.getElem_cons_succ, List.setIfInBounds_toArray, List.set_cons_zero, List.set_cons_succ]
          refine wpAnyH_take (i := 3) (v := .agg (mC y)) rfl (by kernel_rfl) (by kernel_rfl) (by kernel_rfl) (fun _ _ _ h => h) (Or.inl ⟨by rfl, ?_⟩) (by assumption) ?_
          · intro w8 hSw; exact ld_takeT rfl (ld_mbox mgT mgT (.inl rfl) (hSw.1.trans HX3.out)) rfl
          simp only [Act.put, List.getElem_toArray, List.getElem_cons_zero, List.getElem_cons_succ, List.setIfInBounds_toArray, List.set_cons_zero, List.set_cons_succ]
          refine wpAnyH_take (i := 4) (v := ?_) rfl (by kernel_rfl) (by kernel_rfl) (by kernel_rfl) (fun _ _ _ h => h) (Or.inl ⟨by rfl, ?_⟩) (by assumption) ?_
          rotate_left
          · intro w8 hSw; clear hSw; go_simp; (try with_reducible rfl)
          simp only [Act.put, List.getElem_toArray, List.getElem_cons_zero, List.getElem_cons_succ, List.setIfInBounds_toArray, List.set_cons_zero, List.set_cons_succ]
          refine wpAnyH_take (i := 5) (v := .slice (some ⟨g, o, none⟩) X.length lc) rfl (by kernel_rfl) (by kernel_rfl) (by kernel_rfl) (fun _ _ _ h => h) (Or.inl ⟨by rfl, ?_⟩) (by assumption) ?_
          · intro w8 hSw; exact ld_takeT rfl (ldMs (by rw [World.cell?_of_block (w := V3) hSw.2.1]; exact block_cell (bx_below HC3.out T1.out) 2)) rfl
          simp only [Act.put, List.getElem_toArray, List.getElem_cons_zero, List.getElem_cons_succ, List.setIfInBounds_toArray, List.set_cons_zero, List.set_cons_succ]
          refine wpAnyH_take (i := 6) (v := ?_) rfl (by kernel_rfl) (by kernel_rfl) (by kernel_rfl) (fun _ _ _ h => h) (Or.inl ⟨by rfl, ?_⟩) (by assumption) ?_
          rotate_left
          · intro w8 hSw; clear hSw; go_simp; (try with_reducible rfl)
          simp only [Act.put, List.getElem_toArray, List.getElem_cons_zero, List.getElem_cons_succ, List.setIfInBounds_toArray, List.set_cons_zero, List.set_cons_succ]
          refine wpAnyH_take (i := 7) (v := ?_) rfl (by kernel_rfl) (by kernel_rfl) (by kernel_rfl) (fun _ _ _ h => h) (Or.inl ⟨by rfl, ?_⟩) (by assumption) ?_
          rotate_left
          · intro w8 hSw; clear hSw; go_simp; (try with_reducible rfl)
          simp only [Act.put, List.getElem_toArray, List.getElem_cons_zero, List.getElem_cons_succ, List.setIfInBounds_toArray, List.set_cons_zero, List.set_cons_succ]
          refine wpAnyH_take (i := 8) (v := .agg (mC x)) rfl (by kernel_rfl) (by kernel_rfl) (by kernel_rfl) (fun _ _ _ h => h) (Or.inl ⟨by rfl, ?_⟩) (by assumption) ?_
          · intro w8 hSw; exact ld_takeT rfl (Hld.out w8 hSw.2.2) rfl
          simp only [Act.put, List.getElem_toArray, List.getElem_cons_zero, List.getElem_cons_succ, List.setIfInBounds_toArray, List.set_cons_zero, List.set_cons_succ]
          refine wpAnyH_ready (rs := [9]) (by kernel_rfl) (by simp) ?_
          refine AllReadyH.cons rfl (fun K hK => ?_) AllReadyH.nil
          go_simp
          go_at_call 24
          refine ((show Calls _ _ _ _ _ from Hsm.out)).mono ?_
          rintro e V9 ⟨rfl, hb9⟩
          refine hK.out _ _ ⟨hb9.block p8 (bx_lt HX3.out), hb9.block b1 (bx_lt (bx_below HC3.out.drew T1.out)), (hb9.block g (by have h := bx_lt (Hg3.out.trans (Array.getElem?_eq_getElem Hgl.out)); exact h)).trans Hg3.out⟩ (fun hHeld => ?_)
          clear hK K
          try simp only [Act.put, List.getElem_toArray, List.getElem_cons_zero, List.getElem_cons_succ, List.setIfInBounds_toArray, List.set_cons_zero, List.set_cons_succ]
          refine wpAnyH_take (i := 10) (v := ?_) rfl (by kernel_rfl) (by kernel_rfl) (by kernel_rfl) (fun _ _ _ h => h) (Or.inl ⟨by rfl, ?_⟩) (by assumption) ?_
          rotate_left
          · intro w8 hSw; clear hSw; go_simp; (try with_reducible rfl)
          simp only [Act.put, List.getElem_toArray, List.getElem_cons_zero, List.getElem_cons_succ, List.setIfInBounds_toArray, List.set_cons_zero, List.set_cons_succ]
          refine wpAnyH_take (i := 11) (v := ?_) rfl (by kernel_rfl) (by kernel_rfl) (by kernel_rfl) (fun _ _ _ h => h) (Or.inl ⟨by rfl, ?_⟩) (by assumption) ?_
          rotate_left
          · intro w8 hSw; clear hSw; go_simp; (try with_reducible rfl)
          simp only [Act.put, List.getElem_toArray, List.getElem_cons_zero, List.getElem_cons_succ, List.setIfInBounds_toArray, List.set_cons_zero, List.set_cons_succ]
          refine wpAnyH_done (by kernel_rfl) ?_ _
          have HC9 := Lib.hid (below_on HC3.out.drew hb9 (Nat.le_refl _))
          clear hb9
          go_wp2_with fail
          go_roundw
          case rel => exact ⟨k + 1, by first | (rw [w1]; simp) | simp, Hlt.out, HC9⟩
          case measure => first | exact meas_w Hlt.out w1 | exact meas_p Hlt.out
        · have Hln := Lib.hid (blen_o (Hbg.out.below Hc.out.drew))
          have Hld := Lib.hid (fun (V : World) (hv : V = wr.drew) => ldMs (W := V) (b := b1) (o := 2) (ao := lo) (n := X.length) (cap := lc) (by rw [hv]; exact block_cell (bx_below Hc.out.drew T1.out) 2))
          have i1 : ¬ ((k : Nat) : Int) < (X.length : Nat) := by omega
          clear hlt hk
          go_upto_region 13 with fail
          refine wp_region_held_drew (S := fun V => V = wr.drew) (by kernel_rfl) rfl (fun hHeld => ?_)
          refine wpAnyH_take (i := 0) (v := ?_) rfl (by kernel_rfl) (by kernel_rfl) (by kernel_rfl) (fun _ _ _ h => h) (Or.inl ⟨by rfl, ?_⟩) (by assumption) ?_
          rotate_left
          · intro w8 hSw; clear hSw; go_simp; (try with_reducible rfl)
          simp only [Act.put, List.getElem_toArray, List.getElem_cons_zero, List.getElem_cons_succ, List.setIfInBounds_toArray, List.set_cons_zero, List.set_cons_succ]
          refine wpAnyH_take (i := 2) (v := ?_) rfl (by kernel_rfl) (by kernel_rfl) (by kernel_rfl) (fun _ _ _ h => h) (Or.inl ⟨by rfl, ?_⟩) (by assumption) ?_
          rotate_left
          · intro w8 hSw; clear hSw; go_simp; (try with_reducible rfl)
          simp only [Act.put, List.getElem_toArray, List.getElem_cons_zero, List.getElem_cons_succ, List.setIfInBounds_toArray, List.set_cons_zero, List.set_cons_succ]
          refine wpAnyH_take (i := 3) (v := .slice lo X.length lc) rfl (by kernel_rfl) (by kernel_rfl) (by kernel_rfl) (fun _ _ _ h => h) (Or.inl ⟨by rfl, ?_⟩) (by assumption) ?_
          · intro w8 hSw; exact ld_takeT rfl (Hld.out w8 hSw) rfl
          simp only [Act.put, List.getElem_toArray, List.getElem_cons_zero, List.getElem_cons_succ, List.setIfInBounds_toArray, List.set_cons_zero, List.set_cons_succ]
          refine wpAnyH_take (i := 4) (v := ?_) rfl (by kernel_rfl) (by kernel_rfl) (by kernel_rfl) (fun _ _ _ h => h) (Or.inl ⟨by rfl, ?_⟩) (by assumption) ?_
          rotate_left
          · intro w8 hSw; clear hSw; go_simp; (try with_reducible rfl)
          simp only [Act.put, List.getElem_toArray, List.getElem_cons_zero, List.getElem_cons_succ, List.setIfInBounds_toArray, List.set_cons_zero, List.set_cons_succ]
          refine wpAnyH_ready (rs := [1]) (by kernel_rfl) (by simp) ?_
          refine AllReadyH.cons rfl (fun K hK => ?_) AllReadyH.nil
          go_simp
          go_at_call 18
          refine ((show Calls _ _ _ _ _ from Hln.out)).mono ?_
          rintro e V2 ⟨rfl, hv⟩; subst V2
          refine hK.out _ _ rfl (fun hHeld => ?_)
          clear hK K
          try simp only [Act.put, List.getElem_toArray, List.getElem_cons_zero, List.getElem_cons_succ, List.setIfInBounds_toArray, List.set_cons_zero, List.set_cons_succ]
          rw [Hp.out.2.2.2.1]
          refine wpAnyH_take (i := 5) (v := ?_) rfl (by kernel_rfl) (by kernel_rfl) (by kernel_rfl) (fun _ _ _ h => h) (Or.inl ⟨by rfl, ?_⟩) (by assumption) ?_
          rotate_left
          · intro w8 hSw; clear hSw; go_simp; (try with_reducible rfl)
          simp only [Act.put, List.getElem_toArray, List.getElem_cons_zero, List.getElem_cons_succ, List.setIfInBounds_toArray, List.set_cons_zero, List.set_cons_succ]
          refine wpAnyH_take (i := 6) (v := ?_) rfl (by kernel_rfl) (by kernel_rfl) (by kernel_rfl) (fun _ _ _ h => h) (Or.inl ⟨by rfl, ?_⟩) (by assumption) ?_
          rotate_left
          · intro w8 hSw; clear hSw; go_simp; (try with_reducible rfl)
          simp only [Act.put, List.getElem_toArray, List.getElem_cons_zero, List.getElem_cons_succ, List.setIfInBounds_toArray, List.set_cons_zero, List.set_cons_succ]
          refine wpAnyH_done (by kernel_rfl) ?_ _
          go_wp2_with fail
          go_ret
          exact ⟨rfl, below_on HB1.out Hc.out.drew (Nat.le_refl _)⟩
end Go.Proofs.Ytbmkgcoolofmpaa
namespace Go.Proofs.Ytbmkgcoolofmpaa
set_option linter.unusedVariables false
set_option linter.unusedSimpArgs false
set_option linter.unusedSectionVars false
open Go Go.ChangeShapes Go.WideShapes Go.ChangeAt Go.RowKit
theorem u8_list (zs : List Int) (h : ∀ n ∈ zs, (Lit.int .u8 n).wf = true) : zs.map (Value.int .u8) = (zs.map fun z => UInt8.ofNat z.toNat).map u8 := by
  rw [List.map_map]
  apply List.map_congr_left
  intro z hz
  have := bounds_u8 (h z hz)
  simp only [Function.comp, u8]
  congr 1
  simp only [UInt8.toNat_ofNat', Nat.reducePow]
  omega
theorem bs_of {w : World} {a : Option Addr} {len cap : Nat} {zs : List Int} (hl : len ≤ cap) (hm : cap ≤ maxLen) (hz : zs.length = cap) (hw : ∀ n ∈ zs, (Lit.int .u8 n).wf = true) (hn : a = none → cap = 0)
    (hc : ∀ x, a = some x → ∀ i, i < cap → w.cell? (x.add i) = some (.int .u8 (zs.getD i 0))) : ∃ l : List UInt8, len = l.length ∧ Bs w a cap l := by
  have hw' : ∀ n ∈ zs.take len, (Lit.int .u8 n).wf = true := fun n hn => hw n (List.mem_of_mem_take hn)
  refine ⟨(zs.take len).map fun z => UInt8.ofNat z.toNat, by simp; omega, ?_⟩
  unfold Bs
  rw [← u8_list _ hw']
  have hlen : (List.map (fun z => UInt8.ofNat z.toNat) (List.take len zs)).length = len := by simp; omega
  rw [hlen]
  refine ⟨by simp; omega, hl, hm, hn, fun j u hu => ?_⟩
  rw [List.getElem?_map] at hu
  have hj : j < len := by
    apply Classical.byContradiction
    intro h
    rw [List.getElem?_eq_none (by simp; omega)] at hu
    cases hu
  cases a with
  | none => have := hn rfl; omega
  | some x =>
    have h0 := hc x rfl 0 (by omega)
    obtain ⟨b, off, sp⟩ := x
    have hsp : sp = none := by simpa [Addr.add] using World.cell?_spot h0
    subst hsp
    refine ⟨b, off, rfl, ?_⟩
    have h1 := hc _ rfl j (by omega)
    rw [Addr.add_none] at h1
    rw [h1, ← hu, List.getElem?_take, if_pos hj, List.getElem?_eq_getElem (by omega)]
    simp [List.getD, List.getElem?_eq_getElem (show j < zs.length by omega)]
section
variable {H : Type} {enc : TypeId × Value → H} {P : Program} {w : World} {base : Nat} {held : Bool}
theorem open_bs {t e : TypeId} {fuel : Nat} {ao : Option Addr} {len cap : Nat} {x : DataW H × List MemPlace} (ht : P.underlying t = some (.slice e)) (he : P.underlying e = some (.int .u8)) (ce : P.cellsOf e = 1)
    (h : DataW.trod enc P w base (fun _ => true) held fuel t (Value.slice ao len cap).cells.toList = some x) : ∃ l : List UInt8, len = l.length ∧ Bs w ao cap l := by
  rcases open_ints ht he ce h with ⟨hcs, _⟩ | ⟨a, l, c, zs, hcs, _, hl, hm, hz, _, hcell, hwz⟩
  · simp [Value.cells] at hcs
    obtain ⟨rfl, rfl, rfl⟩ := hcs
    exact ⟨[], rfl, by simp, by simp, by decide, fun _ => rfl, fun j u hu => by simp at hu⟩
  · simp [Value.cells] at hcs
    obtain ⟨rfl, rfl, rfl⟩ := hcs
    simp only [if_true] at hz
    refine bs_of hl hm hz hwz (by simp) fun x hx i hi => ?_
    simp only [Option.some.injEq] at hx
    subst hx
    exact hcell i (by omega)
end
end Go.Proofs.Ytbmkgcoolofmpaa
namespace Go.Proofs.Ytbmkgcoolofmpaa
set_option linter.unusedVariables false
set_option linter.unusedSimpArgs false
set_option linter.unusedSectionVars false
open Go Go.ChangeShapes Go.WideShapes Go.ChangeAt Go.RowKit Go.Deep
theorem rows_len {α : Type} {cells : α → List Value} {k : Nat} (hl : ∀ a, (cells a).length = k) (l : List α) : (l.map cells).flatten.length = l.length * k := by
  induction l with
  | nil => simp
  | cons a l ih => simp only [List.map_cons, List.flatten_cons, List.length_append, ih, hl, List.length_cons, Nat.succ_mul]; omega
/-- what a cell of rows is -/
theorem rows_get {α : Type} {cells : α → List Value} {k : Nat} (hl : ∀ a, (cells a).length = k) (hk : 0 < k) (l : List α) (j : Nat) (u : Value) (h : (l.map cells).flatten[j]? = some u) :
    ∃ (hi : j / k < l.length), (cells l[j / k])[j % k]? = some u := by
  have hj : j < (l.map cells).flatten.length := (List.getElem?_eq_some_iff.1 h).1
  rw [rows_len hl] at hj
  have hi : j / k < l.length := Nat.div_lt_of_lt_mul (by rw [Nat.mul_comm]; exact hj)
  refine ⟨hi, ?_⟩
  have hm : j % k < k := Nat.mod_lt _ hk
  have := flatten_get (rows := l.map cells) (k := k) (by intro r hr; obtain ⟨x, _, rfl⟩ := List.mem_map.1 hr; exact hl x) (j / k) (j % k) (by simpa using hi) (by simp [hl]; exact hm)
  rw [show j / k * k + j % k = j from by rw [Nat.mul_comm]; exact Nat.div_add_mod j k, h] at this
  rw [this, List.getElem?_eq_getElem (by rw [hl]; exact hm)]
  simp
section
variable {H : Type} {enc : TypeId × Value → H} {P : Program} {w : World} {base : Nat} {held : Bool}
theorem open_rows {α : Type} [Inhabited α] (cells : α → List Value) (good : α → Prop) {k : Nat} (hl : ∀ a, (cells a).length = k) (hk : 0 < k) {t e : TypeId} {fuel : Nat} {ao : Option Addr} {len cap : Nat} {x : DataW H × List MemPlace}
    (ht : P.underlying t = some (.slice e)) (hC : P.cellsOf e = k)
    (hrow : ∀ (n : Nat) (cs : List Value) (y : DataW H × List MemPlace), cs.length = k → DataW.trod enc P w base (fun _ => true) held n e cs = some y → ∃ a, cs = cells a ∧ good a)
    (h : DataW.trod enc P w base (fun _ => true) held fuel t (Value.slice ao len cap).cells.toList = some x) : ∃ l : List α, len = l.length ∧ Sl w k ao l.length cap (l.map cells).flatten ∧ ∀ a ∈ l, good a := by
  rcases open_slice ht h with ⟨hcs, _⟩ | ⟨a, len', cap', m, n, D, Pl, hcs, _, hle, hmax, hmm, _, hx⟩
  · simp [Value.cells] at hcs
    obtain ⟨rfl, rfl, rfl⟩ := hcs
    exact ⟨[], rfl, ⟨by simp, by simp, by decide, fun _ => rfl, fun j u hu => by simp at hu⟩, by simp⟩
  · simp [Value.cells] at hcs
    obtain ⟨rfl, rfl, rfl⟩ := hcs
    simp only [if_true] at hmm
    subst hmm
    have each : ∀ i, i < len → ∃ q : α, (∀ j, j < k → w.cell? (a.add (i * k + j)) = (cells q)[j]?) ∧ good q := by
      intro i hi
      obtain ⟨cs', h1, h2⟩ := hx i (by omega)
      rw [hC] at h1
      obtain ⟨_, hlen, hcell⟩ := World.cells?_some h1
      obtain ⟨q, rfl, hq⟩ := hrow _ _ _ hlen h2
      refine ⟨q, fun j hj => ?_, hq⟩
      rw [← add_add]; exact hcell j hj
    obtain ⟨y, hy⟩ := choose_lt each
    refine ⟨(List.range len).map y, by simp, ⟨by simpa using rows_len hl ((List.range len).map y), by simpa using hle, hmax, by simp, fun j u hu => ?_⟩, ?_⟩
    · obtain ⟨hi, hu'⟩ := rows_get hl hk _ j u hu
      have hi' : j / k < len := by simpa using hi
      have hm : j % k < k := Nat.mod_lt _ hk
      have hc := (hy _ hi').1 _ hm
      rw [show j / k * k + j % k = j from by rw [Nat.mul_comm]; exact Nat.div_add_mod j k] at hc
      simp only [List.getElem_map, List.getElem_range] at hu'
      rw [hu'] at hc
      obtain ⟨b, off, sp⟩ := a
      have hcz := (hy 0 (Nat.lt_of_le_of_lt (Nat.zero_le _) hi')).1 0 hk
      rw [List.getElem?_eq_getElem (by rw [hl]; exact hk)] at hcz
      have hsp : sp = none := by simpa [Addr.add] using World.cell?_spot hcz
      subst hsp
      refine ⟨b, off, rfl, ?_⟩
      rwa [Addr.add_none] at hc
    · intro q hq
      obtain ⟨i, hi, rfl⟩ := List.mem_map.1 hq
      exact (hy i (List.mem_range.1 hi)).2
end
end Go.Proofs.Ytbmkgcoolofmpaa
namespace Go.Proofs.Ytbmkgcoolofmpaa
set_option linter.unusedVariables false
set_option linter.unusedSimpArgs false
set_option linter.unusedSectionVars false
open Go Go.ChangeShapes Go.WideShapes Go.ChangeAt Go.RowKit Go.Deep
instance : Inhabited Ep := ⟨⟨⟨0, 0, []⟩, none, 0⟩⟩
section
variable {H : Type} {enc : TypeId × Value → H} {w : World} {base : Nat} {held : Bool}
def EpOk (w : World) (a : Ep) : Prop := Bs w a.ao a.cap a.e.data ∧ (Lit.int .u64 a.e.term).wf = true ∧ (Lit.int .i64 a.e.kind).wf = true
set_option maxRecDepth 100000 in
theorem row_ep (n : Nat) (cs : List Value) (y : DataW H × List MemPlace) (hcs : cs.length = 3) (h : DataW.trod enc Try.prog w base (fun _ => true) held n 88 cs = some y) : ∃ a : Ep, cs = epCells a ∧ EpOk w a := by
  obtain ⟨xs, m, _, hx, _, hlen, hg⟩ := DataW.trod_struct Try.underlying88 h
  match cs, hcs with
  | [c0, c1, c2], _ =>
    match xs, hlen with
    | [y0, y1, y2], _ =>
      have hone : oneCellFields Try.prog _ = true := (by kernel_rfl : oneCellFields Try.prog (match Try.prog.underlying 88 with | some (.struct fs) => fs | _ => #[]) = true)
      rw [Try.underlying88] at hone
      obtain ⟨o0, k0⟩ := hone_of hone 0 _ rfl
      obtain ⟨o1, k1⟩ := hone_of hone 1 _ rfl
      obtain ⟨o2, k2⟩ := hone_of hone 2 _ rfl
      have t0 := hg 0 _ rfl
      have t1 := hg 1 _ rfl
      have t2 := hg 2 _ rfl
      rw [o0, k0] at t0
      rw [o1, k1] at t1
      rw [o2, k2] at t2
      obtain ⟨n0, e0, d0, w0⟩ := DataW.trod_int (k := .u64) Try.underlying31 t0
      obtain ⟨n1, e1, d1, w1⟩ := DataW.trod_int (k := .i64) Try.underlying3 t1
      simp at e0 e1 t2
      subst e0; subst e1
      have key : ∃ (ao : Option Addr) (len cap : Nat), c2 = .slice ao len cap := by
        rcases open_ints Try.underlying33 Try.underlying5 (by kernel_rfl) t2 with ⟨hcs, _⟩ | ⟨a, l, c, zs, hcs, _⟩
        · simp [Value.cells] at hcs; exact ⟨_, _, _, hcs⟩
        · simp [Value.cells] at hcs; exact ⟨_, _, _, hcs⟩
      obtain ⟨ao, len, cap, rfl⟩ := key
      obtain ⟨l, rfl, hb⟩ := open_bs Try.underlying33 Try.underlying5 (by kernel_rfl) (by simpa [Value.cells] using t2)
      exact ⟨⟨⟨n0, n1, l⟩, ao, cap⟩, rfl, hb, w0, w1⟩
theorem open_eps {fuel : Nat} {ao : Option Addr} {len cap : Nat} {x : DataW H × List MemPlace} (h : DataW.trod enc Try.prog w base (fun _ => true) held fuel 32 (Value.slice ao len cap).cells.toList = some x) :
    ∃ l : List Ep, len = l.length ∧ Ens w ao cap l ∧ ∀ a ∈ l, EpOk w a := by
  obtain ⟨l, h1, h2, h3⟩ := open_rows epCells (EpOk w) (fun _ => rfl) (by decide) Try.underlying32 (by kernel_rfl) (fun n cs y hcs hy => row_ep n cs y hcs hy) h
  exact ⟨l, h1, ⟨h2, fun a ha => (h3 a ha).1⟩, h3⟩
end
end Go.Proofs.Ytbmkgcoolofmpaa
namespace Go.Proofs.Ytbmkgcoolofmpaa
set_option linter.unusedVariables false
set_option linter.unusedSimpArgs false
set_option linter.unusedSectionVars false
open Go Go.ChangeShapes Go.WideShapes Go.ChangeAt Go.RowKit Go.Deep
theorem ints_flat (k : IntKind) (l : List Int) : (l.map fun a => [Value.int k a]).flatten = l.map (Value.int k) := by
  induction l with
  | nil => rfl
  | cons a l ih => simp only [List.map_cons, List.flatten_cons, ih]; rfl
section
variable {H : Type} {enc : TypeId × Value → H} {P : Program} {w : World} {base : Nat} {held : Bool}
theorem open_is {t e : TypeId} {k : IntKind} {fuel : Nat} {ao : Option Addr} {len cap : Nat} {x : DataW H × List MemPlace} (ht : P.underlying t = some (.slice e)) (he : P.underlying e = some (.int k)) (hC : P.cellsOf e = 1)
    (h : DataW.trod enc P w base (fun _ => true) held fuel t (Value.slice ao len cap).cells.toList = some x) : ∃ l : List Int, len = l.length ∧ Sl w 1 ao l.length cap (l.map (Value.int k)) ∧ ∀ a ∈ l, (Lit.int k a).wf = true := by
  obtain ⟨l, h1, h2, h3⟩ := open_rows (fun a : Int => [Value.int k a]) (fun a => (Lit.int k a).wf = true) (fun _ => rfl) (by decide) ht hC (fun n cs y hcs hy => by
    obtain ⟨a, e0, _, w0⟩ := DataW.trod_int he hy
    exact ⟨a, e0, w0⟩) h
  exact ⟨l, h1, by rw [← ints_flat]; exact h2, h3⟩
end
end Go.Proofs.Ytbmkgcoolofmpaa
namespace Go.Proofs.Ytbmkgcoolofmpaa
set_option linter.unusedVariables false
set_option linter.unusedSimpArgs false
set_option linter.unusedSectionVars false
open Go Go.ChangeShapes Go.WideShapes Go.ChangeAt Go.RowKit Go.Deep
instance : Inhabited Mp := ⟨mp0⟩
instance : Inhabited BOp := ⟨⟨0, 0, 0, mp0, none, 0, []⟩⟩
section
variable {H : Type} {enc : TypeId × Value → H} {w : World} {base : Nat} {held : Bool}
theorem slice_of {t e : TypeId} {fuel : Nat} {c : Value} {x : DataW H × List MemPlace} (ht : Try.prog.underlying t = some (.slice e)) (h : DataW.trod enc Try.prog w base (fun _ => true) held fuel t [c] = some x) : ∃ (ao : Option Addr) (len cap : Nat), c = .slice ao len cap := by
  rcases open_slice ht h with ⟨hcs, _⟩ | ⟨a, len', cap', m, n, D, Pl, hcs, _⟩
  · simp [Value.cells] at hcs; exact ⟨_, _, _, hcs⟩
  · simp [Value.cells] at hcs; exact ⟨_, _, _, hcs⟩
set_option maxRecDepth 100000 in
set_option maxHeartbeats 4000000 in
theorem row_msg (n : Nat) (cs : List Value) (y : DataW H × List MemPlace) (hcs : cs.length = 15) (h : DataW.trod enc Try.prog w base (fun _ => true) held n 37 cs = some y) : ∃ x : Mp, cs = (mpA x).toList ∧ MpAt w x ∧ MsgOk x := by
  obtain ⟨xs, m, _, hx, _, hlen, hg⟩ := DataW.trod_struct Try.underlying37 h
  match cs, hcs with
  | [c0, c1, c2, c3, c4, c5, c6, c7, c8, c9, c10, c11, c12, c13, c14], _ =>
    match xs, hlen with
    | [y0, y1, y2, y3, y4, y5, y6, y7, y8, y9, y10, y11], _ =>
      have t0 := hg 0 _ rfl
      have t1 := hg 1 _ rfl
      have t2 := hg 2 _ rfl
      have t3 := hg 3 _ rfl
      have t4 := hg 4 _ rfl
      have t5 := hg 5 _ rfl
      have t6 := hg 6 _ rfl
      have t7 := hg 7 _ rfl
      have t8 := hg 8 _ rfl
      have t9 := hg 9 _ rfl
      have t10 := hg 10 _ rfl
      have t11 := hg 11 _ rfl
      have ki : Try.prog.cellsOf 3 = 1 := by kernel_rfl
      have ku : Try.prog.cellsOf 31 = 1 := by kernel_rfl
      have kb : Try.prog.cellsOf 4 = 1 := by kernel_rfl
      have ke : Try.prog.cellsOf 32 = 1 := by kernel_rfl
      have kl : Try.prog.cellsOf 27 = 1 := by kernel_rfl
      have kd : Try.prog.cellsOf 33 = 1 := by kernel_rfl
      have ks : Try.prog.cellsOf 35 = 4 := by kernel_rfl
      simp [ki, ku, kb, ke, ks] at t0 t1 t2 t3 t4 t5 t6 t7 t8 t9 t10 t11
      obtain ⟨n0, e0, d0, w0⟩ := DataW.trod_int (k := .i64) Try.underlying3 t0
      simp at e0
      subst e0
      obtain ⟨n1, e1, d1, w1⟩ := DataW.trod_int (k := .i64) Try.underlying3 t1
      simp at e1
      subst e1
      obtain ⟨n2, e2, d2, w2⟩ := DataW.trod_int (k := .i64) Try.underlying3 t2
      simp at e2
      subst e2
      obtain ⟨n3, e3, d3, w3⟩ := DataW.trod_int (k := .u64) Try.underlying31 t3
      simp at e3
      subst e3
      obtain ⟨n4, e4, d4, w4⟩ := DataW.trod_int (k := .u64) Try.underlying31 t4
      simp at e4
      subst e4
      obtain ⟨n5, e5, d5, w5⟩ := DataW.trod_int (k := .u64) Try.underlying31 t5
      simp at e5
      subst e5
      obtain ⟨n6, e6, d6, w6⟩ := DataW.trod_int (k := .u64) Try.underlying31 t6
      simp at e6
      subst e6
      obtain ⟨n7, e7, d7, w7⟩ := DataW.trod_int (k := .u64) Try.underlying31 t7
      simp at e7
      subst e7
      obtain ⟨n8, e8, d8⟩ := DataW.trod_bool Try.underlying4 t8
      simp at e8
      subst e8
      obtain ⟨n9, e9, d9⟩ := DataW.trod_bool Try.underlying4 t9
      simp at e9
      subst e9
      obtain ⟨ao10, len10, cap10, rfl⟩ := slice_of Try.underlying32 t10
      obtain ⟨el, hel, hens, _⟩ := open_eps (by simpa [Value.cells] using t10)
      subst hel
      obtain ⟨xs2, nn2, _, hx2, _, hlen2, hg2⟩ := DataW.trod_struct Try.underlying35 t11
      match xs2, hlen2 with
      | [z0, z1, z2, z3], _ =>
        have s0 := hg2 0 _ rfl
        have s1 := hg2 1 _ rfl
        have s2 := hg2 2 _ rfl
        have s3 := hg2 3 _ rfl
        simp [ku, kl, kd] at s0 s1 s2 s3
        obtain ⟨m0, f0, g0, v0⟩ := DataW.trod_int (k := .u64) Try.underlying31 s0
        obtain ⟨m1, f1, g1, v1⟩ := DataW.trod_int (k := .u64) Try.underlying31 s1
        simp at f0 f1
        subst f0; subst f1
        obtain ⟨ao13, len13, cap13, rfl⟩ := slice_of Try.underlying27 s2
        obtain ⟨ao14, len14, cap14, rfl⟩ := slice_of Try.underlying33 s3
        obtain ⟨ml, hml, hmem, _⟩ := open_is Try.underlying27 Try.underlying3 (by kernel_rfl) (by simpa [Value.cells] using s2)
        subst hml
        obtain ⟨dl, hdl, hdat⟩ := open_bs Try.underlying33 Try.underlying5 (by kernel_rfl) (by simpa [Value.cells] using s3)
        subst hdl
        exact ⟨⟨n0, n1, n2, n3, n4, n5, n6, n7, n8, n9, ao10, cap10, el, m0, m1, ao13, cap13, ml, ao14, cap14, dl⟩, rfl, ⟨hens, hmem, hdat⟩, (bounds_u64 w4).1, (bounds_u64 w5).1, (bounds_u64 w6).1, (bounds_u64 w7).1⟩
/-- a call that came in -/
def BOpOk (w : World) (o : BOp) : Prop := MpAt w o.m ∧ MsgOk o.m ∧ Iz w .i64 o.la o.lcap o.ls ∧ ∀ a ∈ o.ls, KeyOk a
def bopCells (o : BOp) : List Value := (oC o).toList
set_option maxRecDepth 100000 in
set_option maxHeartbeats 4000000 in
theorem row_bop (n : Nat) (cs : List Value) (y : DataW H × List MemPlace) (hcs : cs.length = 19) (h : DataW.trod enc Try.prog w base (fun _ => true) held n 39 cs = some y) : ∃ a : BOp, cs = bopCells a ∧ BOpOk w a := by
  obtain ⟨xs, m, _, hx, _, hlen, hg⟩ := DataW.trod_struct Try.underlying39 h
  match xs, hlen with
  | [y0, y1, y2, y3, y4], _ =>
    have t0 := hg 0 _ rfl
    have t1 := hg 1 _ rfl
    have t2 := hg 2 _ rfl
    have t3 := hg 3 _ rfl
    have t4 := hg 4 _ rfl
    have ki : Try.prog.cellsOf 3 = 1 := by kernel_rfl
    have km : Try.prog.cellsOf 37 = 15 := by kernel_rfl
    have kl : Try.prog.cellsOf 27 = 1 := by kernel_rfl
    match cs, hcs with
    | [c0, c1, c2, c3, c4, c5, c6, c7, c8, c9, c10, c11, c12, c13, c14, c15, c16, c17, c18], _ =>
      simp [ki, km, kl] at t0 t1 t2 t3 t4
      obtain ⟨n0, e0, d0, w0⟩ := DataW.trod_int (k := .i64) Try.underlying3 t0
      simp at e0
      subst e0
      obtain ⟨n1, e1, d1, w1⟩ := DataW.trod_int (k := .i64) Try.underlying3 t1
      simp at e1
      subst e1
      obtain ⟨n2, e2, d2, w2⟩ := DataW.trod_int (k := .i64) Try.underlying3 t2
      simp at e2
      subst e2
      obtain ⟨x, ex, hx1, hx2⟩ := row_msg _ _ _ rfl t3
      simp only [mpA, List.cons.injEq, and_true] at ex
      obtain ⟨rfl, rfl, rfl, rfl, rfl, rfl, rfl, rfl, rfl, rfl, rfl, rfl, rfl, rfl, rfl⟩ := ex
      obtain ⟨la, ln, lcap, rfl⟩ := slice_of Try.underlying27 t4
      obtain ⟨ls, hls, hiz, hk⟩ := open_is Try.underlying27 Try.underlying3 (by kernel_rfl) (by simpa [Value.cells] using t4)
      subst hls
      exact ⟨⟨n0, n1, n2, x, la, lcap, ls⟩, rfl, hx1, hx2, hiz, hk⟩
def BOps (w : World) (ao : Option Addr) (cap : Nat) (l : List BOp) : Prop := Sl w 19 ao l.length cap (l.map bopCells).flatten
set_option maxRecDepth 100000 in
theorem open_bops {fuel : Nat} {ao : Option Addr} {len cap : Nat} {x : DataW H × List MemPlace} (h : DataW.trod enc Try.prog w base (fun _ => true) held fuel 22 (Value.slice ao len cap).cells.toList = some x) :
    ∃ l : List BOp, len = l.length ∧ BOps w ao cap l ∧ ∀ a ∈ l, BOpOk w a :=
  open_rows bopCells (BOpOk w) (fun _ => rfl) (by decide) Try.underlying22 (by kernel_rfl) (fun n cs y hcs hy => row_bop n cs y hcs hy) h
set_option maxRecDepth 100000 in
theorem open_bop {r : Reach} {b0 : Nat} {v : Value} {d : DataW H} {p : List MemPlace} (hv : Value.okWide Try.prog w r b0 39 v) (h : DataW.Trod enc Try.prog w base (fun _ => true) held 39 v d p) : ∃ o : BOp, v = .agg (oC o) ∧ BOpOk w o := by
  unfold Value.okWide at hv
  rw [Try.underlying39] at hv
  simp only at hv
  obtain ⟨cs, rfl, hsz, -⟩ := hv
  have hC : Try.prog.cellsOf 39 = 19 := by kernel_rfl
  rw [hC] at hsz
  obtain ⟨fuel, hf⟩ := h
  obtain ⟨o, ho, hok⟩ := row_bop fuel cs.toList _ (by simpa using hsz) (by simpa [Value.cells] using hf)
  refine ⟨o, ?_, hok⟩
  congr 1
  have : cs = (oC o) := by
    apply Array.toList_inj.1
    exact ho
  exact this
end
end Go.Proofs.Ytbmkgcoolofmpaa
namespace Go.Proofs.Ytbmkgcoolofmpaa
set_option linter.unusedVariables false
set_option linter.unusedSimpArgs false
set_option linter.unusedSectionVars false
open Go Go.RowKit Go.Maps Go.Shelf
theorem ld_op {W : World} {op : BOp} {b o : Nat} (h : ∀ j u, (oC op)[j]? = some u → W.cell? ⟨b, o + j, none⟩ = some u) : (Instr.loadAt boT (.pointer (some ⟨b, o, none⟩))).run Try.prog W = .ok (.agg (oC op)) W := by
  obtain ⟨d, hu, hd⟩ := Option.map_eq_some_iff.1 (show (Try.prog.underlying boT).map TypeDesc.isRow = some true by kernel_rfl)
  have := run_loadAt_mid W b o boT (oC op).toList d (fun j v hv => h j v (by rw [← Array.getElem?_toList]; exact hv)) hu hd (show (Try.prog.info? boT).map (·.size) = some 19 by kernel_rfl)
  rwa [Array.toArray_toList] at this
theorem ld_obox {W : World} {op : BOp} {b : Nat} {U : TypeId} (h : W.heap[b]? = some (.cells (oC op) U (0, 0))) : (Instr.loadAt boT (.pointer (some ⟨b, 0, none⟩))).run Try.prog W = .ok (.agg (oC op)) W :=
  ld_op (fun j u hu => by rw [Nat.zero_add, block_cell h j]; exact hu)
def bo0 : BOp := ⟨0, 0, 0, mp0, none, 0, []⟩
theorem oC_one (o : BOp) : (oC o).all (·.oneCell') = true := by simp [oC, Value.oneCell']
section
variable {ops : Array Oper} {rest : List Oper} {o : Oper} {a : Act} {W : World} {Q : Exit → Act → World → Prop}
theorem wpl_stO (hg : o.guard = none) {x y : Operand} (hop : o.op = .store boT x y) {b : Nat} {z : BOp} (hx : a.eval x = .pointer (some ⟨b, 0, none⟩)) (hy : a.eval y = .agg (oC z))
    {old : Array Value} (hb : W.heap[b]? = some (.cells old boT (0, 0))) (hold : old.size = 19)
    (h : ∀ W', W'.heap[b]? = some (.cells (oC z) boT (0, 0)) → W.grownBy W' (some b) → W'.heap.size = W.heap.size → wpList Try.prog ops Q rest (a.put o.dst undef) W') : wpList Try.prog ops Q (o :: rest) a W := by
  refine wpList_store_row hg boT x y hop b (oC z) hx hy boT old hb (by kernel_rfl) (by rw [hold]; rfl) (oC_one z) (h _ (setRow_heap W b old _ boT _ hb) ⟨rfl, rfl, rfl, by simp, fun k _ hk => setRow_other W b k _ (fun e => hk (by simp [e]))⟩ (by simp))
theorem wpl_alO (hg : o.guard = none) (hop : o.op = .alloc boT)
    (h : ∀ p W', p = W.heap.size → Below W.heap.size W W' → W'.heap[p]? = some (.cells (oC bo0) boT (0, 0)) → W'.heap.size = W.heap.size + 1 → wpList Try.prog ops Q rest (a.put o.dst (.pointer (some ⟨p, 0, none⟩))) W') : wpList Try.prog ops Q (o :: rest) a W := by
  refine wpList_plain hg fun K hK => ?_
  have hz : (zeroValue boT).run Try.prog W = .ok (.agg (oC bo0)) W := by kernel_rfl
  unfold Oper.wp
  simp [execOp, hop, Result.andThen, go_sem, hz, Value.cells]
  exact hK _ _ (h W.heap.size _ rfl (below_new _ _) (heap_alloc_new _ _) (by simp))
end
theorem BOps.below {w w' : World} {ao : Option Addr} {cap : Nat} {l : List BOp} (h : BOps w ao cap l) (hb : Below w.heap.size w w') : BOps w' ao cap l := Sl.below h hb
theorem BOps.load {W : World} {ao : Option Addr} {cap : Nat} {l : List BOp} (h : BOps W ao cap l) (i : Nat) (hi : i < l.length) : ∃ g o, ao = some ⟨g, o, none⟩ ∧ g < W.heap.size ∧ (Instr.loadAt boT (.pointer (some ⟨g, o + i * 19, none⟩))).run Try.prog W = .ok (.agg (oC l[i])) W := by
  have key : ∀ j u, (oC l[i])[j]? = some u → (l.map bopCells).flatten[i * 19 + j]? = some u := by
    intro j u hu
    have hj : j < 19 := (Array.getElem?_eq_some_iff.1 hu).1
    have := flatten_get (rows := l.map bopCells) (k := 19) (by intro r hr; obtain ⟨x, _, rfl⟩ := List.mem_map.1 hr; rfl) i j (by simpa using hi) (by rw [List.getElem_map]; exact hj)
    rw [this]
    have e0 : (l.map bopCells)[i]'(by simpa using hi) = bopCells l[i] := by simp
    have e : ((l.map bopCells)[i]'(by simpa using hi))[j]? = some u := by rw [e0]; unfold bopCells; rw [Array.getElem?_toList]; exact hu
    obtain ⟨hj2, e1⟩ := List.getElem?_eq_some_iff.1 e
    rw [← e1]
  obtain ⟨b, off, e, hc0⟩ := h.cell _ _ (key 0 _ rfl)
  have hcells : ∀ j u, (oC l[i])[j]? = some u → W.cell? ⟨b, (off + i * 19) + j, none⟩ = some u := fun j u hu => by
    obtain ⟨b', off', e', hc⟩ := h.cell _ _ (key j u hu)
    rw [e] at e'
    simp only [Option.some.injEq, Addr.mk.injEq] at e'
    obtain ⟨rfl, rfl, -⟩ := e'
    rw [Nat.add_assoc]; exact hc
  exact ⟨b, off, e, cell?_lt hc0, ld_op hcells⟩
theorem li_nums {i n : Nat} (h : i < n) (h2 : n ≤ maxLen) : (0 : Int) ≤ (i : Int) ∧ (i : Int) < (n : Int) ∧ wrap64 ((i : Int) + 1) = (i : Int) + 1 := by
  unfold maxLen at h2
  refine ⟨by omega, by omega, ?_⟩
  rw [IntWalk.wrap64_in _ (by omega)]
/-- are calls looked at? -/
def LightB (l : List BOp) : Prop := (∀ o ∈ l, o.ls.length ≤ 40 ∧ LightM o.m) ∧ l.length ≤ 80
instance (l : List BOp) : Decidable (LightB l) := by unfold LightB; exact inferInstance
set_option maxRecDepth 100000 in
set_option maxHeartbeats 4000000 in
theorem light36_o (W : World) (ao : Option Addr) (cap : Nat) (l : List BOp) (h : BOps W ao cap l) (hm : ∀ o ∈ l, MpAt W o.m) :
    Calls Try.prog 6 #[.slice ao l.length cap] W fun e W' => e = .returned (.bool (decide (LightB l))) ∧ Below W.heap.size W W' := by
  obtain ⟨c, hc⟩ : ∃ c, c = decide (LightB l) := ⟨_, rfl⟩
  rw [← hc]
  have hiff : c = true ↔ ((∀ o ∈ l, o.ls.length ≤ 40 ∧ LightM o.m) ∧ l.length ≤ 80) := by rw [hc]; exact decide_eq_true_iff
  have hmx : l.length ≤ maxLen := Nat.le_trans h.le h.max
  have Hc := Lib.hid hiff
  have Hs := Lib.hid h
  have Hm := Lib.hid hm
  have Hmx := Lib.hid hmx
  clear hc hiff h hm hmx
  go_enter Try.func6, Try.ntmps6
  go_wp2_with fail
  go_loopw [7] (fun u wr => ∃ i : Nat, u = .int .i64 (i : Nat) ∧ i ≤ l.length ∧ Hid (∀ o ∈ l.take i, o.ls.length ≤ 40 ∧ LightM o.m) ∧ Hid (Below W.heap.size W wr)) (fun u _ => l.length - (intOf u).toNat)
  case atStart => exact ⟨0, rfl, Nat.zero_le _, Lib.hid (by simp), Lib.hid (Below.refl _ _)⟩
  case round =>
    obtain ⟨i, rfl, hi, Hinv, Hb⟩ := hrel
    by_cases hlt : i < l.length
    · obtain ⟨g, o, rfl, hgl, l10⟩ := (Hs.out.below Hb.out).load i hlt
      obtain ⟨i0, i1, w1⟩ := li_nums hlt Hmx.out
      have hma := Hm.out _ (List.getElem_mem hlt)
      have hno : ¬ (l[i].ls.length ≤ 40 ∧ LightM l[i].m) → c = false := fun hn => by
        rw [Bool.eq_false_iff, ne_eq, Hc.out]
        exact fun hh => hn (hh.1 _ (List.getElem_mem hlt))
      have hnx : (l[i].ls.length ≤ 40 ∧ LightM l[i].m) → ∀ o ∈ l.take (i + 1), o.ls.length ≤ 40 ∧ LightM o.m := fun hn o ho => by
        rw [List.take_succ_eq_append_getElem hlt] at ho
        rcases List.mem_append.1 ho with ho | ho
        · exact Hinv.out o ho
        · simp only [List.mem_singleton] at ho; subst ho; exact hn
      obtain ⟨op, hop⟩ : ∃ op, op = l[i] := ⟨_, rfl⟩
      rw [← hop] at l10 hma hno hnx
      have Hma := Lib.hid hma
      have Hno := Lib.hid hno
      have Hnx := Lib.hid hnx
      have Hlt := Lib.hid hlt
      clear hop hma hno hnx hlt hgl
      go_upto_region 4 with (first
        | ((with_reducible show wpList _ _ _ (⟨_, Op.load _ _, _, _, _, _⟩ :: _) _ _); refine wpl_ldT rfl rfl rfl (by assumption) ?_)
        | (refine wpl_alO rfl rfl ?_
           intro p4 V2 hp4 hb2 hx2 hz2
           clear hz2
           have hp4' := Lib.hid (Nat.le_of_eq hp4.symm)
           clear hp4)
        | (refine wpl_stO rfl rfl rfl rfl hx2 rfl ?_
           intro V3 hx3 hg3 hz3
           clear hz3))
      have hB3 : Below wr.heap.size wr V3 := below_grown hb2 hg3 hp4'.out hb2.size
      have HB3 := Lib.hid (below_on Hb.out hB3 (Nat.le_refl _))
      obtain ⟨-, -, -, k18, kmsg, kl⟩ := OpBox.of hx3
      have Hlm := Lib.hid (light30_any op.m V3 (Hma.out.below (below_on Hb.out hB3 (Nat.le_refl _))))
      clear hB3 hb2 hg3 hx2 hx3 l10
      by_cases h40 : op.ls.length ≤ 40
      · have c40 : ¬ ((op.ls.length : Int) > 40) := by omega
        by_cases hlm : LightM op.m
        · have hn := Lib.hid (Hnx.out ⟨h40, hlm⟩)
          rw [decide_eq_true hlm] at Hlm
          clear h40 hlm
          go_wp2_with ((with_reducible show wpList _ _ _ (⟨_, Op.load 37 _, _, _, _, _⟩ :: _) _ _); refine wpl_ldT rfl rfl rfl (by assumption) ?_)
          refine (show Calls _ _ _ _ _ from Hlm.out).mono ?_
          rintro e V4 ⟨rfl, hb4⟩
          have HB4 := Lib.hid (below_on HB3.out hb4 (Nat.le_refl _))
          clear hb4 k18 kmsg kl
          go_wp2_with fail
          go_roundw
          case rel => exact ⟨i + 1, by first | (rw [w1]; simp) | simp, Hlt.out, hn, HB4⟩
          case measure => first | exact meas_w Hlt.out w1 | exact meas_p Hlt.out
        · have hf := Lib.hid (Hno.out (fun hh => hlm hh.2))
          rw [decide_eq_false hlm] at Hlm
          clear h40 hlm
          go_wp2_with ((with_reducible show wpList _ _ _ (⟨_, Op.load 37 _, _, _, _, _⟩ :: _) _ _); refine wpl_ldT rfl rfl rfl (by assumption) ?_)
          refine (show Calls _ _ _ _ _ from Hlm.out).mono ?_
          rintro e V4 ⟨rfl, hb4⟩
          have HB4 := Lib.hid (below_on HB3.out hb4 (Nat.le_refl _))
          clear hb4 k18 kmsg kl
          go_wp2_with fail
          go_ret
          exact ⟨by rw [hf.out]; rfl, HB4.out⟩
      · have c40 : (op.ls.length : Int) > 40 := by omega
        have hf := Lib.hid (Hno.out (fun hh => h40 hh.1))
        clear h40
        go_wp2_with fail
        go_ret
        exact ⟨by rw [hf.out]; rfl, HB3.out⟩
    · have hii : i = l.length := Nat.le_antisymm hi (Nat.not_lt.1 hlt)
      have hall := Hinv.out
      rw [hii, List.take_length] at hall
      subst hii
      by_cases h80 : l.length ≤ 80
      · have c80 : (l.length : Int) ≤ 80 := by omega
        have hct := Lib.hid (Hc.out.2 ⟨hall, h80⟩)
        clear hlt hi hall h80
        go_wp2_with fail
        go_ret
        exact ⟨by rw [hct.out]; rfl, Hb.out⟩
      · have c80 : ¬ (l.length : Int) ≤ 80 := by omega
        have hct : Hid (c = false) := (by rw [Bool.eq_false_iff, ne_eq, Hc.out]; exact fun hh => h80 hh.2 : c = false)
        clear hlt hi hall h80
        go_wp2_with fail
        go_ret
        exact ⟨by rw [hct.out]; rfl, Hb.out⟩
end Go.Proofs.Ytbmkgcoolofmpaa
namespace Go.Proofs.Ytbmkgcoolofmpaa
set_option linter.unusedVariables false
set_option linter.unusedSimpArgs false
set_option linter.unusedSectionVars false
open Go Go.RowKit Go.Maps Go.Shelf Go.Great
def exB : Mp := ⟨8, 1, 2, 4, 0, 0, 0, 0, false, false, none, 0, [], 0, 0, none, 0, [], none, 0, []⟩
theorem exB_sound : soundM exB.v = true := by decide +kernel
theorem exA_at (W : World) : MpAt W exM := ⟨⟨(Bs.nil W).1 ▸ (⟨by simp [exM], by simp [exM], by decide, fun _ => rfl, fun j u hu => by simp [exM] at hu⟩), fun x hx => by simp [exM] at hx⟩, Iz.nil W .i64, Bs.nil W⟩
theorem exB_at (W : World) : MpAt W exB := ⟨⟨(Bs.nil W).1 ▸ (⟨by simp [exB], by simp [exB], by decide, fun _ => rfl, fun j u hu => by simp [exB] at hu⟩), fun x hx => by simp [exB] at hx⟩, Iz.nil W .i64, Bs.nil W⟩
theorem ex_args (W : World) : ∀ x ∈ [exM, exB], MgA W x := by
  intro x hx
  simp only [List.mem_cons, List.not_mem_nil, or_false] at hx
  rcases hx with rfl | rfl
  · exact ⟨exA_at W, by decide, by decide, ⟨by decide, by decide, by decide, by decide⟩⟩
  · exact ⟨exB_at W, by decide, by decide, ⟨by decide, by decide, by decide, by decide⟩⟩
theorem ex_puts : putsM 9 (fun _ => false) [] ([exM, exB].map Mp.v) = [exM.v, exB.v] := by
  simp [putsM, putOk, exM_sound, exB_sound]
theorem ex_row (W : World) : MgRow (W.alloc (.cells (mC exM ++ mC exB) mgT)) mgT (some ⟨W.heap.size, 0, none⟩) 2 [exM, exB] := by
  have hb : (W.alloc (.cells (mC exM ++ mC exB) mgT)).heap[W.heap.size]? = some (.cells (mC exM ++ mC exB) mgT (0, 0)) := heap_alloc_new _ _
  refine ⟨rfl, by simp [mRow, mC], ⟨by rfl, by simp, by unfold maxLen; omega, by simp, fun j u hu => ?_⟩, fun b off s e => ?_⟩
  · refine ⟨_, _, rfl, ?_⟩
    rw [Nat.zero_add, block_cell hb j]
    rw [show (([exM, exB].map mRow).flatten) = (mC exM ++ mC exB).toList from rfl, Array.getElem?_toList] at hu
    exact hu
  · cases e; exact elem?_of hb
section
variable {ops : Array Oper} {rest : List Oper} {o : Oper} {a : Act} {W : World} {Q : Exit → Act → World → Prop}
end
theorem ex_ints {V : World} {g : Nat} {n : Int} (hb : V.heap[g]? = some (.cells #[.int .i64 n] 3 (0, 0))) : Iz V .i64 (some ⟨g, 0, none⟩) 1 [n] := by
  refine ⟨by simp, by simp, by unfold maxLen; omega, by simp, fun j u hu => ⟨_, _, rfl, ?_⟩⟩
  rw [Nat.zero_add, block_cell hb j]
  simpa using hu
theorem ex_keep (l : List Lt) (h : l.map Lt.m = [exM.v, exB.v]) : ∃ y, keepL (inL [0]) l = [y] ∧ y.m = exB.v ∧ l.length = 2 := by
  rcases l with _ | ⟨x, _ | ⟨y, _ | ⟨z, t⟩⟩⟩
  · cases h
  · simp at h
  · simp only [List.map_cons, List.map_nil, List.cons.injEq, and_true] at h
    obtain ⟨hx, hy⟩ := h
    refine ⟨y, ?_, hy, rfl⟩
    have c1 : crB (inL [0]) x = true := by unfold crB inL; rw [hx]; decide
    have c2 : crB (inL [0]) y = false := by unfold crB inL; rw [hy]; decide
    simp [keepL, c1, c2]
  · simp at h
set_option maxRecDepth 100000 in
set_option maxHeartbeats 8000000 in
theorem lives36_any (W : World) : Calls Try.prog 7 #[] W fun e W' => e = .returned (.bool true) ∧ Below W.heap.size W W' := by
  have Hnew := Lib.hid (fun V (hb : W.heap.size ≤ V.heap.size) => bnew_o W.heap.size V 9 (by decide) hb)
  go_enter Try.func7, Try.ntmps7
  go_wp2_with fail
  refine (show Calls _ _ _ _ _ from Hnew.out _ (Nat.le_refl _)).mono ?_
  rintro e W1 ⟨b, F, rfl, hbg, hb1, hFn⟩
  have HB1 := Lib.hid hb1
  have Hbg1 := Lib.hid hbg
  have HF1 := Lib.hid hFn
  clear hbg hb1 hFn
  go_wp2_with fail
  change Calls _ _ _ (W1.alloc (.cells (mC exM ++ mC exB) mgT)) _
  have hbr := below_new W1 (.cells (mC exM ++ mC exB) mgT (0, 0))
  obtain ⟨W2, hW2⟩ : ∃ W2, W2 = W1.alloc (.cells (mC exM ++ mC exB) mgT) := ⟨_, rfl⟩
  have HR := Lib.hid (ex_row W1)
  rw [← hW2] at hbr HR ⊢
  have HB2 := Lib.hid (below_on HB1.out hbr (Nat.le_refl _))
  have Hput := Lib.hid (bput_o (Wb := W) (Hbg1.out.below hbr) HB2.out [exM, exB] _ 2 HR.out (ex_args W) (by decide))
  have HUP := Lib.hid (fun i hi => (((Hbg1.out.below hbr).elem i hi).2.1 : W.heap.size ≤ i))
  clear hbr hW2
  refine (show Calls _ _ _ _ _ from Hput.out).mono ?_
  rintro e W3 ⟨l, n, rfl, hl, hn, F3, hbg3, hG3, hF3⟩
  rw [List.map_nil, ex_puts] at hl
  obtain ⟨y, hky, hy, hl2⟩ := ex_keep l hl
  obtain rfl : n = 2 := by simp at hn; omega
  have HB3 := Lib.hid (HB2.out.trans (hG3.above HB2.out.size HUP.out))
  have HBg3 := Lib.hid hbg3
  have HY := Lib.hid (And.intro hky (And.intro hy hl2))
  clear hl hn hbg3 hG3 hF3 hky hy hl2 Hput HUP HR
  go_wp2_with fail
  change Calls _ _ _ (W3.alloc (.cells #[.int .i64 0] 3)) _
  have hbr := below_new W3 (.cells #[.int .i64 0] 3 (0, 0))
  obtain ⟨W4, hW4⟩ : ∃ W4, W4 = W3.alloc (.cells #[.int .i64 0] 3) := ⟨_, rfl⟩
  have HI : Hid (W4.heap[W3.heap.size]? = some (.cells #[.int .i64 0] 3 (0, 0))) := (by rw [hW4]; exact heap_alloc_new _ _ : W4.heap[W3.heap.size]? = some (.cells #[.int .i64 0] 3 (0, 0)))
  rw [← hW4] at hbr ⊢
  have HB4 := Lib.hid (below_on HB3.out hbr (Nat.le_refl _))
  have hwl := bwall_o (HBg3.out.below hbr) HB4.out.size [0] (some ⟨W3.heap.size, 0, none⟩) 1 (fun V hV => ex_ints ((hV.block _ (bx_lt HI.out) (fun hF => absurd (HBg3.out.elem _ hF).1 (Nat.lt_irrefl _))).trans HI.out)) (by intro n hn; simp at hn; subst hn; exact key_small ⟨by decide, by decide⟩) (by decide)
  rw [HY.out.1, HY.out.2.2] at hwl
  have Hwl := Lib.hid hwl
  have HUP := Lib.hid (fun i hi => (((HBg3.out.below hbr).elem i hi).2.1 : W.heap.size ≤ i))
  clear hbr hW4 hwl
  refine (show Calls _ _ _ _ _ from Hwl.out).mono ?_
  rintro e W5 ⟨rfl, F5, hbg5, hG5, hF5⟩
  have HB5 := Lib.hid (HB4.out.trans (hG5.above HB4.out.size HUP.out))
  have HBg5 := Lib.hid hbg5
  clear hbg5 hG5 hF5 Hwl HUP HI HBg3
  go_wp2_with fail
  have htk := btake_yes HBg5.out 0 (by simp)
  have HUP := Lib.hid (fun i hi => ((HBg5.out.elem i hi).2.1 : W.heap.size ≤ i))
  refine (show Calls _ _ _ _ _ from htk).mono ?_
  rintro e W6 ⟨⟨z, rfl, hz, hzt⟩, F6, hbg6, hG6, hF6⟩
  have hz2 : z.term = 4 := by
    have : z.v = exB.v := hz.trans HY.out.2.1
    exact congrArg Ms.term this
  have HZ := Lib.hid hz2
  have HB6 := Lib.hid (HB5.out.trans (hG6.above HB5.out.size HUP.out))
  have HBg6 := Lib.hid hbg6
  clear hbg6 hG6 hF6 HUP htk hz hzt hz2
  go_upto_region 5 with (first
    | (refine wpl_alM rfl (.inl rfl) rfl ?_
       intro p4 V2 hp4 hb2 hx2 hz2
       clear hz2
       have hp4' := Lib.hid (Nat.le_of_eq hp4.symm)
       clear hp4)
    | (refine wpl_stM rfl (.inl rfl) rfl rfl rfl hx2 rfl ?_
       intro V3 hx3 hg3 hz3
       clear hz3))
  have hB3 : Below W6.heap.size W6 V3 := below_grown hb2 hg3 hp4'.out hb2.size
  have Hg7 := Lib.hid (HBg6.out.below hB3)
  have HB7 := Lib.hid (below_on HB6.out hB3 (Nat.le_refl _))
  have hc : V3.cell? ⟨p4, 3, none⟩ = some (.int .u64 4) := by rw [block_cell hx3 3, ← HZ.out]; rfl
  have hl := bx_lt hx3
  clear hB3 hx3 hg3 hb2 hx2 HBg6 HB6
  go_wp2_with fail
  refine (show Calls _ _ _ _ _ from blen_o Hg7.out).mono ?_
  rintro e W8 ⟨rfl, hW8⟩
  subst W8
  go_wp2_with fail
  go_ret
  exact ⟨rfl, HB7.out⟩
end Go.Proofs.Ytbmkgcoolofmpaa
namespace Go.Proofs.Ytbmkgcoolofmpaa
set_option linter.unusedVariables false
set_option linter.unusedSimpArgs false
set_option linter.unusedSectionVars false
open Go Go.RowKit Go.Maps Go.Shelf
/-- both bags, the document's in its box -/
def BSt (Wb : World) (b room p : Nat) (W : World) : Prop := ∃ F A aA cA X lo lc, Pr Wb W F b room A aA cA X lo lc ∧ (∀ a ∈ A, KeyOk a) ∧ W.heap[p]? = some (.cells #[.int .i64 (room : Nat), .slice aA A.length cA, .slice lo X.length lc] rbT (0, 0)) ∧ ¬ F p ∧ Wb.heap.size ≤ p
theorem rbT_u8 : rbT ≠ u8T := by decide
theorem rbT_rm : rbT ≠ rmT := by decide
theorem bst_start {Wb W1 W2 : World} {F : Nat → Prop} {b room p : Nat} (h : Bg Wb.heap.size W1 F b room (fun _ => false) []) (hb : Below Wb.heap.size Wb W2) (h12 : Below W1.heap.size W1 W2) (hp : W1.heap.size ≤ p) (hx : W2.heap[p]? = some (.cells #[.int .i64 (room : Nat), .slice none 0 0, .slice none 0 0] rbT (0, 0))) (hbp : Wb.heap.size ≤ p) : BSt Wb b room p W2 := by
  refine ⟨F, [], none, 0, [], none, 0, ⟨⟨[], ?_, rfl⟩, hb, Iz.nil _ _, ⟨rfl, by simp, (Bs.nil W2 : Sl _ 1 _ _ _ _) |> fun h => ⟨rfl, Nat.le_refl _, h.max, fun _ => rfl, fun j u hu => by simp at hu⟩, fun b off s e => by cases e⟩, by simp⟩, by simp, hx, fun hF => ?_, hbp⟩
  · have e : inL [] = (fun _ => false) := by funext j; simp [inL]
    rw [e]; exact h.below h12
  · exact absurd (h.elem _ hF).1 (Nat.not_lt.2 hp)
theorem opok_of {Wb : World} {o : BOp} (h : BOpOk Wb o) (hl : o.ls.length ≤ 40 ∧ LightM o.m) : OpOk Wb o := ⟨⟨h.1, hl.2.2.1, hl.2.2.2.1, h.2.1⟩, h.2.2.1, h.2.2.2, Nat.le_trans hl.1 (by decide)⟩
end Go.Proofs.Ytbmkgcoolofmpaa
namespace Go.Proofs.Ytbmkgcoolofmpaa
set_option linter.unusedVariables false
set_option linter.unusedSimpArgs false
set_option linter.unusedSectionVars false
open Go Go.RowKit Go.Maps Go.Shelf
section
variable {W : World} {q : Option Addr}
theorem nlen_o (h : BNone W q) : Calls Try.prog 18 #[.pointer q] W fun e W' => e = .returned (.int .i64 0) ∧ W' = W := by
  have Hn := Lib.hid (h W (Below.refl _ _))
  clear h
  go_enter Try.func18, Try.ntmps18
  go_wp2_with fail
  refine (show Calls _ _ _ _ _ from Hn.out).mono ?_
  rintro e V1 ⟨rfl, hv⟩
  subst V1
  go_wp2_with fail
  go_ret
  exact ⟨rfl, rfl⟩
theorem nhas_o (h : BNone W q) (k : Int) : Calls Try.prog 31 #[.pointer q, .int .i64 k] W fun e W' => e = .returned (.bool false) ∧ W' = W := by
  have Hn := Lib.hid (nlen_o h)
  clear h
  by_cases h0 : k ≥ 0
  · go_enter Try.func31, Try.ntmps31
    go_wp2_with fail
    refine (show Calls _ _ _ _ _ from Hn.out).mono ?_
    rintro e V1 ⟨rfl, hv⟩
    subst V1
    have h1 : ¬ k < 0 := by omega
    go_wp2_with fail
    go_ret
    exact ⟨by simp [h1]; try omega, rfl⟩
  · go_enter Try.func31, Try.ntmps31
    go_wp2_with fail
    go_ret
    exact ⟨rfl, rfl⟩
set_option maxRecDepth 100000 in
set_option maxHeartbeats 2000000 in
theorem nlook_o (h : BNone W q) (k : Int) : Calls Try.prog 13 #[.pointer q, .int .i64 k] W fun e W' => TellM ms0 false e W' ∧ Below W.heap.size W W' := by
  have Hh := Lib.hid (fun V (hb : Below W.heap.size W V) => nhas_o (h.below hb) k)
  clear h
  go_enter Try.func13, Try.ntmps13
  go_wp2_with (refine wpl_alM rfl (.inl rfl) rfl ?_; intro p1 W1 hp1 hb1 hx1 hz1; clear hz1; have hp2 := Lib.hid (Nat.le_of_eq hp1.symm); clear hp1)
  refine (Hh.out _ hb1).mono ?_
  rintro e V1 ⟨rfl, hv⟩
  subst V1
  go_wp2_with (first | (refine wpl_buM rfl (.inl rfl) rfl ?_) | (refine wpl_stM rfl (.inl rfl) rfl rfl rfl hx1 rfl ?_; intro W2 hx2 hg2 hz2))
  exact bodyPost_ret (v := .tuple #[.agg (mC mp0), .bool false]) (results_2 Try.results13 rfl rfl (lv_mbox _ _ (.inl rfl) hx2)) rfl ⟨⟨mp0, rfl, mp0_v, mp0_T _⟩, below_grown hb1 hg2 hp2.out hb1.size⟩
set_option maxRecDepth 100000 in
set_option maxHeartbeats 2000000 in
theorem ntake_o (h : BNone W q) (k : Int) : Calls Try.prog 12 #[.pointer q, .int .i64 k] W fun e W' => TellM ms0 false e W' ∧ Below W.heap.size W W' := by
  have Hlk := Lib.hid (fun V (hb : Below W.heap.size W V) => nlook_o (h.below hb) k)
  clear h
  go_enter Try.func12, Try.ntmps12
  go_wp2_with (refine wpl_alM rfl (.inl rfl) rfl ?_; intro p1 W1 hp1 hb1 hx1 hz1; clear hz1; have hp1' := Lib.hid (Nat.le_of_eq hp1.symm); clear hp1)
  refine (show Calls _ _ _ _ _ from Hlk.out _ hb1).mono ?_
  rintro e V1 ⟨⟨y, rfl, hy, hyt⟩, hb2⟩
  go_upto_region 2 with (first | (refine wpl_alM rfl (.inl rfl) rfl ?_; intro p2 V2 hp2 hb3 hx2 hz2; clear hz2; have hp2' := Lib.hid (Nat.le_of_eq hp2.symm); clear hp2) | (refine wpl_stM rfl (.inl rfl) rfl rfl rfl hx2 rfl ?_; intro V3 hx3 hg3 hz3; clear hz3))
  have hbV2 := below_on hb1 (below_on hb2 hb3 (Nat.le_refl _)) (Nat.le_refl _)
  have hB3 : Below W.heap.size W V3 := below_grown hbV2 hg3 (by have := hp2'.out; have := (below_on hb1 hb2 (Nat.le_refl _)).size; omega) hbV2.size
  have hx1' : V3.heap[p1]? = some (.cells (mC mp0) mgT (0, 0)) := (hg3.block p1 (Nat.lt_of_lt_of_le (bx_lt hx1) (below_on hb2 hb3 (Nat.le_refl _)).size) (fun e => by have := Option.some.inj e; have h1 := bx_lt hx1; have := hp2'.out; have := hb2.size; omega)).trans (bx_below (below_on hb2 hb3 (Nat.le_refl _)) hx1)
  have hyt3 : MpT V3 y := (hyt.below hb3).box hx2 (.inl rfl) hg3
  have l3 := ld_mbox mgT mgT (.inl rfl) hx3
  have HB3 := Lib.hid hB3
  have HY := Lib.hid (And.intro hy hyt3)
  clear hbV2 hB3 hyt3 hy hyt hb1 hb2 hb3 hg3
  go_wp2_with (first | ((with_reducible show wpList _ _ _ (⟨_, Op.load _ _, _, _, _, _⟩ :: _) _ _); refine wpl_ldT rfl rfl rfl (by assumption) ?_) | (refine wpl_stM rfl (.inl rfl) rfl rfl rfl hx1' rfl ?_; intro V4 hx4 hg4 hz4; clear hz4))
  exact bodyPost_ret (v := .tuple #[.agg (mC y), .bool false]) (results_2 Try.results12 rfl rfl (lv_mbox _ _ (.inl rfl) hx4)) rfl ⟨⟨y, rfl, HY.out.1, HY.out.2.box hx1' (.inl rfl) hg4⟩, below_grown HB3.out hg4 hp1'.out HB3.out.size⟩
theorem nput_o (h : BNone W q) (v : Value) : Calls Try.prog 14 #[.pointer q, v] W fun e W' => e = .returned (.int .i64 0) ∧ W' = W := by
  have Hn := Lib.hid (h W (Below.refl _ _))
  clear h
  go_enter Try.func14, Try.ntmps14
  go_wp2_with fail
  refine (show Calls _ _ _ _ _ from Hn.out).mono ?_
  rintro e V1 ⟨rfl, hv⟩
  subst V1
  go_wp2_with fail
  go_ret
  exact ⟨rfl, rfl⟩
theorem nmove_o (h : BNone W q) (k t : Int) : Calls Try.prog 15 #[.pointer q, .int .i64 k, .int .i64 t] W fun e W' => e = .returned (.bool false) ∧ W' = W := by
  have Hn := Lib.hid (nhas_o h k)
  clear h
  go_enter Try.func15, Try.ntmps15
  go_wp2_with fail
  refine (show Calls _ _ _ _ _ from Hn.out).mono ?_
  rintro e V1 ⟨rfl, hv⟩
  subst V1
  go_wp2_with fail
  go_ret
  exact ⟨rfl, rfl⟩
theorem nwall_o (h : BNone W q) (v : Value) : Calls Try.prog 16 #[.pointer q, v] W fun e W' => e = .returned (.int .i64 0) ∧ W' = W := by
  have Hn := Lib.hid (h W (Below.refl _ _))
  clear h
  go_enter Try.func16, Try.ntmps16
  go_wp2_with fail
  refine (show Calls _ _ _ _ _ from Hn.out).mono ?_
  rintro e V1 ⟨rfl, hv⟩
  subst V1
  go_wp2_with fail
  go_ret
  exact ⟨rfl, rfl⟩
theorem nempty_o (h : BNone W q) : Calls Try.prog 17 #[.pointer q] W fun e W' => e = .returned (.int .i64 0) ∧ W' = W := by
  have Hn := Lib.hid (nlen_o h)
  clear h
  go_enter Try.func17, Try.ntmps17
  go_wp2_with fail
  refine (show Calls _ _ _ _ _ from Hn.out).mono ?_
  rintro e V1 ⟨rfl, hv⟩
  subst V1
  go_wp2_with fail
  go_ret
  exact ⟨rfl, rfl⟩
theorem napart_o (h : BNone W q) (k : Int) : Calls Try.prog 19 #[.pointer q, .int .i64 k] W fun e W' => e = .returned (.bool false) ∧ W' = W := by
  have Hn := Lib.hid (h W (Below.refl _ _))
  clear h
  go_enter Try.func19, Try.ntmps19
  go_wp2_with fail
  refine (show Calls _ _ _ _ _ from Hn.out).mono ?_
  rintro e V1 ⟨rfl, hv⟩
  subst V1
  go_wp2_with fail
  go_ret
  exact ⟨rfl, rfl⟩
theorem nclone_o (h : BNone W q) : Calls Try.prog 11 #[.pointer q] W fun e W' => ∃ c, e = .returned (.pointer (some ⟨c, 0, none⟩)) ∧ BNone W' (some ⟨c, 0, none⟩) ∧ Below W.heap.size W W' := by
  have Hn := Lib.hid (h W (Below.refl _ _))
  clear h
  go_enter Try.func11, Try.ntmps11
  go_wp2_with fail
  refine (show Calls _ _ _ _ _ from Hn.out).mono ?_
  rintro e V1 ⟨rfl, hv⟩
  subst V1
  go_wp2_with fail
  go_ret
  exact ⟨_, rfl, BNone.zero (by rw [block_cell (heap_alloc_new _ _) 1]; rfl), below_new _ _⟩
end
end Go.Proofs.Ytbmkgcoolofmpaa
namespace Go.Proofs.Ytbmkgcoolofmpaa
set_option linter.unusedVariables false
set_option linter.unusedSimpArgs false
set_option linter.unusedSectionVars false
open Go Go.RowKit Go.Maps Go.Shelf Go.Great
abbrev bpT : TypeId := 25
theorem bs2O (x y : BOp) : Try.prog.builtSlice boT 2 [(0, .agg (oC x)), (1, .agg (oC y))] = some (oC x ++ oC y) := by
  obtain ⟨x0, x1, x2, ⟨a0, a1, a2, a3, a4, a5, a6, a7, a8, a9, a10, a11, a12, a13, a14, a15, a16, a17, a18, a19, a20⟩, x4, x5, x6⟩ := x
  obtain ⟨y0, y1, y2, ⟨c0, c1, c2, c3, c4, c5, c6, c7, c8, c9, c10, c11, c12, c13, c14, c15, c16, c17, c18, c19, c20⟩, y4, y5, y6⟩ := y
  kernel_rfl
theorem bs3P (x y z : Option Addr) : Try.prog.builtSlice bpT 3 [(0, .pointer x), (1, .pointer y), (2, .pointer z)] = some #[.pointer x, .pointer y, .pointer z] := by kernel_rfl
/-- a row of parts that are at hand -/
theorem wpo_bsAny {t e : TypeId} {len : Nat} {parts : Array (Nat × Operand)} {W : World} {o : Oper} {a : Act} {K : Act → World → Prop} {Q : Exit → Act → World → Prop} (hop : o.op = .buildSlice t len parts) (hu : Try.prog.underlying t = some (.slice e)) {cells : Array Value} {l : List (Nat × Value)} (hl : (parts.map fun (i, x) => (i, a.eval x)).toList = l) (hb : Try.prog.builtSlice e len l = some cells)
    (h : K (a.put o.dst (.slice (some ⟨W.heap.size, 0, none⟩) len len)) (W.alloc (.cells cells e))) : o.wp Try.prog a W K Q := by
  unfold Program.builtSlice at hb
  cases hie : Try.prog.info? e with
  | none => simp [hie] at hb
  | some ie =>
    simp only [hie] at hb
    cases hz : ie.zero with
    | none => simp [hz] at hb
    | some z =>
      simp only [hz] at hb
      by_cases hc : len * ie.size > 2 ^ 24 ∨ len * ie.size = 0
      · rw [if_pos hc] at hb; cases hb
      · rw [if_neg hc] at hb
        refine wp_buildSlice t e len parts hop cells ie z hu hie hz (fun h' => hc (Or.inl h')) (fun h' => hc (Or.inr h')) ?_ h
        rw [hl]; exact hb
theorem wpl_bsAny {t e : TypeId} {len : Nat} {parts : Array (Nat × Operand)} {ops : Array Oper} {rest : List Oper} {W : World} {o : Oper} {a : Act} {Q : Exit → Act → World → Prop} (hw : Region.wanted o (yielded ops a.tmps) = true) (hop : o.op = .buildSlice t len parts) (hu : Try.prog.underlying t = some (.slice e)) {cells : Array Value} {l : List (Nat × Value)} (hl : (parts.map fun (i, x) => (i, a.eval x)).toList = l) (hb : Try.prog.builtSlice e len l = some cells)
    (h : wpList Try.prog ops Q rest (a.put o.dst (.slice (some ⟨W.heap.size, 0, none⟩) len len)) (W.alloc (.cells cells e))) : wpList Try.prog ops Q (o :: rest) a W :=
  wpl_of hw fun K hK => wpo_bsAny hop hu hl hb (hK _ _ h)
section
variable {t e : TypeId} {ops : Array Oper} {rest : List Oper} {W : World} {o : Oper} {a : Act} {Q : Exit → Act → World → Prop}
theorem wpl_bs2V {x y : Operand} {u v : Value} {cells : Array Value} (hw : Region.wanted o (yielded ops a.tmps) = true) (hop : o.op = .buildSlice t 2 #[(0, x), (1, y)]) (hu : Try.prog.underlying t = some (.slice e)) (hb : Try.prog.builtSlice e 2 [(0, u), (1, v)] = some cells) (hx : a.eval x = u) (hy : a.eval y = v)
    (h : wpList Try.prog ops Q rest (a.put o.dst (.slice (some ⟨W.heap.size, 0, none⟩) 2 2)) (W.alloc (.cells cells e))) : wpList Try.prog ops Q (o :: rest) a W :=
  wpl_bsAny hw hop hu (by simp [hx, hy]) hb h
theorem wpl_bs1V {x : Operand} {u : Value} {cells : Array Value} (hw : Region.wanted o (yielded ops a.tmps) = true) (hop : o.op = .buildSlice t 1 #[(0, x)]) (hu : Try.prog.underlying t = some (.slice e)) (hb : Try.prog.builtSlice e 1 [(0, u)] = some cells) (hx : a.eval x = u)
    (h : wpList Try.prog ops Q rest (a.put o.dst (.slice (some ⟨W.heap.size, 0, none⟩) 1 1)) (W.alloc (.cells cells e))) : wpList Try.prog ops Q (o :: rest) a W :=
  wpl_bsAny hw hop hu (by simp [hx]) hb h
theorem wpl_bs3V {x y z : Operand} {u v r : Value} {cells : Array Value} (hw : Region.wanted o (yielded ops a.tmps) = true) (hop : o.op = .buildSlice t 3 #[(0, x), (1, y), (2, z)]) (hu : Try.prog.underlying t = some (.slice e)) (hb : Try.prog.builtSlice e 3 [(0, u), (1, v), (2, r)] = some cells) (hx : a.eval x = u) (hy : a.eval y = v) (hz : a.eval z = r)
    (h : wpList Try.prog ops Q rest (a.put o.dst (.slice (some ⟨W.heap.size, 0, none⟩) 3 3)) (W.alloc (.cells cells e))) : wpList Try.prog ops Q (o :: rest) a W :=
  wpl_bsAny hw hop hu (by simp [hx, hy, hz]) hb h
end
theorem bs1M (x : Mp) : Try.prog.builtSlice mgT 1 [(0, .agg (mC x))] = some (mC x) := by
  obtain ⟨x0, x1, x2, x3, x4, x5, x6, x7, x8, x9, x10, x11, x12, x13, x14, x15, x16, x17, x18, x19, x20⟩ := x
  kernel_rfl
theorem oC_len (x : BOp) : (oC x).toList.length = 19 := rfl
theorem bops2 {V : World} {g : Nat} {x y : BOp} {T : TypeId} (hb : V.heap[g]? = some (.cells (oC x ++ oC y) T (0, 0))) : BOps V (some ⟨g, 0, none⟩) 2 [x, y] := by
  have e : (([x, y].map bopCells).flatten) = (oC x ++ oC y).toList := by simp only [List.map_cons, List.map_nil, List.flatten_cons, List.flatten_nil, List.append_nil, bopCells, Array.toList_append]
  have hn : (([x, y].map bopCells).flatten).length = 2 * 19 := by rw [e, Array.toList_append, List.length_append, oC_len, oC_len]
  refine ⟨hn, Nat.le_refl _, by unfold maxLen; omega, fun h => (by cases h), fun j u hu => ⟨g, 0, rfl, ?_⟩⟩
  rw [Nat.zero_add, block_cell hb j]
  rw [e, Array.getElem?_toList] at hu
  exact hu
theorem BOpOk.below {W W' : World} {o : BOp} (h : BOpOk W o) (hb : Below W.heap.size W W') : BOpOk W' o := ⟨h.1.below hb, h.2.1, h.2.2.1.below hb, h.2.2.2⟩
/-- the same in the state of the clone and of the bag -/
theorem Pr.apart {Wb W W' : World} {F G : Nat → Prop} {b room : Nat} {A : List Int} {aA : Option Addr} {cA : Nat} {X : List Mp} {lo : Option Addr} {lc : Nat} (h : Pr Wb W F b room A aA cA X lo lc) {c r2 : Nat} {T : Int → Bool} {l : List Lt} (hc : Bg Wb.heap.size W G c r2 T l) (hg : Gr G W W') (hd : ∀ i, F i → ¬ G i) : Pr Wb W' F b room A aA cA X lo lc :=
  h.beside hg hd (fun i hi => (hc.elem i hi).2.1) (fun i hi e => by
    rcases (hc.elem i hi).2.2 with h1 | h1 | h1 <;> rw [h1] at e
    · cases e
    · exact absurd (Option.some.inj e) (by decide)
    · exact absurd (Option.some.inj e) (by decide)) (fun i hi e => by
    rcases (hc.elem i hi).2.2 with h1 | h1 | h1 <;> rw [h1] at e
    · cases e
    · exact absurd (Option.some.inj e) (by decide)
    · exact absurd (Option.some.inj e) (by decide))
theorem three_at {W V : World} {r : Nat} {x y z : Option Addr} {T : TypeId} (h : W.heap[r]? = some (.cells #[.pointer x, .pointer y, .pointer z] T (0, 0))) (hx : BNone W x) (hy : BNone W y) (hz : BNone W z) (hb : Below W.heap.size W V) (i : Nat) (hi : i < 3) : ∃ q, V.cell? ⟨r, i, none⟩ = some (.pointer q) ∧ BNone V q := by
  have hc := block_cell (bx_below hb h)
  match i, hi with
  | 0, _ => exact ⟨x, hc 0, hx.below hb⟩
  | 1, _ => exact ⟨y, hc 1, hy.below hb⟩
  | 2, _ => exact ⟨z, hc 2, hz.below hb⟩
theorem three_nums {i : Nat} (h : i < 3) : (0 : Int) ≤ (i : Int) ∧ (i : Int) < 3 ∧ wrap64 ((i : Int) + 1) = (i : Int) + 1 := by
  refine ⟨by omega, by omega, ?_⟩
  rw [IntWalk.wrap64_in _ (by omega)]
theorem three_meas {i : Nat} (h : i < 3) (w : wrap64 ((i : Int) + 1) = (i : Int) + 1) : 3 - (intOf (.int .i64 (wrap64 ((i : Int) + 1)))).toNat < 3 - (intOf (.int .i64 (i : Nat))).toNat := by
  rw [w]; simp [intOf]; omega
end Go.Proofs.Ytbmkgcoolofmpaa
