/- Lemmas for BagApart (Bq). No statement of the seat is proved here. -/
import Derived.Test.YtbmkgcoolofmpaaA23
import Derived.Test.YtbmkgcoolofmpaaA28
namespace Go.Proofs.Ytbmkgcoolofmpaa
set_option linter.unusedVariables false
set_option linter.unusedSimpArgs false
set_option linter.unusedSectionVars false
open Go Go.RowKit Go.Maps Go.Shelf
/-- what the reference's Put, Move tell -/
def RPutIs (W : World) (room : Nat) (aA : Option Addr) (nA cA : Nat) (X' : List Mp) (ok : Bool) (e : Ending) (W' : World) : Prop := ∃ lo' lc', e = .returned (.tuple #[rV room aA nA cA lo' X'.length lc', .bool ok]) ∧ MgRow W' rmT lo' lc' X' ∧ Below W.heap.size W W'
theorem nums_put {n : Nat} (h : n ≤ 512) : (0 + n ≤ maxLen ∧ (0 + n) * 160 ≤ 140737488355328) ∧ n + 1 ≤ maxLen ∧ (n + 1) * 160 ≤ 140737488355328 := by
  unfold maxLen; omega
set_option maxRecDepth 100000 in
set_option maxHeartbeats 4000000 in
theorem rput_yes (W : World) (room cA lc : Nat) (A : List Int) (aA lo : Option Addr) (X : List Mp) (x : Mp) (hx : MpAt W x) (hxe : x.el.length ≤ 20) (hxm : x.ml.length ≤ 30) (hxn : MsgOk x) (hA : Iz W .i64 aA cA A) (h5 : X.length ≤ 512) (hX : MgRow W rmT lo lc X)
    (h1 : soundM x.v = true) (h2 : inL A x.frm = inL A x.dst) (h3 : X.length < room) :
    Calls Try.prog 27 #[rV room aA A.length cA lo X.length lc, .agg (mC x)] W (RPutIs W room aA A.length cA (X ++ [x]) true) := by
  have hcr := fun V (hb : Below W.heap.size W V) => rcross_o V room A aA cA lo X.length lc x (hA.below hb)
  rw [h2] at hcr
  simp only [bne_self_eq_false] at hcr
  unfold rV at hcr ⊢
  obtain ⟨W1, hW1⟩ : ∃ W1, W1 = W.alloc (.cells #[.int .i64 (room : Nat), .slice aA A.length cA, .slice lo X.length lc] rbT) := ⟨_, rfl⟩
  obtain ⟨W2, hW2⟩ : ∃ W2, W2 = W1.alloc (.cells (mC x) rmT) := ⟨_, rfl⟩
  obtain ⟨W3, hW3⟩ : ∃ W3, W3 = W2.alloc (.cells #[.int .i64 0, .slice none 0 0, .slice none 0 0] rbT) := ⟨_, rfl⟩
  obtain ⟨b1, hb1⟩ : ∃ b, b = W.heap.size := ⟨_, rfl⟩
  obtain ⟨b2, hb2⟩ : ∃ b, b = W.heap.size + 1 := ⟨_, rfl⟩
  obtain ⟨b3, hb3⟩ : ∃ b, b = W.heap.size + 1 + 1 := ⟨_, rfl⟩
  have z1 : W1.heap.size = W.heap.size + 1 := by rw [hW1]; simp
  have z2 : W2.heap.size = W.heap.size + 1 + 1 := by rw [hW2]; simp [z1]
  have B1 : Below W.heap.size W W1 := by rw [hW1]; exact below_new _ _
  have B2 : Below W1.heap.size W1 W2 := by rw [hW2]; exact below_new _ _
  have B3 : Below W2.heap.size W2 W3 := by rw [hW3]; exact below_new _ _
  have hB3 := below_on (below_on B1 B2 (Nat.le_refl _)) B3 (Nat.le_refl _)
  have t1 : W3.heap[b1]? = some (.cells #[.int .i64 (room : Nat), .slice aA A.length cA, .slice lo X.length lc] rbT (0, 0)) := by
    rw [B3.block b1 (by omega), B2.block b1 (by omega), hW1, hb1]; exact heap_alloc_new _ _
  have t2 : W3.heap[b2]? = some (.cells (mC x) rmT (0, 0)) := by
    rw [B3.block b2 (by omega), hW2, hb2, ← z1]; exact heap_alloc_new _ _
  have t3 : W3.heap[b3]? = some (.cells #[.int .i64 0, .slice none 0 0, .slice none 0 0] rbT (0, 0)) := by
    rw [hW3, hb3, ← z2]; exact heap_alloc_new _ _
  have Hup : Hid (W.heap.size ≤ b1 ∧ W.heap.size ≤ b2 ∧ W.heap.size ≤ b3) := ⟨by omega, by omega, by omega⟩
  have Hap : Hid (b1 ≠ b2 ∧ b1 ≠ b3 ∧ b2 ≠ b3) := ⟨by omega, by omega, by omega⟩
  have HB3 := Lib.hid hB3
  have T1 := Lib.hid t1
  have T2 := Lib.hid t2
  have T3 := Lib.hid t3
  clear z1 z2 B1 B2 B3 hB3 t1 t2 t3
  have p0 := block_cell T1.out 0
  have p1 := block_cell T1.out 1
  have p2 := block_cell T1.out 2
  have pl1 := bx_lt T1.out
  simp at p0 p1 p2
  have l6 := ld_mbox rmT rmT (.inr rfl) T2.out
  have hsd := refMsgSound_any x W3 (hx.below HB3.out) (by omega) (by omega) hxn.1
  rw [h1] at hsd
  have Hsd := Lib.hid hsd
  have Hcr := Lib.hid hcr
  have HX := Lib.hid hX
  have H5 := Lib.hid h5
  have c3 : ¬ (X.length : Int) ≥ (room : Nat) := by omega
  clear hx hxe hxm hxn hA h5 hX h1 h2 h3 hsd hcr
  go_enter Try.func27, Try.ntmps27
  go_upto_region 1 with fail
  rw [← hW1, ← hW2, ← hW3, ← hb3, ← hb2, ← hb1]
  clear hW1 hW2 hW3 hb1 hb2 hb3
  go_wp2_with ((with_reducible show wpList _ _ _ (⟨_, Op.load _ _, _, _, _, _⟩ :: _) _ _); refine wpl_ldT rfl rfl rfl (by assumption) ?_)
  refine (show Calls _ _ _ _ _ from Hsd.out).mono ?_
  rintro e V1 ⟨rfl, hb4⟩
  have D1a := bx_below hb4 T1.out
  have D2a := bx_below hb4 T2.out
  have l6' := ld_mbox rmT rmT (.inr rfl) D2a
  have p0' := block_cell D1a 0
  have p1' := block_cell D1a 1
  have p2' := block_cell D1a 2
  have pl1' := bx_lt D1a
  simp at p0' p1' p2'
  have Hc1 := Lib.hid (Hcr.out V1 (below_on HB3.out hb4 (Nat.le_refl _)))
  clear p0 p1 p2 pl1 l6 D1a D2a
  go_wp2_with ((with_reducible show wpList _ _ _ (⟨_, Op.load 62 _, _, _, _, _⟩ :: _) _ _); refine wpl_ldT rfl rfl rfl (by assumption) ?_)
  refine (show Calls _ _ _ _ _ from Hc1.out).mono ?_
  rintro e V3 ⟨rfl, hb5⟩
  have hb3V := below_on hb4 hb5 (Nat.le_refl _)
  have hd1 := bx_below hb3V T1.out
  have p0 := block_cell hd1 0
  have p1 := block_cell hd1 1
  have p2 := block_cell hd1 2
  have pl1 := bx_lt hd1
  simp at p0 p1 p2
  have D1 := Lib.hid hd1
  have D2 := Lib.hid (bx_below hb3V T2.out)
  have D3 := Lib.hid (bx_below hb3V T3.out)
  have HB := Lib.hid (below_on HB3.out hb3V (Nat.le_refl _))
  clear p0' p1' p2' pl1' l6' hb4 hb5 hb3V hd1 Hc1 Hsd Hcr
  go_upto_region 3 with fail
  clear p0 p1 p2 pl1 c3
  have Hld1 := Lib.hid (fun (V : World) (hv : V.heap[b1]? = V3.heap[b1]?) => ldMs (W := V) (b := b1) (o := 2) (ao := lo) (n := X.length) (cap := lc) (by rw [World.cell?_of_block (w := V3) hv]; exact block_cell D1.out 2))
  obtain ⟨⟨q1, q2⟩, q3, q4⟩ := nums_put H5.out
  have HQ := Lib.hid (And.intro q1 (And.intro q2 (And.intro q3 q4)))
  clear q1 q2 q3 q4
  obtain ⟨E0, hE0⟩ : ∃ E, E = V3.heap.size := ⟨_, rfl⟩
  have HE0 := Lib.hid hE0
  have Hsk : Hid (∀ U, Below E0 V3 U → U.heap[b1]? = V3.heap[b1]? ∧ U.heap[b2]? = V3.heap[b2]?) := fun U hu => ⟨hu.block b1 (by rw [HE0.out]; exact bx_lt D1.out), hu.block b2 (by rw [HE0.out]; exact bx_lt D2.out)⟩
  have HSX : Hid (∀ U, Below E0 V3 U → Sl U 15 lo X.length lc (mFlat X)) := fun U hu => (HX.out.below (HB.out.trans (hu.mono (by rw [HE0.out]; exact HB.out.size)))).sl
  refine wp_region_late 8 (S := fun V => V.heap[b1]? = V3.heap[b1]? ∧ V.heap[b2]? = V3.heap[b2]?) (by kernel_rfl) ⟨rfl, rfl⟩ (fun hHeld => ?_)
  obtain ⟨U0, hU0⟩ : ∃ U0, U0 = V3.drew := ⟨_, rfl⟩
  have hB : Below E0 V3 U0 := by rw [hU0, hE0]; exact (Below.refl _ V3).drew
  have hE : E0 ≤ U0.heap.size := by rw [hU0, hE0]; exact Nat.le_refl _
  rw [← hU0] at hHeld ⊢
  clear hU0 hE0
  refine wpLate_pure (i := 1) (v := ?_) rfl (by kernel_rfl) (by kernel_rfl) (by kernel_rfl) (by kernel_rfl) (fun _ _ _ h => h) (Or.inl ⟨by rfl, ?_⟩) (fun _ => by assumption) ?_
  rotate_left
  · intro w8 hSw; clear hSw; go_simp; (try with_reducible rfl)
  simp only [Act.put, List.getElem_toArray, List.getElem_cons_zero, List.getElem_cons_succ, List.setIfInBounds_toArray, List.set_cons_zero, List.set_cons_succ]
  refine wpLate_take [3, 6, 8] (i := 2) (v := .slice lo X.length lc) rfl (by kernel_rfl) (by kernel_rfl) (by kernel_rfl) (by kernel_rfl) (by kernel_rfl) (fun _ _ _ h => h) (Or.inl ⟨by rfl, ?_⟩) (by assumption) ?_
  · intro w8 hSw; exact ld_takeT rfl (Hld1.out w8 hSw.1) rfl
  simp only [Act.put, List.getElem_toArray, List.getElem_cons_zero, List.getElem_cons_succ, List.setIfInBounds_toArray, List.set_cons_zero, List.set_cons_succ]
  refine wpLate_take [5, 6, 8] (i := 4) (v := .agg (mC x)) rfl (by kernel_rfl) (by kernel_rfl) (by kernel_rfl) (by kernel_rfl) (by kernel_rfl) (fun _ _ _ h => h) (Or.inl ⟨by rfl, ?_⟩) (by assumption) ?_
  · intro w8 hSw; exact ld_takeT rfl (ld_mbox rmT rmT (.inr rfl) (hSw.2.trans D2.out)) rfl
  simp only [Act.put, List.getElem_toArray, List.getElem_cons_zero, List.getElem_cons_succ, List.setIfInBounds_toArray, List.set_cons_zero, List.set_cons_succ]
  refine wpLate_ready (rs := [0, 5]) (by kernel_rfl) (by simp) ?_
  refine AllLate.cons rfl (fun K hK => ?_) (AllLate.cons rfl (fun K hK => ?_) AllLate.nil)
  · go_simp
    have own0 := own_empty U0 E0 rmT 15 hE
    have hBx := below_on hB (below_new U0 (.cells #[] rmT)) (Nat.le_of_eq HE0.out)
    have hEx : E0 ≤ (U0.alloc (.cells #[] rmT)).heap.size := Nat.le_trans hE (below_new U0 (.cells #[] rmT)).size
    obtain ⟨Z1, hX⟩ : ∃ X, X = U0.alloc (.cells #[] rmT) := ⟨_, rfl⟩
    obtain ⟨g0, hg0⟩ : ∃ g, g = U0.heap.size := ⟨_, rfl⟩
    rw [← hX] at own0 hBx hEx ⊢
    rw [← hg0] at own0 ⊢
    clear hX hg0 hB hE
    have hB := hBx
    have hE := hEx
    clear hBx hEx
    refine hK.out _ _ (Hsk.out _ hB) (fun hHeld => ?_)
    clear hK K
    try simp only [Act.put, List.getElem_toArray, List.getElem_cons_zero, List.getElem_cons_succ, List.setIfInBounds_toArray, List.set_cons_zero, List.set_cons_succ]
    refine wpLate_ready (rs := [3, 5]) (by kernel_rfl) (by simp) ?_
    refine AllLate.cons rfl (fun K hK => ?_) (AllLate.cons rfl (fun K hK => ?_) AllLate.nil)
    · rw [if_pos (by rfl)]
      refine wpo_append_lie (.tmp 23) (.tmp 25) rmsT rfl E0 rmT infoRm Try.underlying28 rfl (by decide) _ 0 [] rfl own0 _ _ _ _ rfl (HSX.out _ hB) (mRows_one _) HQ.out.1 HQ.out.2.1 hE fun a2 c2 Z2 own2 hgr hat => ?_
      rw [Nat.zero_add, List.nil_append] at own2
      rw [Nat.zero_add]
      have hBx := below_app hB hgr own0 (Nat.le_refl _) hE
      have hEx : E0 ≤ Z2.heap.size := Nat.le_trans hE hgr.size
      clear hgr hat own0 hB hE
      have hB := hBx
      have hE := hEx
      clear hBx hEx
      refine hK.out _ _ (Hsk.out _ hB) (fun hHeld => ?_)
      clear hK K
      try simp only [Act.put, List.getElem_toArray, List.getElem_cons_zero, List.getElem_cons_succ, List.setIfInBounds_toArray, List.set_cons_zero, List.set_cons_succ]
      refine wpLate_ready (rs := [5]) (by kernel_rfl) (by simp) ?_
      refine AllLate.cons rfl (fun K hK => ?_) AllLate.nil
      rw [if_pos (by rfl)]
      refine wpo_bsM (.inr rfl) Try.underlying28 rfl rfl ?_
      have own1 := own_msg1 Z2 E0 x hE
      have hBx := below_on hB (below_new Z2 (.cells (mC x) rmT)) (Nat.le_of_eq HE0.out)
      have hEx : E0 ≤ (Z2.alloc (.cells (mC x) rmT)).heap.size := Nat.le_trans hE (below_new Z2 (.cells (mC x) rmT)).size
      have own2n := World.ownsRow.alloc own2 (.cells (mC x) rmT)
      obtain ⟨Z3, hX⟩ : ∃ X, X = Z2.alloc (.cells (mC x) rmT) := ⟨_, rfl⟩
      obtain ⟨g1, hg1⟩ : ∃ g, g = Z2.heap.size := ⟨_, rfl⟩
      rw [← hX] at own1 hBx hEx own2n ⊢
      rw [← hg1] at own1 ⊢
      clear hX hg1 hB hE own2
      have own2 := own2n
      clear own2n
      have hB := hBx
      have hE := hEx
      clear hBx hEx
      refine hK.out _ _ (Hsk.out _ hB) (fun hHeld => ?_)
      clear hK K
      try simp only [Act.put, List.getElem_toArray, List.getElem_cons_zero, List.getElem_cons_succ, List.setIfInBounds_toArray, List.set_cons_zero, List.set_cons_succ]
      refine wpLate_ready (rs := [6]) (by kernel_rfl) (by simp) ?_
      refine AllLate.cons rfl (fun K hK => ?_) AllLate.nil
      rw [if_pos (by rfl)]
      refine wpo_append_lie (.tmp 26) (.tmp 28) rmsT rfl E0 rmT infoRm Try.underlying28 rfl (by decide) _ X.length _ rfl own2 _ 1 1 _ rfl (Sl.of_own own1) (mRows_one _) HQ.out.2.2.1 HQ.out.2.2.2 hE fun a3 c3 Z4 own3 hgr hat => ?_
      rw [← mFlat_two] at own3
      have hBx := below_app hB hgr own2 (Nat.le_refl _) hE
      have hEx : E0 ≤ Z4.heap.size := Nat.le_trans hE hgr.size
      clear hgr hat own1 own2 hB hE
      have hB := hBx
      have hE := hEx
      clear hBx hEx
      refine hK.out _ _ (Hsk.out _ hB) (fun hHeld => ?_)
      clear hK K
      try simp only [Act.put, List.getElem_toArray, List.getElem_cons_zero, List.getElem_cons_succ, List.setIfInBounds_toArray, List.set_cons_zero, List.set_cons_succ]
      refine wpLate_pure (i := 7) (v := ?_) rfl (by kernel_rfl) (by kernel_rfl) (by kernel_rfl) (by kernel_rfl) (fun _ _ _ h => h) (Or.inl ⟨by rfl, ?_⟩) (fun _ => by assumption) ?_
      rotate_left
      · intro w8 hSw; clear hSw; go_simp; (try with_reducible rfl)
      simp only [Act.put, List.getElem_toArray, List.getElem_cons_zero, List.getElem_cons_succ, List.setIfInBounds_toArray, List.set_cons_zero, List.set_cons_succ]
      have hx1 := hHeld.1.trans D1.out
      have y2 := block_cell hx1 2
      have f2 := block_free hx1 2
      have lx := bx_lt hx1
      simp at y2 f2
      obtain ⟨U4, hU4⟩ : ∃ U4, U4 = Z4.setCell ⟨b1, 2, none⟩ (.slice a3 (X.length + 1) c3) := ⟨_, rfl⟩
      have hx4 : U4.heap[b1]? = some (.cells #[.int .i64 (room : Nat), .slice aA A.length cA, .slice a3 (X.length + 1) c3] rbT (0, 0)) := by rw [hU4]; exact block_set hx1 2 _
      have hoth : ∀ i, i ≠ b1 → U4.heap[i]? = Z4.heap[i]? := fun i hi => by rw [hU4]; exact heap_setCell_other Z4 ⟨b1, 2, none⟩ i _ hi
      have hD3 := ((hoth b3 (fun e => Hap.out.2.1 e.symm)).trans (hB.block b3 (by rw [HE0.out]; exact bx_lt D3.out))).trans D3.out
      have hB4 : Below W.heap.size W U4 := by
        have h1 : Below W.heap.size W Z4 := HB.out.trans (hB.mono (by rw [HE0.out]; exact HB.out.size))
        rw [hU4]; exact sets_up h1 Hup.out.1 2 _
      have ho4 : U4.ownsRow E0 rmT 15 (.slice a3 (X.length + 1) c3) (X.length + 1) (mFlat (X ++ [x])) := by
        rw [hU4]
        exact own_gr own3 (Gr.one (F := fun i => i = b1) (grown_set Z4 b1 2 _) (fun i e => (Option.some.inj e).symm)) (fun g hg e => by
          subst e
          exact Nat.lt_irrefl _ (Nat.lt_of_lt_of_le (by rw [HE0.out]; exact bx_lt D1.out) (own3.lt g hg).1))
      have HU4 := Lib.hid hU4
      clear hx1 hU4 hoth own3 hB hE
      refine wpLate_ready (rs := [8]) (by kernel_rfl) (by simp) ?_
      refine AllLate.store rfl (fun K hK => ?_)
      go_simp
      rw [← HU4.out]
      refine hK.out _ _ ?_
      clear hK K y2 f2 lx
      try simp only [Act.put, List.getElem_toArray, List.getElem_cons_zero, List.getElem_cons_succ, List.setIfInBounds_toArray, List.set_cons_zero, List.set_cons_succ]
      refine wpLate_done (by kernel_rfl) ?_ _
      have p0 := block_cell hx4 0
      have p1 := block_cell hx4 1
      have p2 := block_cell hx4 2
      have pl1 := bx_lt hx4
      have c0 := block_cell hD3 0
      have c1 := block_cell hD3 1
      have c2 := block_cell hD3 2
      have f0 := block_free hD3 0
      have f1 := block_free hD3 1
      have f2 := block_free hD3 2
      have l2 := bx_lt hD3
      simp at p0 p1 p2 c0 c1 c2 f0 f1 f2
      have u5 := bx_set3 hD3 (.int .i64 (room : Nat)) (.slice aA A.length cA) (.slice a3 (X.length + 1) c3)
      have hg5 := gr_set3 U4 b3 (.int .i64 (room : Nat)) (.slice aA A.length cA) (.slice a3 (X.length + 1) c3)
      obtain ⟨U5, hU5⟩ : ∃ U, U = ((U4.setCell ⟨b3, 0, none⟩ (.int .i64 (room : Nat))).setCell ⟨b3, 1, none⟩ (.slice aA A.length cA)).setCell ⟨b3, 2, none⟩ (.slice a3 (X.length + 1) c3) := ⟨_, rfl⟩
      rw [← hU5] at u5 hg5
      have hfin : RPutIs W room aA A.length cA (X ++ [x]) true (.returned (.tuple #[.agg #[.int .i64 (room : Nat), .slice aA A.length cA, .slice a3 (X.length + 1) c3], .bool true])) U5 := by
        have hln : (X ++ [x]).length = X.length + 1 := by simp
        have ho6 := own_gr ho4 hg5 (fun g hg e => by
          subst e
          exact Nat.lt_irrefl _ (Nat.lt_of_lt_of_le (by rw [HE0.out]; exact bx_lt D3.out) (ho4.lt g hg).1))
        exact ⟨a3, c3, by rw [hln]; rfl, MgRow.of_own (base := E0) (by rw [hln]; exact ho6), hB4.trans (hg5.above hB4.size (fun i hi => by rw [hi]; exact Hup.out.2.2))⟩
      have Hfin := Lib.hid hfin
      have HU5 := Lib.hid u5
      have HU5e := Lib.hid hU5
      clear hfin u5 hg5 hU5 hx4 hD3 hB4 ho4
      go_wp2_with fail
      rw [← HU5e.out]
      exact bodyPost_ret (v := .tuple #[.agg #[.int .i64 (room : Nat), .slice aA A.length cA, .slice a3 (X.length + 1) c3], .bool true]) (results_2 Try.results27 rfl rfl (lvRb HU5.out)) rfl Hfin.out
    · rw [if_pos (by rfl)]
      refine wpo_bsM (.inr rfl) Try.underlying28 rfl rfl ?_
      have own1 := own_msg1 Z1 E0 x hE
      have hBx := below_on hB (below_new Z1 (.cells (mC x) rmT)) (Nat.le_of_eq HE0.out)
      have hEx : E0 ≤ (Z1.alloc (.cells (mC x) rmT)).heap.size := Nat.le_trans hE (below_new Z1 (.cells (mC x) rmT)).size
      have own0n := World.ownsRow.alloc own0 (.cells (mC x) rmT)
      have hap : g0 ≠ Z1.heap.size := fun e => Nat.lt_irrefl _ (Nat.lt_of_lt_of_le (own0.lt g0 rfl).2 (Nat.le_of_eq e.symm))
      obtain ⟨Z5, hX⟩ : ∃ X, X = Z1.alloc (.cells (mC x) rmT) := ⟨_, rfl⟩
      obtain ⟨g1, hg1⟩ : ∃ g, g = Z1.heap.size := ⟨_, rfl⟩
      rw [← hX] at own1 hBx hEx own0n ⊢
      rw [← hg1] at own1 hap ⊢
      clear hX hg1 hB hE own0
      have own0 := own0n
      clear own0n
      have hB := hBx
      have hE := hEx
      clear hBx hEx
      refine hK.out _ _ (Hsk.out _ hB) (fun hHeld => ?_)
      clear hK K
      try simp only [Act.put, List.getElem_toArray, List.getElem_cons_zero, List.getElem_cons_succ, List.setIfInBounds_toArray, List.set_cons_zero, List.set_cons_succ]
      refine wpLate_ready (rs := [3]) (by kernel_rfl) (by simp) ?_
      refine AllLate.cons rfl (fun K hK => ?_) AllLate.nil
      rw [if_pos (by rfl)]
      refine wpo_append_lie (.tmp 23) (.tmp 25) rmsT rfl E0 rmT infoRm Try.underlying28 rfl (by decide) _ 0 [] rfl own0 _ _ _ _ rfl (HSX.out _ hB) (mRows_one _) HQ.out.1 HQ.out.2.1 hE fun a2 c2 Z6 own2 hgr hat => ?_
      rw [Nat.zero_add, List.nil_append] at own2
      rw [Nat.zero_add]
      have hBx := below_app hB hgr own0 (Nat.le_refl _) hE
      have hEx : E0 ≤ Z6.heap.size := Nat.le_trans hE hgr.size
      have own1n := own1.kept hgr (.inr (by intro e; exact hap (Option.some.inj e).symm))
      clear hgr hat own0 hB hE own1 hap
      have own1 := own1n
      clear own1n
      have hB := hBx
      have hE := hEx
      clear hBx hEx
      refine hK.out _ _ (Hsk.out _ hB) (fun hHeld => ?_)
      clear hK K
      try simp only [Act.put, List.getElem_toArray, List.getElem_cons_zero, List.getElem_cons_succ, List.setIfInBounds_toArray, List.set_cons_zero, List.set_cons_succ]
      refine wpLate_ready (rs := [6]) (by kernel_rfl) (by simp) ?_
      refine AllLate.cons rfl (fun K hK => ?_) AllLate.nil
      rw [if_pos (by rfl)]
      refine wpo_append_lie (.tmp 26) (.tmp 28) rmsT rfl E0 rmT infoRm Try.underlying28 rfl (by decide) _ X.length _ rfl own2 _ 1 1 _ rfl (Sl.of_own own1) (mRows_one _) HQ.out.2.2.1 HQ.out.2.2.2 hE fun a3 c3 Z7 own3 hgr hat => ?_
      rw [← mFlat_two] at own3
      have hBx := below_app hB hgr own2 (Nat.le_refl _) hE
      have hEx : E0 ≤ Z7.heap.size := Nat.le_trans hE hgr.size
      clear hgr hat own1 own2 hB hE
      have hB := hBx
      have hE := hEx
      clear hBx hEx
      refine hK.out _ _ (Hsk.out _ hB) (fun hHeld => ?_)
      clear hK K
      try simp only [Act.put, List.getElem_toArray, List.getElem_cons_zero, List.getElem_cons_succ, List.setIfInBounds_toArray, List.set_cons_zero, List.set_cons_succ]
      refine wpLate_pure (i := 7) (v := ?_) rfl (by kernel_rfl) (by kernel_rfl) (by kernel_rfl) (by kernel_rfl) (fun _ _ _ h => h) (Or.inl ⟨by rfl, ?_⟩) (fun _ => by assumption) ?_
      rotate_left
      · intro w8 hSw; clear hSw; go_simp; (try with_reducible rfl)
      simp only [Act.put, List.getElem_toArray, List.getElem_cons_zero, List.getElem_cons_succ, List.setIfInBounds_toArray, List.set_cons_zero, List.set_cons_succ]
      have hx1 := hHeld.1.trans D1.out
      have y2 := block_cell hx1 2
      have f2 := block_free hx1 2
      have lx := bx_lt hx1
      simp at y2 f2
      obtain ⟨U4, hU4⟩ : ∃ U4, U4 = Z7.setCell ⟨b1, 2, none⟩ (.slice a3 (X.length + 1) c3) := ⟨_, rfl⟩
      have hx4 : U4.heap[b1]? = some (.cells #[.int .i64 (room : Nat), .slice aA A.length cA, .slice a3 (X.length + 1) c3] rbT (0, 0)) := by rw [hU4]; exact block_set hx1 2 _
      have hoth : ∀ i, i ≠ b1 → U4.heap[i]? = Z7.heap[i]? := fun i hi => by rw [hU4]; exact heap_setCell_other Z7 ⟨b1, 2, none⟩ i _ hi
      have hD3 := ((hoth b3 (fun e => Hap.out.2.1 e.symm)).trans (hB.block b3 (by rw [HE0.out]; exact bx_lt D3.out))).trans D3.out
      have hB4 : Below W.heap.size W U4 := by
        have h1 : Below W.heap.size W Z7 := HB.out.trans (hB.mono (by rw [HE0.out]; exact HB.out.size))
        rw [hU4]; exact sets_up h1 Hup.out.1 2 _
      have ho4 : U4.ownsRow E0 rmT 15 (.slice a3 (X.length + 1) c3) (X.length + 1) (mFlat (X ++ [x])) := by
        rw [hU4]
        exact own_gr own3 (Gr.one (F := fun i => i = b1) (grown_set Z7 b1 2 _) (fun i e => (Option.some.inj e).symm)) (fun g hg e => by
          subst e
          exact Nat.lt_irrefl _ (Nat.lt_of_lt_of_le (by rw [HE0.out]; exact bx_lt D1.out) (own3.lt g hg).1))
      have HU4 := Lib.hid hU4
      clear hx1 hU4 hoth own3 hB hE
      refine wpLate_ready (rs := [8]) (by kernel_rfl) (by simp) ?_
      refine AllLate.store rfl (fun K hK => ?_)
      go_simp
      rw [← HU4.out]
      refine hK.out _ _ ?_
      clear hK K y2 f2 lx
      try simp only [Act.put, List.getElem_toArray, List.getElem_cons_zero, List.getElem_cons_succ, List.setIfInBounds_toArray, List.set_cons_zero, List.set_cons_succ]
      refine wpLate_done (by kernel_rfl) ?_ _
      have p0 := block_cell hx4 0
      have p1 := block_cell hx4 1
      have p2 := block_cell hx4 2
      have pl1 := bx_lt hx4
      have c0 := block_cell hD3 0
      have c1 := block_cell hD3 1
      have c2 := block_cell hD3 2
      have f0 := block_free hD3 0
      have f1 := block_free hD3 1
      have f2 := block_free hD3 2
      have l2 := bx_lt hD3
      simp at p0 p1 p2 c0 c1 c2 f0 f1 f2
      have u5 := bx_set3 hD3 (.int .i64 (room : Nat)) (.slice aA A.length cA) (.slice a3 (X.length + 1) c3)
      have hg5 := gr_set3 U4 b3 (.int .i64 (room : Nat)) (.slice aA A.length cA) (.slice a3 (X.length + 1) c3)
      obtain ⟨U5, hU5⟩ : ∃ U, U = ((U4.setCell ⟨b3, 0, none⟩ (.int .i64 (room : Nat))).setCell ⟨b3, 1, none⟩ (.slice aA A.length cA)).setCell ⟨b3, 2, none⟩ (.slice a3 (X.length + 1) c3) := ⟨_, rfl⟩
      rw [← hU5] at u5 hg5
      have hfin : RPutIs W room aA A.length cA (X ++ [x]) true (.returned (.tuple #[.agg #[.int .i64 (room : Nat), .slice aA A.length cA, .slice a3 (X.length + 1) c3], .bool true])) U5 := by
        have hln : (X ++ [x]).length = X.length + 1 := by simp
        have ho6 := own_gr ho4 hg5 (fun g hg e => by
          subst e
          exact Nat.lt_irrefl _ (Nat.lt_of_lt_of_le (by rw [HE0.out]; exact bx_lt D3.out) (ho4.lt g hg).1))
        exact ⟨a3, c3, by rw [hln]; rfl, MgRow.of_own (base := E0) (by rw [hln]; exact ho6), hB4.trans (hg5.above hB4.size (fun i hi => by rw [hi]; exact Hup.out.2.2))⟩
      have Hfin := Lib.hid hfin
      have HU5 := Lib.hid u5
      have HU5e := Lib.hid hU5
      clear hfin u5 hg5 hU5 hx4 hD3 hB4 ho4
      go_wp2_with fail
      rw [← HU5e.out]
      exact bodyPost_ret (v := .tuple #[.agg #[.int .i64 (room : Nat), .slice aA A.length cA, .slice a3 (X.length + 1) c3], .bool true]) (results_2 Try.results27 rfl rfl (lvRb HU5.out)) rfl Hfin.out
  · rw [if_pos (by rfl)]
    refine wpo_bsM (.inr rfl) Try.underlying28 rfl rfl ?_
    have own1 := own_msg1 U0 E0 x hE
    have hBx := below_on hB (below_new U0 (.cells (mC x) rmT)) (Nat.le_of_eq HE0.out)
    have hEx : E0 ≤ (U0.alloc (.cells (mC x) rmT)).heap.size := Nat.le_trans hE (below_new U0 (.cells (mC x) rmT)).size
    obtain ⟨Z8, hX⟩ : ∃ X, X = U0.alloc (.cells (mC x) rmT) := ⟨_, rfl⟩
    obtain ⟨g1, hg1⟩ : ∃ g, g = U0.heap.size := ⟨_, rfl⟩
    rw [← hX] at own1 hBx hEx  ⊢
    rw [← hg1] at own1 ⊢
    clear hX hg1 hB hE 
    have hB := hBx
    have hE := hEx
    clear hBx hEx
    refine hK.out _ _ (Hsk.out _ hB) (fun hHeld => ?_)
    clear hK K
    try simp only [Act.put, List.getElem_toArray, List.getElem_cons_zero, List.getElem_cons_succ, List.setIfInBounds_toArray, List.set_cons_zero, List.set_cons_succ]
    refine wpLate_ready (rs := [0]) (by kernel_rfl) (by simp) ?_
    refine AllLate.cons rfl (fun K hK => ?_) AllLate.nil
    go_simp
    have own0 := own_empty Z8 E0 rmT 15 hE
    have hBx := below_on hB (below_new Z8 (.cells #[] rmT)) (Nat.le_of_eq HE0.out)
    have hEx : E0 ≤ (Z8.alloc (.cells #[] rmT)).heap.size := Nat.le_trans hE (below_new Z8 (.cells #[] rmT)).size
    have own1n := World.ownsRow.alloc own1 (.cells #[] rmT)
    have hap : Z8.heap.size ≠ g1 := fun e => Nat.lt_irrefl _ (Nat.lt_of_lt_of_le (own1.lt g1 rfl).2 (Nat.le_of_eq e))
    obtain ⟨Z9, hX⟩ : ∃ X, X = Z8.alloc (.cells #[] rmT) := ⟨_, rfl⟩
    obtain ⟨g0, hg0⟩ : ∃ g, g = Z8.heap.size := ⟨_, rfl⟩
    rw [← hX] at own0 hBx hEx own1n ⊢
    rw [← hg0] at own0 hap ⊢
    clear hX hg0 hB hE own1
    have own1 := own1n
    clear own1n
    have hB := hBx
    have hE := hEx
    clear hBx hEx
    refine hK.out _ _ (Hsk.out _ hB) (fun hHeld => ?_)
    clear hK K
    try simp only [Act.put, List.getElem_toArray, List.getElem_cons_zero, List.getElem_cons_succ, List.setIfInBounds_toArray, List.set_cons_zero, List.set_cons_succ]
    refine wpLate_ready (rs := [3]) (by kernel_rfl) (by simp) ?_
    refine AllLate.cons rfl (fun K hK => ?_) AllLate.nil
    rw [if_pos (by rfl)]
    refine wpo_append_lie (.tmp 23) (.tmp 25) rmsT rfl E0 rmT infoRm Try.underlying28 rfl (by decide) _ 0 [] rfl own0 _ _ _ _ rfl (HSX.out _ hB) (mRows_one _) HQ.out.1 HQ.out.2.1 hE fun a2 c2 Z10 own2 hgr hat => ?_
    rw [Nat.zero_add, List.nil_append] at own2
    rw [Nat.zero_add]
    have hBx := below_app hB hgr own0 (Nat.le_refl _) hE
    have hEx : E0 ≤ Z10.heap.size := Nat.le_trans hE hgr.size
    have own1n := own1.kept hgr (.inr (by intro e; exact hap (Option.some.inj e).symm))
    clear hgr hat own0 hB hE own1 hap
    have own1 := own1n
    clear own1n
    have hB := hBx
    have hE := hEx
    clear hBx hEx
    refine hK.out _ _ (Hsk.out _ hB) (fun hHeld => ?_)
    clear hK K
    try simp only [Act.put, List.getElem_toArray, List.getElem_cons_zero, List.getElem_cons_succ, List.setIfInBounds_toArray, List.set_cons_zero, List.set_cons_succ]
    refine wpLate_ready (rs := [6]) (by kernel_rfl) (by simp) ?_
    refine AllLate.cons rfl (fun K hK => ?_) AllLate.nil
    rw [if_pos (by rfl)]
    refine wpo_append_lie (.tmp 26) (.tmp 28) rmsT rfl E0 rmT infoRm Try.underlying28 rfl (by decide) _ X.length _ rfl own2 _ 1 1 _ rfl (Sl.of_own own1) (mRows_one _) HQ.out.2.2.1 HQ.out.2.2.2 hE fun a3 c3 Z11 own3 hgr hat => ?_
    rw [← mFlat_two] at own3
    have hBx := below_app hB hgr own2 (Nat.le_refl _) hE
    have hEx : E0 ≤ Z11.heap.size := Nat.le_trans hE hgr.size
    clear hgr hat own1 own2 hB hE
    have hB := hBx
    have hE := hEx
    clear hBx hEx
    refine hK.out _ _ (Hsk.out _ hB) (fun hHeld => ?_)
    clear hK K
    try simp only [Act.put, List.getElem_toArray, List.getElem_cons_zero, List.getElem_cons_succ, List.setIfInBounds_toArray, List.set_cons_zero, List.set_cons_succ]
    refine wpLate_pure (i := 7) (v := ?_) rfl (by kernel_rfl) (by kernel_rfl) (by kernel_rfl) (by kernel_rfl) (fun _ _ _ h => h) (Or.inl ⟨by rfl, ?_⟩) (fun _ => by assumption) ?_
    rotate_left
    · intro w8 hSw; clear hSw; go_simp; (try with_reducible rfl)
    simp only [Act.put, List.getElem_toArray, List.getElem_cons_zero, List.getElem_cons_succ, List.setIfInBounds_toArray, List.set_cons_zero, List.set_cons_succ]
    have hx1 := hHeld.1.trans D1.out
    have y2 := block_cell hx1 2
    have f2 := block_free hx1 2
    have lx := bx_lt hx1
    simp at y2 f2
    obtain ⟨U4, hU4⟩ : ∃ U4, U4 = Z11.setCell ⟨b1, 2, none⟩ (.slice a3 (X.length + 1) c3) := ⟨_, rfl⟩
    have hx4 : U4.heap[b1]? = some (.cells #[.int .i64 (room : Nat), .slice aA A.length cA, .slice a3 (X.length + 1) c3] rbT (0, 0)) := by rw [hU4]; exact block_set hx1 2 _
    have hoth : ∀ i, i ≠ b1 → U4.heap[i]? = Z11.heap[i]? := fun i hi => by rw [hU4]; exact heap_setCell_other Z11 ⟨b1, 2, none⟩ i _ hi
    have hD3 := ((hoth b3 (fun e => Hap.out.2.1 e.symm)).trans (hB.block b3 (by rw [HE0.out]; exact bx_lt D3.out))).trans D3.out
    have hB4 : Below W.heap.size W U4 := by
      have h1 : Below W.heap.size W Z11 := HB.out.trans (hB.mono (by rw [HE0.out]; exact HB.out.size))
      rw [hU4]; exact sets_up h1 Hup.out.1 2 _
    have ho4 : U4.ownsRow E0 rmT 15 (.slice a3 (X.length + 1) c3) (X.length + 1) (mFlat (X ++ [x])) := by
      rw [hU4]
      exact own_gr own3 (Gr.one (F := fun i => i = b1) (grown_set Z11 b1 2 _) (fun i e => (Option.some.inj e).symm)) (fun g hg e => by
        subst e
        exact Nat.lt_irrefl _ (Nat.lt_of_lt_of_le (by rw [HE0.out]; exact bx_lt D1.out) (own3.lt g hg).1))
    have HU4 := Lib.hid hU4
    clear hx1 hU4 hoth own3 hB hE
    refine wpLate_ready (rs := [8]) (by kernel_rfl) (by simp) ?_
    refine AllLate.store rfl (fun K hK => ?_)
    go_simp
    rw [← HU4.out]
    refine hK.out _ _ ?_
    clear hK K y2 f2 lx
    try simp only [Act.put, List.getElem_toArray, List.getElem_cons_zero, List.getElem_cons_succ, List.setIfInBounds_toArray, List.set_cons_zero, List.set_cons_succ]
    refine wpLate_done (by kernel_rfl) ?_ _
    have p0 := block_cell hx4 0
    have p1 := block_cell hx4 1
    have p2 := block_cell hx4 2
    have pl1 := bx_lt hx4
    have c0 := block_cell hD3 0
    have c1 := block_cell hD3 1
    have c2 := block_cell hD3 2
    have f0 := block_free hD3 0
    have f1 := block_free hD3 1
    have f2 := block_free hD3 2
    have l2 := bx_lt hD3
    simp at p0 p1 p2 c0 c1 c2 f0 f1 f2
    have u5 := bx_set3 hD3 (.int .i64 (room : Nat)) (.slice aA A.length cA) (.slice a3 (X.length + 1) c3)
    have hg5 := gr_set3 U4 b3 (.int .i64 (room : Nat)) (.slice aA A.length cA) (.slice a3 (X.length + 1) c3)
    obtain ⟨U5, hU5⟩ : ∃ U, U = ((U4.setCell ⟨b3, 0, none⟩ (.int .i64 (room : Nat))).setCell ⟨b3, 1, none⟩ (.slice aA A.length cA)).setCell ⟨b3, 2, none⟩ (.slice a3 (X.length + 1) c3) := ⟨_, rfl⟩
    rw [← hU5] at u5 hg5
    have hfin : RPutIs W room aA A.length cA (X ++ [x]) true (.returned (.tuple #[.agg #[.int .i64 (room : Nat), .slice aA A.length cA, .slice a3 (X.length + 1) c3], .bool true])) U5 := by
      have hln : (X ++ [x]).length = X.length + 1 := by simp
      have ho6 := own_gr ho4 hg5 (fun g hg e => by
        subst e
        exact Nat.lt_irrefl _ (Nat.lt_of_lt_of_le (by rw [HE0.out]; exact bx_lt D3.out) (ho4.lt g hg).1))
      exact ⟨a3, c3, by rw [hln]; rfl, MgRow.of_own (base := E0) (by rw [hln]; exact ho6), hB4.trans (hg5.above hB4.size (fun i hi => by rw [hi]; exact Hup.out.2.2))⟩
    have Hfin := Lib.hid hfin
    have HU5 := Lib.hid u5
    have HU5e := Lib.hid hU5
    clear hfin u5 hg5 hU5 hx4 hD3 hB4 ho4
    go_wp2_with fail
    rw [← HU5e.out]
    exact bodyPost_ret (v := .tuple #[.agg #[.int .i64 (room : Nat), .slice aA A.length cA, .slice a3 (X.length + 1) c3], .bool true]) (results_2 Try.results27 rfl rfl (lvRb HU5.out)) rfl Hfin.out
set_option maxRecDepth 100000 in
set_option maxHeartbeats 4000000 in
theorem rput_bad (W : World) (room cA lc : Nat) (A : List Int) (aA lo : Option Addr) (X : List Mp) (x : Mp) (hx : MpAt W x) (hxe : x.el.length ≤ 20) (hxm : x.ml.length ≤ 30) (hxn : MsgOk x) (hA : Iz W .i64 aA cA A) (h5 : X.length ≤ 512) (hX : MgRow W rmT lo lc X)
    (h1 : soundM x.v = false) :
    Calls Try.prog 27 #[rV room aA A.length cA lo X.length lc, .agg (mC x)] W (RPutIs W room aA A.length cA X false) := by
  have hcr := fun V (hb : Below W.heap.size W V) => rcross_o V room A aA cA lo X.length lc x (hA.below hb)
  unfold rV at hcr ⊢
  obtain ⟨W1, hW1⟩ : ∃ W1, W1 = W.alloc (.cells #[.int .i64 (room : Nat), .slice aA A.length cA, .slice lo X.length lc] rbT) := ⟨_, rfl⟩
  obtain ⟨W2, hW2⟩ : ∃ W2, W2 = W1.alloc (.cells (mC x) rmT) := ⟨_, rfl⟩
  obtain ⟨W3, hW3⟩ : ∃ W3, W3 = W2.alloc (.cells #[.int .i64 0, .slice none 0 0, .slice none 0 0] rbT) := ⟨_, rfl⟩
  obtain ⟨b1, hb1⟩ : ∃ b, b = W.heap.size := ⟨_, rfl⟩
  obtain ⟨b2, hb2⟩ : ∃ b, b = W.heap.size + 1 := ⟨_, rfl⟩
  obtain ⟨b3, hb3⟩ : ∃ b, b = W.heap.size + 1 + 1 := ⟨_, rfl⟩
  have z1 : W1.heap.size = W.heap.size + 1 := by rw [hW1]; simp
  have z2 : W2.heap.size = W.heap.size + 1 + 1 := by rw [hW2]; simp [z1]
  have B1 : Below W.heap.size W W1 := by rw [hW1]; exact below_new _ _
  have B2 : Below W1.heap.size W1 W2 := by rw [hW2]; exact below_new _ _
  have B3 : Below W2.heap.size W2 W3 := by rw [hW3]; exact below_new _ _
  have hB3 := below_on (below_on B1 B2 (Nat.le_refl _)) B3 (Nat.le_refl _)
  have t1 : W3.heap[b1]? = some (.cells #[.int .i64 (room : Nat), .slice aA A.length cA, .slice lo X.length lc] rbT (0, 0)) := by
    rw [B3.block b1 (by omega), B2.block b1 (by omega), hW1, hb1]; exact heap_alloc_new _ _
  have t2 : W3.heap[b2]? = some (.cells (mC x) rmT (0, 0)) := by
    rw [B3.block b2 (by omega), hW2, hb2, ← z1]; exact heap_alloc_new _ _
  have t3 : W3.heap[b3]? = some (.cells #[.int .i64 0, .slice none 0 0, .slice none 0 0] rbT (0, 0)) := by
    rw [hW3, hb3, ← z2]; exact heap_alloc_new _ _
  have Hup : Hid (W.heap.size ≤ b1 ∧ W.heap.size ≤ b2 ∧ W.heap.size ≤ b3) := ⟨by omega, by omega, by omega⟩
  have Hap : Hid (b1 ≠ b2 ∧ b1 ≠ b3 ∧ b2 ≠ b3) := ⟨by omega, by omega, by omega⟩
  have HB3 := Lib.hid hB3
  have T1 := Lib.hid t1
  have T2 := Lib.hid t2
  have T3 := Lib.hid t3
  clear z1 z2 B1 B2 B3 hB3 t1 t2 t3
  have p0 := block_cell T1.out 0
  have p1 := block_cell T1.out 1
  have p2 := block_cell T1.out 2
  have pl1 := bx_lt T1.out
  simp at p0 p1 p2
  have l6 := ld_mbox rmT rmT (.inr rfl) T2.out
  have hsd := refMsgSound_any x W3 (hx.below HB3.out) (by omega) (by omega) hxn.1
  rw [h1] at hsd
  have Hsd := Lib.hid hsd
  have Hcr := Lib.hid hcr
  have HX := Lib.hid hX
  clear hx hxe hxm hxn hA h5 hX h1 hsd hcr
  go_enter Try.func27, Try.ntmps27
  go_upto_region 1 with fail
  rw [← hW1, ← hW2, ← hW3, ← hb3, ← hb2, ← hb1]
  clear hW1 hW2 hW3 hb1 hb2 hb3
  go_wp2_with ((with_reducible show wpList _ _ _ (⟨_, Op.load _ _, _, _, _, _⟩ :: _) _ _); refine wpl_ldT rfl rfl rfl (by assumption) ?_)
  refine (show Calls _ _ _ _ _ from Hsd.out).mono ?_
  rintro e V1 ⟨rfl, hb4⟩
  clear p0 p1 p2 pl1 l6 Hcr Hsd
  have D1 := bx_below hb4 T1.out
  have D3 := bx_below hb4 T3.out
  have p0 := block_cell D1 0
  have p1 := block_cell D1 1
  have p2 := block_cell D1 2
  have pl1 := bx_lt D1
  have c0 := block_cell D3 0
  have c1 := block_cell D3 1
  have c2 := block_cell D3 2
  have f0 := block_free D3 0
  have f1 := block_free D3 1
  have f2 := block_free D3 2
  have l2 := bx_lt D3
  simp at p0 p1 p2 c0 c1 c2 f0 f1 f2
  have u5 := bx_set3 D3 (.int .i64 (room : Nat)) (.slice aA A.length cA) (.slice lo X.length lc)
  have hg5 := gr_set3 V1 b3 (.int .i64 (room : Nat)) (.slice aA A.length cA) (.slice lo X.length lc)
  obtain ⟨U5, hU5⟩ : ∃ U, U = ((V1.setCell ⟨b3, 0, none⟩ (.int .i64 (room : Nat))).setCell ⟨b3, 1, none⟩ (.slice aA A.length cA)).setCell ⟨b3, 2, none⟩ (.slice lo X.length lc) := ⟨_, rfl⟩
  rw [← hU5] at u5 hg5
  have hBV : Below W.heap.size W V1 := below_on HB3.out hb4 (Nat.le_refl _)
  have hBU : Below W.heap.size W U5 := hBV.trans (hg5.above hBV.size (fun i hi => by rw [hi]; exact Hup.out.2.2))
  have Hfin : Hid (RPutIs W room aA A.length cA X false (.returned (.tuple #[.agg #[.int .i64 (room : Nat), .slice aA A.length cA, .slice lo X.length lc], .bool false])) U5) := (⟨lo, lc, rfl, HX.out.below hBU, hBU⟩ : RPutIs W room aA A.length cA X false (.returned (.tuple #[.agg #[.int .i64 (room : Nat), .slice aA A.length cA, .slice lo X.length lc], .bool false])) U5)
  have HU5 := Lib.hid u5
  have HU5e := Lib.hid hU5
  clear u5 hg5 hU5 hBU hBV D1 D3
  go_wp2_with fail
  rw [← HU5e.out]
  exact bodyPost_ret (v := .tuple #[.agg #[.int .i64 (room : Nat), .slice aA A.length cA, .slice lo X.length lc], .bool false]) (results_2 Try.results27 rfl rfl (lvRb HU5.out)) rfl Hfin.out
set_option maxRecDepth 100000 in
set_option maxHeartbeats 4000000 in
theorem rput_cross (W : World) (room cA lc : Nat) (A : List Int) (aA lo : Option Addr) (X : List Mp) (x : Mp) (hx : MpAt W x) (hxe : x.el.length ≤ 20) (hxm : x.ml.length ≤ 30) (hxn : MsgOk x) (hA : Iz W .i64 aA cA A) (h5 : X.length ≤ 512) (hX : MgRow W rmT lo lc X)
    (h1 : soundM x.v = true) (h2 : inL A x.frm ≠ inL A x.dst) :
    Calls Try.prog 27 #[rV room aA A.length cA lo X.length lc, .agg (mC x)] W (RPutIs W room aA A.length cA X false) := by
  have hcr := fun V (hb : Below W.heap.size W V) => rcross_o V room A aA cA lo X.length lc x (hA.below hb)
  have hne : (inL A x.frm != inL A x.dst) = true := by simpa using h2
  rw [hne] at hcr
  unfold rV at hcr ⊢
  obtain ⟨W1, hW1⟩ : ∃ W1, W1 = W.alloc (.cells #[.int .i64 (room : Nat), .slice aA A.length cA, .slice lo X.length lc] rbT) := ⟨_, rfl⟩
  obtain ⟨W2, hW2⟩ : ∃ W2, W2 = W1.alloc (.cells (mC x) rmT) := ⟨_, rfl⟩
  obtain ⟨W3, hW3⟩ : ∃ W3, W3 = W2.alloc (.cells #[.int .i64 0, .slice none 0 0, .slice none 0 0] rbT) := ⟨_, rfl⟩
  obtain ⟨b1, hb1⟩ : ∃ b, b = W.heap.size := ⟨_, rfl⟩
  obtain ⟨b2, hb2⟩ : ∃ b, b = W.heap.size + 1 := ⟨_, rfl⟩
  obtain ⟨b3, hb3⟩ : ∃ b, b = W.heap.size + 1 + 1 := ⟨_, rfl⟩
  have z1 : W1.heap.size = W.heap.size + 1 := by rw [hW1]; simp
  have z2 : W2.heap.size = W.heap.size + 1 + 1 := by rw [hW2]; simp [z1]
  have B1 : Below W.heap.size W W1 := by rw [hW1]; exact below_new _ _
  have B2 : Below W1.heap.size W1 W2 := by rw [hW2]; exact below_new _ _
  have B3 : Below W2.heap.size W2 W3 := by rw [hW3]; exact below_new _ _
  have hB3 := below_on (below_on B1 B2 (Nat.le_refl _)) B3 (Nat.le_refl _)
  have t1 : W3.heap[b1]? = some (.cells #[.int .i64 (room : Nat), .slice aA A.length cA, .slice lo X.length lc] rbT (0, 0)) := by
    rw [B3.block b1 (by omega), B2.block b1 (by omega), hW1, hb1]; exact heap_alloc_new _ _
  have t2 : W3.heap[b2]? = some (.cells (mC x) rmT (0, 0)) := by
    rw [B3.block b2 (by omega), hW2, hb2, ← z1]; exact heap_alloc_new _ _
  have t3 : W3.heap[b3]? = some (.cells #[.int .i64 0, .slice none 0 0, .slice none 0 0] rbT (0, 0)) := by
    rw [hW3, hb3, ← z2]; exact heap_alloc_new _ _
  have Hup : Hid (W.heap.size ≤ b1 ∧ W.heap.size ≤ b2 ∧ W.heap.size ≤ b3) := ⟨by omega, by omega, by omega⟩
  have Hap : Hid (b1 ≠ b2 ∧ b1 ≠ b3 ∧ b2 ≠ b3) := ⟨by omega, by omega, by omega⟩
  have HB3 := Lib.hid hB3
  have T1 := Lib.hid t1
  have T2 := Lib.hid t2
  have T3 := Lib.hid t3
  clear z1 z2 B1 B2 B3 hB3 t1 t2 t3
  have p0 := block_cell T1.out 0
  have p1 := block_cell T1.out 1
  have p2 := block_cell T1.out 2
  have pl1 := bx_lt T1.out
  simp at p0 p1 p2
  have l6 := ld_mbox rmT rmT (.inr rfl) T2.out
  have hsd := refMsgSound_any x W3 (hx.below HB3.out) (by omega) (by omega) hxn.1
  rw [h1] at hsd
  have Hsd := Lib.hid hsd
  have Hcr := Lib.hid hcr
  have HX := Lib.hid hX
  clear hx hxe hxm hxn hA h5 hX h1 h2 hne hsd hcr
  go_enter Try.func27, Try.ntmps27
  go_upto_region 1 with fail
  rw [← hW1, ← hW2, ← hW3, ← hb3, ← hb2, ← hb1]
  clear hW1 hW2 hW3 hb1 hb2 hb3
  go_wp2_with ((with_reducible show wpList _ _ _ (⟨_, Op.load _ _, _, _, _, _⟩ :: _) _ _); refine wpl_ldT rfl rfl rfl (by assumption) ?_)
  refine (show Calls _ _ _ _ _ from Hsd.out).mono ?_
  rintro e V1 ⟨rfl, hb4⟩
  have D1a := bx_below hb4 T1.out
  have D2a := bx_below hb4 T2.out
  have l6' := ld_mbox rmT rmT (.inr rfl) D2a
  have p0' := block_cell D1a 0
  have p1' := block_cell D1a 1
  have p2' := block_cell D1a 2
  have pl1' := bx_lt D1a
  simp at p0' p1' p2'
  have Hc1 := Lib.hid (Hcr.out V1 (below_on HB3.out hb4 (Nat.le_refl _)))
  clear p0 p1 p2 pl1 l6 D1a D2a
  go_wp2_with ((with_reducible show wpList _ _ _ (⟨_, Op.load 62 _, _, _, _, _⟩ :: _) _ _); refine wpl_ldT rfl rfl rfl (by assumption) ?_)
  refine (show Calls _ _ _ _ _ from Hc1.out).mono ?_
  rintro e V3 ⟨rfl, hb5⟩
  have hb3V := below_on hb4 hb5 (Nat.le_refl _)
  clear p0' p1' p2' pl1' l6' hb4 hb5 Hc1 Hsd Hcr
  have D1 := bx_below hb3V T1.out
  have D3 := bx_below hb3V T3.out
  have p0 := block_cell D1 0
  have p1 := block_cell D1 1
  have p2 := block_cell D1 2
  have pl1 := bx_lt D1
  have c0 := block_cell D3 0
  have c1 := block_cell D3 1
  have c2 := block_cell D3 2
  have f0 := block_free D3 0
  have f1 := block_free D3 1
  have f2 := block_free D3 2
  have l2 := bx_lt D3
  simp at p0 p1 p2 c0 c1 c2 f0 f1 f2
  have u5 := bx_set3 D3 (.int .i64 (room : Nat)) (.slice aA A.length cA) (.slice lo X.length lc)
  have hg5 := gr_set3 V3 b3 (.int .i64 (room : Nat)) (.slice aA A.length cA) (.slice lo X.length lc)
  obtain ⟨U5, hU5⟩ : ∃ U, U = ((V3.setCell ⟨b3, 0, none⟩ (.int .i64 (room : Nat))).setCell ⟨b3, 1, none⟩ (.slice aA A.length cA)).setCell ⟨b3, 2, none⟩ (.slice lo X.length lc) := ⟨_, rfl⟩
  rw [← hU5] at u5 hg5
  have hBV : Below W.heap.size W V3 := below_on HB3.out hb3V (Nat.le_refl _)
  have hBU : Below W.heap.size W U5 := hBV.trans (hg5.above hBV.size (fun i hi => by rw [hi]; exact Hup.out.2.2))
  have Hfin : Hid (RPutIs W room aA A.length cA X false (.returned (.tuple #[.agg #[.int .i64 (room : Nat), .slice aA A.length cA, .slice lo X.length lc], .bool false])) U5) := (⟨lo, lc, rfl, HX.out.below hBU, hBU⟩ : RPutIs W room aA A.length cA X false (.returned (.tuple #[.agg #[.int .i64 (room : Nat), .slice aA A.length cA, .slice lo X.length lc], .bool false])) U5)
  have HU5 := Lib.hid u5
  have HU5e := Lib.hid hU5
  clear u5 hg5 hU5 hBU hBV D1 D3
  go_wp2_with fail
  rw [← HU5e.out]
  exact bodyPost_ret (v := .tuple #[.agg #[.int .i64 (room : Nat), .slice aA A.length cA, .slice lo X.length lc], .bool false]) (results_2 Try.results27 rfl rfl (lvRb HU5.out)) rfl Hfin.out
set_option maxRecDepth 100000 in
set_option maxHeartbeats 4000000 in
theorem rput_full (W : World) (room cA lc : Nat) (A : List Int) (aA lo : Option Addr) (X : List Mp) (x : Mp) (hx : MpAt W x) (hxe : x.el.length ≤ 20) (hxm : x.ml.length ≤ 30) (hxn : MsgOk x) (hA : Iz W .i64 aA cA A) (h5 : X.length ≤ 512) (hX : MgRow W rmT lo lc X)
    (h1 : soundM x.v = true) (h2 : inL A x.frm = inL A x.dst) (h3 : room ≤ X.length) :
    Calls Try.prog 27 #[rV room aA A.length cA lo X.length lc, .agg (mC x)] W (RPutIs W room aA A.length cA X false) := by
  have hcr := fun V (hb : Below W.heap.size W V) => rcross_o V room A aA cA lo X.length lc x (hA.below hb)
  rw [h2] at hcr
  simp only [bne_self_eq_false] at hcr
  unfold rV at hcr ⊢
  obtain ⟨W1, hW1⟩ : ∃ W1, W1 = W.alloc (.cells #[.int .i64 (room : Nat), .slice aA A.length cA, .slice lo X.length lc] rbT) := ⟨_, rfl⟩
  obtain ⟨W2, hW2⟩ : ∃ W2, W2 = W1.alloc (.cells (mC x) rmT) := ⟨_, rfl⟩
  obtain ⟨W3, hW3⟩ : ∃ W3, W3 = W2.alloc (.cells #[.int .i64 0, .slice none 0 0, .slice none 0 0] rbT) := ⟨_, rfl⟩
  obtain ⟨b1, hb1⟩ : ∃ b, b = W.heap.size := ⟨_, rfl⟩
  obtain ⟨b2, hb2⟩ : ∃ b, b = W.heap.size + 1 := ⟨_, rfl⟩
  obtain ⟨b3, hb3⟩ : ∃ b, b = W.heap.size + 1 + 1 := ⟨_, rfl⟩
  have z1 : W1.heap.size = W.heap.size + 1 := by rw [hW1]; simp
  have z2 : W2.heap.size = W.heap.size + 1 + 1 := by rw [hW2]; simp [z1]
  have B1 : Below W.heap.size W W1 := by rw [hW1]; exact below_new _ _
  have B2 : Below W1.heap.size W1 W2 := by rw [hW2]; exact below_new _ _
  have B3 : Below W2.heap.size W2 W3 := by rw [hW3]; exact below_new _ _
  have hB3 := below_on (below_on B1 B2 (Nat.le_refl _)) B3 (Nat.le_refl _)
  have t1 : W3.heap[b1]? = some (.cells #[.int .i64 (room : Nat), .slice aA A.length cA, .slice lo X.length lc] rbT (0, 0)) := by
    rw [B3.block b1 (by omega), B2.block b1 (by omega), hW1, hb1]; exact heap_alloc_new _ _
  have t2 : W3.heap[b2]? = some (.cells (mC x) rmT (0, 0)) := by
    rw [B3.block b2 (by omega), hW2, hb2, ← z1]; exact heap_alloc_new _ _
  have t3 : W3.heap[b3]? = some (.cells #[.int .i64 0, .slice none 0 0, .slice none 0 0] rbT (0, 0)) := by
    rw [hW3, hb3, ← z2]; exact heap_alloc_new _ _
  have Hup : Hid (W.heap.size ≤ b1 ∧ W.heap.size ≤ b2 ∧ W.heap.size ≤ b3) := ⟨by omega, by omega, by omega⟩
  have Hap : Hid (b1 ≠ b2 ∧ b1 ≠ b3 ∧ b2 ≠ b3) := ⟨by omega, by omega, by omega⟩
  have HB3 := Lib.hid hB3
  have T1 := Lib.hid t1
  have T2 := Lib.hid t2
  have T3 := Lib.hid t3
  clear z1 z2 B1 B2 B3 hB3 t1 t2 t3
  have p0 := block_cell T1.out 0
  have p1 := block_cell T1.out 1
  have p2 := block_cell T1.out 2
  have pl1 := bx_lt T1.out
  simp at p0 p1 p2
  have l6 := ld_mbox rmT rmT (.inr rfl) T2.out
  have hsd := refMsgSound_any x W3 (hx.below HB3.out) (by omega) (by omega) hxn.1
  rw [h1] at hsd
  have Hsd := Lib.hid hsd
  have Hcr := Lib.hid hcr
  have HX := Lib.hid hX
  have c3 : (X.length : Int) ≥ (room : Nat) := by omega
  clear hx hxe hxm hxn hA h5 hX h1 h2 h3 hsd hcr
  go_enter Try.func27, Try.ntmps27
  go_upto_region 1 with fail
  rw [← hW1, ← hW2, ← hW3, ← hb3, ← hb2, ← hb1]
  clear hW1 hW2 hW3 hb1 hb2 hb3
  go_wp2_with ((with_reducible show wpList _ _ _ (⟨_, Op.load _ _, _, _, _, _⟩ :: _) _ _); refine wpl_ldT rfl rfl rfl (by assumption) ?_)
  refine (show Calls _ _ _ _ _ from Hsd.out).mono ?_
  rintro e V1 ⟨rfl, hb4⟩
  have D1a := bx_below hb4 T1.out
  have D2a := bx_below hb4 T2.out
  have l6' := ld_mbox rmT rmT (.inr rfl) D2a
  have p0' := block_cell D1a 0
  have p1' := block_cell D1a 1
  have p2' := block_cell D1a 2
  have pl1' := bx_lt D1a
  simp at p0' p1' p2'
  have Hc1 := Lib.hid (Hcr.out V1 (below_on HB3.out hb4 (Nat.le_refl _)))
  clear p0 p1 p2 pl1 l6 D1a D2a
  go_wp2_with ((with_reducible show wpList _ _ _ (⟨_, Op.load 62 _, _, _, _, _⟩ :: _) _ _); refine wpl_ldT rfl rfl rfl (by assumption) ?_)
  refine (show Calls _ _ _ _ _ from Hc1.out).mono ?_
  rintro e V3 ⟨rfl, hb5⟩
  have hb3V := below_on hb4 hb5 (Nat.le_refl _)
  clear p0' p1' p2' pl1' l6' hb4 hb5 Hc1 Hsd Hcr
  have D1 := bx_below hb3V T1.out
  have D3 := bx_below hb3V T3.out
  have p0 := block_cell D1 0
  have p1 := block_cell D1 1
  have p2 := block_cell D1 2
  have pl1 := bx_lt D1
  have c0 := block_cell D3 0
  have c1 := block_cell D3 1
  have c2 := block_cell D3 2
  have f0 := block_free D3 0
  have f1 := block_free D3 1
  have f2 := block_free D3 2
  have l2 := bx_lt D3
  simp at p0 p1 p2 c0 c1 c2 f0 f1 f2
  have u5 := bx_set3 D3 (.int .i64 (room : Nat)) (.slice aA A.length cA) (.slice lo X.length lc)
  have hg5 := gr_set3 V3 b3 (.int .i64 (room : Nat)) (.slice aA A.length cA) (.slice lo X.length lc)
  obtain ⟨U5, hU5⟩ : ∃ U, U = ((V3.setCell ⟨b3, 0, none⟩ (.int .i64 (room : Nat))).setCell ⟨b3, 1, none⟩ (.slice aA A.length cA)).setCell ⟨b3, 2, none⟩ (.slice lo X.length lc) := ⟨_, rfl⟩
  rw [← hU5] at u5 hg5
  have hBV : Below W.heap.size W V3 := below_on HB3.out hb3V (Nat.le_refl _)
  have hBU : Below W.heap.size W U5 := hBV.trans (hg5.above hBV.size (fun i hi => by rw [hi]; exact Hup.out.2.2))
  have Hfin : Hid (RPutIs W room aA A.length cA X false (.returned (.tuple #[.agg #[.int .i64 (room : Nat), .slice aA A.length cA, .slice lo X.length lc], .bool false])) U5) := (⟨lo, lc, rfl, HX.out.below hBU, hBU⟩ : RPutIs W room aA A.length cA X false (.returned (.tuple #[.agg #[.int .i64 (room : Nat), .slice aA A.length cA, .slice lo X.length lc], .bool false])) U5)
  have HU5 := Lib.hid u5
  have HU5e := Lib.hid hU5
  clear u5 hg5 hU5 hBU hBV D1 D3
  go_wp2_with fail
  rw [← HU5e.out]
  exact bodyPost_ret (v := .tuple #[.agg #[.int .i64 (room : Nat), .slice aA A.length cA, .slice lo X.length lc], .bool false]) (results_2 Try.results27 rfl rfl (lvRb HU5.out)) rfl Hfin.out
theorem rput_o (W : World) (room cA lc : Nat) (A : List Int) (aA lo : Option Addr) (X : List Mp) (x : Mp) (hx : MpAt W x) (hxe : x.el.length ≤ 20) (hxm : x.ml.length ≤ 30) (hxn : MsgOk x) (hA : Iz W .i64 aA cA A) (h5 : X.length ≤ 512) (hX : MgRow W rmT lo lc X) :
    Calls Try.prog 27 #[rV room aA A.length cA lo X.length lc, .agg (mC x)] W (RPutIs W room aA A.length cA (if putOk room (inL A) X.length x.v = true then X ++ [x] else X) (putOk room (inL A) X.length x.v)) := by
  by_cases h1 : soundM x.v = true
  · by_cases h2 : inL A x.frm = inL A x.dst
    · by_cases h3 : X.length < room
      · have e : putOk room (inL A) X.length x.v = true := put_yes h1 h2 h3
        rw [e, if_pos rfl]
        exact rput_yes W room cA lc A aA lo X x hx hxe hxm hxn hA h5 hX h1 h2 h3
      · have e : putOk room (inL A) X.length x.v = false := by unfold putOk; simp [h3]
        rw [e, if_neg (by simp)]
        exact rput_full W room cA lc A aA lo X x hx hxe hxm hxn hA h5 hX h1 h2 (by omega)
    · have e : putOk room (inL A) X.length x.v = false := by
        unfold putOk
        have e2 : (inL A x.v.frm == inL A x.v.dst) = false := by
          show (inL A x.frm == inL A x.dst) = false
          simpa using h2
        rw [e2]; simp
      rw [e, if_neg (by simp)]
      exact rput_cross W room cA lc A aA lo X x hx hxe hxm hxn hA h5 hX h1 h2
  · have h1f : soundM x.v = false := by simpa using h1
    have e : putOk room (inL A) X.length x.v = false := by unfold putOk; rw [h1f]; simp
    rw [e, if_neg (by simp)]
    exact rput_bad W room cA lc A aA lo X x hx hxe hxm hxn hA h5 hX h1f
end Go.Proofs.Ytbmkgcoolofmpaa
