/- Lemmas for BagApart (Bu Bh Bv Bw). No statement of the seat is proved here. -/
import Derived.Test.YtbmkgcoolofmpaaA20
import Derived.Test.YtbmkgcoolofmpaaA29
import Derived.Test.YtbmkgcoolofmpaaA31
namespace Go.Proofs.Ytbmkgcoolofmpaa
set_option linter.unusedVariables false
set_option linter.unusedSimpArgs false
set_option linter.unusedSectionVars false
open Go Go.RowKit Go.Maps Go.Shelf
/-- what the reference's Wall leaves -/
def crM (A : List Int) (x : Mp) : Bool := inL A x.frm != inL A x.dst
def keepM (A : List Int) (X : List Mp) : List Mp := X.filter (fun x => !crM A x)
theorem keepM_next (A : List Int) (X : List Mp) (j : Nat) (hj : j < X.length) : keepM A (X.take (j + 1)) = if crM A X[j] = true then keepM A (X.take j) else keepM A (X.take j) ++ [X[j]] := by
  unfold keepM
  rw [List.take_succ_eq_append_getElem hj, List.filter_append]
  cases h : crM A X[j] <;> simp [h]
theorem keepM_le (A : List Int) (X : List Mp) : (keepM A X).length ≤ X.length := List.length_filter_le _ _
theorem keepM_take_le (A : List Int) (X : List Mp) (j : Nat) (h5 : X.length ≤ 512) : (keepM A (X.take j)).length ≤ 512 :=
  Nat.le_trans (keepM_le A _) (Nat.le_trans (by rw [List.length_take]; exact Nat.min_le_right _ _) h5)
def RWallIs (W : World) (room : Nat) (aA : Option Addr) (nA cA : Nat) (X' : List Mp) (lost : Int) (e : Ending) (W' : World) : Prop := ∃ lo' lc', e = .returned (.tuple #[rV room aA nA cA lo' X'.length lc', .int .i64 lost]) ∧ MgRow W' rmT lo' lc' X' ∧ Below W.heap.size W W'
theorem wpl_bsM {E : TypeId} (hE : E = mgT ∨ E = rmT) {ops : Array Oper} {rest : List Oper} {o : Oper} {a : Act} {W : World} {Q : Exit → Act → World → Prop} {y : Operand} {x : Mp} {ST : TypeId} (hg : o.guard = none) (hu : Try.prog.underlying ST = some (.slice E)) (hop : o.op = .buildSlice ST 1 #[(0, y)]) (hy : a.eval y = .agg (mC x))
    (h : wpList Try.prog ops Q rest (a.put o.dst (.slice (some ⟨W.heap.size, 0, none⟩) 1 1)) (W.alloc (.cells (mC x) E))) : wpList Try.prog ops Q (o :: rest) a W :=
  wpList_plain hg fun K hK => wpo_bsM hE hu hop hy (hK _ _ h)
theorem rw_nums {i n : Nat} (h : i < n) (h2 : n ≤ 512) : (0 : Int) ≤ (i : Int) ∧ (i : Int) < (n : Int) ∧ wrap64 ((i : Int) + 1) = (i : Int) + 1 := by
  refine ⟨by omega, by omega, ?_⟩
  rw [IntWalk.wrap64_in _ (by omega)]
set_option maxRecDepth 100000 in
set_option maxHeartbeats 4000000 in
theorem rwall_o (W : World) (room nA0 cA0 cA lc : Nat) (A : List Int) (aA0 aA lo : Option Addr) (X : List Mp) (hA : Iz W .i64 aA cA A) (h5 : X.length ≤ 512) (hX : MgRow W rmT lo lc X) :
    Calls Try.prog 26 #[rV room aA0 nA0 cA0 lo X.length lc, .slice aA A.length cA] W (RWallIs W room aA A.length cA (keepM A X) ((X.length : Int) - ((keepM A X).length : Nat))) := by
  have hcr := fun (V : World) (x : Mp) (hb : Below W.heap.size W V) => rcross_o V room A aA cA lo X.length lc x (hA.below hb)
  unfold rV at hcr ⊢
  obtain ⟨W1, hW1⟩ : ∃ W1, W1 = W.alloc (.cells #[.int .i64 (room : Nat), .slice aA0 nA0 cA0, .slice lo X.length lc] rbT) := ⟨_, rfl⟩
  obtain ⟨W2, hW2⟩ : ∃ W2, W2 = W1.alloc (.cells #[.int .i64 0, .slice none 0 0, .slice none 0 0] rbT) := ⟨_, rfl⟩
  obtain ⟨b1, hb1⟩ : ∃ b, b = W.heap.size := ⟨_, rfl⟩
  obtain ⟨b2, hb2⟩ : ∃ b, b = W.heap.size + 1 := ⟨_, rfl⟩
  have z1 : W1.heap.size = W.heap.size + 1 := by rw [hW1]; simp
  have B1 : Below W.heap.size W W1 := by rw [hW1]; exact below_new _ _
  have B2 : Below W1.heap.size W1 W2 := by rw [hW2]; exact below_new _ _
  have hB2 := below_on B1 B2 (Nat.le_refl _)
  have t1 : W2.heap[b1]? = some (.cells #[.int .i64 (room : Nat), .slice aA0 nA0 cA0, .slice lo X.length lc] rbT (0, 0)) := by
    rw [B2.block b1 (by omega), hW1, hb1]; exact heap_alloc_new _ _
  have t2 : W2.heap[b2]? = some (.cells #[.int .i64 0, .slice none 0 0, .slice none 0 0] rbT (0, 0)) := by
    rw [hW2, hb2, ← z1]; exact heap_alloc_new _ _
  have Hup : Hid (W.heap.size ≤ b1 ∧ W.heap.size ≤ b2) := ⟨by omega, by omega⟩
  have Hap : Hid (b1 ≠ b2) := (by omega : b1 ≠ b2)
  have HB2 := Lib.hid hB2
  have T1 := Lib.hid t1
  have T2 := Lib.hid t2
  clear z1 B1 B2 hB2 t1 t2
  have p0 := block_cell T1.out 0
  have p1 := block_cell T1.out 1
  have p2 := block_cell T1.out 2
  have g1 := block_free T1.out 1
  have l1 := bx_lt T1.out
  simp at p0 p1 p2 g1
  obtain ⟨W3, hW3⟩ : ∃ W3, W3 = W2.setCell ⟨b1, 1, none⟩ (.slice aA A.length cA) := ⟨_, rfl⟩
  have hx1 : W3.heap[b1]? = some (.cells #[.int .i64 (room : Nat), .slice aA A.length cA, .slice lo X.length lc] rbT (0, 0)) := by rw [hW3]; exact block_set T1.out 1 _
  have hx2 : W3.heap[b2]? = some (.cells #[.int .i64 0, .slice none 0 0, .slice none 0 0] rbT (0, 0)) := by
    rw [hW3]; exact (heap_setCell_other W2 ⟨b1, 1, none⟩ b2 _ (fun e => Hap.out e.symm)).trans T2.out
  have hB3 : Below W.heap.size W W3 := by rw [hW3]; exact sets_up HB2.out Hup.out.1 1 _
  have D1 := Lib.hid hx1
  have D2 := Lib.hid hx2
  have HB := Lib.hid hB3
  have Hcr := Lib.hid hcr
  have HX := Lib.hid hX
  have H5 := Lib.hid h5
  clear hx1 hx2 hB3 hcr hX h5 hA
  go_enter Try.func26, Try.ntmps26
  go_upto_region 1 with fail
  rw [← hW1, ← hW2, ← hb2, ← hb1]
  clear hW1 hW2 hb1 hb2
  go_upto_region 2 with fail
  rw [← hW3]
  clear hW3 p0 p1 p2 g1 l1
  go_wp2_with fail
  go_loopw [6, 7] (fun v u wr => ∃ (i : Nat) (al : Option Addr) (cl : Nat), u = .int .i64 (i : Nat) ∧ v = .slice al (keepM A (X.take i)).length cl ∧ i ≤ X.length ∧ Hid (wr.ownsRow W3.heap.size rmT 15 (.slice al (keepM A (X.take i)).length cl) (keepM A (X.take i)).length (mFlat (keepM A (X.take i)))) ∧ Hid (Below W3.heap.size W3 wr)) (fun _ u _ => X.length - (intOf u).toNat)
  case atStart => exact ⟨0, none, 0, rfl, rfl, Nat.zero_le _, Lib.hid (World.ownsRow_nil _ _ _ _), Lib.hid (Below.refl _ _)⟩
  case round =>
    obtain ⟨i, al, cl, rfl, rfl, hi, Ho, Hb⟩ := hrel
    have hd1 := bx_below Hb.out D1.out
    have s2 := block_cell hd1 2
    have sl := bx_lt hd1
    simp at s2
    by_cases hlt : i < X.length
    · have hBw : Below W.heap.size W wr := below_on HB.out Hb.out (Nat.le_refl _)
      obtain ⟨g, o, rfl, hgl, hge, hld⟩ := (HX.out.below hBw).load i hlt rmT (.inr rfl)
      obtain ⟨i0, i1, w1⟩ := rw_nums hlt H5.out
      have hnx := keepM_next A X i hlt
      obtain ⟨x, hx⟩ : ∃ x, x = X[i] := ⟨_, rfl⟩
      rw [← hx] at hld hnx
      have Hld := Lib.hid hld
      have Hgl := Lib.hid hgl
      have Hd1 := Lib.hid hd1
      have HBw := Lib.hid hBw
      have Hlt := Lib.hid hlt
      have Hnx := Lib.hid hnx
      have Hc1 := Lib.hid (Hcr.out wr.drew x hBw.drew)
      obtain ⟨cr, hcrx⟩ : ∃ cr, cr = crM A x := ⟨_, rfl⟩
      rw [show (inL A x.frm != inL A x.dst) = cr from hcrx.symm] at Hc1
      have HCR := Lib.hid hcrx
      clear hx hld hgl hge hd1 hBw hlt hnx hcrx
      go_upto_region 6 with fail
      clear s2 sl
      refine wp_region_held_drew (S := fun V => V.heap[b1]? = wr.heap[b1]? ∧ V.heap[g]? = wr.heap[g]?) (by kernel_rfl) ⟨rfl, rfl⟩ (fun hHeld => ?_)
      refine wpAnyH_take (i := 0) (v := .agg #[.int .i64 (room : Nat), .slice aA A.length cA, .slice (some ⟨g, o, none⟩) X.length lc]) rfl (by kernel_rfl) (by kernel_rfl) (by kernel_rfl) (fun _ _ _ h => h) (Or.inl ⟨by rfl, ?_⟩) (by assumption) ?_
      · intro w8 hSw; exact ld_takeT rfl (ldRb (hSw.1.trans Hd1.out)) rfl
      simp only [Act.put, List.getElem_toArray, List.getElem_cons_zero, List.getElem_cons_succ, List.setIfInBounds_toArray, List.set_cons_zero, List.set_cons_succ]
      refine wpAnyH_take (i := 1) (v := ?_) rfl (by kernel_rfl) (by kernel_rfl) (by kernel_rfl) (fun _ _ _ h => h) (Or.inl ⟨by rfl, ?_⟩) (by assumption) ?_
      rotate_left
      · intro w8 hSw; clear hSw; go_simp; (try with_reducible rfl)
      simp only [Act.put, List.getElem_toArray, List.getElem_cons_zero, List.getElem_cons_succ, List.setIfInBounds_toArray, List.set_cons_zero, List.set_cons_succ]
      refine wpAnyH_take (i := 2) (v := .slice (some ⟨g, o, none⟩) X.length lc) rfl (by kernel_rfl) (by kernel_rfl) (by kernel_rfl) (fun _ _ _ h => h) (Or.inl ⟨by rfl, ?_⟩) (by assumption) ?_
      · intro w8 hSw; exact ld_takeT rfl (ldMs (by rw [World.cell?_of_block (w := wr) hSw.1]; exact block_cell Hd1.out 2)) rfl
      simp only [Act.put, List.getElem_toArray, List.getElem_cons_zero, List.getElem_cons_succ, List.setIfInBounds_toArray, List.set_cons_zero, List.set_cons_succ]
      refine wpAnyH_take (i := 3) (v := ?_) rfl (by kernel_rfl) (by kernel_rfl) (by kernel_rfl) (fun _ _ _ h => h) (Or.inl ⟨by rfl, ?_⟩) (by assumption) ?_
      rotate_left
      · intro w8 hSw; clear hSw; go_simp; (try with_reducible rfl)
      simp only [Act.put, List.getElem_toArray, List.getElem_cons_zero, List.getElem_cons_succ, List.setIfInBounds_toArray, List.set_cons_zero, List.set_cons_succ]
      refine wpAnyH_take (i := 4) (v := ?_) rfl (by kernel_rfl) (by kernel_rfl) (by kernel_rfl) (fun _ _ _ h => h) (Or.inl ⟨by rfl, ?_⟩) (by assumption) ?_
      rotate_left
      · intro w8 hSw; clear hSw; go_simp; (try with_reducible rfl)
      simp only [Act.put, List.getElem_toArray, List.getElem_cons_zero, List.getElem_cons_succ, List.setIfInBounds_toArray, List.set_cons_zero, List.set_cons_succ]
      refine wpAnyH_take (i := 5) (v := .agg (mC x)) rfl (by kernel_rfl) (by kernel_rfl) (by kernel_rfl) (fun _ _ _ h => h) (Or.inl ⟨by rfl, ?_⟩) (by assumption) ?_
      · intro w8 hSw; exact ld_takeT rfl (Hld.out w8 hSw.2) rfl
      simp only [Act.put, List.getElem_toArray, List.getElem_cons_zero, List.getElem_cons_succ, List.setIfInBounds_toArray, List.set_cons_zero, List.set_cons_succ]
      refine wpAnyH_ready (rs := [6]) (by kernel_rfl) (by simp) ?_
      refine AllReadyH.cons rfl (fun K hK => ?_) AllReadyH.nil
      go_simp
      go_at_call 43
      refine ((show Calls _ _ _ _ _ from Hc1.out)).mono ?_
      rintro e V2 ⟨rfl, hb2⟩
      refine hK.out _ _ ⟨hb2.block b1 (bx_lt Hd1.out), hb2.block g Hgl.out⟩ (fun hHeld => ?_)
      clear hK K
      try simp only [Act.put, List.getElem_toArray, List.getElem_cons_zero, List.getElem_cons_succ, List.setIfInBounds_toArray, List.set_cons_zero, List.set_cons_succ]
      refine wpAnyH_take (i := 7) (v := ?_) rfl (by kernel_rfl) (by kernel_rfl) (by kernel_rfl) (fun _ _ _ h => h) (Or.inl ⟨by rfl, ?_⟩) (by assumption) ?_
      rotate_left
      · intro w8 hSw; clear hSw; go_simp; (try with_reducible rfl)
      simp only [Act.put, List.getElem_toArray, List.getElem_cons_zero, List.getElem_cons_succ, List.setIfInBounds_toArray, List.set_cons_zero, List.set_cons_succ]
      refine wpAnyH_done (by kernel_rfl) ?_ _
      have hwV : Below wr.heap.size wr V2 := below_on (Below.refl _ wr).drew hb2 (Nat.le_refl _)
      have HwV := Lib.hid hwV
      have HbV := Lib.hid (below_on Hb.out hwV (Nat.le_refl _))
      have HoV := Lib.hid (own_below Ho.out hwV)
      clear hb2 hwV
      cases cr with
      | true =>
        go_wp2_with fail
        go_roundw
        case rel => exact ⟨i + 1, al, cl, by first | (rw [w1]; simp) | simp, by rw [Hnx.out, if_pos HCR.out.symm], Hlt.out, (by rw [Hnx.out, if_pos HCR.out.symm]; exact HoV), HbV⟩
        case measure => first | exact meas_w Hlt.out w1 | exact meas_p Hlt.out
      | false =>
        have hd2 := bx_below HwV.out Hd1.out
        have s2 := block_cell hd2 2
        have sl := bx_lt hd2
        simp at s2
        have l31 := Hld.out V2 (HwV.out.block g Hgl.out)
        have hkn := keepM_take_le A X i H5.out
        obtain ⟨-, q3, q4⟩ := nums_put hkn
        have hEV : W3.heap.size ≤ V2.heap.size := HbV.out.size
        have own1 := own_msg1 V2 W3.heap.size x hEV
        have hEW : W3.heap.size ≤ (V2.alloc (.cells (mC x) rmT)).heap.size := Nat.le_trans hEV (below_new V2 (.cells (mC x) rmT)).size
        have ownA := World.ownsRow.alloc HoV.out (.cells (mC x) rmT)
        have hBA := below_on HbV.out (below_new V2 (.cells (mC x) rmT)) (Nat.le_refl _)
        obtain ⟨V3, hV3⟩ : ∃ V, V = V2.alloc (.cells (mC x) rmT) := ⟨_, rfl⟩
        obtain ⟨g1, hg1⟩ : ∃ p, p = V2.heap.size := ⟨_, rfl⟩
        rw [← hV3] at own1 hEW ownA hBA
        rw [← hg1] at own1
        have HV3 := Lib.hid hV3
        have HG1 := Lib.hid hg1
        have HW := Lib.hid (And.intro own1 (And.intro hEW (And.intro ownA (And.intro hBA (And.intro q3 q4)))))
        obtain ⟨n, hn⟩ : ∃ n, n = (keepM A (X.take i)).length := ⟨_, rfl⟩
        have HN := Lib.hid hn
        rw [← hn] at HW
        clear hd2 hkn q3 q4 hEV own1 hEW ownA hBA hV3 hg1
        rw [← hn]
        clear hn
        go_wp2_with (first
          | ((with_reducible show wpList _ _ _ (⟨_, Op.load 62 _, _, _, _, _⟩ :: _) _ _); refine wpl_ldT rfl rfl rfl (by assumption) ?_)
          | ((with_reducible show wpList _ _ _ (⟨_, Op.buildSlice _ _ _, _, _, _, _⟩ :: _) _ _); refine wpl_bsM (.inr rfl) rfl Try.underlying28 rfl rfl ?_; rw [← HV3.out, ← HG1.out])
          | (at_builtin; refine wpl_append_lie rfl (.tmp 26) (.tmp 32) rmsT rfl W3.heap.size rmT infoRm Try.underlying28 rfl (by decide) _ n _ rfl HW.out.2.2.1 _ 1 1 _ rfl (Sl.of_own HW.out.1) (mRows_one _) HW.out.2.2.2.2.1 HW.out.2.2.2.2.2 HW.out.2.1 ?_; intro a4 c4 V4 own4 hgr4 hat4))
        have hB4 := below_app HW.out.2.2.2.1 hgr4 HW.out.2.2.1 (Nat.le_refl _) HW.out.2.1
        have hkx : keepM A (X.take (i + 1)) = keepM A (X.take i) ++ [x] := by rw [Hnx.out, if_neg (by rw [← HCR.out]; simp)]
        have hkl : (keepM A (X.take (i + 1))).length = n + 1 := by rw [hkx, HN.out]; simp
        rw [← mFlat_two, ← hkx] at own4
        go_roundw
        case rel => exact ⟨i + 1, a4, c4, by first | (rw [w1]; simp) | simp, by rw [hkl], Hlt.out, (by rw [hkl]; exact own4), hB4⟩
        case measure => first | exact meas_w Hlt.out w1 | exact meas_p Hlt.out
    · have hii : i = X.length := Nat.le_antisymm hi (Nat.not_lt.1 hlt)
      have ho := Ho.out
      subst hii
      rw [List.take_length] at ho ⊢
      have hkl := keepM_le A X
      have ws := sub_nums H5.out (Nat.le_trans hkl H5.out)
      have s0 := block_cell hd1 0
      have s1 := block_cell hd1 1
      have z2 := block_free hd1 2
      simp at s0 s1 z2
      obtain ⟨V5, hV5⟩ : ∃ V, V = wr.setCell ⟨b1, 2, none⟩ (.slice al (keepM A X).length cl) := ⟨_, rfl⟩
      have hx5 : V5.heap[b1]? = some (.cells #[.int .i64 (room : Nat), .slice aA A.length cA, .slice al (keepM A X).length cl] rbT (0, 0)) := by rw [hV5]; exact block_set hd1 2 _
      have hD2 : V5.heap[b2]? = some (.cells #[.int .i64 0, .slice none 0 0, .slice none 0 0] rbT (0, 0)) := by
        rw [hV5]; exact (heap_setCell_other wr ⟨b1, 2, none⟩ b2 _ (fun e => Hap.out e.symm)).trans (bx_below Hb.out D2.out)
      have hB5 : Below W.heap.size W V5 := by rw [hV5]; exact sets_up (below_on HB.out Hb.out (Nat.le_refl _)) Hup.out.1 2 _
      have ho5 : V5.ownsRow W3.heap.size rmT 15 (.slice al (keepM A X).length cl) (keepM A X).length (mFlat (keepM A X)) := by
        rw [hV5]
        exact own_gr ho (Gr.one (F := fun i => i = b1) (grown_set wr b1 2 _) (fun i e => (Option.some.inj e).symm)) (fun g hg e => by
          subst e
          exact Nat.lt_irrefl _ (Nat.lt_of_lt_of_le (bx_lt D1.out) (ho.lt g hg).1))
      have HV5 := Lib.hid hV5
      have X5 := Lib.hid hx5
      have XD2 := Lib.hid hD2
      have HB5 := Lib.hid hB5
      have HO5 := Lib.hid ho5
      clear hV5 hx5 hD2 hB5 ho5 ho hd1 hlt hi hkl
      go_upto_region 10 with fail
      rw [← HV5.out]
      clear s0 s1 s2 sl z2
      have p0 := block_cell X5.out 0
      have p1 := block_cell X5.out 1
      have p2 := block_cell X5.out 2
      have pl1 := bx_lt X5.out
      have c0 := block_cell XD2.out 0
      have c1 := block_cell XD2.out 1
      have c2 := block_cell XD2.out 2
      have f0 := block_free XD2.out 0
      have f1 := block_free XD2.out 1
      have f2 := block_free XD2.out 2
      have l2 := bx_lt XD2.out
      simp at p0 p1 p2 c0 c1 c2 f0 f1 f2
      have u5 := bx_set3 XD2.out (.int .i64 (room : Nat)) (.slice aA A.length cA) (.slice al (keepM A X).length cl)
      have hg5 := gr_set3 V5 b2 (.int .i64 (room : Nat)) (.slice aA A.length cA) (.slice al (keepM A X).length cl)
      obtain ⟨U5, hU5⟩ : ∃ U, U = ((V5.setCell ⟨b2, 0, none⟩ (.int .i64 (room : Nat))).setCell ⟨b2, 1, none⟩ (.slice aA A.length cA)).setCell ⟨b2, 2, none⟩ (.slice al (keepM A X).length cl) := ⟨_, rfl⟩
      rw [← hU5] at u5 hg5
      have hfin : RWallIs W room aA A.length cA (keepM A X) ((X.length : Int) - ((keepM A X).length : Nat)) (.returned (.tuple #[.agg #[.int .i64 (room : Nat), .slice aA A.length cA, .slice al (keepM A X).length cl], .int .i64 ((X.length : Int) - ((keepM A X).length : Nat))])) U5 := by
        have ho6 := own_gr HO5.out hg5 (fun g hg e => by
          subst e
          exact Nat.lt_irrefl _ (Nat.lt_of_lt_of_le (bx_lt D2.out) (HO5.out.lt g hg).1))
        exact ⟨al, cl, rfl, MgRow.of_own ho6, HB5.out.trans (hg5.above HB5.out.size (fun i hi => by rw [hi]; exact Hup.out.2))⟩
      have Hfin := Lib.hid hfin
      have HU5 := Lib.hid u5
      have HU5e := Lib.hid hU5
      clear hfin u5 hg5 hU5
      go_wp2_with fail
      rw [← HU5e.out]
      exact bodyPost_ret (v := .tuple #[.agg #[.int .i64 (room : Nat), .slice aA A.length cA, .slice al (keepM A X).length cl], .int .i64 ((X.length : Int) - ((keepM A X).length : Nat))]) (results_2 Try.results26 rfl (by rw [ws]; rfl) (lvRb HU5.out)) rfl Hfin.out
end Go.Proofs.Ytbmkgcoolofmpaa
namespace Go.Proofs.Ytbmkgcoolofmpaa
set_option linter.unusedVariables false
set_option linter.unusedSimpArgs false
set_option linter.unusedSectionVars false
open Go Go.RowKit Go.Maps Go.Shelf
section
variable {base : Nat} {W W' : World} {F : Nat → Prop} {b room : Nat} {T : Int → Bool} {l : List Lt}
set_option maxRecDepth 100000 in
theorem btake_no (h : Bg base W F b room T l) (k : Int) (hk : ¬ (0 ≤ k ∧ k < (l.length : Nat))) : Calls Try.prog 12 #[.pointer (some ⟨b, 0, none⟩), .int .i64 k] W fun e W' => TellM ms0 false e W' ∧ Below W.heap.size W W' := by
  have Hlk := Lib.hid (fun V (hb : Below W.heap.size W V) => blook_no (h.below hb) k hk)
  clear hk h
  go_enter Try.func12, Try.ntmps12
  go_wp2_with (refine wpl_alM rfl (.inl rfl) rfl ?_; intro p1 W1 hp1 hb1 hx1 hz1; clear hz1; have hp1' := Lib.hid (Nat.le_of_eq hp1.symm); clear hp1)
  refine (show Calls _ _ _ _ _ from Hlk.out _ hb1).mono ?_
  rintro e V1 ⟨⟨y, rfl, hy, hyt⟩, hb2⟩
  go_upto_region 2 with (first | (refine wpl_alM rfl (.inl rfl) rfl ?_; intro p2 V2 hp2 hb3 hx2 hz2; clear hz2; have hp2' := Lib.hid (Nat.le_of_eq hp2.symm); clear hp2) | (refine wpl_stM rfl (.inl rfl) rfl rfl rfl hx2 rfl ?_; intro V3 hx3 hg3 hz3; clear hz3))
  have hbV2 := below_on hb1 (below_on hb2 hb3 (Nat.le_refl _)) (Nat.le_refl _)
  have hB3 : Below W.heap.size W V3 := below_grown hbV2 hg3 (by have := hp2'.out; have := (below_on hb1 hb2 (Nat.le_refl _)).size; omega) hbV2.size
  have hx1' : V3.heap[p1]? = some (.cells (mC mp0) mgT (0, 0)) := (hg3.block p1 (Nat.lt_of_lt_of_le (bx_lt hx1) (below_on hb2 hb3 (Nat.le_refl _)).size) (fun e => by have := Option.some.inj e; have h1 := bx_lt hx1; have := hp2'.out; have := hb2.size; omega)).trans (bx_below (below_on hb2 hb3 (Nat.le_refl _)) hx1)
  have hyt3 : MpT V3 y := (hyt.below hb3).box hx2 (.inl rfl) hg3
  have l3 := ld_mbox mgT mgT (.inl rfl) hx3
  have HB3 := Lib.hid hB3
  have HY := Lib.hid (And.intro hy hyt3)
  clear hbV2 hB3 hyt3 hy hyt hb1 hb2 hb3 hg3
  go_wp2_with (first | ((with_reducible show wpList _ _ _ (⟨_, Op.load _ _, _, _, _, _⟩ :: _) _ _); refine wpl_ldT rfl rfl rfl (by assumption) ?_) | (refine wpl_stM rfl (.inl rfl) rfl rfl rfl hx1' rfl ?_; intro V4 hx4 hg4 hz4; clear hz4))
  exact bodyPost_ret (v := .tuple #[.agg (mC y), .bool false]) (results_2 Try.results12 rfl rfl (lv_mbox _ _ (.inl rfl) hx4)) rfl ⟨⟨y, rfl, HY.out.1, HY.out.2.box hx1' (.inl rfl) hg4⟩, below_grown HB3.out hg4 hp1'.out HB3.out.size⟩
theorem nums_take {k M N : Nat} (h1 : N = M + 1) (h2 : k ≤ M) (h3 : N ≤ 512) : k ≤ 10000 ∧ (N : Int) - 1 = (M : Int) ∧ N ≤ 1000000 ∧ wrap64 ((N : Int) - 1) = (M : Int) ∧ ¬ (k : Int) < 0 ∧ M ≤ 512 := by
  refine ⟨by omega, by omega, by omega, ?_, by omega, by omega⟩
  rw [IntWalk.wrap64_in _ (by omega)]; omega
set_option maxRecDepth 100000 in
set_option maxHeartbeats 4000000 in
theorem btake_yes (h : Bg base W F b room T l) (k : Nat) (hk : k < l.length) : Calls Try.prog 12 #[.pointer (some ⟨b, 0, none⟩), .int .i64 (k : Nat)] W fun e W' => TellM l[k].m true e W' ∧ Bgx base W F b room T (l.take k ++ l.drop (k + 1)) W' := by
  have Hlk := Lib.hid (fun V (hb : Below W.heap.size W V) => blook_yes (h.below hb) k hk)
  obtain ⟨mm, hmm⟩ : ∃ mm, mm = l[k].m := ⟨_, rfl⟩
  rw [← hmm] at Hlk ⊢
  have HBG := Lib.hid h
  have HK := Lib.hid hk
  clear hmm h hk
  go_enter Try.func12, Try.ntmps12
  go_wp2_with (refine wpl_alM rfl (.inl rfl) rfl ?_; intro p1 W1 hp1 hb1 hx1 hz1; clear hz1; have hp1' := Lib.hid (Nat.le_of_eq hp1.symm); clear hp1)
  refine (show Calls _ _ _ _ _ from Hlk.out _ hb1).mono ?_
  rintro e V1 ⟨⟨y, rfl, hy, hyt⟩, hb2⟩
  go_upto_region 2 with (first | (refine wpl_alM rfl (.inl rfl) rfl ?_; intro p2 V2 hp2 hb3 hx2 hz2; clear hz2; have hp2' := Lib.hid (Nat.le_of_eq hp2.symm); clear hp2) | (refine wpl_stM rfl (.inl rfl) rfl rfl rfl hx2 rfl ?_; intro V3 hx3 hg3 hz3; clear hz3))
  have hbV2 := below_on hb1 (below_on hb2 hb3 (Nat.le_refl _)) (Nat.le_refl _)
  have hB3 : Below W.heap.size W V3 := below_grown hbV2 hg3 (by have := hp2'.out; have := (below_on hb1 hb2 (Nat.le_refl _)).size; omega) hbV2.size
  have hx1' : V3.heap[p1]? = some (.cells (mC mp0) mgT (0, 0)) := (hg3.block p1 (Nat.lt_of_lt_of_le (bx_lt hx1) (below_on hb2 hb3 (Nat.le_refl _)).size) (fun e => by have := Option.some.inj e; have h1 := bx_lt hx1; have := hp2'.out; have := hb2.size; omega)).trans (bx_below (below_on hb2 hb3 (Nat.le_refl _)) hx1)
  have hyt3 : MpT V3 y := (hyt.below hb3).box hx2 (.inl rfl) hg3
  have hp12 : W.heap.size ≤ p1 ∧ W.heap.size ≤ p2 := ⟨hp1'.out, by have := hp2'.out; have := (below_on hb1 hb2 (Nat.le_refl _)).size; omega⟩
  have HB3 := Lib.hid hB3
  have HY := Lib.hid (And.intro hy hyt3)
  have HX1 := Lib.hid hx1'
  have HX3 := Lib.hid hx3
  have HP := Lib.hid hp12
  clear hbV2 hB3 hyt3 hy hyt hb1 hb2 hb3 hg3 hx1 hx2 hx3 hx1' hp1' hp2' hp12
  -- the memory of the cut
  obtain ⟨m, n, ao, cap, h1, h2, h3, h4, h5, h6, h7, h8, h9⟩ := HBG.out
  obtain ⟨g, fx, hao, hgl, -, -, -⟩ := lt_cells h2 k HK.out
  have hfx : fx = 0 := by
    rcases h2.2 with ⟨h0, _⟩ | ⟨g', cap', cur, hv, _⟩
    · simp only [Value.slice.injEq] at h0; rw [h0.1] at hao; cases hao
    · simp only [Value.slice.injEq] at hv; rw [hv.1] at hao; simp only [Option.some.injEq, Addr.mk.injEq] at hao; exact hao.2.1.symm
  subst hfx
  subst hao
  have hl5 : l.length ≤ 512 := Nat.le_trans h8 h9
  obtain ⟨M, hM⟩ : ∃ M, l.length = M + 1 := ⟨l.length - 1, by have := HK.out; omega⟩
  obtain ⟨N, hN⟩ : ∃ N, N = l.length := ⟨_, rfl⟩
  have hNM : N = M + 1 := hN.trans hM
  have hkM : k ≤ M := by have := HK.out; omega
  have h2' := own_below h2 HB3.out
  rw [← hN] at h2'
  obtain ⟨k4, hNM1, hN6, w1, i0, hM5⟩ := nums_take hNM hkM (hN ▸ hl5)
  obtain ⟨W4, W5, W6, dp2, sp3, m1, m2, m3, m4, m5, m6, hb6, ho6, hk4, hk5⟩ := drop_mem V3 base g cap N M k l hN hNM hkM hN6 h2'
  have hcc := cut_cells l k M hM hkM
  have hB6 : Below W.heap.size W W6 := below_on HB3.out hb6 (Nat.le_refl _)
  have hx1V := bx_below HB3.out h1
  have hx16 := bx_below hb6 hx1V
  have hx1p6 := bx_below hb6 HX1.out
  have hx3p6 := bx_below hb6 HX3.out
  have hlM : (l.take k ++ l.drop (k + 1)).length = M := hcc.len
  have hbg := bg_setrow (base := base) (m := m) (n := n) (T := T) (l := l.take k ++ l.drop (k + 1)) (ao := some ⟨V3.heap.size, 0, none⟩) (cap := M) hx16 (by rw [hlM]; exact own_base ho6 (Nat.le_trans h6 (Nat.le_trans (Nat.le_of_lt (bx_lt h1)) HB3.out.size))) (h3.1.below hB6) h3.2
    (fun x hx => by
      have hx2 : x ∈ l := by
        rcases List.mem_append.1 hx with hx | hx
        · exact List.mem_of_mem_take hx
        · exact List.mem_of_mem_drop hx
      exact ⟨(h4 x hx2).dat.below hB6, (h4 x hx2).fit⟩) h6 h7 (by rw [hlM]; exact Nat.le_trans (Nat.le_succ M) (Nat.le_trans (Nat.le_of_eq hM.symm) h8)) h9
  rw [hlM] at hbg
  have hgr : Gr F W (W6.setCell ⟨b, 2, none⟩ (.slice (some ⟨V3.heap.size, 0, none⟩) M M)) := (Gr.below hB6).then (Gr.one (F := fun i => i = b) (grown_set W6 b 2 _) (fun i e => (Option.some.inj e).symm)) (fun i hi => .inl ((h5 i).2 (.inl hi)))
  have hF' : ∀ i, (i = b ∨ i = m ∨ (Value.slice (some ⟨V3.heap.size, 0, none⟩) M M).ownBlock = some i) → F i ∨ W.heap.size ≤ i := by
    intro i hi
    rcases hi with hi | hi | hi
    · exact .inl ((h5 i).2 (.inl hi))
    · exact .inl ((h5 i).2 (.inr (.inl hi)))
    · refine .inr ?_
      simp only [Value.ownBlock, Option.some.injEq] at hi
      rw [← hi]; exact HB3.out.size
  have hnp : p1 ≠ b ∧ p2 ≠ b := by have := bx_lt h1; have := HP.out; omega
  have hnF : ∀ i, (i = b ∨ i = m ∨ (Value.slice (some ⟨V3.heap.size, 0, none⟩) M M).ownBlock = some i) → i ≠ p1 := by
    intro i hi e
    subst e
    rcases hi with hi | hi | hi
    · exact hnp.1 hi
    · have := h3.1.lt; have := HP.out; omega
    · simp only [Value.ownBlock, Option.some.injEq] at hi
      have := bx_lt HX1.out; omega
  have hy6 := HY.out.2.below hb6
  have hy7 : MpT (W6.setCell ⟨b, 2, none⟩ (.slice (some ⟨V3.heap.size, 0, none⟩) M M)) y := hy6.box hx16 (.inr (.inr (.inl rfl))) (grown_set _ _ _ _)
  have e6 := block_cell hx16 2
  have f6 := block_free hx16 2
  have l6 := bx_lt hx16
  have e3 := block_cell hx1V 2
  have le3 := bx_lt hx1V
  simp at e6 f6 e3
  rw [← hN] at e6 e3
  have hx1p7 := (heap_setCell_other W6 ⟨b, 2, none⟩ p1 (.slice (some ⟨V3.heap.size, 0, none⟩) M M) hnp.1).trans hx1p6
  have hx3p7 := (heap_setCell_other W6 ⟨b, 2, none⟩ p2 (.slice (some ⟨V3.heap.size, 0, none⟩) M M) hnp.2).trans hx3p6
  obtain ⟨W7, hW7⟩ : ∃ W7, W7 = W6.setCell ⟨b, 2, none⟩ (.slice (some ⟨V3.heap.size, 0, none⟩) M M) := ⟨_, rfl⟩
  rw [← hW7] at hbg hgr hy7 hx1p7 hx3p7
  have l7 := ld_mbox mgT mgT (.inl rfl) hx3p7
  have HF := Lib.hid (And.intro hbg (And.intro hgr (And.intro hF' (And.intro hnF hy7))))
  have Hld := Lib.hid (fun V (hv : V.heap[b]? = V3.heap[b]?) => ldSl (W := V) (b := b) (o := 2) (ao := some ⟨g, 0, none⟩) (n := N) (cap := cap) (by rw [World.cell?_of_block (w := V3) hv]; exact e3))
  have hb66 : W6.heap[b]? = V3.heap[b]? := hb6.block b le3
  have HH := Lib.hid (And.intro (hk4 b le3) (And.intro (hk5 b le3) hb66))
  have m1' := m1
  rw [hNM1] at m1'
  have Hm := Lib.hid (And.intro m2 (And.intro m3 (And.intro m4 (And.intro m5 m6))))
  have Hadd := Lib.hid (add_one k k4)
  have Hold := Lib.hid HBG.out
  have HX1P7 := Lib.hid hx1p7
  have HL7 := Lib.hid l7
  have HW7 := Lib.hid hW7
  have He6 := Lib.hid (And.intro e6 (And.intro f6 l6))
  clear hbg hgr hF' hnF hy7 hy6 hx1p7 hx3p7 hx1p6 hx3p6 hx1V hx16 h1 h2 h3 h4 h5 h6 h7 h8 h9 hlM hcc ho6 hb6 hB6 h2' hM hN hNM hkM hl5 hgl hnp hb66 l7 hNM1 m1 m2 m3 m4 m5 m6 e6 f6 l6 hW7 hk4 hk5 k4 hN6 hM5
  go_upto_region 4 with fail
  clear m1' w1 i0 e3 le3
  refine wp_region_held_drew (S := fun V => V.heap[b]? = V3.heap[b]?) (by kernel_rfl) HH.out.1 (fun hHeld => ?_)
  refine wpAnyH_take (i := 0) (v := ?_) rfl (by kernel_rfl) (by kernel_rfl) (by kernel_rfl) (fun _ _ _ h => h) (Or.inl ⟨by rfl, ?_⟩) (by assumption) ?_
  rotate_left
  · intro w8 hSw; clear hSw; go_simp; (try with_reducible rfl)
  simp only [Act.put, List.getElem_toArray, List.getElem_cons_zero, List.getElem_cons_succ, List.setIfInBounds_toArray, List.set_cons_zero, List.set_cons_succ]
  refine wpAnyH_take (i := 1) (v := ?_) rfl (by kernel_rfl) (by kernel_rfl) (by kernel_rfl) (fun _ _ _ h => h) (Or.inl ⟨by rfl, ?_⟩) (by assumption) ?_
  rotate_left
  · intro w8 hSw; clear hSw; go_simp; (try with_reducible rfl)
  simp only [Act.put, List.getElem_toArray, List.getElem_cons_zero, List.getElem_cons_succ, List.setIfInBounds_toArray, List.set_cons_zero, List.set_cons_succ]
  refine wpAnyH_take (i := 2) (v := ?_) rfl (by kernel_rfl) (by kernel_rfl) (by kernel_rfl) (fun _ _ _ h => h) (Or.inl ⟨by rfl, ?_⟩) (by assumption) ?_
  rotate_left
  · intro w8 hSw; clear hSw; go_simp; (try with_reducible rfl)
  simp only [Act.put, List.getElem_toArray, List.getElem_cons_zero, List.getElem_cons_succ, List.setIfInBounds_toArray, List.set_cons_zero, List.set_cons_succ]
  refine wpAnyH_take (i := 3) (v := ?_) rfl (by kernel_rfl) (by kernel_rfl) (by kernel_rfl) (fun _ _ _ h => h) (Or.inl ⟨by rfl, ?_⟩) (by assumption) ?_
  rotate_left
  · intro w8 hSw; clear hSw; go_simp; (try with_reducible rfl)
  simp only [Act.put, List.getElem_toArray, List.getElem_cons_zero, List.getElem_cons_succ, List.setIfInBounds_toArray, List.set_cons_zero, List.set_cons_succ]
  refine wpAnyH_take (i := 4) (v := ?_) rfl (by kernel_rfl) (by kernel_rfl) (by kernel_rfl) (fun _ _ _ h => h) (Or.inl ⟨by rfl, ?_⟩) (by assumption) ?_
  rotate_left
  · intro w8 hSw; clear hSw; go_simp; (try with_reducible rfl)
  simp only [Act.put, List.getElem_toArray, List.getElem_cons_zero, List.getElem_cons_succ, List.setIfInBounds_toArray, List.set_cons_zero, List.set_cons_succ]
  refine wpAnyH_take (i := 5) (v := .slice (some ⟨g, 0, none⟩) N cap) rfl (by kernel_rfl) (by kernel_rfl) (by kernel_rfl) (fun _ _ _ h => h) (Or.inl ⟨by rfl, ?_⟩) (by assumption) ?_
  · intro w8 hSw; exact ld_takeT rfl (Hld.out w8 hSw) rfl
  simp only [Act.put, List.getElem_toArray, List.getElem_cons_zero, List.getElem_cons_succ, List.setIfInBounds_toArray, List.set_cons_zero, List.set_cons_succ]
  refine wpAnyH_take (i := 6) (v := ?_) rfl (by kernel_rfl) (by kernel_rfl) (by kernel_rfl) (fun _ _ _ h => h) (Or.inl ⟨by rfl, ?_⟩) (by assumption) ?_
  rotate_left
  · intro w8 hSw; clear hSw; go_simp; (try with_reducible rfl)
  simp only [Act.put, List.getElem_toArray, List.getElem_cons_zero, List.getElem_cons_succ, List.setIfInBounds_toArray, List.set_cons_zero, List.set_cons_succ]
  refine wpAnyH_take (i := 7) (v := .slice (some ⟨g, 0, none⟩) k cap) rfl (by kernel_rfl) (by kernel_rfl) (by kernel_rfl) (fun _ _ _ h => h) (Or.inl ⟨by rfl, ?_⟩) (by assumption) ?_
  · intro w8 hSw; exact sl_hi rfl (Hm.out.1 w8) rfl rfl
  simp only [Act.put, List.getElem_toArray, List.getElem_cons_zero, List.getElem_cons_succ, List.setIfInBounds_toArray, List.set_cons_zero, List.set_cons_succ]
  refine wpAnyH_take (i := 10) (v := ?_) rfl (by kernel_rfl) (by kernel_rfl) (by kernel_rfl) (fun _ _ _ h => h) (Or.inl ⟨by rfl, ?_⟩) (by assumption) ?_
  rotate_left
  · intro w8 hSw; clear hSw; go_simp; (try with_reducible rfl)
  simp only [Act.put, List.getElem_toArray, List.getElem_cons_zero, List.getElem_cons_succ, List.setIfInBounds_toArray, List.set_cons_zero, List.set_cons_succ]
  refine wpAnyH_take (i := 11) (v := ?_) rfl (by kernel_rfl) (by kernel_rfl) (by kernel_rfl) (fun _ _ _ h => h) (Or.inl ⟨by rfl, ?_⟩) (by assumption) ?_
  rotate_left
  · intro w8 hSw; clear hSw; go_simp; (try with_reducible rfl)
  simp only [Act.put, List.getElem_toArray, List.getElem_cons_zero, List.getElem_cons_succ, List.setIfInBounds_toArray, List.set_cons_zero, List.set_cons_succ]
  refine wpAnyH_take (i := 12) (v := ?_) rfl (by kernel_rfl) (by kernel_rfl) (by kernel_rfl) (fun _ _ _ h => h) (Or.inl ⟨by rfl, ?_⟩) (by assumption) ?_
  rotate_left
  · intro w8 hSw; clear hSw; go_simp; (try with_reducible rfl)
  simp only [Act.put, List.getElem_toArray, List.getElem_cons_zero, List.getElem_cons_succ, List.setIfInBounds_toArray, List.set_cons_zero, List.set_cons_succ]
  refine wpAnyH_take (i := 13) (v := .slice (some ⟨g, 0, none⟩) N cap) rfl (by kernel_rfl) (by kernel_rfl) (by kernel_rfl) (fun _ _ _ h => h) (Or.inl ⟨by rfl, ?_⟩) (by assumption) ?_
  · intro w8 hSw; exact ld_takeT rfl (Hld.out w8 hSw) rfl
  simp only [Act.put, List.getElem_toArray, List.getElem_cons_zero, List.getElem_cons_succ, List.setIfInBounds_toArray, List.set_cons_zero, List.set_cons_succ]
  refine wpAnyH_take (i := 14) (v := ?_) rfl (by kernel_rfl) (by kernel_rfl) (by kernel_rfl) (fun _ _ _ h => h) (Or.inl ⟨by rfl, ?_⟩) (by assumption) ?_
  rotate_left
  · intro w8 hSw; clear hSw; go_simp; (try with_reducible rfl)
  simp only [Act.put, List.getElem_toArray, List.getElem_cons_zero, List.getElem_cons_succ, List.setIfInBounds_toArray, List.set_cons_zero, List.set_cons_succ]
  refine wpAnyH_take (i := 15) (v := .int .i64 ((k : Int) + 1)) rfl (by kernel_rfl) (by kernel_rfl) (by kernel_rfl) (fun _ _ _ h => h) (Or.inl ⟨by rfl, ?_⟩) (by assumption) ?_
  · intro w8 hSw; exact bin_take rfl rfl (Hadd.out w8) rfl rfl
  simp only [Act.put, List.getElem_toArray, List.getElem_cons_zero, List.getElem_cons_succ, List.setIfInBounds_toArray, List.set_cons_zero, List.set_cons_succ]
  refine wpAnyH_take (i := 16) (v := .slice sp3 (N - (k + 1)) (cap - (k + 1))) rfl (by kernel_rfl) (by kernel_rfl) (by kernel_rfl) (fun _ _ _ h => h) (Or.inl ⟨by rfl, ?_⟩) (by assumption) ?_
  · intro w8 hSw; exact sl_lo rfl (Hm.out.2.2.2.1 w8) rfl rfl
  simp only [Act.put, List.getElem_toArray, List.getElem_cons_zero, List.getElem_cons_succ, List.setIfInBounds_toArray, List.set_cons_zero, List.set_cons_succ]
  refine wpAnyH_ready (rs := [8]) (by kernel_rfl) (by simp) ?_
  refine AllReadyH.cons rfl (fun K hK => ?_) AllReadyH.nil
  refine cp_wpo rfl rfl rfl (Hm.out.2.1 _) ?_
  refine hK.out _ _ HH.out.2.1 (fun hHeld => ?_)
  clear hK K
  try simp only [Act.put, List.getElem_toArray, List.getElem_cons_zero, List.getElem_cons_succ, List.setIfInBounds_toArray, List.set_cons_zero, List.set_cons_succ]
  refine wpAnyH_take (i := 9) (v := .slice dp2 (M - k) (M - k)) rfl (by kernel_rfl) (by kernel_rfl) (by kernel_rfl) (fun _ _ _ h => h) (Or.inl ⟨by rfl, ?_⟩) (by assumption) ?_
  · intro w8 hSw; exact sl_lo rfl (Hm.out.2.2.1 w8) rfl rfl
  simp only [Act.put, List.getElem_toArray, List.getElem_cons_zero, List.getElem_cons_succ, List.setIfInBounds_toArray, List.set_cons_zero, List.set_cons_succ]
  refine wpAnyH_ready (rs := [17]) (by kernel_rfl) (by simp) ?_
  refine AllReadyH.cons rfl (fun K hK => ?_) AllReadyH.nil
  refine cp_wpo rfl rfl rfl (Hm.out.2.2.2.2 _) ?_
  refine hK.out _ _ HH.out.2.2 (fun hHeld => ?_)
  clear hK K
  try simp only [Act.put, List.getElem_toArray, List.getElem_cons_zero, List.getElem_cons_succ, List.setIfInBounds_toArray, List.set_cons_zero, List.set_cons_succ]
  refine wpAnyH_done (by kernel_rfl) ?_ _
  obtain ⟨e6, f6, l6⟩ := He6.out
  go_upto_region 6 with fail
  rw [← HW7.out]
  clear e6 f6 l6
  have l7 := HL7.out
  go_wp2_with (first | ((with_reducible show wpList _ _ _ (⟨_, Op.load _ _, _, _, _, _⟩ :: _) _ _); refine wpl_ldT rfl rfl rfl (by assumption) ?_) | (refine wpl_stM rfl (.inl rfl) rfl rfl rfl HX1P7.out rfl ?_; intro V4 hx4 hg4 hz4; clear hz4))
  have hg4' : Gr (fun i => i = p1) W7 V4 := Gr.one hg4 (fun i e => (Option.some.inj e).symm)
  exact bodyPost_ret (v := .tuple #[.agg (mC y), .bool true]) (results_2 Try.results12 rfl rfl (lv_mbox _ _ (.inl rfl) hx4)) rfl ⟨⟨y, rfl, HY.out.1, HF.out.2.2.2.2.box HX1P7.out (.inl rfl) hg4⟩, _, HF.out.1.beside hg4' (fun i hi => HF.out.2.2.2.1 i hi) (fun i hi e => by subst hi; rw [elem?_of HX1P7.out] at e; exact absurd e (by decide)), HF.out.2.1.then hg4' (fun i hi => .inr (by subst hi; exact HP.out.1)), HF.out.2.2.1⟩
end
end Go.Proofs.Ytbmkgcoolofmpaa
namespace Go.Proofs.Ytbmkgcoolofmpaa
set_option linter.unusedVariables false
set_option linter.unusedSimpArgs false
set_option linter.unusedSectionVars false
open Go Go.RowKit Go.Maps Go.Shelf
abbrev boT : TypeId := 39
/-- a call of a bag -/
structure BOp where
  kind : Int
  k : Int
  dst : Int
  m : Mp
  la : Option Addr
  lcap : Nat
  ls : List Int
/-- its cells, closed -/
def oC (o : BOp) : Array Value := #[.int .i64 o.kind, .int .i64 o.k, .int .i64 o.dst, .int .i64 o.m.kind, .int .i64 o.m.frm, .int .i64 o.m.dst, .int .u64 o.m.term, .int .u64 o.m.index, .int .u64 o.m.logTerm, .int .u64 o.m.commit, .int .u64 o.m.round, .bool o.m.ok, .bool o.m.force, .slice o.m.eo o.m.el.length o.m.ec, .int .u64 o.m.si, .int .u64 o.m.st, .slice o.m.mo o.m.ml.length o.m.mc, .slice o.m.ao o.m.d.length o.m.ac, .slice o.la o.ls.length o.lcap]
theorem oC_msg (o : BOp) : ∀ j u, (mpA o.m)[j]? = some u → (oC o)[3 + j]? = some u := by
  intro j u hu
  have hj : j < 15 := (Array.getElem?_eq_some_iff.1 hu).1
  match j, hj with
  | 0, _ => exact hu
  | 1, _ => exact hu
  | 2, _ => exact hu
  | 3, _ => exact hu
  | 4, _ => exact hu
  | 5, _ => exact hu
  | 6, _ => exact hu
  | 7, _ => exact hu
  | 8, _ => exact hu
  | 9, _ => exact hu
  | 10, _ => exact hu
  | 11, _ => exact hu
  | 12, _ => exact hu
  | 13, _ => exact hu
  | 14, _ => exact hu
structure OpBox (W : World) (p : Nat) (o : BOp) : Prop where
  kind : W.cell? ⟨p, 0, none⟩ = some (.int .i64 o.kind)
  k : W.cell? ⟨p, 1, none⟩ = some (.int .i64 o.k)
  dst : W.cell? ⟨p, 2, none⟩ = some (.int .i64 o.dst)
  ls : W.cell? ⟨p, 18, none⟩ = some (.slice o.la o.ls.length o.lcap)
  msg : (Instr.loadAt mgT (.pointer (some ⟨p, 3, none⟩))).run Try.prog W = .ok (.agg (mC o.m)) W
  lt : p < W.heap.size
theorem OpBox.of {W : World} {p : Nat} {o : BOp} {T : TypeId} (h : W.heap[p]? = some (.cells (oC o) T (0, 0))) : OpBox W p o :=
  ⟨block_cell h 0, block_cell h 1, block_cell h 2, block_cell h 18, ld_mg (p := 0) mgT (.inl rfl) (fun j u hu => by rw [block_cell h]; exact oC_msg o j u hu), bx_lt h⟩
/-! boxes of the reference's bag -/
section
variable {ops : Array Oper} {rest : List Oper} {o : Oper} {a : Act} {W : World} {Q : Exit → Act → World → Prop}
theorem wpl_stB (hg : o.guard = none) {x y : Operand} (hop : o.op = .store rbT x y) {b : Nat} {u0 u1 u2 : Value} (hx : a.eval x = .pointer (some ⟨b, 0, none⟩)) (hy : a.eval y = .agg #[u0, u1, u2]) (h1 : u0.oneCell' = true ∧ u1.oneCell' = true ∧ u2.oneCell' = true)
    {o0 o1 o2 : Value} (hb : W.heap[b]? = some (.cells #[o0, o1, o2] rbT (0, 0)))
    (h : ∀ W', W'.heap[b]? = some (.cells #[u0, u1, u2] rbT (0, 0)) → W.grownBy W' (some b) → W'.heap.size = W.heap.size → wpList Try.prog ops Q rest (a.put o.dst undef) W') : wpList Try.prog ops Q (o :: rest) a W := by
  refine wpList_store_row hg rbT x y hop b #[u0, u1, u2] hx hy rbT _ hb (by kernel_rfl) rfl (by simp [h1.1, h1.2.1, h1.2.2]) (h _ (setRow_heap W b _ _ rbT _ hb) ⟨rfl, rfl, rfl, by simp, fun k _ hk => setRow_other W b k _ (fun e => hk (by simp [e]))⟩ (by simp))
theorem wpo_stB {K : Act → World → Prop} {x y : Operand} (hop : o.op = .store rbT x y) {b : Nat} {u0 u1 u2 : Value} (hx : a.eval x = .pointer (some ⟨b, 0, none⟩)) (hy : a.eval y = .agg #[u0, u1, u2]) (h1 : u0.oneCell' = true ∧ u1.oneCell' = true ∧ u2.oneCell' = true)
    {o0 o1 o2 : Value} (hb : W.heap[b]? = some (.cells #[o0, o1, o2] rbT (0, 0)))
    (h : ∀ W', W'.heap[b]? = some (.cells #[u0, u1, u2] rbT (0, 0)) → W.grownBy W' (some b) → W'.heap.size = W.heap.size → K (a.put o.dst undef) W') : o.wp Try.prog a W K Q := by
  refine wp_store_row rbT x y hop b #[u0, u1, u2] hx hy rbT _ hb (by kernel_rfl) rfl (by simp [h1.1, h1.2.1, h1.2.2]) (h _ (setRow_heap W b _ _ rbT _ hb) ⟨rfl, rfl, rfl, by simp, fun k _ hk => setRow_other W b k _ (fun e => hk (by simp [e]))⟩ (by simp))
/-- a box for it -/
theorem wpl_alB (hg : o.guard = none) (hop : o.op = .alloc rbT)
    (h : ∀ p W', p = W.heap.size → Below W.heap.size W W' → W'.heap[p]? = some (.cells #[.int .i64 0, .slice none 0 0, .slice none 0 0] rbT (0, 0)) → W'.heap.size = W.heap.size + 1 → wpList Try.prog ops Q rest (a.put o.dst (.pointer (some ⟨p, 0, none⟩))) W') : wpList Try.prog ops Q (o :: rest) a W := by
  refine wpList_plain hg fun K hK => ?_
  have hz : (zeroValue rbT).run Try.prog W = .ok (.agg #[.int .i64 0, .slice none 0 0, .slice none 0 0]) W := by kernel_rfl
  unfold Oper.wp
  simp [execOp, hop, Result.andThen, go_sem, hz, Value.cells]
  exact hK _ _ (h W.heap.size _ rfl (below_new _ _) (heap_alloc_new _ _) (by simp))
end
/-! what calls do, wherever they point -/
def inR {α : Type} (l : List α) (k : Int) : Bool := decide (0 ≤ k ∧ k < (l.length : Nat))
def takeL {α : Type} (l : List α) (k : Int) : List α := if inR l k = true then l.take k.toNat ++ l.drop (k.toNat + 1) else l
def moveLk {α : Type} (l : List α) (k t : Int) : List α := if h : (0 ≤ k ∧ k < (l.length : Nat)) ∧ 0 ≤ t ∧ t < (l.length : Nat) then moveL l k.toNat t.toNat (by omega) else l
def inM {α : Type} (l : List α) (k t : Int) : Bool := decide ((0 ≤ k ∧ k < (l.length : Nat)) ∧ 0 ≤ t ∧ t < (l.length : Nat))
def lookP (X : List Mp) (k : Int) : Mp := if 0 ≤ k then (match X[k.toNat]? with | some x => x | none => mp0) else mp0
theorem takeL_map {α β : Type} (f : α → β) (l : List α) (k : Int) : (takeL l k).map f = takeL (l.map f) k := by
  unfold takeL inR
  rw [List.length_map]
  split <;> simp [List.map_take, List.map_drop]
theorem moveL_map {α β : Type} (f : α → β) (l : List α) (k t : Nat) (hk : k < l.length) : (moveL l k t hk).map f = moveL (l.map f) k t (by simpa using hk) := by
  unfold moveL
  simp [List.map_take, List.map_drop]
theorem moveLk_map {α β : Type} (f : α → β) (l : List α) (k t : Int) : (moveLk l k t).map f = moveLk (l.map f) k t := by
  unfold moveLk
  by_cases h : (0 ≤ k ∧ k < (l.length : Nat)) ∧ 0 ≤ t ∧ t < (l.length : Nat)
  · rw [dif_pos h, dif_pos (by simpa using h), moveL_map]
  · rw [dif_neg h, dif_neg (by simpa using h)]
theorem mem_takeL {α : Type} {l : List α} {k : Int} {x : α} (h : x ∈ takeL l k) : x ∈ l := by
  unfold takeL at h
  split at h
  · rcases List.mem_append.1 h with h | h
    · exact List.mem_of_mem_take h
    · exact List.mem_of_mem_drop h
  · exact h
theorem mem_moveL {α : Type} {l : List α} {k t : Nat} {hk : k < l.length} {x : α} (h : x ∈ moveL l k t hk) : x ∈ l := by
  unfold moveL at h
  have h2 : ∀ z, z ∈ l.take k ++ l.drop (k + 1) → z ∈ l := fun z hz => by
    rcases List.mem_append.1 hz with h | h
    · exact List.mem_of_mem_take h
    · exact List.mem_of_mem_drop h
  rcases List.mem_append.1 h with h | h
  · rcases List.mem_append.1 h with h | h
    · exact h2 x (List.mem_of_mem_take h)
    · simp only [List.mem_singleton] at h; subst h; exact List.getElem_mem hk
  · exact h2 x (List.mem_of_mem_drop h)
theorem mem_moveLk {α : Type} {l : List α} {k t : Int} {x : α} (h : x ∈ moveLk l k t) : x ∈ l := by
  unfold moveLk at h
  split at h
  · exact mem_moveL h
  · exact h
theorem lookP_v {X : List Mp} {l : List Lt} (h : l.map Lt.m = X.map Mp.v) (k : Int) : lookM l k = (lookP X k).v := by
  unfold lookM lookP
  split
  · have e : (l.map Lt.m)[k.toNat]? = (X.map Mp.v)[k.toNat]? := by rw [h]
    rw [List.getElem?_map, List.getElem?_map] at e
    cases h1 : l[k.toNat]? with
    | none =>
      rw [h1] at e
      cases h2 : X[k.toNat]? with
      | none => exact mp0_v.symm
      | some x => rw [h2] at e; cases e
    | some x =>
      rw [h1] at e
      cases h2 : X[k.toNat]? with
      | none => rw [h2] at e; cases e
      | some y => rw [h2] at e; exact Option.some.inj e
  · exact mp0_v.symm
theorem lookP_arg {Wb : World} {X : List Mp} (h : ∀ x ∈ X, MgA Wb x) (k : Int) : MgA Wb (lookP X k) := by
  have h0 : MgA Wb mp0 := ⟨mp0_at Wb, by simp [mp0], by simp [mp0], by simp [MsgOk, mp0]⟩
  unfold lookP
  split
  · cases h1 : X[k.toNat]? with
    | none => exact h0
    | some x => exact h x (List.mem_of_getElem? h1)
  · exact h0
section
variable {base : Nat} {W W' : World} {F : Nat → Prop} {b room : Nat} {T : Int → Bool} {l : List Lt}
theorem btake_any (h : Bg base W F b room T l) (k : Int) : Calls Try.prog 12 #[.pointer (some ⟨b, 0, none⟩), .int .i64 k] W fun e W' => TellM (lookM l k) (inR l k) e W' ∧ Bgx base W F b room T (takeL l k) W' := by
  by_cases hk : 0 ≤ k ∧ k < (l.length : Nat)
  · obtain ⟨n, rfl⟩ : ∃ n : Nat, k = (n : Int) := ⟨k.toNat, by omega⟩
    have hn : n < l.length := by omega
    have e : inR l (n : Int) = true := decide_eq_true hk
    unfold takeL
    rw [e, if_pos rfl, lookM_yes hn]
    exact btake_yes h n hn
  · have e : inR l k = false := decide_eq_false hk
    unfold takeL
    rw [e, if_neg (by simp), lookM_no hk]
    exact (btake_no h k hk).mono fun e W' hp => ⟨hp.1, Bgx.same h hp.2⟩
theorem blook_any (h : Bg base W F b room T l) (k : Int) : Calls Try.prog 13 #[.pointer (some ⟨b, 0, none⟩), .int .i64 k] W fun e W' => TellM (lookM l k) (inR l k) e W' ∧ Below W.heap.size W W' := by
  by_cases hk : 0 ≤ k ∧ k < (l.length : Nat)
  · obtain ⟨n, rfl⟩ : ∃ n : Nat, k = (n : Int) := ⟨k.toNat, by omega⟩
    have hn : n < l.length := by omega
    have e : inR l (n : Int) = true := decide_eq_true hk
    rw [e, lookM_yes hn]
    exact blook_yes h n hn
  · have e : inR l k = false := decide_eq_false hk
    rw [e, lookM_no hk]
    exact blook_no h k hk
theorem bmove_any (h : Bg base W F b room T l) (k t : Int) : Calls Try.prog 15 #[.pointer (some ⟨b, 0, none⟩), .int .i64 k, .int .i64 t] W fun e W' => e = .returned (.bool (inM l k t)) ∧ Bgx base W F b room T (moveLk l k t) W' := by
  by_cases hk : (0 ≤ k ∧ k < (l.length : Nat)) ∧ 0 ≤ t ∧ t < (l.length : Nat)
  · obtain ⟨n, rfl⟩ : ∃ n : Nat, k = (n : Int) := ⟨k.toNat, by omega⟩
    obtain ⟨m, rfl⟩ : ∃ m : Nat, t = (m : Int) := ⟨t.toNat, by omega⟩
    have e : inM l (n : Int) (m : Int) = true := decide_eq_true hk
    unfold moveLk
    rw [e, dif_pos hk]
    exact bmove_yes h n m (by omega) (by omega)
  · have e : inM l k t = false := decide_eq_false hk
    unfold moveLk
    rw [e, dif_neg hk]
    exact (bmove_no h k t hk).mono fun e W' hp => ⟨hp.1, by rw [hp.2]; exact Bgx.same h (Below.refl _ _)⟩
end
theorem rtake_any (W : World) (room nA cA lc : Nat) (aA lo : Option Addr) (X : List Mp) (k : Int) (h5 : X.length ≤ 512) (hX : MgRow W rmT lo lc X) :
    Calls Try.prog 23 #[rV room aA nA cA lo X.length lc, .int .i64 k] W (RTakeIs W room aA nA cA (takeL X k) (lookP X k) (inR X k)) := by
  by_cases hk : 0 ≤ k ∧ k < (X.length : Nat)
  · obtain ⟨n, rfl⟩ : ∃ n : Nat, k = (n : Int) := ⟨k.toNat, by omega⟩
    have hn : n < X.length := by omega
    have e : inR X (n : Int) = true := decide_eq_true hk
    have e2 : lookP X (n : Int) = X[n] := by
      unfold lookP
      rw [if_pos hk.1, Int.toNat_natCast, List.getElem?_eq_getElem hn]
    unfold takeL
    rw [e, if_pos rfl, e2]
    exact rtake_yes W room nA cA lc aA lo X n hn h5 hX
  · have e : inR X k = false := decide_eq_false hk
    have e2 : lookP X k = mp0 := by
      unfold lookP
      split
      · rw [List.getElem?_eq_none (by omega)]
      · rfl
    unfold takeL
    rw [e, if_neg (by simp), e2]
    exact rtake_no W room nA cA lc aA lo X k hk hX
theorem rmove_any (W : World) (room nA cA lc : Nat) (aA lo : Option Addr) (X : List Mp) (k t : Int) (h5 : X.length ≤ 512) (hX : MgRow W rmT lo lc X) :
    Calls Try.prog 25 #[rV room aA nA cA lo X.length lc, .int .i64 k, .int .i64 t] W (RPutIs W room aA nA cA (moveLk X k t) (inM X k t)) := by
  by_cases hk : (0 ≤ k ∧ k < (X.length : Nat)) ∧ 0 ≤ t ∧ t < (X.length : Nat)
  · obtain ⟨n, rfl⟩ : ∃ n : Nat, k = (n : Int) := ⟨k.toNat, by omega⟩
    obtain ⟨m, rfl⟩ : ∃ m : Nat, t = (m : Int) := ⟨t.toNat, by omega⟩
    have e : inM X (n : Int) (m : Int) = true := decide_eq_true hk
    unfold moveLk
    rw [e, dif_pos hk]
    exact rmove_yes W room nA cA lc aA lo X n m (by omega) (by omega) h5 hX
  · have e : inM X k t = false := decide_eq_false hk
    unfold moveLk
    rw [e, dif_neg hk]
    exact rmove_no W room nA cA lc aA lo X k t hX hk
theorem keep_map {A : List Int} {l : List Lt} {X : List Mp} (h : l.map Lt.m = X.map Mp.v) : (keepL (inL A) l).map Lt.m = (keepM A X).map Mp.v := by
  have e1 : (keepL (inL A) l).map Lt.m = (l.map Lt.m).filter (fun m => !(inL A m.frm != inL A m.dst)) := by
    unfold keepL
    rw [List.filter_map]
    rfl
  have e2 : (keepM A X).map Mp.v = (X.map Mp.v).filter (fun m => !(inL A m.frm != inL A m.dst)) := by
    unfold keepM
    rw [List.filter_map]
    rfl
  rw [e1, e2, h]
/-- both bags have the same letters -/
structure Pr (Wb W : World) (F : Nat → Prop) (b room : Nat) (A : List Int) (aA : Option Addr) (cA : Nat) (X : List Mp) (lo : Option Addr) (lc : Nat) : Prop where
  bag : ∃ l, Bg Wb.heap.size W F b room (inL A) l ∧ l.map Lt.m = X.map Mp.v
  low : Below Wb.heap.size Wb W
  iz : Iz Wb .i64 aA cA A
  row : MgRow W rmT lo lc X
  arg : ∀ x ∈ X, MgA Wb x
theorem Pr.len {Wb W : World} {F : Nat → Prop} {b room : Nat} {A : List Int} {aA : Option Addr} {cA : Nat} {X : List Mp} {lo : Option Addr} {lc : Nat} (h : Pr Wb W F b room A aA cA X lo lc) : X.length ≤ 512 := by
  obtain ⟨l, h1, h2⟩ := h.bag
  have e : l.length = X.length := by have := congrArg List.length h2; simpa using this
  rw [← e]
  exact Nat.le_trans h1.few.1 h1.few.2
theorem Pr.below {Wb W W' : World} {F : Nat → Prop} {b room : Nat} {A : List Int} {aA : Option Addr} {cA : Nat} {X : List Mp} {lo : Option Addr} {lc : Nat} (h : Pr Wb W F b room A aA cA X lo lc) (hb : Below W.heap.size W W') : Pr Wb W' F b room A aA cA X lo lc := by
  obtain ⟨l, h1, h2⟩ := h.bag
  exact ⟨⟨l, h1.below hb, h2⟩, below_on h.low hb (Nat.le_refl _), h.iz, h.row.below hb, h.arg⟩
/-- a write beside them -/
theorem Pr.beside {Wb W W' : World} {F H : Nat → Prop} {b room : Nat} {A : List Int} {aA : Option Addr} {cA : Nat} {X : List Mp} {lo : Option Addr} {lc : Nat} (h : Pr Wb W F b room A aA cA X lo lc) (hg : Gr H W W') (hd : ∀ i, F i → ¬ H i) (hu : ∀ i, H i → Wb.heap.size ≤ i) (h1 : ∀ i, H i → elem? W i ≠ some u8T) (h2 : ∀ i, H i → elem? W i ≠ some rmT) : Pr Wb W' F b room A aA cA X lo lc := by
  obtain ⟨l, h3, h4⟩ := h.bag
  exact ⟨⟨l, h3.beside hg hd h1, h4⟩, h.low.trans (hg.above h.low.size hu), h.iz, Rw.gr h.row hg h2, h.arg⟩
/-- what a call both ways leaves -/
def BDone (Wb W : World) (F : Nat → Prop) (b room : Nat) (e : Ending) (W' : World) : Prop :=
  ∃ A' aA' cA' X' lo' lc' F', e = .returned (.tuple #[rV room aA' A'.length cA' lo' X'.length lc', .bool true]) ∧ Pr Wb W' F' b room A' aA' cA' X' lo' lc' ∧ (∀ a ∈ A', KeyOk a) ∧ Gr F W W' ∧ ∀ i, F' i → F i ∨ W.heap.size ≤ i
theorem Gr.trans_below {Wb W W3 V1 : World} {F : Nat → Prop} (hWb : Below Wb.heap.size Wb W) (h3 : Below W.heap.size W W3) (hG : Gr F W3 V1) (hF : ∀ i, F i → i < W.heap.size ∧ Wb.heap.size ≤ i) : Below Wb.heap.size Wb V1 :=
  hWb.trans (((Gr.below h3).trans hG).above hWb.size (fun i hi => (hF i hi).2))
theorem bdone_end {Wb W W3 V1 Z U : World} {F F1 : Nat → Prop} {b b3 room : Nat} {A : List Int} {aA : Option Addr} {cA : Nat} {X : List Mp} {lo : Option Addr} {lc : Nat} {l1 : List Lt} {cs : Array Value}
    (hWb : Below Wb.heap.size Wb W) (h3 : Below W.heap.size W W3) (hb3 : W.heap.size ≤ b3) (hb3' : b3 < W3.heap.size) (hF : ∀ i, F i → i < W.heap.size ∧ Wb.heap.size ≤ i)
    (hbg : Bg Wb.heap.size V1 F1 b room (inL A) l1) (hG : Gr F W3 V1) (hF1 : ∀ i, F1 i → F i ∨ W3.heap.size ≤ i) (hZ : Below V1.heap.size V1 Z) (hl : l1.map Lt.m = X.map Mp.v) (hrow : MgRow Z rmT lo lc X)
    (hx3 : Z.heap[b3]? = some (.cells cs rbT (0, 0))) (hgU : Z.grownBy U (some b3)) (harg : ∀ x ∈ X, MgA Wb x) (hiz : Iz Wb .i64 aA cA A) :
    Pr Wb U F1 b room A aA cA X lo lc ∧ Gr F W U ∧ ∀ i, F1 i → F i ∨ W.heap.size ≤ i := by
  have hgU' : Gr (fun i => i = b3) Z U := Gr.one hgU (fun i e => (Option.some.inj e).symm)
  have hWV : Gr F W V1 := (Gr.below h3).trans hG
  have hWZ : Gr F W Z := hWV.trans (Gr.below hZ)
  have hlow : Below Wb.heap.size Wb Z := hWb.trans (hWZ.above hWb.size (fun i hi => (hF i hi).2))
  have hPr : Pr Wb Z F1 b room A aA cA X lo lc := ⟨⟨l1, hbg.below hZ, hl⟩, hlow, hiz, hrow, harg⟩
  have e3 := elem?_of hx3
  refine ⟨hPr.beside hgU' (fun i hi e => ?_) (fun i e => by rw [e]; exact Nat.le_trans hWb.size hb3) (fun i e he => by rw [e, e3] at he; exact absurd he (by decide)) (fun i e he => by rw [e, e3] at he; exact absurd he (by decide)), hWZ.then hgU' (fun i e => .inr (by rw [e]; exact hb3)), fun i hi => ?_⟩
  · rcases hF1 i hi with h | h
    · have := (hF i h).1; omega
    · omega
  · rcases hF1 i hi with h | h
    · exact .inl h
    · exact .inr (Nat.le_trans h3.size h)
end Go.Proofs.Ytbmkgcoolofmpaa
namespace Go.Proofs.Ytbmkgcoolofmpaa
set_option linter.unusedVariables false
set_option linter.unusedSimpArgs false
set_option linter.unusedSectionVars false
open Go Go.RowKit Go.Maps Go.Shelf
theorem vlen {x y : Mp} (h : x.v = y.v) : x.el.length = y.el.length ∧ x.ml.length = y.ml.length := by
  have h1 := congrArg Ms.es h
  have h2 := congrArg Ms.sn h
  simp only [Mp.v] at h1 h2
  have h3 := congrArg List.length h1
  simp only [List.length_map] at h3
  simp only [Sn.mk.injEq] at h2
  exact ⟨h3, by rw [h2.2.2.1]⟩
theorem same_yes (x y : Mp) (W : World) (h1 : MpAt W x) (h2 : MpAt W y) (he : x.v = y.v) (hy1 : y.el.length ≤ 20) (hy2 : y.ml.length ≤ 30) :
    Calls Try.prog 24 #[.agg (mC x), .agg (mC y)] W fun e w' => e = .returned (.bool true) ∧ Below W.heap.size W w' := by
  have hl := vlen he
  have := same_o x y W h1 h2 (by omega) (by omega) (by omega) (by omega)
  rw [decide_eq_true he] at this
  exact this
theorem in_map {X : List Mp} {l : List Lt} (h : l.map Lt.m = X.map Mp.v) (k : Int) : inR l k = inR X k := by
  have e : l.length = X.length := by have := congrArg List.length h; simpa using this
  unfold inR; rw [e]
theorem inm_map {X : List Mp} {l : List Lt} (h : l.map Lt.m = X.map Mp.v) (k t : Int) : inM l k t = inM X k t := by
  have e : l.length = X.length := by have := congrArg List.length h; simpa using this
  unfold inM; rw [e]
set_option maxRecDepth 100000 in
set_option maxHeartbeats 8000000 in
theorem do_take (Wb W : World) (F : Nat → Prop) (b room : Nat) (A : List Int) (aA : Option Addr) (cA : Nat) (X : List Mp) (lo : Option Addr) (lc : Nat) (o : BOp) (hk : o.kind = 1) (h : Pr Wb W F b room A aA cA X lo lc) (hA : ∀ a ∈ A, KeyOk a) :
    Calls Try.prog 9 #[.pointer (some ⟨b, 0, none⟩), rV room aA A.length cA lo X.length lc, .agg (oC o)] W (BDone Wb W F b room) := by
  have h5 := h.len
  obtain ⟨⟨l, hbg, hlm⟩, hlow, hiz, hrow, harg⟩ := h
  unfold rV
  obtain ⟨W1, hW1⟩ : ∃ W1, W1 = W.alloc (.cells #[.int .i64 (room : Nat), .slice aA A.length cA, .slice lo X.length lc] rbT) := ⟨_, rfl⟩
  obtain ⟨W2, hW2⟩ : ∃ W2, W2 = W1.alloc (.cells (oC o) boT) := ⟨_, rfl⟩
  obtain ⟨W3, hW3⟩ : ∃ W3, W3 = W2.alloc (.cells #[.int .i64 0, .slice none 0 0, .slice none 0 0] rbT) := ⟨_, rfl⟩
  obtain ⟨b1, hb1⟩ : ∃ b, b = W.heap.size := ⟨_, rfl⟩
  obtain ⟨b2, hb2⟩ : ∃ b, b = W.heap.size + 1 := ⟨_, rfl⟩
  obtain ⟨b3, hb3⟩ : ∃ b, b = W.heap.size + 1 + 1 := ⟨_, rfl⟩
  have z1 : W1.heap.size = W.heap.size + 1 := by rw [hW1]; simp
  have z2 : W2.heap.size = W.heap.size + 1 + 1 := by rw [hW2]; simp [z1]
  have B1 : Below W.heap.size W W1 := by rw [hW1]; exact below_new _ _
  have B2 : Below W1.heap.size W1 W2 := by rw [hW2]; exact below_new _ _
  have B3 : Below W2.heap.size W2 W3 := by rw [hW3]; exact below_new _ _
  have hB3 := below_on (below_on B1 B2 (Nat.le_refl _)) B3 (Nat.le_refl _)
  have t1 : W3.heap[b1]? = some (.cells #[.int .i64 (room : Nat), .slice aA A.length cA, .slice lo X.length lc] rbT (0, 0)) := by
    rw [B3.block b1 (by omega), B2.block b1 (by omega), hW1, hb1]; exact heap_alloc_new _ _
  have t2 : W3.heap[b2]? = some (.cells (oC o) boT (0, 0)) := by
    rw [B3.block b2 (by omega), hW2, hb2, ← z1]; exact heap_alloc_new _ _
  have t3 : W3.heap[b3]? = some (.cells #[.int .i64 0, .slice none 0 0, .slice none 0 0] rbT (0, 0)) := by
    rw [hW3, hb3, ← z2]; exact heap_alloc_new _ _
  have Hup : Hid (W.heap.size ≤ b1 ∧ W.heap.size ≤ b2 ∧ W.heap.size ≤ b3) := ⟨by omega, by omega, by omega⟩
  have Hap : Hid (b1 ≠ b2 ∧ b1 ≠ b3 ∧ b2 ≠ b3) := ⟨by omega, by omega, by omega⟩
  have HB3 := Lib.hid hB3
  have T1 := Lib.hid t1
  have T2 := Lib.hid t2
  have T3 := Lib.hid t3
  clear z1 z2 B1 B2 B3 hB3 t1 t2 t3
  obtain ⟨k0, k1, -, -, -, kl⟩ := OpBox.of T2.out
  rw [hk] at k0
  have hF0 := hbg.elem
  have Htk := btake_any (hbg.below HB3.out) o.k
  rw [in_map hlm o.k, lookP_v hlm o.k] at Htk
  have Htk := Lib.hid Htk
  have Hrow := Lib.hid hrow
  have H5 := Lib.hid h5
  have HF : Hid (∀ i, F i → i < W.heap.size ∧ Wb.heap.size ≤ i) := fun i hi => ⟨(hF0 i hi).1, (hF0 i hi).2.1⟩
  have HFr : Hid (∀ i, F i → elem? W3 i ≠ some rmT) := fun i hi e => (hbg.below HB3.out).off (by decide) (by decide) e hi
  have Hp := Lib.hid (And.intro hlm (And.intro hlow (And.intro hiz (And.intro harg hA))))
  clear hbg hlm hlow hiz hrow harg hA h5 hF0 hk
  go_enter Try.func9, Try.ntmps9
  go_upto_region 1 with fail
  rw [← hW1, ← hW2, ← hW3, ← hb3, ← hb2, ← hb1]
  clear hW1 hW2 hW3 hb1 hb2 hb3
  go_wp2_with fail
  refine (show Calls _ _ _ _ _ from Htk.out).mono ?_
  rintro e V1 ⟨⟨y, rfl, hyv, hyt⟩, F1, hbg1, hG1, hF1⟩
  have hkV : ∀ {i : Nat} {ob : Obj}, W3.heap[i]? = some ob → W.heap.size ≤ i → V1.heap[i]? = some ob := fun {i} {ob} hx hb => (hG1.block i (bx_lt hx) (fun e => Nat.lt_irrefl _ (Nat.lt_of_lt_of_le (HF.out i e).1 hb))).trans hx
  have D1 := Lib.hid (hkV T1.out Hup.out.1)
  have D2 := Lib.hid (hkV T2.out Hup.out.2.1)
  have D3 := Lib.hid (hkV T3.out Hup.out.2.2)
  have HR1 := Lib.hid (show MgRow V1 rmT lo lc X from Rw.gr (Hrow.out.below HB3.out) hG1 HFr.out)
  have HY := Lib.hid (And.intro hyv hyt)
  have HG := Lib.hid (And.intro hbg1 (And.intro hG1 hF1))
  have HB3W := Lib.hid HB3.out
  clear hkV k0 k1 kl hyv hyt hbg1 hG1 hF1
  go_upto_region 4 with (first
    | (refine wpl_alM rfl (.inl rfl) rfl ?_
       intro p8 V2 hp8 hb2 hx2 hz2
       clear hz2
       have hp8' := Lib.hid (Nat.le_of_eq hp8.symm)
       clear hp8)
    | (refine wpl_stM rfl (.inl rfl) rfl rfl rfl hx2 rfl ?_
       intro V3 hx3 hg3 hz3
       clear hz3))
  have hB3 : Below V1.heap.size V1 V3 := below_grown hb2 hg3 hp8'.out hb2.size
  have d1 := bx_below hB3 D1.out
  have q0 := block_cell d1 0
  have q1 := block_cell d1 1
  have q2 := block_cell d1 2
  have ql := bx_lt d1
  have ob := OpBox.of (bx_below hB3 D2.out)
  obtain ⟨-, k1, -, -, -, kl⟩ := ob
  simp at q0 q1 q2
  have Hrt := Lib.hid (rtake_any V3 room A.length cA lc aA lo X o.k H5.out (HR1.out.below hB3))
  have HB3 := Lib.hid hB3
  have HX8 := Lib.hid hx3
  clear d1 hB3 hx3 hg3 hx2 hb2
  unfold rV at Hrt
  go_wp2_with fail
  refine (show Calls _ _ _ _ _ from Hrt.out).mono ?_
  rintro e V4 ⟨lo2, lc2, rfl, hr2, hb4⟩
  unfold rV
  have HX84 := Lib.hid (bx_below hb4 HX8.out)
  have HB4 := Lib.hid (below_on HB3.out hb4 (Nat.le_refl _))
  have HR4 := Lib.hid hr2
  clear q0 q1 q2 ql k1 kl hb4 hr2
  obtain ⟨X2, hX2⟩ : ∃ X2, X2 = takeL X o.k := ⟨_, rfl⟩
  obtain ⟨y2, hy2⟩ : ∃ y2, y2 = lookP X o.k := ⟨_, rfl⟩
  obtain ⟨ok, hok⟩ : ∃ ok, ok = inR X o.k := ⟨_, rfl⟩
  rw [← hX2] at HR4
  rw [← hX2, ← hy2, ← hok]
  rw [← hy2] at HY
  have HE := Lib.hid (And.intro hX2 (And.intro hy2 hok))
  clear hX2 hy2 hok
  go_upto_region 5 with (first
    | (refine wpl_alB rfl rfl ?_
       intro p10 V5 hp10 hb5 hx10 hz5
       have hp10' := Lib.hid (Nat.le_of_eq hp10.symm)
       clear hp10 hz5)
    | (refine wpl_alM rfl (.inr rfl) rfl ?_
       intro p11 V6 hp11 hb6 hx11 hz6
       have hp11' := Lib.hid (Nat.le_of_eq hp11.symm)
       have hx10' := bx_below hb6 hx10
       clear hp11 hz6)
    | (refine wpl_stB rfl rfl rfl rfl ⟨rfl, rfl, rfl⟩ hx10' ?_
       intro V7 hx107 hg7 hz7
       have hne : p11 ≠ p10 := fun e => Nat.lt_irrefl _ (Nat.lt_of_lt_of_le (bx_lt hx10) (Nat.le_trans hp11'.out (Nat.le_of_eq e)))
       have hx117 := (hg7.block p11 (bx_lt hx11) (fun e => hne (Option.some.inj e))).trans hx11
       clear hz7)
    | (refine wpl_stM rfl (.inr rfl) rfl rfl rfl hx117 rfl ?_
       intro V8 hx118 hg8 hz8
       clear hz8))
  have h8 : p8 ≠ p10 ∧ p8 ≠ p11 := ⟨fun e => Nat.lt_irrefl _ (Nat.lt_of_lt_of_le (bx_lt HX84.out) (e ▸ hp10'.out)), fun e => Nat.lt_irrefl _ (Nat.lt_of_lt_of_le (bx_lt (bx_below hb5 HX84.out)) (e ▸ hp11'.out))⟩
  have hx86 := bx_below hb6 (bx_below hb5 HX84.out)
  have hx87 := (hg7.block p8 (bx_lt hx86) (fun e => h8.1 (Option.some.inj e))).trans hx86
  have hx88 := (hg8.block p8 (bx_lt hx87) (fun e => h8.2 (Option.some.inj e))).trans hx87
  have hx108 := (hg8.block p10 (bx_lt hx107) (fun e => hne (Option.some.inj e).symm)).trans hx107
  have hB6 : Below V4.heap.size V4 V6 := below_on hb5 hb6 (Nat.le_refl _)
  have hB8 : Below V4.heap.size V4 V8 := below_grown (below_grown hB6 hg7 hp10'.out hB6.size) hg8 (Nat.le_trans hb5.size hp11'.out) (Nat.le_trans hB6.size hg7.size)
  have HB8 := Lib.hid hB8
  have HB5 := Lib.hid hb5
  have HX := Lib.hid (And.intro hx88 (And.intro hx108 hx118))
  have hZ : Below V1.heap.size V1 V8 := below_on HB4.out hB8 (Nat.le_refl _)
  have Hsm := Lib.hid (same_yes y y2 V8.drew ((HY.out.2.below (hZ.drew)).at) (by
    rw [HE.out.2.1]
    exact (lookP_arg Hp.out.2.2.2.1 o.k).at_.below (below_on (Gr.trans_below Hp.out.2.1 HB3W.out HG.out.2.1 HF.out) hZ.drew (Nat.le_refl _))) HY.out.1 (by rw [HE.out.2.1]; exact (lookP_arg Hp.out.2.2.2.1 o.k).el) (by rw [HE.out.2.1]; exact (lookP_arg Hp.out.2.2.2.1 o.k).ml))
  have HZ := Lib.hid hZ
  clear h8 hx86 hx87 hx88 hx108 hB6 hB8 hZ hx107 hx118 hx117 hx11 hx10 hx10' hg7 hg8 hb5 hb6 hne
  refine wp_region_held_drew (S := fun V => V.heap[p8]? = V8.heap[p8]? ∧ V.heap[p10]? = V8.heap[p10]? ∧ V.heap[p11]? = V8.heap[p11]?) (by kernel_rfl) ⟨rfl, rfl, rfl⟩ (fun hHeld => ?_)
  refine wpAnyH_take (i := 0) (v := .agg #[.int .i64 (room : Nat), .slice aA A.length cA, .slice lo2 X2.length lc2]) rfl (by kernel_rfl) (by kernel_rfl) (by kernel_rfl) (fun _ _ _ h => h) (Or.inl ⟨by rfl, ?_⟩) (by assumption) ?_
  · intro w8 hSw; exact ld_takeT rfl (ldRb (hSw.2.1.trans HX.out.2.1)) rfl
  simp only [Act.put, List.getElem_toArray, List.getElem_cons_zero, List.getElem_cons_succ, List.setIfInBounds_toArray, List.set_cons_zero, List.set_cons_succ]
  refine wpAnyH_take (i := 1) (v := ?_) rfl (by kernel_rfl) (by kernel_rfl) (by kernel_rfl) (fun _ _ _ h => h) (Or.inl ⟨by rfl, ?_⟩) (by assumption) ?_
  rotate_left
  · intro w8 hSw; clear hSw; go_simp; (try with_reducible rfl)
  simp only [Act.put, List.getElem_toArray, List.getElem_cons_zero, List.getElem_cons_succ, List.setIfInBounds_toArray, List.set_cons_zero, List.set_cons_succ]
  refine wpAnyH_take (i := 2) (v := ?_) rfl (by kernel_rfl) (by kernel_rfl) (by kernel_rfl) (fun _ _ _ h => h) (Or.inl ⟨by rfl, ?_⟩) (by assumption) ?_
  rotate_left
  · intro w8 hSw; clear hSw; go_simp; (try with_reducible rfl)
  simp only [Act.put, List.getElem_toArray, List.getElem_cons_zero, List.getElem_cons_succ, List.setIfInBounds_toArray, List.set_cons_zero, List.set_cons_succ]
  refine wpAnyH_take (i := 3) (v := ?_) rfl (by kernel_rfl) (by kernel_rfl) (by kernel_rfl) (fun _ _ _ h => h) (Or.inl ⟨by rfl, ?_⟩) (by assumption) ?_
  rotate_left
  · intro w8 hSw; clear hSw; go_simp; (try with_reducible rfl)
  simp only [Act.put, List.getElem_toArray, List.getElem_cons_zero, List.getElem_cons_succ, List.setIfInBounds_toArray, List.set_cons_zero, List.set_cons_succ]
  refine wpAnyH_take (i := 4) (v := ?_) rfl (by kernel_rfl) (by kernel_rfl) (by kernel_rfl) (fun _ _ _ h => h) (Or.inl ⟨by rfl, ?_⟩) (by assumption) ?_
  rotate_left
  · intro w8 hSw; clear hSw; go_simp; (try with_reducible rfl)
  simp only [Act.put, List.getElem_toArray, List.getElem_cons_zero, List.getElem_cons_succ, List.setIfInBounds_toArray, List.set_cons_zero, List.set_cons_succ]
  refine wpAnyH_take (i := 5) (v := .agg (mC y)) rfl (by kernel_rfl) (by kernel_rfl) (by kernel_rfl) (fun _ _ _ h => h) (Or.inl ⟨by rfl, ?_⟩) (by assumption) ?_
  · intro w8 hSw; exact ld_takeT rfl (ld_mbox mgT mgT (.inl rfl) (hSw.1.trans HX.out.1)) rfl
  simp only [Act.put, List.getElem_toArray, List.getElem_cons_zero, List.getElem_cons_succ, List.setIfInBounds_toArray, List.set_cons_zero, List.set_cons_succ]
  refine wpAnyH_take (i := 6) (v := .agg (mC y2)) rfl (by kernel_rfl) (by kernel_rfl) (by kernel_rfl) (fun _ _ _ h => h) (Or.inl ⟨by rfl, ?_⟩) (by assumption) ?_
  · intro w8 hSw; exact ld_takeT rfl (ld_mbox rmT rmT (.inr rfl) (hSw.2.2.trans HX.out.2.2)) rfl
  simp only [Act.put, List.getElem_toArray, List.getElem_cons_zero, List.getElem_cons_succ, List.setIfInBounds_toArray, List.set_cons_zero, List.set_cons_succ]
  refine wpAnyH_ready (rs := [7]) (by kernel_rfl) (by simp) ?_
  refine AllReadyH.cons rfl (fun K hK => ?_) AllReadyH.nil
  go_simp
  go_at_call 24
  refine ((show Calls _ _ _ _ _ from Hsm.out)).mono ?_
  rintro e V9 ⟨rfl, hb9⟩
  refine hK.out _ _ ⟨hb9.block p8 (bx_lt HX.out.1), hb9.block p10 (bx_lt HX.out.2.1), hb9.block p11 (bx_lt HX.out.2.2)⟩ (fun hHeld => ?_)
  clear hK K
  try simp only [Act.put, List.getElem_toArray, List.getElem_cons_zero, List.getElem_cons_succ, List.setIfInBounds_toArray, List.set_cons_zero, List.set_cons_succ]
  refine wpAnyH_take (i := 8) (v := ?_) rfl (by kernel_rfl) (by kernel_rfl) (by kernel_rfl) (fun _ _ _ h => h) (Or.inl ⟨by rfl, ?_⟩) (by assumption) ?_
  rotate_left
  · intro w8 hSw; clear hSw; go_simp; (try with_reducible rfl)
  simp only [Act.put, List.getElem_toArray, List.getElem_cons_zero, List.getElem_cons_succ, List.setIfInBounds_toArray, List.set_cons_zero, List.set_cons_succ]
  have hB89 : Below V8.heap.size V8 V9 := below_on (Below.refl _ V8).drew hb9 (Nat.le_refl _)
  have hB9 : Below V1.heap.size V1 V9 := below_on HZ.out hB89 (Nat.le_refl _)
  have hx39 := bx_below hB9 D3.out
  have hr9 : MgRow V9 rmT lo2 lc2 X2 := (HR4.out.below HB8.out).below hB89
  refine wpAnyH_ready (rs := [9]) (by kernel_rfl) (by simp) ?_
  refine AllReadyH.cons rfl (fun K hK => ?_) AllReadyH.nil
  refine wpo_stB rfl rfl rfl ⟨rfl, rfl, rfl⟩ hx39 (fun U hxU hgU hzU => ?_)
  have hn3 : p8 ≠ b3 ∧ p10 ≠ b3 ∧ p11 ≠ b3 := ⟨fun e => Nat.lt_irrefl _ (Nat.lt_of_lt_of_le (bx_lt D3.out) (e ▸ hp8'.out)), fun e => Nat.lt_irrefl _ (Nat.lt_of_lt_of_le (bx_lt D3.out) (Nat.le_trans HB4.out.size (e ▸ hp10'.out))), fun e => Nat.lt_irrefl _ (Nat.lt_of_lt_of_le (bx_lt D3.out) (Nat.le_trans HB4.out.size (Nat.le_trans HB5.out.size (e ▸ hp11'.out))))⟩
  refine hK.out _ _ ⟨(hgU.block p8 (bx_lt (hHeld.1.trans HX.out.1)) (fun e => hn3.1 (Option.some.inj e))).trans hHeld.1, (hgU.block p10 (bx_lt (hHeld.2.1.trans HX.out.2.1)) (fun e => hn3.2.1 (Option.some.inj e))).trans hHeld.2.1, (hgU.block p11 (bx_lt (hHeld.2.2.trans HX.out.2.2)) (fun e => hn3.2.2 (Option.some.inj e))).trans hHeld.2.2⟩ (fun hHeld => ?_)
  clear hK K
  try simp only [Act.put, List.getElem_toArray, List.getElem_cons_zero, List.getElem_cons_succ, List.setIfInBounds_toArray, List.set_cons_zero, List.set_cons_succ]
  refine wpAnyH_take (i := 10) (v := ?_) rfl (by kernel_rfl) (by kernel_rfl) (by kernel_rfl) (fun _ _ _ h => h) (Or.inl ⟨by rfl, ?_⟩) (by assumption) ?_
  rotate_left
  · intro w8 hSw; clear hSw; go_simp; (try with_reducible rfl)
  simp only [Act.put, List.getElem_toArray, List.getElem_cons_zero, List.getElem_cons_succ, List.setIfInBounds_toArray, List.set_cons_zero, List.set_cons_succ]
  refine wpAnyH_done (by kernel_rfl) ?_ _
  obtain ⟨e1, e2, e3⟩ := bdone_end (X := X2) Hp.out.2.1 HB3W.out Hup.out.2.2 (bx_lt T3.out) HF.out HG.out.1 HG.out.2.1 HG.out.2.2 hB9 (by rw [takeL_map, Hp.out.1, ← takeL_map, HE.out.1]) hr9 hx39 hgU (fun x hx => Hp.out.2.2.2.1 x (mem_takeL (HE.out.1 ▸ hx))) Hp.out.2.2.1
  have hfin : BDone Wb W F b room (.returned (.tuple #[.agg #[.int .i64 (room : Nat), .slice aA A.length cA, .slice lo2 X2.length lc2], .bool true])) U := ⟨A, aA, cA, X2, lo2, lc2, F1, rfl, e1, Hp.out.2.2.2.2, e2, e3⟩
  have Hfin := Lib.hid hfin
  clear hfin e1 e2 e3
  go_wp2_with fail
  exact bodyPost_ret (v := .tuple #[.agg #[.int .i64 (room : Nat), .slice aA A.length cA, .slice lo2 X2.length lc2], .bool true]) (results_2 Try.results9 rfl rfl (lvRb hxU)) rfl Hfin.out
end Go.Proofs.Ytbmkgcoolofmpaa
