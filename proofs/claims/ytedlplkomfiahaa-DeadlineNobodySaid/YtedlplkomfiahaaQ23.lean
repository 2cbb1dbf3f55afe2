/- Lemmas for DeadlinePlays (Dh Di Dj). No statement of the seat is proved here. -/
import Derived.Test.YtedlplkomfiahaaQ22
namespace Go.Proofs.Ytedlplkomfiahaa
set_option linter.unusedVariables false
set_option linter.unusedSimpArgs false
set_option linter.unusedSectionVars false
open Go Go.RowKit Go.Maps Go.Deep
/-- a call of a book -/
structure DOp where
  kind : Int
  id : Int
  at_ : Int
deriving Inhabited
abbrev dopT : TypeId := 30
def dopCells (o : DOp) : List Value := [.int .i64 o.kind, .int .u64 o.id, .int .i64 o.at_]
def dopVal (o : DOp) : Value := .agg #[.int .i64 o.kind, .int .u64 o.id, .int .i64 o.at_]
/-- what a call leaves -/
def DDone (Wb wr : World) (G : Nat → Prop) (b : Nat) (ao : Option Addr) (e : Ending) (W' : World) : Prop :=
  ∃ now' last' X' G' a c, (a = ao ∨ Lie wr a) ∧ e = .returned (.tuple #[dsV now' last' a X'.length c, .bool true]) ∧ Bk Wb W' G' b now' last' X' ∧ Rt W' a c (slot0 X') ∧ RAp W' G' a ∧ Gr G wr W' ∧ ∀ i, G' i → G i ∨ wr.heap.size ≤ i
/-- the call's result is set: its box is neither the book's nor the row's -/
theorem ddone_sets {Wb W Z V : World} {G G9 : Nat → Prop} {b b3 : Nat} {now' last' : Int} {X' : List Th} {a3 : Option Addr} {c3 : Nat} {x0 x1 x2 : Value} (hbb : Wb.heap.size ≤ W.heap.size)
    (hBZ : Below W.heap.size W Z) (hRZ : Rt Z a3 c3 (slot0 X')) (hAZ : RAp Z G a3) (hwo : Bk Wb V G9 b now' last' X') (hg : Gr G Z V) (hF9 : ∀ i, G9 i → G i ∨ Z.heap.size ≤ i)
    (hx : Z.heap[b3]? = some (.cells #[x0, x1, x2] rsT (0, 0))) (hb : W.heap.size ≤ b3) (hF3 : ¬ G b3) (v0 v1 v2 : Value) :
    ∃ U, U = ((V.setCell ⟨b3, 0, none⟩ v0).setCell ⟨b3, 1, none⟩ v1).setCell ⟨b3, 2, none⟩ v2 ∧ (Bk Wb U G9 b now' last' X' ∧ Rt U a3 c3 (slot0 X') ∧ RAp U G9 a3 ∧ Gr G W U ∧ ∀ i, G9 i → G i ∨ W.heap.size ≤ i) ∧ U.heap[b3]? = some (.cells #[v0, v1, v2] rsT (0, 0)) ∧ ∀ i, i ≠ b3 → U.heap[i]? = V.heap[i]? := by
  have hlt := (Array.getElem?_eq_some_iff.1 hx).1
  have xV := (hg.block b3 hlt hF3).trans hx
  have xU := bx_set3 xV v0 v1 v2
  have hgU := gr_set3 V b3 v0 v1 v2
  have hZs := hBZ.size
  have hVs := hg.size
  have hrV := rt_gr hRZ hg hAZ
  refine ⟨_, rfl, ⟨?_, ?_, ?_, ?_, ?_⟩, xU, fun i hi => ((heap_setCell_other _ ⟨b3, 2, none⟩ i v2 hi).trans (heap_setCell_other _ ⟨b3, 1, none⟩ i v1 hi)).trans (heap_setCell_other V ⟨b3, 0, none⟩ i v0 hi)⟩
  · exact hwo.beside hgU (fun i hi e => by subst e; rcases hF9 _ hi with h | h; exact hF3 h; omega) (fun i e => by subst e; omega)
  · exact rt_keep hrV hgU (rt_off hrV xV (by decide))
  · intro a e
    have h1 := hAZ a e
    refine ⟨Nat.lt_of_lt_of_le h1.1 (Nat.le_trans hVs hgU.size), fun h => ?_⟩
    rcases hF9 _ h with h | h
    · exact h1.2 h
    · omega
  · exact ((Gr.below hBZ).trans hg).then hgU (fun i e => by subst e; exact .inr hb)
  · intro i hi
    rcases hF9 i hi with h | h
    · exact .inl h
    · exact .inr (Nat.le_trans hZs h)
end Go.Proofs.Ytedlplkomfiahaa
namespace Go.Proofs.Ytedlplkomfiahaa
set_option linter.unusedVariables false
set_option linter.unusedSimpArgs false
set_option linter.unusedSectionVars false
open Go Go.RowKit Go.Maps Go.Deep
set_option maxRecDepth 100000 in
set_option maxHeartbeats 8000000 in
theorem ddo_clr (Wb W : World) (G : Nat → Prop) (b : Nat) (now last : Int) (X : List Th) (ao : Option Addr) (cap : Nat) (o : DOp) (hk : o.kind = 1) (hW : Bk Wb W G b now last X) (hR : Rt W ao cap (slot0 X)) (hA : RAp W G ao) (hid : IdOk o.id) :
    Calls Try.prog 18 #[.pointer (some ⟨b, 0, none⟩), dsV now last ao X.length cap, dopVal o] W (DDone Wb W G b ao) := by
  obtain ⟨ok, oi, oa⟩ := o
  unfold dsV dopVal
  simp only at hk hid
  subst hk
  obtain ⟨W1, hW1⟩ : ∃ W1, W1 = W.alloc (.cells #[.int .i64 now, .int .u64 last, .slice ao X.length cap] rsT) := ⟨_, rfl⟩
  obtain ⟨W2, hW2⟩ : ∃ W2, W2 = W1.alloc (.cells #[.int .i64 1, .int .u64 oi, .int .i64 oa] dopT) := ⟨_, rfl⟩
  obtain ⟨W3, hW3⟩ : ∃ W3, W3 = W2.alloc (.cells #[.int .i64 0, .int .u64 0, .slice none 0 0] rsT) := ⟨_, rfl⟩
  obtain ⟨b1, hb1⟩ : ∃ b, b = W.heap.size := ⟨_, rfl⟩
  obtain ⟨b2, hb2⟩ : ∃ b, b = W.heap.size + 1 := ⟨_, rfl⟩
  obtain ⟨b3, hb3⟩ : ∃ b, b = W.heap.size + 1 + 1 := ⟨_, rfl⟩
  have z1 : W1.heap.size = W.heap.size + 1 := by rw [hW1]; simp
  have z2 : W2.heap.size = W.heap.size + 1 + 1 := by rw [hW2]; simp [z1]
  have B1 : Below W.heap.size W W1 := by rw [hW1]; exact below_new _ _
  have B2 : Below W1.heap.size W1 W2 := by rw [hW2]; exact below_new _ _
  have B3 : Below W2.heap.size W2 W3 := by rw [hW3]; exact below_new _ _
  have hB3 := below_on (below_on B1 B2 (Nat.le_refl _)) B3 (Nat.le_refl _)
  have t1 : W3.heap[b1]? = some (.cells #[.int .i64 now, .int .u64 last, .slice ao X.length cap] rsT (0, 0)) := by
    rw [B3.block b1 (by omega), B2.block b1 (by omega), hW1, hb1]; exact heap_alloc_new _ _
  have t2 : W3.heap[b2]? = some (.cells #[.int .i64 1, .int .u64 oi, .int .i64 oa] dopT (0, 0)) := by
    rw [B3.block b2 (by omega), hW2, hb2, ← z1]; exact heap_alloc_new _ _
  have t3 : W3.heap[b3]? = some (.cells #[.int .i64 0, .int .u64 0, .slice none 0 0] rsT (0, 0)) := by
    rw [hW3, hb3, ← z2]; exact heap_alloc_new _ _
  have Hup : Hid (W.heap.size ≤ b1 ∧ W.heap.size ≤ b2 ∧ W.heap.size ≤ b3) := ⟨by omega, by omega, by omega⟩
  have Hap : Hid (b1 ≠ b2 ∧ b1 ≠ b3 ∧ b2 ≠ b3) := ⟨by omega, by omega, by omega⟩
  have HB3 := Lib.hid hB3
  have T1 := Lib.hid t1
  have T2 := Lib.hid t2
  have T3 := Lib.hid t3
  clear z1 z2 B1 B2 B3 hB3 t1 t2 t3
  have p0 := block_cell T1.out 0
  have p1 := block_cell T1.out 1
  have p2 := block_cell T1.out 2
  have c0 := block_cell T2.out 0
  have c1 := block_cell T2.out 1
  have c2 := block_cell T2.out 2
  have l1 := (Array.getElem?_eq_some_iff.1 T1.out).1
  have l2 := (Array.getElem?_eq_some_iff.1 T2.out).1
  simp at p0 p1 p2 c0 c1 c2
  have HWo := Lib.hid hW
  have HRt := Lib.hid hR
  have HA := Lib.hid hA
  have Hid2 := Lib.hid hid
  have HRt4 := Lib.hid (hR.below HB3.out)
  have Hx := Lib.hid (And.intro hW.okX.2.2.2.2 hW.okX.2.2.1)
  have HF : Hid (∀ i, W.heap.size ≤ i → ¬ G i) := (fun i hi h => by have := hW.bd i h; omega : ∀ i, W.heap.size ≤ i → ¬ G i)
  have Hl3 := Lib.hid (Array.getElem?_eq_some_iff.1 T3.out).1
  clear hW hR hA hid
  go_enter Try.func18, Try.ntmps18
  go_upto_region 1 with fail
  rw [← hW1, ← hW2, ← hW3, ← hb3, ← hb2, ← hb1]
  clear hW1 hW2 hW3 hb1 hb2 hb3
  have Hca := Lib.hid (rclear13 W3 now last ao cap X oi HRt4.out Hx.out.1 Hx.out.2)
  unfold dsV at Hca
  go_wp2_with fail
  refine (show Calls _ _ _ _ _ from Hca.out).mono ?_
  rintro e V1 ⟨a3, c3, rfl, hr3, hli, hb⟩
  obtain ⟨⟨yi, yg, yd⟩, hy⟩ : ∃ y, y = canT X oi := ⟨_, rfl⟩
  obtain ⟨bo, hbo⟩ : ∃ bo, bo = canB X oi := ⟨_, rfl⟩
  obtain ⟨M, hM⟩ : ∃ M, M = lessId X oi := ⟨_, rfl⟩
  rw [← hM] at hr3
  rw [← hy, ← hbo, ← hM]
  unfold dsV rtVal
  have d1 := bx_below hb T1.out
  have d2 := bx_below hb T2.out
  have p0 := block_cell d1 0
  have p1 := block_cell d1 1
  have p2 := block_cell d1 2
  have c0 := block_cell d2 0
  have c1 := block_cell d2 1
  have c2 := block_cell d2 2
  have l1 := (Array.getElem?_eq_some_iff.1 d1).1
  have l2 := (Array.getElem?_eq_some_iff.1 d2).1
  simp at p0 p1 p2 c0 c1 c2
  clear d1 d2
  have HM := Lib.hid hM
  have HY := Lib.hid (And.intro hy hbo)
  have Hr3 := Lib.hid hr3
  have Hli := Lib.hid hli
  have HV1 := Lib.hid hb
  clear hM hy hbo hr3 hli hb
  obtain ⟨Z1, hZ1⟩ : ∃ Z1, Z1 = V1.alloc (.cells #[.int .i64 now, .int .u64 last, .slice a3 M.length c3] rsT) := ⟨_, rfl⟩
  obtain ⟨Z, hZ⟩ : ∃ Z, Z = Z1.alloc (.cells #[.int .u64 yi, .int .u64 yg, .int .i64 yd, .int .i64 0] rtT) := ⟨_, rfl⟩
  obtain ⟨b5, hb5⟩ : ∃ b, b = V1.heap.size := ⟨_, rfl⟩
  obtain ⟨b6, hb6⟩ : ∃ b, b = V1.heap.size + 1 := ⟨_, rfl⟩
  have z1 : Z1.heap.size = V1.heap.size + 1 := by rw [hZ1]; simp
  have B1 : Below V1.heap.size V1 Z1 := by rw [hZ1]; exact below_new _ _
  have B2 : Below Z1.heap.size Z1 Z := by rw [hZ]; exact below_new _ _
  have hBZ := below_on B1 B2 (Nat.le_refl _)
  have x5 : Z.heap[b5]? = some (.cells #[.int .i64 now, .int .u64 last, .slice a3 M.length c3] rsT (0, 0)) := by
    rw [B2.block b5 (by omega), hZ1, hb5]; exact heap_alloc_new _ _
  have x6 : Z.heap[b6]? = some (.cells #[.int .u64 yi, .int .u64 yg, .int .i64 yd, .int .i64 0] rtT (0, 0)) := by
    rw [hZ, hb6, ← z1]; exact heap_alloc_new _ _
  have hn5 : V1.heap.size ≤ b5 := by omega
  have hn6 : V1.heap.size ≤ b6 := by omega
  have X5 := Lib.hid x5
  have X6 := Lib.hid x6
  have HN := Lib.hid (And.intro hn5 hn6)
  have HBZ := Lib.hid (below_on HB3.out (below_on HV1.out hBZ (Nat.le_refl _)) (Nat.le_refl _))
  have HBV := Lib.hid hBZ
  clear z1 B1 B2 hBZ x5 x6 hn5 hn6
  have HWZ := Lib.hid (HWo.out.below HBZ.out)
  have Hcn := Lib.hid (bclear_o HWZ.out oi Hid2.out)
  go_wp2_with fail
  rw [← hZ1, ← hZ, ← hb6, ← hb5]
  clear hZ1 hZ hb5 hb6
  refine Hcn.out.mono ?_
  rintro e V9 ⟨rfl, G9, hwo9, hg9, hF9⟩
  rw [← HY.out.1, ← HY.out.2]
  rw [← HM.out] at hwo9
  unfold thVal
  have hWV : W.heap.size ≤ V1.heap.size := Nat.le_trans HB3.out.size HV1.out.size
  have k9 : ∀ {i : Nat} {o : Obj}, Z.heap[i]? = some o → W.heap.size ≤ i → V9.heap[i]? = some o := fun hx hb => (hg9.block _ (Array.getElem?_eq_some_iff.1 hx).1 (HF.out _ hb)).trans hx
  have y5 := k9 X5.out (Nat.le_trans hWV HN.out.1)
  have y6 := k9 X6.out (Nat.le_trans hWV HN.out.2)
  have y3 := k9 (bx_below HBV.out (bx_below HV1.out T3.out)) Hup.out.2.2
  have Hwo9 := Lib.hid hwo9
  have Hg9 := Lib.hid hg9
  have HF9 := Lib.hid hF9
  have Y5 := Lib.hid y5
  have Y6 := Lib.hid y6
  have Y3 := Lib.hid y3
  clear k9 y5 y6 y3 hwo9 hg9 hF9 hWV p0 p1 p2 c0 c1 c2 l1 l2
  obtain ⟨U0, hU0⟩ : ∃ U0, U0 = V9.alloc (.cells #[.int .u64 yi, .int .u64 yg, .int .i64 yd] thT) := ⟨_, rfl⟩
  obtain ⟨b7, hb7⟩ : ∃ b, b = V9.heap.size := ⟨_, rfl⟩
  have hBU : Below V9.heap.size V9 U0 := by rw [hU0]; exact below_new _ _
  have x7 : U0.heap[b7]? = some (.cells #[.int .u64 yi, .int .u64 yg, .int .i64 yd] thT (0, 0)) := by rw [hU0, hb7]; exact heap_alloc_new _ _
  have HBU0 := Lib.hid hBU
  have hs9 : W3.heap.size ≤ V9.heap.size := Nat.le_trans (below_on HV1.out HBV.out (Nat.le_refl _)).size Hg9.out.size
  have Hne : Hid (b5 ≠ b3 ∧ b6 ≠ b3 ∧ b7 ≠ b3) := (by have h7 := Hl3.out; have h8 := HV1.out.size; have h9 := HN.out; exact ⟨by omega, by omega, by omega⟩ : b5 ≠ b3 ∧ b6 ≠ b3 ∧ b7 ≠ b3)
  have u5 := bx_below hBU Y5.out
  have u6 := bx_below hBU Y6.out
  have Hlt := Lib.hid (And.intro (Array.getElem?_eq_some_iff.1 u5).1 (And.intro (Array.getElem?_eq_some_iff.1 u6).1 (Array.getElem?_eq_some_iff.1 x7).1))
  have hld : ∀ W', (W'.heap[b5]? = U0.heap[b5]? ∧ W'.heap[b6]? = U0.heap[b6]? ∧ W'.heap[b7]? = U0.heap[b7]?) → (Instr.loadAt rsT (.pointer (some ⟨b5, 0, none⟩))).run Try.prog W' = .ok (.agg #[.int .i64 now, .int .u64 last, .slice a3 M.length c3]) W' ∧ (Instr.loadAt rtT (.pointer (some ⟨b6, 0, none⟩))).run Try.prog W' = .ok (rtVal (⟨yi, yg, yd⟩, 0)) W' ∧ (Instr.loadAt thT (.pointer (some ⟨b7, 0, none⟩))).run Try.prog W' = .ok (thVal ⟨yi, yg, yd⟩) W' := fun W' hw =>
    ⟨ldDs (hw.1.trans u5) _ _ _ rfl, ldRtb ⟨yi, yg, yd⟩ (hw.2.1.trans u6), ldTb ⟨yi, yg, yd⟩ (hw.2.2.trans x7)⟩
  have HldU := Lib.hid hld
  have heq := eq_rtv ⟨yi, yg, yd⟩
  have hgd : ∀ p q V, (eqGuard .eql rtT p q (rtVal (⟨yi, yg, yd⟩, 0)) (rtVal (⟨yi, yg, yd⟩, 0))).run Try.prog V = .ok () V := fun p q V => guard_rt .eql p q _ _ V
  clear hBU x7 hs9 u5 u6 hld
  go_upto_region 8 with fail
  rw [← hU0, ← hb7]
  clear hU0 hb7
  refine wp_region_held_drew (S := fun W' => W'.heap[b5]? = U0.heap[b5]? ∧ W'.heap[b6]? = U0.heap[b6]? ∧ W'.heap[b7]? = U0.heap[b7]?) (by kernel_rfl) ⟨rfl, rfl, rfl⟩ (fun hHeld => ?_)
  refine wpAnyH_take (i := 0) (v := .agg #[.int .i64 now, .int .u64 last, .slice a3 M.length c3]) rfl (by kernel_rfl) (by kernel_rfl) (by kernel_rfl) (fun _ _ _ h => h) (Or.inl ⟨by rfl, ?_⟩) (by assumption) ?_
  · intro w8 hSw; exact ld_takeT rfl (HldU.out w8 hSw).1 rfl
  simp only [Act.put, List.getElem_toArray, List.getElem_cons_zero, List.getElem_cons_succ, List.setIfInBounds_toArray, List.set_cons_zero, List.set_cons_succ]
  refine wpAnyH_take (i := 1) (v := ?_) rfl (by kernel_rfl) (by kernel_rfl) (by kernel_rfl) (fun _ _ _ h => h) (Or.inl ⟨by rfl, ?_⟩) (by assumption) ?_
  rotate_left
  · intro w8 hSw; clear hSw; go_simp; (try with_reducible rfl)
  simp only [Act.put, List.getElem_toArray, List.getElem_cons_zero, List.getElem_cons_succ, List.setIfInBounds_toArray, List.set_cons_zero, List.set_cons_succ]
  refine wpAnyH_take (i := 2) (v := ?_) rfl (by kernel_rfl) (by kernel_rfl) (by kernel_rfl) (fun _ _ _ h => h) (Or.inl ⟨by rfl, ?_⟩) (by assumption) ?_
  rotate_left
  · intro w8 hSw; clear hSw; go_simp; (try with_reducible rfl)
  simp only [Act.put, List.getElem_toArray, List.getElem_cons_zero, List.getElem_cons_succ, List.setIfInBounds_toArray, List.set_cons_zero, List.set_cons_succ]
  refine wpAnyH_take (i := 3) (v := ?_) rfl (by kernel_rfl) (by kernel_rfl) (by kernel_rfl) (fun _ _ _ h => h) (Or.inl ⟨by rfl, ?_⟩) (by assumption) ?_
  rotate_left
  · intro w8 hSw; clear hSw; go_simp; (try with_reducible rfl)
  simp only [Act.put, List.getElem_toArray, List.getElem_cons_zero, List.getElem_cons_succ, List.setIfInBounds_toArray, List.set_cons_zero, List.set_cons_succ]
  refine wpAnyH_take (i := 4) (v := ?_) rfl (by kernel_rfl) (by kernel_rfl) (by kernel_rfl) (fun _ _ _ h => h) (Or.inl ⟨by rfl, ?_⟩) (by assumption) ?_
  rotate_left
  · intro w8 hSw; clear hSw; go_simp; (try with_reducible rfl)
  simp only [Act.put, List.getElem_toArray, List.getElem_cons_zero, List.getElem_cons_succ, List.setIfInBounds_toArray, List.set_cons_zero, List.set_cons_succ]
  refine wpAnyH_take (i := 5) (v := thVal ⟨yi, yg, yd⟩) rfl (by kernel_rfl) (by kernel_rfl) (by kernel_rfl) (fun _ _ _ h => h) (Or.inl ⟨by rfl, ?_⟩) (by assumption) ?_
  · intro w8 hSw; exact ld_takeT rfl (HldU.out w8 hSw).2.2 rfl
  simp only [Act.put, List.getElem_toArray, List.getElem_cons_zero, List.getElem_cons_succ, List.setIfInBounds_toArray, List.set_cons_zero, List.set_cons_succ]
  refine wpAnyH_take (i := 7) (v := rtVal (⟨yi, yg, yd⟩, 0)) rfl (by kernel_rfl) (by kernel_rfl) (by kernel_rfl) (fun _ _ _ h => h) (Or.inl ⟨by rfl, ?_⟩) (by assumption) ?_
  · intro w8 hSw; exact ld_takeT rfl (HldU.out w8 hSw).2.1 rfl
  simp only [Act.put, List.getElem_toArray, List.getElem_cons_zero, List.getElem_cons_succ, List.setIfInBounds_toArray, List.set_cons_zero, List.set_cons_succ]
  refine wpAnyH_ready (rs := [6]) (by kernel_rfl) (by simp) ?_
  refine AllReadyH.cons rfl (fun K hK => ?_) AllReadyH.nil
  go_simp
  go_at_call 41
  refine (plain_any U0.drew ⟨yi, yg, yd⟩).mono ?_
  rintro e V10 ⟨rfl, hb10⟩
  refine hK.out _ _ ⟨hb10.block b5 Hlt.out.1, hb10.block b6 Hlt.out.2.1, hb10.block b7 Hlt.out.2.2⟩ (fun hHeld => ?_)
  clear hK K
  try simp only [Act.put, List.getElem_toArray, List.getElem_cons_zero, List.getElem_cons_succ, List.setIfInBounds_toArray, List.set_cons_zero, List.set_cons_succ]
  refine wpAnyH_take (i := 8) (v := ?_) rfl (by kernel_rfl) (by kernel_rfl) (by kernel_rfl) (fun _ _ _ h => h) (Or.inl ⟨by rfl, ?_⟩) (by assumption) ?_
  rotate_left
  · intro w8 hSw; clear hSw; go_simp; (try with_reducible rfl)
  simp only [Act.put, List.getElem_toArray, List.getElem_cons_zero, List.getElem_cons_succ, List.setIfInBounds_toArray, List.set_cons_zero, List.set_cons_succ]
  refine wpAnyH_take (i := 9) (v := ?_) rfl (by kernel_rfl) (by kernel_rfl) (by kernel_rfl) (fun _ _ _ h => h) (Or.inl ⟨by rfl, ?_⟩) (by assumption) ?_
  rotate_left
  · intro w8 hSw; clear hSw; go_simp; (try with_reducible rfl)
  simp only [Act.put, List.getElem_toArray, List.getElem_cons_zero, List.getElem_cons_succ, List.setIfInBounds_toArray, List.set_cons_zero, List.set_cons_succ]
  have HBU := Lib.hid (below_on HBU0.out (below_on (Below.refl _ U0).drew hb10 (Nat.le_refl _)) (Nat.le_refl _))
  have hrZ := Hr3.out.below HBV.out
  have x39 := bx_below HBU.out Y3.out
  have y0 := block_cell x39 0
  have y1 := block_cell x39 1
  have y2 := block_cell x39 2
  have f0 := block_free x39 0
  have f1 := block_free x39 1
  have f2 := block_free x39 2
  have l3 := (Array.getElem?_eq_some_iff.1 x39).1
  simp at y0 y1 y2 f0 f1 f2
  obtain ⟨U, hU⟩ := ddone_sets HWo.out.bel.size HBZ.out hrZ (RAp.new HA.out HWo.out.bd HB3.out.size Hli.out hrZ) (Hwo9.out.below HBU.out) (Hg9.out.trans (Gr.below HBU.out)) HF9.out (bx_below HBV.out (bx_below HV1.out T3.out)) Hup.out.2.2 (HF.out _ Hup.out.2.2) (.int .i64 now) (.int .u64 last) (.slice a3 M.length c3)
  have HU := Lib.hid hU
  have HS9 := Lib.hid hHeld
  clear hU x39
  refine wpAnyH_ready (rs := [10]) (by kernel_rfl) (by simp) ?_
  refine AllReadyH.cons rfl (fun K hK => ?_) AllReadyH.nil
  go_simp
  rw [← HU.out.1]
  refine hK.out _ _ ⟨(HU.out.2.2.2 b5 Hne.out.1).trans HS9.out.1, (HU.out.2.2.2 b6 Hne.out.2.1).trans HS9.out.2.1, (HU.out.2.2.2 b7 Hne.out.2.2).trans HS9.out.2.2⟩ (fun hHeld => ?_)
  clear hK K y0 y1 y2 f0 f1 f2 l3
  try simp only [Act.put, List.getElem_toArray, List.getElem_cons_zero, List.getElem_cons_succ, List.setIfInBounds_toArray, List.set_cons_zero, List.set_cons_succ]
  refine wpAnyH_take (i := 11) (v := ?_) rfl (by kernel_rfl) (by kernel_rfl) (by kernel_rfl) (fun _ _ _ h => h) (Or.inl ⟨by rfl, ?_⟩) (by assumption) ?_
  rotate_left
  · intro w8 hSw; clear hSw; go_simp; (try with_reducible rfl)
  simp only [Act.put, List.getElem_toArray, List.getElem_cons_zero, List.getElem_cons_succ, List.setIfInBounds_toArray, List.set_cons_zero, List.set_cons_succ]
  refine wpAnyH_done (by kernel_rfl) ?_ _
  have u3 := HU.out.2.2.1
  have u0 := block_cell u3 0
  have u1 := block_cell u3 1
  have u2 := block_cell u3 2
  have ul := (Array.getElem?_eq_some_iff.1 u3).1
  simp at u0 u1 u2
  clear u3
  go_wp2_with fail
  refine bodyPost_ret (v := .tuple #[.agg #[.int .i64 now, .int .u64 last, .slice a3 M.length c3], .bool true]) ?_ rfl ⟨now, last, M, G9, a3, c3, (Hli.out.imp (fun h => h) (fun h x e => Nat.le_trans HB3.out.size (h x e))), rfl, HU.out.2.1⟩
  simp [results, Try.results18, go_sem, u0, u1, u2, ul]
end Go.Proofs.Ytedlplkomfiahaa
namespace Go.Proofs.Ytedlplkomfiahaa
set_option linter.unusedVariables false
set_option linter.unusedSimpArgs false
set_option linter.unusedSectionVars false
open Go Go.RowKit Go.Maps Go.Deep
theorem advL_len13 (now tb : Int) (X : List Th) : (advL now tb X).length ≤ X.length := by
  unfold advL
  split
  · split
    · exact Nat.zero_le _
    · exact List.length_filter_le _ _
  · exact Nat.zero_le _
set_option maxRecDepth 100000 in
set_option maxHeartbeats 8000000 in
theorem ddo_adv (Wb W : World) (G : Nat → Prop) (b : Nat) (now last : Int) (X : List Th) (ao : Option Addr) (cap : Nat) (o : DOp) (hk : o.kind = 2) (hW : Bk Wb W G b now last X) (hR : Rt W ao cap (slot0 X)) (hA : RAp W G ao) (hid : IdOk o.id) :
    Calls Try.prog 18 #[.pointer (some ⟨b, 0, none⟩), dsV now last ao X.length cap, dopVal o] W (DDone Wb W G b ao) := by
  obtain ⟨ok, oi, oa⟩ := o
  unfold dsV dopVal
  simp only at hk hid
  subst hk
  obtain ⟨W1, hW1⟩ : ∃ W1, W1 = W.alloc (.cells #[.int .i64 now, .int .u64 last, .slice ao X.length cap] rsT) := ⟨_, rfl⟩
  obtain ⟨W2, hW2⟩ : ∃ W2, W2 = W1.alloc (.cells #[.int .i64 2, .int .u64 oi, .int .i64 oa] dopT) := ⟨_, rfl⟩
  obtain ⟨W3, hW3⟩ : ∃ W3, W3 = W2.alloc (.cells #[.int .i64 0, .int .u64 0, .slice none 0 0] rsT) := ⟨_, rfl⟩
  obtain ⟨b1, hb1⟩ : ∃ b, b = W.heap.size := ⟨_, rfl⟩
  obtain ⟨b2, hb2⟩ : ∃ b, b = W.heap.size + 1 := ⟨_, rfl⟩
  obtain ⟨b3, hb3⟩ : ∃ b, b = W.heap.size + 1 + 1 := ⟨_, rfl⟩
  have z1 : W1.heap.size = W.heap.size + 1 := by rw [hW1]; simp
  have z2 : W2.heap.size = W.heap.size + 1 + 1 := by rw [hW2]; simp [z1]
  have B1 : Below W.heap.size W W1 := by rw [hW1]; exact below_new _ _
  have B2 : Below W1.heap.size W1 W2 := by rw [hW2]; exact below_new _ _
  have B3 : Below W2.heap.size W2 W3 := by rw [hW3]; exact below_new _ _
  have hB3 := below_on (below_on B1 B2 (Nat.le_refl _)) B3 (Nat.le_refl _)
  have t1 : W3.heap[b1]? = some (.cells #[.int .i64 now, .int .u64 last, .slice ao X.length cap] rsT (0, 0)) := by
    rw [B3.block b1 (by omega), B2.block b1 (by omega), hW1, hb1]; exact heap_alloc_new _ _
  have t2 : W3.heap[b2]? = some (.cells #[.int .i64 2, .int .u64 oi, .int .i64 oa] dopT (0, 0)) := by
    rw [B3.block b2 (by omega), hW2, hb2, ← z1]; exact heap_alloc_new _ _
  have t3 : W3.heap[b3]? = some (.cells #[.int .i64 0, .int .u64 0, .slice none 0 0] rsT (0, 0)) := by
    rw [hW3, hb3, ← z2]; exact heap_alloc_new _ _
  have Hup : Hid (W.heap.size ≤ b1 ∧ W.heap.size ≤ b2 ∧ W.heap.size ≤ b3) := ⟨by omega, by omega, by omega⟩
  have Hap : Hid (b1 ≠ b2 ∧ b1 ≠ b3 ∧ b2 ≠ b3) := ⟨by omega, by omega, by omega⟩
  have HB3 := Lib.hid hB3
  have T1 := Lib.hid t1
  have T2 := Lib.hid t2
  have T3 := Lib.hid t3
  clear z1 z2 B1 B2 B3 hB3 t1 t2 t3
  have p0 := block_cell T1.out 0
  have p1 := block_cell T1.out 1
  have p2 := block_cell T1.out 2
  have c0 := block_cell T2.out 0
  have c1 := block_cell T2.out 1
  have c2 := block_cell T2.out 2
  have l1 := (Array.getElem?_eq_some_iff.1 T1.out).1
  have l2 := (Array.getElem?_eq_some_iff.1 T2.out).1
  simp at p0 p1 p2 c0 c1 c2
  have HWo := Lib.hid hW
  have HRt := Lib.hid hR
  have HA := Lib.hid hA
  have Hid2 := Lib.hid hid
  have HRt4 := Lib.hid (hR.below HB3.out)
  have Hx := Lib.hid (And.intro hW.okX.2.2.2.2 hW.okX.2.2.1)
  have HF : Hid (∀ i, W.heap.size ≤ i → ¬ G i) := (fun i hi h => by have := hW.bd i h; omega : ∀ i, W.heap.size ≤ i → ¬ G i)
  have Hl3 := Lib.hid (Array.getElem?_eq_some_iff.1 T3.out).1
  clear hW hR hA hid
  go_enter Try.func18, Try.ntmps18
  go_upto_region 1 with fail
  rw [← hW1, ← hW2, ← hW3, ← hb3, ← hb2, ← hb1]
  clear hW1 hW2 hW3 hb1 hb2 hb3
  have Hra := Lib.hid (radv13 W3 now last oa ao cap X HRt4.out Hx.out.1 HWo.out.okX.2.1)
  unfold dsV at Hra
  go_wp2_with fail
  refine (show Calls _ _ _ _ _ from Hra.out).mono ?_
  rintro e V1 ⟨a3, c3, a2, c2', rfl, hr3, hr2, hli, hli2, hb⟩
  obtain ⟨N, hN⟩ : ∃ N, N = advN now oa := ⟨_, rfl⟩
  obtain ⟨Y, hY⟩ : ∃ Y, Y = advX now oa X := ⟨_, rfl⟩
  obtain ⟨L, hL⟩ : ∃ L, L = advL now oa X := ⟨_, rfl⟩
  obtain ⟨E, hE⟩ : ∃ E, E = advE now oa := ⟨_, rfl⟩
  have hLl : L.length ≤ 256 := by rw [hL]; exact Nat.le_trans (advL_len13 now oa X) Hx.out.1
  rw [← hY] at hr3
  rw [← hL] at hr2
  rw [← hN, ← hY, ← hL, ← hE]
  unfold dsV
  have d1 := bx_below hb T1.out
  have d2 := bx_below hb T2.out
  have p0 := block_cell d1 0
  have p1 := block_cell d1 1
  have p2 := block_cell d1 2
  have c0 := block_cell d2 0
  have c1 := block_cell d2 1
  have c2 := block_cell d2 2
  have l1 := (Array.getElem?_eq_some_iff.1 d1).1
  have l2 := (Array.getElem?_eq_some_iff.1 d2).1
  simp at p0 p1 p2 c0 c1 c2
  clear d1 d2
  have HE := Lib.hid (And.intro hN (And.intro hY (And.intro hL hE)))
  have HLl := Lib.hid hLl
  have Hr3 := Lib.hid hr3
  have Hr2 := Lib.hid hr2
  have Hli := Lib.hid hli
  have Hli2 := Lib.hid hli2
  have HV1 := Lib.hid hb
  clear hN hY hL hE hr3 hr2 hli hli2 hb hLl
  obtain ⟨Z, hZ⟩ : ∃ Z, Z = V1.alloc (.cells #[.int .i64 N, .int .u64 last, .slice a3 Y.length c3] rsT) := ⟨_, rfl⟩
  obtain ⟨b5, hb5⟩ : ∃ b, b = V1.heap.size := ⟨_, rfl⟩
  have hBZ : Below V1.heap.size V1 Z := by rw [hZ]; exact below_new _ _
  have x5 : Z.heap[b5]? = some (.cells #[.int .i64 N, .int .u64 last, .slice a3 Y.length c3] rsT (0, 0)) := by rw [hZ, hb5]; exact heap_alloc_new _ _
  have hn5 : V1.heap.size ≤ b5 := by omega
  have X5 := Lib.hid x5
  have HN := Lib.hid hn5
  have HBZ := Lib.hid (below_on HB3.out (below_on HV1.out hBZ (Nat.le_refl _)) (Nat.le_refl _))
  have HBV := Lib.hid hBZ
  clear hBZ x5 hn5
  have HWZ := Lib.hid (HWo.out.below HBZ.out)
  have Hcn := Lib.hid (badv_o HWZ.out oa)
  go_wp2_with fail
  rw [← hZ, ← hb5]
  clear hZ hb5
  refine (show Calls _ _ _ _ _ from Hcn.out).mono ?_
  rintro e V9 ⟨ao9, cap9, rfl, ⟨G9, hwo9, hg9, hF9⟩, htt0⟩
  have htt := Tt.of_own htt0
  rw [← HE.out.2.2.1, ← HE.out.2.2.2]
  rw [← HE.out.1, ← HE.out.2.1] at hwo9
  rw [← HE.out.2.2.1] at htt
  have hWV : W.heap.size ≤ V1.heap.size := Nat.le_trans HB3.out.size HV1.out.size
  have k9 : ∀ {i : Nat} {o : Obj}, Z.heap[i]? = some o → W.heap.size ≤ i → V9.heap[i]? = some o := fun hx hb => (hg9.block _ (Array.getElem?_eq_some_iff.1 hx).1 (HF.out _ hb)).trans hx
  have y5 := k9 X5.out (Nat.le_trans hWV HN.out)
  have y3 := k9 (bx_below HBV.out (bx_below HV1.out T3.out)) Hup.out.2.2
  have hr2Z := Hr2.out.below HBV.out
  have hr29 := rt_gr hr2Z hg9 (RAp.new (ao := none) (fun a e => by cases e) HWo.out.bd HB3.out.size Hli2.out hr2Z)
  have hsm := same_any V9.drew ao9 cap9 L a2 c2' (slot0 L) (htt.below (Below.refl _ V9).drew) (hr29.below (Below.refl _ V9).drew) (by have := HLl.out; omega) (by rw [slot0_len]; have := HLl.out; omega)
  rw [slot0_len, slot0_fst, decide_eq_true (rfl : L = L)] at hsm
  have Hsm := Lib.hid hsm
  have Hne : Hid (b5 ≠ b3) := (by have h7 := Hl3.out; have h8 := HV1.out.size; have h9 := HN.out; omega : b5 ≠ b3)
  have Hlt := Lib.hid (Array.getElem?_eq_some_iff.1 y5).1
  have hld : ∀ W', (W'.heap[b5]? = V9.heap[b5]?) → (Instr.loadAt rsT (.pointer (some ⟨b5, 0, none⟩))).run Try.prog W' = .ok (.agg #[.int .i64 N, .int .u64 last, .slice a3 Y.length c3]) W' := fun W' hw => ldDs (hw.trans y5) _ _ _ rfl
  have HldU := Lib.hid hld
  have Hwo9 := Lib.hid hwo9
  have Hg9 := Lib.hid hg9
  have HF9 := Lib.hid hF9
  have Y3 := Lib.hid y3
  clear k9 y5 y3 hwo9 hg9 hF9 hWV hr2Z hr29 hsm hld htt htt0 p0 p1 p2 c0 c1 c2 l1 l2
  go_upto_region 12 with fail
  refine wp_region_held_drew (S := fun W' => W'.heap[b5]? = V9.heap[b5]?) (by kernel_rfl) rfl (fun hHeld => ?_)
  refine wpAnyH_take (i := 0) (v := .agg #[.int .i64 N, .int .u64 last, .slice a3 Y.length c3]) rfl (by kernel_rfl) (by kernel_rfl) (by kernel_rfl) (fun _ _ _ h => h) (Or.inl ⟨by rfl, ?_⟩) (by assumption) ?_
  · intro w8 hSw; exact ld_takeT rfl (HldU.out w8 hSw) rfl
  simp only [Act.put, List.getElem_toArray, List.getElem_cons_zero, List.getElem_cons_succ, List.setIfInBounds_toArray, List.set_cons_zero, List.set_cons_succ]
  refine wpAnyH_take (i := 1) (v := ?_) rfl (by kernel_rfl) (by kernel_rfl) (by kernel_rfl) (fun _ _ _ h => h) (Or.inl ⟨by rfl, ?_⟩) (by assumption) ?_
  rotate_left
  · intro w8 hSw; clear hSw; go_simp; (try with_reducible rfl)
  simp only [Act.put, List.getElem_toArray, List.getElem_cons_zero, List.getElem_cons_succ, List.setIfInBounds_toArray, List.set_cons_zero, List.set_cons_succ]
  refine wpAnyH_take (i := 2) (v := ?_) rfl (by kernel_rfl) (by kernel_rfl) (by kernel_rfl) (fun _ _ _ h => h) (Or.inl ⟨by rfl, ?_⟩) (by assumption) ?_
  rotate_left
  · intro w8 hSw; clear hSw; go_simp; (try with_reducible rfl)
  simp only [Act.put, List.getElem_toArray, List.getElem_cons_zero, List.getElem_cons_succ, List.setIfInBounds_toArray, List.set_cons_zero, List.set_cons_succ]
  refine wpAnyH_take (i := 3) (v := ?_) rfl (by kernel_rfl) (by kernel_rfl) (by kernel_rfl) (fun _ _ _ h => h) (Or.inl ⟨by rfl, ?_⟩) (by assumption) ?_
  rotate_left
  · intro w8 hSw; clear hSw; go_simp; (try with_reducible rfl)
  simp only [Act.put, List.getElem_toArray, List.getElem_cons_zero, List.getElem_cons_succ, List.setIfInBounds_toArray, List.set_cons_zero, List.set_cons_succ]
  refine wpAnyH_take (i := 4) (v := ?_) rfl (by kernel_rfl) (by kernel_rfl) (by kernel_rfl) (fun _ _ _ h => h) (Or.inl ⟨by rfl, ?_⟩) (by assumption) ?_
  rotate_left
  · intro w8 hSw; clear hSw; go_simp; (try with_reducible rfl)
  simp only [Act.put, List.getElem_toArray, List.getElem_cons_zero, List.getElem_cons_succ, List.setIfInBounds_toArray, List.set_cons_zero, List.set_cons_succ]
  refine wpAnyH_take (i := 5) (v := ?_) rfl (by kernel_rfl) (by kernel_rfl) (by kernel_rfl) (fun _ _ _ h => h) (Or.inl ⟨by rfl, ?_⟩) (by assumption) ?_
  rotate_left
  · intro w8 hSw; clear hSw; go_simp; (try with_reducible rfl)
  simp only [Act.put, List.getElem_toArray, List.getElem_cons_zero, List.getElem_cons_succ, List.setIfInBounds_toArray, List.set_cons_zero, List.set_cons_succ]
  refine wpAnyH_take (i := 6) (v := ?_) rfl (by kernel_rfl) (by kernel_rfl) (by kernel_rfl) (fun _ _ _ h => h) (Or.inl ⟨by rfl, ?_⟩) (by assumption) ?_
  rotate_left
  · intro w8 hSw; clear hSw; go_simp; (try with_reducible rfl)
  simp only [Act.put, List.getElem_toArray, List.getElem_cons_zero, List.getElem_cons_succ, List.setIfInBounds_toArray, List.set_cons_zero, List.set_cons_succ]
  refine wpAnyH_ready (rs := [7]) (by kernel_rfl) (by simp) ?_
  refine AllReadyH.cons rfl (fun K hK => ?_) AllReadyH.nil
  go_simp
  go_at_call 45
  refine (Hsm.out).mono ?_
  rintro e V10 ⟨rfl, hb10⟩
  refine hK.out _ _ (hb10.block b5 Hlt.out) (fun hHeld => ?_)
  clear hK K
  try simp only [Act.put, List.getElem_toArray, List.getElem_cons_zero, List.getElem_cons_succ, List.setIfInBounds_toArray, List.set_cons_zero, List.set_cons_succ]
  refine wpAnyH_take (i := 8) (v := ?_) rfl (by kernel_rfl) (by kernel_rfl) (by kernel_rfl) (fun _ _ _ h => h) (Or.inl ⟨by rfl, ?_⟩) (by assumption) ?_
  rotate_left
  · intro w8 hSw; clear hSw; go_simp; (try with_reducible rfl)
  simp only [Act.put, List.getElem_toArray, List.getElem_cons_zero, List.getElem_cons_succ, List.setIfInBounds_toArray, List.set_cons_zero, List.set_cons_succ]
  have HBU := Lib.hid (below_on (Below.refl _ V9).drew hb10 (Nat.le_refl _))
  have hrZ := Hr3.out.below HBV.out
  have x39 := bx_below HBU.out Y3.out
  have y0 := block_cell x39 0
  have y1 := block_cell x39 1
  have y2 := block_cell x39 2
  have f0 := block_free x39 0
  have f1 := block_free x39 1
  have f2 := block_free x39 2
  have l3 := (Array.getElem?_eq_some_iff.1 x39).1
  simp at y0 y1 y2 f0 f1 f2
  obtain ⟨U, hU⟩ := ddone_sets HWo.out.bel.size HBZ.out hrZ (RAp.new HA.out HWo.out.bd HB3.out.size Hli.out hrZ) (Hwo9.out.below HBU.out) (Hg9.out.trans (Gr.below HBU.out)) HF9.out (bx_below HBV.out (bx_below HV1.out T3.out)) Hup.out.2.2 (HF.out _ Hup.out.2.2) (.int .i64 N) (.int .u64 last) (.slice a3 Y.length c3)
  have HU := Lib.hid hU
  have HS9 := Lib.hid hHeld
  clear hU x39
  refine wpAnyH_ready (rs := [9]) (by kernel_rfl) (by simp) ?_
  refine AllReadyH.cons rfl (fun K hK => ?_) AllReadyH.nil
  go_simp
  rw [← HU.out.1]
  refine hK.out _ _ ((HU.out.2.2.2 b5 Hne.out).trans HS9.out) (fun hHeld => ?_)
  clear hK K y0 y1 y2 f0 f1 f2 l3
  try simp only [Act.put, List.getElem_toArray, List.getElem_cons_zero, List.getElem_cons_succ, List.setIfInBounds_toArray, List.set_cons_zero, List.set_cons_succ]
  refine wpAnyH_take (i := 10) (v := ?_) rfl (by kernel_rfl) (by kernel_rfl) (by kernel_rfl) (fun _ _ _ h => h) (Or.inl ⟨by rfl, ?_⟩) (by assumption) ?_
  rotate_left
  · intro w8 hSw; clear hSw; go_simp; (try with_reducible rfl)
  simp only [Act.put, List.getElem_toArray, List.getElem_cons_zero, List.getElem_cons_succ, List.setIfInBounds_toArray, List.set_cons_zero, List.set_cons_succ]
  refine wpAnyH_done (by kernel_rfl) ?_ _
  have u3 := HU.out.2.2.1
  have u0 := block_cell u3 0
  have u1 := block_cell u3 1
  have u2 := block_cell u3 2
  have ul := (Array.getElem?_eq_some_iff.1 u3).1
  simp at u0 u1 u2
  clear u3
  go_wp2_with fail
  refine bodyPost_ret (v := .tuple #[.agg #[.int .i64 N, .int .u64 last, .slice a3 Y.length c3], .bool true]) ?_ rfl ⟨N, last, Y, G9, a3, c3, (Hli.out.imp (fun h => h) (fun h x e => Nat.le_trans HB3.out.size (h x e))), rfl, HU.out.2.1⟩
  simp [results, Try.results18, go_sem, u0, u1, u2, ul]
end Go.Proofs.Ytedlplkomfiahaa
