/- Lemmas for BagOnce (Nh Ni). No statement of the seat is proved here. -/
import Derived.Test.YtbmkgcoolofmpaaO7
namespace Go.Proofs.Ytbmkgcoolofmpaa
set_option linter.unusedVariables false
set_option linter.unusedSimpArgs false
set_option linter.unusedSectionVars false
open Go Go.RowKit Go.Shelf
/-- a message that is being read -/
structure MsgA (T : TypeId) (W0 W : World) (q : Nat) (x : Mp) : Prop where
  blk : W.heap[q]? = some (.cells (mpA x) T (0, 0))
  ens : EnsO W W0.heap.size (.slice x.eo x.el.length x.ec) x.el
  mem : IzT W x.mo x.mc x.ml
  dat : BsT W x.ao x.ac x.d
theorem MsgA.lt {T : TypeId} {W0 W : World} {q : Nat} {x : Mp} (h : MsgA T W0 W q x) : q < W.heap.size := (Array.getElem?_eq_some_iff.1 h.blk).1
theorem MsgA.grown {T TR : TypeId} {W0 W W' : World} {q g : Nat} {x : Mp} (h : MsgA T W0 W q x) (hg : W.grownBy W' (some g)) (hT : elem? W g = some TR) (h1 : TR ≠ 5) (h2 : TR ≠ 88) (h3 : TR ≠ 3) (h4 : TR ≠ T) : MsgA T W0 W' q x :=
  ⟨(hg.block q h.lt (fun e => by
    simp only [Option.some.injEq] at e
    subst e
    rw [elem?_of h.blk] at hT
    exact h4 (by simpa using hT.symm))).trans h.blk, h.ens.grown hg hT h1 h2, h.mem.grown hg hT h3, h.dat.grown hg hT h1⟩
theorem MsgA.below {T : TypeId} {W0 W W' : World} {q : Nat} {x : Mp} (h : MsgA T W0 W q x) (hb : Below W.heap.size W W') : MsgA T W0 W' q x :=
  ⟨(hb.block q h.lt).trans h.blk, h.ens.below hb, h.mem.below hb, h.dat.below hb⟩
/-- an entry of its own is stored in -/
theorem MsgA.entry {T : TypeId} {W0 W W' : World} {q g : Nat} {x : Mp} (h : MsgA T W0 W q x) (hg : W.grownBy W' (some g)) (hT : elem? W g = some 88) (hne : (Value.slice x.eo x.el.length x.ec).ownBlock ≠ some g) (hT2 : T ≠ 88) : MsgA T W0 W' q x :=
  ⟨(hg.block q h.lt (fun e => by
    simp only [Option.some.injEq] at e
    subst e
    rw [elem?_of h.blk] at hT
    exact hT2 (by simpa using hT))).trans h.blk, ⟨h.ens.own.kept hg (.inr hne), fun y hy => (h.ens.data y hy).grown hg hT (by decide)⟩, h.mem.grown hg hT (by decide), h.dat.grown hg hT (by decide)⟩
/-- a field is stored -/
theorem MsgA.put {T : TypeId} {W0 W : World} {q : Nat} {x : Mp} (h : MsgA T W0 W q x) (hT1 : T ≠ 5) (hT2 : T ≠ 88) (hT3 : T ≠ 3) (j : Nat) (v : Value) (x' : Mp) (hc : (mpA x).setIfInBounds j v = mpA x')
    (hr : (x'.eo, x'.ec, x'.el, x'.mo, x'.mc, x'.ml, x'.ao, x'.ac, x'.d) = (x.eo, x.ec, x.el, x.mo, x.mc, x.ml, x.ao, x.ac, x.d)) : MsgA T W0 (W.setCell ⟨q, j, none⟩ v) q x' := by
  have hg := grown_set W q j v
  have hT := elem?_of h.blk
  have hb := block_set h.blk j v
  rw [hc] at hb
  have he := h.ens.grown hg hT hT1 hT2
  have hm := h.mem.grown hg hT hT3
  have hd := h.dat.grown hg hT hT1
  simp only [Prod.mk.injEq] at hr
  obtain ⟨r1, r2, r3, r4, r5, r6, r7, r8, r9⟩ := hr
  rw [← r1, ← r2, ← r3] at he
  rw [← r4, ← r5, ← r6] at hm
  rw [← r7, ← r8, ← r9] at hd
  exact ⟨hb, he, hm, hd⟩
/-- one entry more, stored -/
theorem MsgA.push {T : TypeId} {W0 W W' : World} {q : Nat} {x : Mp} {y : Ep} {eo' : Option Addr} {ec' : Nat} (h : MsgA T W0 W q x) (hT1 : T ≠ 5) (hT2 : T ≠ 88) (hT3 : T ≠ 3)
    (ho : W'.ownsRow W0.heap.size 88 3 (.slice eo' (x.el.length + 1) ec') (x.el.length + 1) (x.el.map epCells ++ [epCells y]).flatten) (hg : W.grownBy W' (Value.slice x.eo x.el.length x.ec).ownBlock) (hy : BsT W y.ao y.cap y.e.data) :
    W'.heap[q]? = some (.cells (mpA x) T (0, 0)) ∧ MsgA T W0 (W'.setCell ⟨q, 10, none⟩ (.slice eo' (x.el.length + 1) ec')) q { x with eo := eo', ec := ec', el := x.el ++ [y] } := by
  have key : ∀ b Tb, elem? W b = some Tb → Tb ≠ 88 → W'.heap[b]? = W.heap[b]? := fun b Tb hb hn => hg.block b (elem?_lt hb) (fun e => by
    have := own_elemE h.ens.own b e.symm
    rw [hb] at this
    exact hn (by simpa using this))
  have hq : W'.heap[q]? = some (.cells (mpA x) T (0, 0)) := (key q T (elem?_of h.blk) hT2).trans h.blk
  have hgs := grown_set W' q 10 (.slice eo' (x.el.length + 1) ec')
  have hTq := elem?_of hq
  have he := (h.ens.push ho hg hy).grown hgs hTq hT1 hT2
  have hm := (h.mem.kept (w' := W') fun b e => key b _ e (by decide)).grown hgs hTq hT3
  have hd := (h.dat.kept (w' := W') fun b e => key b _ e (by decide)).grown hgs hTq hT1
  have hb := block_set hq 10 (.slice eo' (x.el.length + 1) ec')
  refine ⟨hq, ⟨?_, ?_, hm, hd⟩⟩
  · rw [hb]
    simp [mpA]
  · have e1 : (x.el ++ [y]).length = x.el.length + 1 := by simp
    simp only [e1]
    exact he
/-- the snapshot is stored -/
theorem MsgA.snap {T : TypeId} {W0 W : World} {q : Nat} {x : Mp} {mo ao : Option Addr} {mc ac : Nat} {ml : List Int} {d : List UInt8} {i t : Int} (h : MsgA T W0 W q x) (hT1 : T ≠ 5) (hT2 : T ≠ 88) (hT3 : T ≠ 3) (hm : IzT W mo mc ml) (hd : BsT W ao ac d) :
    MsgA T W0 ((((W.setCell ⟨q, 11, none⟩ (.int .u64 i)).setCell ⟨q, 12, none⟩ (.int .u64 t)).setCell ⟨q, 13, none⟩ (.slice mo ml.length mc)).setCell ⟨q, 14, none⟩ (.slice ao d.length ac)) q { x with si := i, st := t, mo := mo, mc := mc, ml := ml, ao := ao, ac := ac, d := d } := by
  have hg : W.grownBy ((((W.setCell ⟨q, 11, none⟩ (.int .u64 i)).setCell ⟨q, 12, none⟩ (.int .u64 t)).setCell ⟨q, 13, none⟩ (.slice mo ml.length mc)).setCell ⟨q, 14, none⟩ (.slice ao d.length ac)) (some q) := grown_trans (grown_set _ _ _ _) (grown_trans (grown_set _ _ _ _) (grown_trans (grown_set _ _ _ _) (grown_set _ _ _ _)))
  have hT := elem?_of h.blk
  have hb := block_set (block_set (block_set (block_set h.blk 11 (.int .u64 i)) 12 (.int .u64 t)) 13 (.slice mo ml.length mc)) 14 (.slice ao d.length ac)
  exact ⟨by rw [hb]; simp [mpA], h.ens.grown hg hT hT1 hT2, hm.grown hg hT hT3, hd.grown hg hT hT1⟩
/-- what a step keeps: all old blocks but the reader's, the message's and those of entries -/
def KpM (p q : Nat) (W W' : World) : Prop := ∀ b, b < W.heap.size → b ≠ p → b ≠ q → elem? W b ≠ some 88 → W'.heap[b]? = W.heap[b]?
theorem KpM.refl (p q : Nat) (W : World) : KpM p q W W := fun _ _ _ _ _ => rfl
theorem KpM.trans {p q : Nat} {W W1 W2 : World} (h : KpM p q W W1) (h2 : KpM p q W1 W2) : KpM p q W W2 := fun b hb h3 h4 h5 => by
  have e := h b hb h3 h4 h5
  have hz : b < W1.heap.size := by
    have : W1.heap[b]? = some (W.heap[b]) := e.trans (Array.getElem?_eq_getElem hb)
    exact (Array.getElem?_eq_some_iff.1 this).1
  exact (h2 b hz h3 h4 (by rw [elem?_same e]; exact h5)).trans e
theorem KpM.of_below {p q : Nat} {W W' : World} (h : Below W.heap.size W W') : KpM p q W W' := fun b hb _ _ _ => h.block b hb
theorem KpM.of_grown {p q : Nat} {W W' : World} {row : Option Nat} (h : W.grownBy W' row) (hr : ∀ g, row = some g → g = p ∨ g = q ∨ elem? W g = some 88) : KpM p q W W' := fun b hb h1 h2 h3 => h.block b hb (fun e => by
  rcases hr b e.symm with h4 | h4 | h4
  · exact h1 h4
  · exact h2 h4
  · exact h3 h4)
theorem KpM.set (p q : Nat) (W : World) (j : Nat) (v : Value) : KpM p q W (W.setCell ⟨q, j, none⟩ v) := .of_grown (grown_set W q j v) fun g e => by cases e; exact .inr (.inl rfl)
theorem KpM.rd {p q : Nat} {W W' : World} (h : W.grownBy W' (some p)) : KpM p q W W' := .of_grown h fun g e => by cases e; exact .inl rfl
/-- a message of which only the head was read -/
def mI (K F D T : Int) : Ms := ⟨K, F, D, T, 0, 0, 0, 0, false, false, [], sn0⟩
/-- what fill leaves -/
def FillTold (TR T : TypeId) (W0 : World) (q p : Nat) (r : Ms × St) (W : World) (e : Ending) (W' : World) : Prop :=
  e = .returned (.tuple #[]) ∧ ∃ x', x'.v = r.1 ∧ MsgA T W0 W' q x' ∧ RdS TR W0 W' p r.2 ∧ KpM p q W W'
theorem gF_le (s : St) : (gF s).2.1.length ≤ s.1.length := gN_len 1 s
end Go.Proofs.Ytbmkgcoolofmpaa
namespace Go.Proofs.Ytbmkgcoolofmpaa
set_option linter.unusedVariables false
set_option linter.unusedSimpArgs false
set_option linter.unusedSectionVars false
open Go Go.RowKit Go.Shelf
set_option maxRecDepth 100000 in
set_option maxHeartbeats 8000000 in
theorem fill_1 (F D T : Int) {W0 W : World} {p q : Nat} {s0 : St} (hm : MsgA 37 W0 W q ⟨1, F, D, T, 0, 0, 0, 0, false, false, none, 0, [], 0, 0, none, 0, [], none, 0, []⟩) (hr : RdS 123 W0 W p s0) (hl : s0.1.length ≤ 70000000000000) (hqz : W0.heap.size ≤ q) (hqp : q ≠ p) :
    Calls Try.prog 50 #[.pointer (some ⟨q, 0, none⟩), .pointer (some ⟨p, 0, none⟩)] W (FillTold 123 37 W0 q p (gFields (mI 1 F D T) s0) W) := by
  have hk := KpM.refl p q W
  have c0 : W.cell? ⟨q, 0, none⟩ = some (.int .i64 1) := block_cell hm.blk 0
  have zq : q < W.heap.size := hm.lt
  go_enter Try.func50, Try.ntmps50
  obtain ⟨⟨xi, s1⟩, hs1⟩ : ∃ r, r = gN 576460752303423488 s0 := ⟨_, rfl⟩
  have hb1 : xi ≤ 576460752303423488 := by have := gN_le 576460752303423488 s0; rw [← hs1] at this; exact this
  have hl1 : s1.1.length ≤ 70000000000000 := by have := gN_len 576460752303423488 s0; rw [← hs1] at this; simp only at this; omega
  have hc := rds_num 576460752303423488 (by decide) hr
  rw [← hs1] at hc
  have Hc1 := Lib.hid hc
  have Hs1 := Lib.hid hs1
  clear hc hs1
  go_wp2_with fail
  refine Hc1.out.mono ?_
  rintro e W1 ⟨rfl, hr1, hg1⟩
  simp only at hr1 ⊢
  have hm1 := hm.grown hg1 hr.elem (by decide) (by decide) (by decide) (by decide)
  have hk1 := hk.trans (KpM.rd hg1)
  clear hm hr hk hg1 Hc1
  obtain ⟨⟨xl, s2⟩, hs2⟩ : ∃ r, r = gN 1152921504606846976 s1 := ⟨_, rfl⟩
  have hb2 : xl ≤ 1152921504606846976 := by have := gN_le 1152921504606846976 s1; rw [← hs2] at this; exact this
  have hl2 : s2.1.length ≤ 70000000000000 := by have := gN_len 1152921504606846976 s1; rw [← hs2] at this; simp only at this; omega
  have hc := rds_num 1152921504606846976 (by decide) hr1
  rw [← hs2] at hc
  have Hc2 := Lib.hid hc
  have Hs2 := Lib.hid hs2
  clear hc hs2
  go_wp2_with fail
  refine Hc2.out.mono ?_
  rintro e W2 ⟨rfl, hr2, hg2⟩
  simp only at hr2 ⊢
  have hm2 := hm1.grown hg2 hr1.elem (by decide) (by decide) (by decide) (by decide)
  have hk2 := hk1.trans (KpM.rd hg2)
  clear hm1 hr1 hk1 hg2 Hc2
  have c4 : W2.cell? ⟨q, 4, none⟩ = some (.int .u64 0) := block_cell hm2.blk 4
  have f4 : W2.frozen? ⟨q, 4, none⟩ = false := block_free hm2.blk 4
  have c5 : W2.cell? ⟨q, 5, none⟩ = some (.int .u64 0) := block_cell hm2.blk 5
  have f5 : W2.frozen? ⟨q, 5, none⟩ = false := block_free hm2.blk 5
  have hm3 := hm2.put (by decide) (by decide) (by decide) 4 (.int .u64 xi) ⟨1, F, D, T, xi, 0, 0, 0, false, false, none, 0, [], 0, 0, none, 0, [], none, 0, []⟩ rfl rfl
  have hr3 := hr2.store (i := 4) hqz hqp (.int .u64 xi)
  have hk3 := hk2.trans (KpM.set p q _ 4 (.int .u64 xi))
  clear hm2 hr2 hk2
  have hm4 := hm3.put (by decide) (by decide) (by decide) 5 (.int .u64 xl) ⟨1, F, D, T, xi, xl, 0, 0, false, false, none, 0, [], 0, 0, none, 0, [], none, 0, []⟩ rfl rfl
  have hr4 := hr3.store (i := 5) hqz hqp (.int .u64 xl)
  have hk4 := hk3.trans (KpM.set p q _ 5 (.int .u64 xl))
  clear hm3 hr3 hk3
  go_upto_region 15 with fail
  obtain ⟨W5, hW5⟩ : ∃ W5, W5 = ((W2.setCell ⟨q, 4, none⟩ (.int .u64 xi)).setCell ⟨q, 5, none⟩ (.int .u64 xl)) := ⟨_, rfl⟩
  rw [← hW5] at hm4 hr4 hk4 ⊢
  clear hW5
  clear c4 f4 c5 f5
  clear c0 zq
  have c0 : W5.cell? ⟨q, 0, none⟩ = some (.int .i64 1) := block_cell hm4.blk 0
  have zq : q < W5.heap.size := hm4.lt
  go_wp2_with fail
  refine bodyPost_end (results_none rfl _ _ _) rfl ?_
  have hfin : gFields (mI 1 F D T) s0 = ((⟨1, F, D, T, xi, xl, 0, 0, false, false, none, 0, [], 0, 0, none, 0, [], none, 0, []⟩ : Mp).v, s2) := by simp [gFields, mI, Mp.v, sn0, ← Hs1.out, ← Hs2.out]
  rw [hfin]
  exact ⟨rfl, _, rfl, hm4, hr4, hk4⟩
set_option maxRecDepth 100000 in
set_option maxHeartbeats 8000000 in
theorem fill_2 (F D T : Int) {W0 W : World} {p q : Nat} {s0 : St} (hm : MsgA 37 W0 W q ⟨2, F, D, T, 0, 0, 0, 0, false, false, none, 0, [], 0, 0, none, 0, [], none, 0, []⟩) (hr : RdS 123 W0 W p s0) (hl : s0.1.length ≤ 70000000000000) (hqz : W0.heap.size ≤ q) (hqp : q ≠ p) :
    Calls Try.prog 50 #[.pointer (some ⟨q, 0, none⟩), .pointer (some ⟨p, 0, none⟩)] W (FillTold 123 37 W0 q p (gFields (mI 2 F D T) s0) W) := by
  have hk := KpM.refl p q W
  have c0 : W.cell? ⟨q, 0, none⟩ = some (.int .i64 2) := block_cell hm.blk 0
  have zq : q < W.heap.size := hm.lt
  go_enter Try.func50, Try.ntmps50
  obtain ⟨⟨xo, s1⟩, hs1⟩ : ∃ r, r = gF s0 := ⟨_, rfl⟩
  have hl1 : s1.1.length ≤ 70000000000000 := by have := gF_le s0; rw [← hs1] at this; simp only at this; omega
  have hc := rds_flag hr
  rw [← hs1] at hc
  have Hc1 := Lib.hid hc
  have Hs1 := Lib.hid hs1
  clear hc hs1
  go_wp2_with fail
  refine Hc1.out.mono ?_
  rintro e W1 ⟨rfl, hr1, hg1⟩
  simp only at hr1 ⊢
  have hm1 := hm.grown hg1 hr.elem (by decide) (by decide) (by decide) (by decide)
  have hk1 := hk.trans (KpM.rd hg1)
  clear hm hr hk hg1 Hc1
  have c8 : W1.cell? ⟨q, 8, none⟩ = some (.bool false) := block_cell hm1.blk 8
  have f8 : W1.frozen? ⟨q, 8, none⟩ = false := block_free hm1.blk 8
  have hm2 := hm1.put (by decide) (by decide) (by decide) 8 (.bool xo) ⟨2, F, D, T, 0, 0, 0, 0, xo, false, none, 0, [], 0, 0, none, 0, [], none, 0, []⟩ rfl rfl
  have hr2 := hr1.store (i := 8) hqz hqp (.bool xo)
  have hk2 := hk1.trans (KpM.set p q _ 8 (.bool xo))
  clear hm1 hr1 hk1
  go_upto_region 15 with fail
  obtain ⟨W3, hW3⟩ : ∃ W3, W3 = (W1.setCell ⟨q, 8, none⟩ (.bool xo)) := ⟨_, rfl⟩
  rw [← hW3] at hm2 hr2 hk2 ⊢
  clear hW3
  clear c8 f8
  clear c0 zq
  have c0 : W3.cell? ⟨q, 0, none⟩ = some (.int .i64 2) := block_cell hm2.blk 0
  have zq : q < W3.heap.size := hm2.lt
  go_wp2_with fail
  refine bodyPost_end (results_none rfl _ _ _) rfl ?_
  have hfin : gFields (mI 2 F D T) s0 = ((⟨2, F, D, T, 0, 0, 0, 0, xo, false, none, 0, [], 0, 0, none, 0, [], none, 0, []⟩ : Mp).v, s1) := by simp [gFields, mI, Mp.v, sn0, ← Hs1.out]
  rw [hfin]
  exact ⟨rfl, _, rfl, hm2, hr2, hk2⟩
set_option maxRecDepth 100000 in
set_option maxHeartbeats 8000000 in
theorem fill_4 (F D T : Int) {W0 W : World} {p q : Nat} {s0 : St} (hm : MsgA 37 W0 W q ⟨4, F, D, T, 0, 0, 0, 0, false, false, none, 0, [], 0, 0, none, 0, [], none, 0, []⟩) (hr : RdS 123 W0 W p s0) (hl : s0.1.length ≤ 70000000000000) (hqz : W0.heap.size ≤ q) (hqp : q ≠ p) :
    Calls Try.prog 50 #[.pointer (some ⟨q, 0, none⟩), .pointer (some ⟨p, 0, none⟩)] W (FillTold 123 37 W0 q p (gFields (mI 4 F D T) s0) W) := by
  have hk := KpM.refl p q W
  have c0 : W.cell? ⟨q, 0, none⟩ = some (.int .i64 4) := block_cell hm.blk 0
  have zq : q < W.heap.size := hm.lt
  go_enter Try.func50, Try.ntmps50
  obtain ⟨⟨xo, s1⟩, hs1⟩ : ∃ r, r = gF s0 := ⟨_, rfl⟩
  have hl1 : s1.1.length ≤ 70000000000000 := by have := gF_le s0; rw [← hs1] at this; simp only at this; omega
  have hc := rds_flag hr
  rw [← hs1] at hc
  have Hc1 := Lib.hid hc
  have Hs1 := Lib.hid hs1
  clear hc hs1
  go_wp2_with fail
  refine Hc1.out.mono ?_
  rintro e W1 ⟨rfl, hr1, hg1⟩
  simp only at hr1 ⊢
  have hm1 := hm.grown hg1 hr.elem (by decide) (by decide) (by decide) (by decide)
  have hk1 := hk.trans (KpM.rd hg1)
  clear hm hr hk hg1 Hc1
  have c8 : W1.cell? ⟨q, 8, none⟩ = some (.bool false) := block_cell hm1.blk 8
  have f8 : W1.frozen? ⟨q, 8, none⟩ = false := block_free hm1.blk 8
  have hm2 := hm1.put (by decide) (by decide) (by decide) 8 (.bool xo) ⟨4, F, D, T, 0, 0, 0, 0, xo, false, none, 0, [], 0, 0, none, 0, [], none, 0, []⟩ rfl rfl
  have hr2 := hr1.store (i := 8) hqz hqp (.bool xo)
  have hk2 := hk1.trans (KpM.set p q _ 8 (.bool xo))
  clear hm1 hr1 hk1
  go_upto_region 15 with fail
  obtain ⟨W3, hW3⟩ : ∃ W3, W3 = (W1.setCell ⟨q, 8, none⟩ (.bool xo)) := ⟨_, rfl⟩
  rw [← hW3] at hm2 hr2 hk2 ⊢
  clear hW3
  clear c8 f8
  clear c0 zq
  have c0 : W3.cell? ⟨q, 0, none⟩ = some (.int .i64 4) := block_cell hm2.blk 0
  have zq : q < W3.heap.size := hm2.lt
  go_wp2_with fail
  refine bodyPost_end (results_none rfl _ _ _) rfl ?_
  have hfin : gFields (mI 4 F D T) s0 = ((⟨4, F, D, T, 0, 0, 0, 0, xo, false, none, 0, [], 0, 0, none, 0, [], none, 0, []⟩ : Mp).v, s1) := by simp [gFields, mI, Mp.v, sn0, ← Hs1.out]
  rw [hfin]
  exact ⟨rfl, _, rfl, hm2, hr2, hk2⟩
set_option maxRecDepth 100000 in
set_option maxHeartbeats 8000000 in
theorem fill_3 (F D T : Int) {W0 W : World} {p q : Nat} {s0 : St} (hm : MsgA 37 W0 W q ⟨3, F, D, T, 0, 0, 0, 0, false, false, none, 0, [], 0, 0, none, 0, [], none, 0, []⟩) (hr : RdS 123 W0 W p s0) (hl : s0.1.length ≤ 70000000000000) (hqz : W0.heap.size ≤ q) (hqp : q ≠ p) :
    Calls Try.prog 50 #[.pointer (some ⟨q, 0, none⟩), .pointer (some ⟨p, 0, none⟩)] W (FillTold 123 37 W0 q p (gFields (mI 3 F D T) s0) W) := by
  have hk := KpM.refl p q W
  have c0 : W.cell? ⟨q, 0, none⟩ = some (.int .i64 3) := block_cell hm.blk 0
  have zq : q < W.heap.size := hm.lt
  go_enter Try.func50, Try.ntmps50
  obtain ⟨⟨xi, s1⟩, hs1⟩ : ∃ r, r = gN 576460752303423488 s0 := ⟨_, rfl⟩
  have hb1 : xi ≤ 576460752303423488 := by have := gN_le 576460752303423488 s0; rw [← hs1] at this; exact this
  have hl1 : s1.1.length ≤ 70000000000000 := by have := gN_len 576460752303423488 s0; rw [← hs1] at this; simp only at this; omega
  have hc := rds_num 576460752303423488 (by decide) hr
  rw [← hs1] at hc
  have Hc1 := Lib.hid hc
  have Hs1 := Lib.hid hs1
  clear hc hs1
  go_wp2_with fail
  refine Hc1.out.mono ?_
  rintro e W1 ⟨rfl, hr1, hg1⟩
  simp only at hr1 ⊢
  have hm1 := hm.grown hg1 hr.elem (by decide) (by decide) (by decide) (by decide)
  have hk1 := hk.trans (KpM.rd hg1)
  clear hm hr hk hg1 Hc1
  obtain ⟨⟨xl, s2⟩, hs2⟩ : ∃ r, r = gN 1152921504606846976 s1 := ⟨_, rfl⟩
  have hb2 : xl ≤ 1152921504606846976 := by have := gN_le 1152921504606846976 s1; rw [← hs2] at this; exact this
  have hl2 : s2.1.length ≤ 70000000000000 := by have := gN_len 1152921504606846976 s1; rw [← hs2] at this; simp only at this; omega
  have hc := rds_num 1152921504606846976 (by decide) hr1
  rw [← hs2] at hc
  have Hc2 := Lib.hid hc
  have Hs2 := Lib.hid hs2
  clear hc hs2
  go_wp2_with fail
  refine Hc2.out.mono ?_
  rintro e W2 ⟨rfl, hr2, hg2⟩
  simp only at hr2 ⊢
  have hm2 := hm1.grown hg2 hr1.elem (by decide) (by decide) (by decide) (by decide)
  have hk2 := hk1.trans (KpM.rd hg2)
  clear hm1 hr1 hk1 hg2 Hc2
  have c4 : W2.cell? ⟨q, 4, none⟩ = some (.int .u64 0) := block_cell hm2.blk 4
  have f4 : W2.frozen? ⟨q, 4, none⟩ = false := block_free hm2.blk 4
  have c5 : W2.cell? ⟨q, 5, none⟩ = some (.int .u64 0) := block_cell hm2.blk 5
  have f5 : W2.frozen? ⟨q, 5, none⟩ = false := block_free hm2.blk 5
  have hm3 := hm2.put (by decide) (by decide) (by decide) 4 (.int .u64 xi) ⟨3, F, D, T, xi, 0, 0, 0, false, false, none, 0, [], 0, 0, none, 0, [], none, 0, []⟩ rfl rfl
  have hr3 := hr2.store (i := 4) hqz hqp (.int .u64 xi)
  have hk3 := hk2.trans (KpM.set p q _ 4 (.int .u64 xi))
  clear hm2 hr2 hk2
  have hm4 := hm3.put (by decide) (by decide) (by decide) 5 (.int .u64 xl) ⟨3, F, D, T, xi, xl, 0, 0, false, false, none, 0, [], 0, 0, none, 0, [], none, 0, []⟩ rfl rfl
  have hr4 := hr3.store (i := 5) hqz hqp (.int .u64 xl)
  have hk4 := hk3.trans (KpM.set p q _ 5 (.int .u64 xl))
  clear hm3 hr3 hk3
  go_upto_region 15 with fail
  obtain ⟨W5, hW5⟩ : ∃ W5, W5 = ((W2.setCell ⟨q, 4, none⟩ (.int .u64 xi)).setCell ⟨q, 5, none⟩ (.int .u64 xl)) := ⟨_, rfl⟩
  rw [← hW5] at hm4 hr4 hk4 ⊢
  clear hW5
  clear c4 f4 c5 f5
  clear c0 zq
  have c0 : W5.cell? ⟨q, 0, none⟩ = some (.int .i64 3) := block_cell hm4.blk 0
  have zq : q < W5.heap.size := hm4.lt
  obtain ⟨⟨xf, s6⟩, hs6⟩ : ∃ r, r = gF s2 := ⟨_, rfl⟩
  have hl6 : s6.1.length ≤ 70000000000000 := by have := gF_le s2; rw [← hs6] at this; simp only at this; omega
  have hc := rds_flag hr4
  rw [← hs6] at hc
  have Hc6 := Lib.hid hc
  have Hs6 := Lib.hid hs6
  clear hc hs6
  go_wp2_with fail
  refine Hc6.out.mono ?_
  rintro e W6 ⟨rfl, hr6, hg6⟩
  simp only at hr6 ⊢
  have hm6 := hm4.grown hg6 hr4.elem (by decide) (by decide) (by decide) (by decide)
  have hk6 := hk4.trans (KpM.rd hg6)
  clear hm4 hr4 hk4 hg6 Hc6
  clear c0 zq
  have c9 : W6.cell? ⟨q, 9, none⟩ = some (.bool false) := block_cell hm6.blk 9
  have f9 : W6.frozen? ⟨q, 9, none⟩ = false := block_free hm6.blk 9
  have hm7 := hm6.put (by decide) (by decide) (by decide) 9 (.bool xf) ⟨3, F, D, T, xi, xl, 0, 0, false, xf, none, 0, [], 0, 0, none, 0, [], none, 0, []⟩ rfl rfl
  have hr7 := hr6.store (i := 9) hqz hqp (.bool xf)
  have hk7 := hk6.trans (KpM.set p q _ 9 (.bool xf))
  clear hm6 hr6 hk6
  go_wp2_with fail
  refine bodyPost_end (results_none rfl _ _ _) rfl ?_
  have hfin : gFields (mI 3 F D T) s0 = ((⟨3, F, D, T, xi, xl, 0, 0, false, xf, none, 0, [], 0, 0, none, 0, [], none, 0, []⟩ : Mp).v, s6) := by simp [gFields, mI, Mp.v, sn0, ← Hs1.out, ← Hs2.out, ← Hs6.out]
  rw [hfin]
  exact ⟨rfl, _, rfl, hm7, hr7, hk7⟩
set_option maxRecDepth 100000 in
set_option maxHeartbeats 8000000 in
theorem fill_6 (F D T : Int) {W0 W : World} {p q : Nat} {s0 : St} (hm : MsgA 37 W0 W q ⟨6, F, D, T, 0, 0, 0, 0, false, false, none, 0, [], 0, 0, none, 0, [], none, 0, []⟩) (hr : RdS 123 W0 W p s0) (hl : s0.1.length ≤ 70000000000000) (hqz : W0.heap.size ≤ q) (hqp : q ≠ p) :
    Calls Try.prog 50 #[.pointer (some ⟨q, 0, none⟩), .pointer (some ⟨p, 0, none⟩)] W (FillTold 123 37 W0 q p (gFields (mI 6 F D T) s0) W) := by
  have hk := KpM.refl p q W
  have c0 : W.cell? ⟨q, 0, none⟩ = some (.int .i64 6) := block_cell hm.blk 0
  have zq : q < W.heap.size := hm.lt
  go_enter Try.func50, Try.ntmps50
  obtain ⟨⟨xo, s1⟩, hs1⟩ : ∃ r, r = gF s0 := ⟨_, rfl⟩
  have hl1 : s1.1.length ≤ 70000000000000 := by have := gF_le s0; rw [← hs1] at this; simp only at this; omega
  have hc := rds_flag hr
  rw [← hs1] at hc
  have Hc1 := Lib.hid hc
  have Hs1 := Lib.hid hs1
  clear hc hs1
  go_wp2_with fail
  refine Hc1.out.mono ?_
  rintro e W1 ⟨rfl, hr1, hg1⟩
  simp only at hr1 ⊢
  have hm1 := hm.grown hg1 hr.elem (by decide) (by decide) (by decide) (by decide)
  have hk1 := hk.trans (KpM.rd hg1)
  clear hm hr hk hg1 Hc1
  have c8 : W1.cell? ⟨q, 8, none⟩ = some (.bool false) := block_cell hm1.blk 8
  have f8 : W1.frozen? ⟨q, 8, none⟩ = false := block_free hm1.blk 8
  have hm2 := hm1.put (by decide) (by decide) (by decide) 8 (.bool xo) ⟨6, F, D, T, 0, 0, 0, 0, xo, false, none, 0, [], 0, 0, none, 0, [], none, 0, []⟩ rfl rfl
  have hr2 := hr1.store (i := 8) hqz hqp (.bool xo)
  have hk2 := hk1.trans (KpM.set p q _ 8 (.bool xo))
  clear hm1 hr1 hk1
  go_upto_region 15 with fail
  obtain ⟨W3, hW3⟩ : ∃ W3, W3 = (W1.setCell ⟨q, 8, none⟩ (.bool xo)) := ⟨_, rfl⟩
  rw [← hW3] at hm2 hr2 hk2 ⊢
  clear hW3
  clear c8 f8
  clear c0 zq
  have c0 : W3.cell? ⟨q, 0, none⟩ = some (.int .i64 6) := block_cell hm2.blk 0
  have zq : q < W3.heap.size := hm2.lt
  obtain ⟨⟨xi, s4⟩, hs4⟩ : ∃ r, r = gN 576460752303423488 s1 := ⟨_, rfl⟩
  have hb4 : xi ≤ 576460752303423488 := by have := gN_le 576460752303423488 s1; rw [← hs4] at this; exact this
  have hl4 : s4.1.length ≤ 70000000000000 := by have := gN_len 576460752303423488 s1; rw [← hs4] at this; simp only at this; omega
  have hc := rds_num 576460752303423488 (by decide) hr2
  rw [← hs4] at hc
  have Hc4 := Lib.hid hc
  have Hs4 := Lib.hid hs4
  clear hc hs4
  go_wp2_with fail
  refine Hc4.out.mono ?_
  rintro e W4 ⟨rfl, hr4, hg4⟩
  simp only at hr4 ⊢
  have hm4 := hm2.grown hg4 hr2.elem (by decide) (by decide) (by decide) (by decide)
  have hk4 := hk2.trans (KpM.rd hg4)
  clear hm2 hr2 hk2 hg4 Hc4
  obtain ⟨⟨xr, s5⟩, hs5⟩ : ∃ r, r = gN 1152921504606846976 s4 := ⟨_, rfl⟩
  have hb5 : xr ≤ 1152921504606846976 := by have := gN_le 1152921504606846976 s4; rw [← hs5] at this; exact this
  have hl5 : s5.1.length ≤ 70000000000000 := by have := gN_len 1152921504606846976 s4; rw [← hs5] at this; simp only at this; omega
  have hc := rds_num 1152921504606846976 (by decide) hr4
  rw [← hs5] at hc
  have Hc5 := Lib.hid hc
  have Hs5 := Lib.hid hs5
  clear hc hs5
  go_wp2_with fail
  refine Hc5.out.mono ?_
  rintro e W5 ⟨rfl, hr5, hg5⟩
  simp only at hr5 ⊢
  have hm5 := hm4.grown hg5 hr4.elem (by decide) (by decide) (by decide) (by decide)
  have hk5 := hk4.trans (KpM.rd hg5)
  clear hm4 hr4 hk4 hg5 Hc5
  clear c0 zq
  have c4 : W5.cell? ⟨q, 4, none⟩ = some (.int .u64 0) := block_cell hm5.blk 4
  have f4 : W5.frozen? ⟨q, 4, none⟩ = false := block_free hm5.blk 4
  have c7 : W5.cell? ⟨q, 7, none⟩ = some (.int .u64 0) := block_cell hm5.blk 7
  have f7 : W5.frozen? ⟨q, 7, none⟩ = false := block_free hm5.blk 7
  have hm6 := hm5.put (by decide) (by decide) (by decide) 4 (.int .u64 xi) ⟨6, F, D, T, xi, 0, 0, 0, xo, false, none, 0, [], 0, 0, none, 0, [], none, 0, []⟩ rfl rfl
  have hr6 := hr5.store (i := 4) hqz hqp (.int .u64 xi)
  have hk6 := hk5.trans (KpM.set p q _ 4 (.int .u64 xi))
  clear hm5 hr5 hk5
  have hm7 := hm6.put (by decide) (by decide) (by decide) 7 (.int .u64 xr) ⟨6, F, D, T, xi, 0, 0, xr, xo, false, none, 0, [], 0, 0, none, 0, [], none, 0, []⟩ rfl rfl
  have hr7 := hr6.store (i := 7) hqz hqp (.int .u64 xr)
  have hk7 := hk6.trans (KpM.set p q _ 7 (.int .u64 xr))
  clear hm6 hr6 hk6
  go_wp2_with fail
  refine bodyPost_end (results_none rfl _ _ _) rfl ?_
  have hfin : gFields (mI 6 F D T) s0 = ((⟨6, F, D, T, xi, 0, 0, xr, xo, false, none, 0, [], 0, 0, none, 0, [], none, 0, []⟩ : Mp).v, s5) := by simp [gFields, mI, Mp.v, sn0, ← Hs1.out, ← Hs4.out, ← Hs5.out]
  rw [hfin]
  exact ⟨rfl, _, rfl, hm7, hr7, hk7⟩
set_option maxRecDepth 100000 in
set_option maxHeartbeats 8000000 in
theorem fill_o (K : Int) (F D T : Int) {W0 W : World} {p q : Nat} {s0 : St} (hm : MsgA 37 W0 W q ⟨K, F, D, T, 0, 0, 0, 0, false, false, none, 0, [], 0, 0, none, 0, [], none, 0, []⟩) (hr : RdS 123 W0 W p s0) (hl : s0.1.length ≤ 70000000000000) (hqz : W0.heap.size ≤ q) (hqp : q ≠ p) (n1 : K ≠ 1) (n2 : K ≠ 2) (n3 : K ≠ 3) (n4 : K ≠ 4) (n5 : K ≠ 5) (n6 : K ≠ 6) (n7 : K ≠ 7) :
    Calls Try.prog 50 #[.pointer (some ⟨q, 0, none⟩), .pointer (some ⟨p, 0, none⟩)] W (FillTold 123 37 W0 q p (gFields (mI K F D T) s0) W) := by
  have hk := KpM.refl p q W
  have c0 : W.cell? ⟨q, 0, none⟩ = some (.int .i64 K) := block_cell hm.blk 0
  have zq : q < W.heap.size := hm.lt
  have e1 : (K == 1) = false := by simpa using n1
  have e2 : (K == 2) = false := by simpa using n2
  have e3 : (K == 3) = false := by simpa using n3
  have e4 : (K == 4) = false := by simpa using n4
  have e5 : (K == 5) = false := by simpa using n5
  have e6 : (K == 6) = false := by simpa using n6
  have e7 : (K == 7) = false := by simpa using n7
  have hfin : gFields (mI K F D T) s0 = (mI K F D T, s0) := by simp [gFields, mI, n1, n2, n3, n4, n5, n6, n7]
  have Hfin := Lib.hid hfin
  clear n1 n2 n3 n4 n5 n6 n7 hfin
  go_enter Try.func50, Try.ntmps50
  go_wp2_with fail
  refine bodyPost_end (results_none rfl _ _ _) rfl ?_
  rw [Hfin.out]
  exact ⟨rfl, _, rfl, hm, hr, hk⟩
end Go.Proofs.Ytbmkgcoolofmpaa
