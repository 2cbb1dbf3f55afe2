/- Almanac's Free: the iterator. No statement of the seat is proved here. -/
import Derived.Test.YtdiahfebiafodaaAlmB
import Derived.RangeFuncNested
import Derived.RangeFuncBound
import Derived.RangeFuncCalls
import Derived.RangeFuncLeaves
import Derived.Shelf.Abstract
import Derived.Shelf.RegionOpen
import Derived.OwnWalkIn
import Derived.TacticsInMore
import Derived.LoopNIn
import Derived.LoopIn
import Derived.Sort.QuietIn
namespace Go.Proofs.Ytdiahfebiafodaa
set_option linter.unusedVariables false
set_option linter.unusedSimpArgs false
set_option linter.unusedSectionVars false
open Go Go.RowKit Go.Shelf
attribute [local go_sem] Oper.semAt_some

/-- what lies between two instants and in no span -/
def refF : List Sp → Int → Int → List Sp
  | [], f, t => if f < t then [⟨f, t⟩] else []
  | s :: l, f, t => (if f < s.a ∧ f < t then [⟨f, if t < s.a then t else s.a⟩] else []) ++ refF l (if f < s.b then s.b else f) t
def lo0 (f : Int) : Int := if f < 0 then 0 else f
def hi0 (t : Int) : Int := if 1125899906842624 < t then 1125899906842624 else t
def freeL (l : List Sp) (f t : Int) : List Sp := refF l (lo0 f) (hi0 t)

theorem refF_len (l : List Sp) : ∀ f t, (refF l f t).length ≤ l.length + 1 := by
  induction l with
  | nil => intro f t; unfold refF; split <;> simp
  | cons s l ih =>
    intro f t
    unfold refF
    have := ih (if f < s.b then s.b else f) t
    simp only [List.length_append, List.length_cons]
    split
    · simp; omega
    · simp; omega
theorem refF_done (l : List Sp) : ∀ f t, t ≤ f → refF l f t = [] := by
  induction l with
  | nil => intro f t h; unfold refF; rw [if_neg (by omega)]
  | cons s l ih =>
    intro f t h
    unfold refF
    rw [if_neg (by omega), ih _ _ (by split <;> omega)]; rfl
theorem refF_skip (s : Sp) (l : List Sp) (f t : Int) (h1 : s.a < s.b) (h2 : s.b ≤ f) : refF (s :: l) f t = refF l f t := by
  rw [refF, if_neg (by omega), if_neg (by omega)]; rfl
theorem right_lt {s : Sp} (h : s.right = true) : s.a < s.b ∧ 0 ≤ s.a ∧ s.b ≤ 1125899906842624 := by
  unfold Sp.right at h
  simp only [Bool.and_eq_true, decide_eq_true_eq] at h
  exact ⟨h.1.2, h.1.1, h.2⟩
theorem next_after (l : List Sp) (f : Int) (h : nextF l f = true) : f < (nextR l f).b := by
  unfold nextF at h
  simp only [decide_eq_true_eq] at h
  unfold nextR
  rw [List.getD_eq_getElem?_getD, List.getElem?_eq_getElem h]
  have h3 : l.findIdx (aft f) < l.length := h
  have h2 := List.findIdx_getElem (p := aft f) (xs := l) (w := h3)
  unfold aft at h2
  simp only [decide_eq_true_eq] at h2
  exact h2
/-- one step of the program's way -/
theorem refF_step (l : List Sp) (f t : Int) (hft : f < t) : ∀ c, chain c l = true →
    refF l f t = if nextF l f = true then (if f < (if t < (nextR l f).a then t else (nextR l f).a) then [⟨f, if t < (nextR l f).a then t else (nextR l f).a⟩] else []) ++ refF l (nextR l f).b t else [⟨f, t⟩] := by
  induction l with
  | nil => intro c _; rw [refF, if_pos hft]; rfl
  | cons s l ih =>
    intro c h
    unfold chain at h
    simp only [Bool.and_eq_true, decide_eq_true_eq] at h
    obtain ⟨⟨h1, h2⟩, h3⟩ := h
    obtain ⟨h4, -, -⟩ := right_lt h1
    by_cases hb : f < s.b
    · have ha : aft f s = true := by unfold aft; simpa using hb
      have e1 : nextI (s :: l) f = 0 := by unfold nextI; rw [List.findIdx_cons, ha]; rfl
      have e2 : nextF (s :: l) f = true := by unfold nextF; rw [e1]; simp
      have e3 : nextR (s :: l) f = s := by unfold nextR; rw [e1]; rfl
      rw [if_pos e2, e3, refF_skip s l s.b t h4 (Int.le_refl _), refF, if_pos hb]
      congr 1
      by_cases hs : f < s.a
      · by_cases ht : t < s.a
        · rw [if_pos ⟨hs, hft⟩, if_pos ht, if_pos hft]
        · rw [if_pos ⟨hs, hft⟩, if_neg ht, if_pos hs]
      · rw [if_neg (by omega), if_neg (by rw [if_neg (by omega)]; exact hs)]
    · have ha : aft f s = false := by unfold aft; simpa using hb
      have e1 : nextI (s :: l) f = nextI l f + 1 := by unfold nextI; rw [List.findIdx_cons, ha]; rfl
      have e2 : nextF (s :: l) f = nextF l f := by unfold nextF; rw [e1]; simp
      have e3 : nextR (s :: l) f = nextR l f := by unfold nextR; rw [e1]; rfl
      rw [refF_skip s l f t h4 (by omega), e2, e3, ih s.b h3]
      by_cases hn : nextF l f = true
      · have hx := next_after l f hn
        rw [if_pos hn, if_pos hn, refF_skip s l _ t h4 (by omega)]
      · rw [if_neg hn, if_neg hn]

def encSp (s : Sp) : Array Value := #[.agg #[.int .i64 s.a, .int .i64 s.b]]
theorem row_chain {l : List Sp} (h : rowErr l = 0) : chain 0 l = true ∧ l.length ≤ 32 := by
  unfold rowErr at h
  split at h
  · cases h
  · split at h
    · rename_i h1 h2; exact ⟨h2, by omega⟩
    · cases h

/-- the block of the slice that a variable's box holds -/
def ptr9 (B : Nat) (W : World) : Option Nat := match W.heap[B]? with
  | some (.cells cs _ _) => (cs[0]?.bind Value.ownBlock)
  | _ => none
theorem ptr9_same {B : Nat} {W W' : World} (h : W'.heap[B]? = W.heap[B]?) : ptr9 B W' = ptr9 B W := by unfold ptr9; rw [h]
theorem ptr9_box {B : Nat} {W : World} {T : TypeId} {v : Value} (h : Boxed W B T v) : ptr9 B W = v.ownBlock := by
  unfold ptr9; rw [show W.heap[B]? = _ from h]; rfl
/-- from one world to another all cells stay, but for a variable's box and the block of the slice that it holds -/
structure Kp9 (B : Nat) (W W' : World) : Prop where
  size : W.heap.size ≤ W'.heap.size
  keep : ∀ k cs T m, k ≠ B → ptr9 B W ≠ some k → W.heap[k]? = some (.cells cs T m) → W'.heap[k]? = some (.cells cs T m)
  ptr : ∀ g, ptr9 B W' = some g → ptr9 B W = some g ∨ (W.heap.size ≤ g ∧ g < W'.heap.size)
theorem Kp9.trans {B : Nat} {W W' W'' : World} (h : Kp9 B W W') (h2 : Kp9 B W' W'') : Kp9 B W W'' :=
  ⟨Nat.le_trans h.size h2.size, fun k cs T m hk hp hc => h2.keep k cs T m hk (fun e => by
      have hlt : k < W.heap.size := (Array.getElem?_eq_some_iff.1 hc).1
      rcases h.ptr k e with e1 | ⟨e1, _⟩
      · exact hp e1
      · omega) (h.keep k cs T m hk hp hc),
    fun g e => by
      have hz := h2.size
      rcases h2.ptr g e with e1 | ⟨e1, e2⟩
      · rcases h.ptr g e1 with e3 | ⟨e3, e4⟩
        · exact .inl e3
        · exact .inr ⟨e3, by omega⟩
      · exact .inr ⟨Nat.le_trans h.size e1, e2⟩⟩
theorem Kp9.of_below {B : Nat} {W W' : World} (hB : B < W.heap.size) (h : Below W.heap.size W W') : Kp9 B W W' :=
  ⟨h.size, fun k cs T m _ _ hc => by rw [h.block k (Array.getElem?_eq_some_iff.1 hc).1]; exact hc,
    fun g e => by rw [ptr9_same (h.block B hB)] at e; exact .inl e⟩
theorem Kp9.put {B n : Nat} (hB : B < n) (W : World) (l : Nat) (o o' : Obj) (hl : n ≤ l) (h : W.heap[l]? = some o) (ho : o.isCells = false) (_ : o.isWalk = false) : Kp9 B W (W.putObj l o') :=
  ⟨by simp [World.putObj], fun k cs T m _ _ hc => by
      have hk : l ≠ k := fun e => by subst e; rw [hc] at h; cases h; cases ho
      rw [World.putObj_heap_other (Ne.symm hk)]; exact hc,
    fun g e => by rw [ptr9_same (World.putObj_heap_other (by omega))] at e; exact .inl e⟩
/-- a step that writes the slice's row -/
theorem Kp9.row {B : Nat} {W W' : World} {T : TypeId} {v : Value} (hv : Boxed W B T v) (hv' : Boxed W' B T v) (hg : W.grownBy W' v.ownBlock) : Kp9 B W W' :=
  ⟨hg.size, fun k cs T m hk hp hc => by
      rw [hg.block k (Array.getElem?_eq_some_iff.1 hc).1 (fun e => hp (by rw [ptr9_box hv]; exact e.symm))]; exact hc,
    fun g e => by rw [ptr9_box hv'] at e; rw [ptr9_box hv]; exact .inl e⟩
/-- a store into the box -/
theorem Kp9.store {B : Nat} {W : World} {T : TypeId} {v u : Value} (hv : Boxed W B T v) {n : Nat} (hu : ∀ g, u.ownBlock = some g → v.ownBlock = some g ∨ (n ≤ g ∧ g < W.heap.size)) {W0 : World} (h0 : Kp9 B W0 W) (hv0 : ptr9 B W0 = v.ownBlock) (hn : W0.heap.size ≤ n) :
    Kp9 B W0 (W.setCell ⟨B, 0, none⟩ u) :=
  ⟨by simp only [World.size_setCell]; exact h0.size, fun k cs T m hk hp hc => by rw [heap_setCell_other W ⟨B, 0, none⟩ k u hk]; exact h0.keep k cs T m hk hp hc,
    fun g e => by
      rw [ptr9_box (hv.set u)] at e
      rw [hv0]
      rcases hu g e with e1 | ⟨e1, e2⟩
      · exact .inl e1
      · exact .inr ⟨by omega, by simp only [World.size_setCell]; exact e2⟩⟩
theorem cell_cells {w : World} {k i : Nat} {v : Value} (h : w.cell? ⟨k, i, none⟩ = some v) : ∃ cs T m, w.heap[k]? = some (.cells cs T m) := by
  unfold World.cell? at h
  split at h
  · rename_i cs T m h2; exact ⟨cs, T, m, h2⟩
  · cases h
theorem Kp9.cell {B : Nat} {W W' : World} {k i : Nat} {v : Value} (h : Kp9 B W W') (hk : k ≠ B) (hp : ptr9 B W ≠ some k) (hc : W.cell? ⟨k, i, none⟩ = some v) : W'.cell? ⟨k, i, none⟩ = some v := by
  obtain ⟨cs, T, m, h1⟩ := cell_cells hc
  have h2 := h.keep k cs T m hk hp h1
  rw [World.cell?_of_block (w := W) (by rw [h1]; exact h2)]; exact hc
/-- .. from a world in which the box is empty, what lay ahead of the box -/
theorem Kp9.cell0 {B : Nat} {W0 W W' : World} {k i : Nat} {v : Value} (h : Kp9 B W W') (hp : ptr9 B W = none) (h0 : Below W0.heap.size W0 W) (hB : W0.heap.size ≤ B) (hc : W0.cell? ⟨k, i, none⟩ = some v) : W'.cell? ⟨k, i, none⟩ = some v := by
  have hlt := cell?_lt hc
  simp only at hlt
  refine h.cell (by omega) (by rw [hp]; simp) ?_
  rw [h0.cell (p := ⟨k, i, none⟩) hlt]; exact hc
theorem Kp9.sps {B : Nat} {W0 W W' : World} {ao : Option Addr} {cap : Nat} {l : List Sp} (h : Kp9 B W W') (hp : ptr9 B W = none) (h0 : Below W0.heap.size W0 W) (hB : W0.heap.size ≤ B) (hs : Sps W0 ao cap l) : Sps W' ao cap l :=
  ⟨hs.len, hs.le, hs.max, hs.none, fun j u hu => by
    obtain ⟨b, off, e, hc⟩ := hs.cell j u hu
    exact ⟨b, off, e, h.cell0 hp h0 hB hc⟩⟩
theorem Kp9.alm {B : Nat} {W0 W W' : World} {v : Value} {l : List Sp} (h : Kp9 B W W') (hp : ptr9 B W = none) (h0 : Below W0.heap.size W0 W) (hB : W0.heap.size ≤ B) (ha : Alm W0 v l) : Alm W' v l := by
  rcases ha with ha | ⟨g, ao, cap, h1, h2, h3⟩
  · exact .inl ha
  · exact .inr ⟨g, ao, cap, h1, h.cell0 hp h0 hB h2, h.sps hp h0 hB h3⟩

set_option maxRecDepth 100000 in
set_option maxHeartbeats 2000000 in
theorem free1_in (ll B1 B2 B3 : Nat) (f t : Int) (av : Value) (L : List Sp) (h0 : rowErr L = 0) (J Jx : List Sp → World → Prop) (B9 : Nat) (W0 W1 W : World) (hJ : AbidesFrom W.heap.size J)
    (hY : ∀ pre x W2, J pre W2 → pre.length < 40 → YieldAt Fence.wide (2 - 1) Try.prog ll (encSp x) W2 fun e W' =>
      (e = .returned (.bool true) ∧ J (pre ++ [x]) W' ∧ Kp9 B9 W2 W') ∨ (e = .returned (.bool false) ∧ Jx (pre ++ [x]) W'))
    (c1 : W0.cell? ⟨B1, 0, none⟩ = some (.int .i64 f)) (c2 : W0.cell? ⟨B2, 0, none⟩ = some (.int .i64 t)) (c3 : W0.cell? ⟨B3, 0, none⟩ = some av)
    (hA : Alm W0 av L) (hW1 : Below W0.heap.size W0 W1) (hB9 : W0.heap.size ≤ B9) (hB91 : B9 < W1.heap.size) (hp0 : ptr9 B9 W1 = none) (hW2 : Below W1.heap.size W1 W) (hJ0 : J [] W) :
    CallsIn Fence.wide 2 Try.prog 60 #[.func (.yield ll) #[] #[], .pointer (some ⟨B1, 0, none⟩), .pointer (some ⟨B2, 0, none⟩), .pointer (some ⟨B3, 0, none⟩)] W fun e W' => (∃ v, e = .returned v) ∧
      ((∃ ys : List Sp, ys = freeL L f t ∧ J ys W') ∨ (∃ pre : List Sp, pre <+: freeL L f t ∧ Jx pre W')) := by
  have hW : Below W0.heap.size W0 W := hW1.trans (hW2.mono hW1.size)
  have d1 := (hW.cell (p := ⟨B1, 0, none⟩) (cell?_lt c1)).trans c1
  have d2 := (hW.cell (p := ⟨B2, 0, none⟩) (cell?_lt c2)).trans c2
  obtain ⟨out, hout⟩ : ∃ out, out = freeL L f t := ⟨_, rfl⟩
  rw [← hout]
  have HL := refF_len L (lo0 f) (hi0 t)
  have hout2 : out = refF L (lo0 f) (hi0 t) := hout
  rw [← hout2] at HL
  have Hout := Lib.hid hout2
  clear hout hout2
  refine callsIn_of_wp Try.func60 rfl trivial ?_ rfl
  simp only [Try.ntmps60, List.size_toArray, List.length_cons, List.length_nil, Nat.reduceAdd, Nat.reduceSub, Array.replicate_succ, Array.replicate_zero, List.push_toArray, List.append_toArray, List.nil_append, List.cons_append]
  gi_wp2_with fail
  gi_quiet (fail)
  obtain ⟨hch, hlen⟩ := row_chain h0
  have e1 : (if f < 0 then 0 else f) = lo0 f := rfl
  have e2 : (if 1125899906842624 < t then 1125899906842624 else t) = hi0 t := rfl
  rw [e1, e2]
  have hlo : 0 ≤ lo0 f := by unfold lo0; split <;> omega
  have hhi : hi0 t ≤ 1125899906842624 := by unfold hi0; split <;> omega
  clear e1 e2
  generalize lo0 f = lo at hlo Hout ⊢
  generalize hi0 t = hi at hhi Hout ⊢
  have hbq : Below W.heap.size W (W.drewN nq) := ⟨rfl, rfl, rfl, by simp [World.drewN], fun k hk => rfl⟩
  have hJq : J [] (W.drewN nq) := hJ [] W _ none hJ0 (grown_below hbq) (fun r e => by cases e)
  have hb9 : B9 < W.heap.size := Nat.lt_of_lt_of_le hB91 hW2.size
  have hWq : Kp9 B9 W1 (W.drewN nq) := (Kp9.of_below hB91 hW2).trans (Kp9.of_below hb9 hbq)
  gi_wp2_with fail
  gi_loopw [5] (fun v wr => ∃ (at_ : Int) (pre : List Sp), v = .int .i64 at_ ∧ 0 ≤ at_ ∧ Hid (out = pre ++ refF L at_ hi) ∧ J pre wr ∧ Kp9 B9 W1 wr ∧ W.heap.size ≤ wr.heap.size) (fun v _ => (hi - intOf v).toNat)
  case atStart => exact ⟨lo, [], rfl, hlo, Hout, hJq, hWq, hbq.size⟩
  case round =>
    obtain ⟨at_, pre, rfl, hat0, hp, hJr, hbr, hsz⟩ := hrel
    by_cases hlt : at_ < hi
    · have hst := refF_step L at_ hi hlt 0 hch
      have hAr := hbr.alm hp0 hW1 hB9 hA
      have hb9r : B9 < wr.heap.size := by omega
      have hpr : ∀ g, ptr9 B9 wr = some g → g < wr.heap.size := fun g e => by rcases hbr.ptr g e with e1 | ⟨_, e1⟩; (rw [hp0] at e1; cases e1); exact e1
      have hn := fun w' (hb : Below wr.heap.size wr w') => next_any av L at_ w' (by omega) (hAr.below hb)
      have hn1 := next_after L at_
      have d3 := hbr.cell0 hp0 hW1 hB9 c3
      have hpl : pre.length < 40 := by
        have h1 := congrArg List.length hp.out
        rw [hst] at h1
        simp only [List.length_append] at h1
        omega
      obtain ⟨F, hF⟩ : ∃ F, F = nextF L at_ := ⟨_, rfl⟩
      obtain ⟨R, hR⟩ : ∃ R, R = nextR L at_ := ⟨_, rfl⟩
      rw [← hF, ← hR] at hn1 hst hn
      clear hF hR
      have Hst := Lib.hid hst
      clear hst
      obtain ⟨x, y⟩ := R
      unfold spVal at hn
      simp only at hn hn1 Hst
      gi_wp2_with fail
      refine ⟨trivial, ?_⟩
      refine (callsIn_wide.2 (hn wr (Below.refl _ _))).mono ?_
      rintro e w2 ⟨rfl, hB2⟩
      have hJ1 : J pre (w2.alloc (.cells #[.int .i64 x, .int .i64 y] 30 (0, 0))) := hJ pre wr _ none hJr (grown_below (below_on hB2 (below_new _ _) (Nat.le_refl _))) (fun r e => by cases e)
      have hJ2 : ∀ o, J pre ((w2.alloc (.cells #[.int .i64 x, .int .i64 y] 30 (0, 0))).alloc o) := fun o => hJ pre wr _ none hJr (grown_below (below_on (below_on hB2 (below_new _ _) (Nat.le_refl _)) (below_new _ _) (Nat.le_refl _))) (fun r e => by cases e)
      have hz2 := hB2.size
      have hBx : ∀ o, Kp9 B9 W1 ((w2.alloc (.cells #[.int .i64 x, .int .i64 y] 30 (0, 0))).alloc o) := fun o => hbr.trans (Kp9.of_below hb9r (below_on (below_on hB2 (below_new _ _) (Nat.le_refl _)) (below_new _ _) (Nat.le_refl _)))
      have hc7 : ∀ o, ((w2.alloc (.cells #[.int .i64 x, .int .i64 y] 30 (0, 0))).alloc o).cell? ⟨w2.heap.size, 1, none⟩ = some (.int .i64 y) := fun o => by rw [(below_new _ o).cell (by simp)]; rw [cell?_new]; rfl
      have hpx : ∀ o, ptr9 B9 ((w2.alloc (.cells #[.int .i64 x, .int .i64 y] 30 (0, 0))).alloc o) ≠ some w2.heap.size := fun o e => by
        rw [ptr9_same ((below_on (below_on hB2 (below_new _ _) (Nat.le_refl _)) (below_new _ o) (Nat.le_refl _)).block B9 hb9r)] at e
        have := hpr _ e
        omega
      have hSx : ∀ o, W.heap.size ≤ ((w2.alloc (.cells #[.int .i64 x, .int .i64 y] 30 (0, 0))).alloc o).heap.size := fun o => by simp; omega
      cases F with
      | false =>
        have hEq : Hid (refF L at_ hi = [⟨at_, hi⟩]) := by show refF L at_ hi = _; rw [Hst.out]; simp
        clear hn hn1 Hst
        obtain ⟨fn, tmps, assign, body, hy, hR⟩ := hY pre ⟨at_, hi⟩ _ hJ1 hpl
        simp only [encSp] at hy hR
        gi_wp2_with fail
        refine hR.mono ?_
        rintro e W3 (⟨rfl, hJ3, hk3⟩ | ⟨rfl, hJx3⟩)
        · gi_wp2_with fail
          refine bodyPost_ret (results_none rfl _ _ _) rfl ?_
          exact ⟨⟨_, rfl⟩, .inl ⟨pre ++ [⟨at_, hi⟩], by rw [hp.out, hEq.out], hJ3⟩⟩
        · gi_wp2_with fail
          refine bodyPost_ret (results_none rfl _ _ _) rfl ?_
          exact ⟨⟨_, rfl⟩, .inr ⟨pre ++ [⟨at_, hi⟩], ⟨[], by rw [hp.out, hEq.out]; simp⟩, hJx3⟩⟩
      | true =>
        have hy1 := hn1 rfl
        by_cases hxx : hi < x
        · have hEq : Hid (refF L at_ hi = [⟨at_, hi⟩] ++ refF L y hi) := by show refF L at_ hi = _; rw [Hst.out, if_pos rfl, if_pos hxx, if_pos hlt]
          clear hn hn1 Hst
          obtain ⟨fn, tmps, assign, body, hy, hR⟩ := hY pre ⟨at_, hi⟩ _ (hJ2 (.cells #[.int .i64 at_, .int .i64 hi] 30 (0, 0))) hpl
          simp only [encSp] at hy hR
          gi_wp2_with fail
          refine hR.mono ?_
          rintro e W3 (⟨rfl, hJ3, hk3⟩ | ⟨rfl, hJx3⟩)
          · have k7 := hk3.cell (by omega) (hpx _) (hc7 _)
            gi_wp2_with fail
            go_roundw
            case rel => exact ⟨y, pre ++ [⟨at_, hi⟩], rfl, by omega, (by show out = _; rw [hp.out, hEq.out]; simp), hJ3, (hBx _).trans hk3, Nat.le_trans (hSx _) hk3.size⟩
            case measure => simp [intOf]; omega
          · gi_wp2_with fail
            refine bodyPost_ret (results_none rfl _ _ _) rfl ?_
            refine ⟨⟨_, rfl⟩, .inr ⟨pre ++ [⟨at_, hi⟩], ⟨refF L y hi, by rw [hp.out, hEq.out]; simp⟩, hJx3⟩⟩

        · by_cases hax : at_ < x
          · have hEq : Hid (refF L at_ hi = [⟨at_, x⟩] ++ refF L y hi) := by show refF L at_ hi = _; rw [Hst.out, if_pos rfl, if_neg hxx, if_pos hax]
            clear hn hn1 Hst
            obtain ⟨fn, tmps, assign, body, hy, hR⟩ := hY pre ⟨at_, x⟩ _ (hJ2 (.cells #[.int .i64 at_, .int .i64 x] 30 (0, 0))) hpl
            simp only [encSp] at hy hR
            gi_wp2_with fail
            refine hR.mono ?_
            rintro e W3 (⟨rfl, hJ3, hk3⟩ | ⟨rfl, hJx3⟩)
            · have k7 := hk3.cell (by omega) (hpx _) (hc7 _)
              gi_wp2_with fail
              go_roundw
              case rel => exact ⟨y, pre ++ [⟨at_, x⟩], rfl, by omega, (by show out = _; rw [hp.out, hEq.out]; simp), hJ3, (hBx _).trans hk3, Nat.le_trans (hSx _) hk3.size⟩
              case measure => simp [intOf]; omega
            · gi_wp2_with fail
              refine bodyPost_ret (results_none rfl _ _ _) rfl ?_
              refine ⟨⟨_, rfl⟩, .inr ⟨pre ++ [⟨at_, x⟩], ⟨refF L y hi, by rw [hp.out, hEq.out]; simp⟩, hJx3⟩⟩

          · have hEq : Hid (refF L at_ hi = refF L y hi) := by show refF L at_ hi = _; rw [Hst.out, if_pos rfl, if_neg hxx, if_neg hax]; rfl
            clear hn hn1 Hst
            gi_wp2_with fail
            refine ⟨fun _ h => (by cases h), ?_⟩
            gi_wp2_with fail
            go_roundw
            case rel => exact ⟨y, pre, rfl, by omega, (by show out = _; rw [hp.out, hEq.out]), hJ2 _, hBx _, hSx _⟩
            case measure => simp [intOf]; omega
    · have hout : out = pre := by rw [hp.out, refF_done _ _ _ (by omega)]; simp
      gi_wp2_with fail
      go_end0
      exact ⟨⟨_, rfl⟩, .inl hJr⟩
end Go.Proofs.Ytdiahfebiafodaa
