/- The state of the law LazyChain, and Get of its cells. No statement of the seat is proved here. -/
import Derived.Test.YtljlgphieefdmaaChainLaw
import Derived.Test.YtljlgphieefdmaaLazyT
namespace Go.Proofs.Ytljlgphieefdmaa
set_option linter.unusedVariables false
set_option linter.unusedSimpArgs false
set_option linter.unusedSectionVars false
open Go Go.RowKit Go.Shelf
attribute [local go_sem ↓] Go.wp_at_zero Go.wp_at_succ

/-- the blocks of the law: l's box, calls' box and array, cells' box and array; where the cells' blocks begin -/
structure Bc where
  lb : Nat
  cab : Nat
  CA : Nat
  ceb : Nat
  CE : Nat
  base : Nat
abbrev chFn (q : Bc) (ib : Nat) : Value := .func (.func 9) #[] #[.pointer (some ⟨q.cab, 0, none⟩), .pointer (some ⟨ib, 0, none⟩), .pointer (some ⟨q.lb, 0, none⟩), .pointer (some ⟨q.ceb, 0, none⟩)]

/-- the state: what is said of the cells ahead of t; S tells which are made, c what 'calls' has -/
structure CS (w : World) (q : Bc) (lo : Option Addr) (lc : Nat) (l : List Int) (L : List (Nat × Nat)) (t : Nat) (S : Nat → Bool) (c : Nat → Int) (W : World) : Prop where
  lbox : W.heap[q.lb]? = some (.cells #[.slice lo l.length lc] 22 (0, 0))
  cabox : W.heap[q.cab]? = some (.cells #[.slice (some ⟨q.CA, 0, none⟩) l.length l.length] 24 (0, 0))
  cebox : W.heap[q.ceb]? = some (.cells #[.slice (some ⟨q.CE, 0, none⟩) l.length l.length] 25 (0, 0))
  arr : ∃ A : Array Value, W.heap[q.CA]? = some (.cells A 3 (0, 0)) ∧ A.size = l.length ∧ ∀ j, j < l.length → A[j]? = some (.int .i64 (c j))
  ptrs : ∃ A : Array Value, W.heap[q.CE]? = some (.cells A 26 (0, 0)) ∧ A.size = l.length ∧ (∀ j, j < l.length → (A[j]?).isSome = true) ∧ ∀ (j : Nat) (p : Nat × Nat), L[j]? = some p → A[j]? = some (.pointer (some ⟨p.1, 0, none⟩))
  box : ∀ (j : Nat) (p : Nat × Nat), L[j]? = some p → Bx W p.2 j
  cell : ∀ (j : Nat) (p : Nat × Nat), L[j]? = some p → j < t → (S j = false ∧ Cl W p.1 0 0 0 0 (chFn q p.2) 0) ∨ (S j = true ∧ ∃ a, 0 ≤ a ∧ a ≤ 5 ∧ Cl W p.1 0 1 1 a .nilFunc (val l (j + 1)))
  ord : L.Pairwise (fun p p' => p.1 < p'.1)
  B : Below w.heap.size w W
  low : w.heap.size ≤ q.CA ∧ w.heap.size ≤ q.CE ∧ q.CA < q.base ∧ (∀ p ∈ L, q.base ≤ p.1 ∧ q.base ≤ p.2) ∧ w.heap.size ≤ q.base

variable {w : World} {q : Bc} {lo : Option Addr} {lc : Nat} {l : List Int} {L : List (Nat × Nat)}
theorem pair_ne {i j : Nat} {p p' : Nat × Nat} (ho : L.Pairwise (fun p p' => p.1 < p'.1)) (hi : L[i]? = some p) (hj : L[j]? = some p') (hne : i ≠ j) : p.1 ≠ p'.1 := by
  obtain ⟨hi1, rfl⟩ := List.getElem?_eq_some_iff.1 hi
  obtain ⟨hj1, rfl⟩ := List.getElem?_eq_some_iff.1 hj
  have := List.pairwise_iff_getElem.1 ho
  rcases Nat.lt_or_gt_of_ne hne with hl | hl
  · have := this i j hi1 hj1 hl; omega
  · have := this j i hj1 hi1 hl; omega
/-- all that the state speaks of is kept, but for calls' array -/
theorem CS.via {t t' : Nat} {S : Nat → Bool} {c c' : Nat → Int} {W W' : World} (h : CS w q lo lc l L t S c W) (ht : t' ≤ t) (hB : Below w.heap.size w W')
    (harr : ∃ A : Array Value, W'.heap[q.CA]? = some (.cells A 3 (0, 0)) ∧ A.size = l.length ∧ ∀ j, j < l.length → A[j]? = some (.int .i64 (c' j)))
    (hk : ∀ b, (b = q.lb ∨ b = q.cab ∨ b = q.ceb ∨ b = q.CE ∨ (∃ p ∈ L, b = p.2) ∨ (∃ (j : Nat) (p : Nat × Nat), L[j]? = some p ∧ j < t' ∧ b = p.1)) → W'.heap[b]? = W.heap[b]?) : CS w q lo lc l L t' S c' W' := by
  obtain ⟨A, a1, a2, a3⟩ := h.ptrs
  refine ⟨(hk _ (.inl rfl)).trans h.lbox, (hk _ (.inr (.inl rfl))).trans h.cabox, (hk _ (.inr (.inr (.inl rfl)))).trans h.cebox, harr, ⟨A, (hk _ (.inr (.inr (.inr (.inl rfl))))).trans a1, a2, a3⟩, fun j p hj => (hk _ (.inr (.inr (.inr (.inr (.inl ⟨p, List.mem_of_getElem? hj, rfl⟩)))))).trans (h.box j p hj),
    fun j p hj hlt => ?_, h.ord, hB, h.low⟩
  have e := hk p.1 (.inr (.inr (.inr (.inr (.inr ⟨j, p, hj, hlt, rfl⟩)))))
  exact (h.cell j p hj (by omega)).imp (fun ⟨a, c⟩ => ⟨a, e.trans c⟩) (fun ⟨a, y, b, c, d⟩ => ⟨a, y, b, c, e.trans d⟩)
theorem CS.below {t : Nat} {S : Nat → Bool} {c : Nat → Int} {W W' : World} (h : CS w q lo lc l L t S c W) (hB : Below W.heap.size W W') : CS w q lo lc l L t S c W' := by
  obtain ⟨A, a1, a2, a3⟩ := h.arr
  obtain ⟨A', b1, b2, b3, b4⟩ := h.ptrs
  have lt : ∀ {b : Nat} {o : Obj}, W.heap[b]? = some o → b < W.heap.size := fun h => (Array.getElem?_eq_some_iff.1 h).1
  refine h.via (Nat.le_refl _) (below_on h.B hB (Nat.le_refl _)) ⟨A, (hB.block _ (lt a1)).trans a1, a2, a3⟩ fun b hb => ?_
  refine hB.block b ?_
  rcases hb with rfl | rfl | rfl | rfl | ⟨p, hp, rfl⟩ | ⟨j, p, hp, hj, rfl⟩
  · exact lt h.lbox
  · exact lt h.cabox
  · exact lt h.cebox
  · exact lt b1
  · obtain ⟨j, hj⟩ := List.getElem?_of_mem hp; exact lt (h.box j p hj)
  · rcases h.cell j p hp hj with ⟨_, c⟩ | ⟨_, a, _, _, c⟩ <;> exact lt c
theorem blk_ne {W : World} {b g : Nat} {cs cs' : Array Value} {T T' : TypeId} (h : W.heap[b]? = some (.cells cs T (0, 0))) (h' : W.heap[g]? = some (.cells cs' T' (0, 0))) (hT : T ≠ T') : b ≠ g := fun e => by
  rw [e, h'] at h
  simp at h
  exact hT h.2.symm
/-- the cell of row i is written: of the cells ahead of i all is kept -/
theorem CS.open {t : Nat} {S : Nat → Bool} {c : Nat → Int} {W W' : World} {i : Nat} {p : Nat × Nat} {cs : Array Value} (h : CS w q lo lc l L t S c W) (hi : L[i]? = some p) (hp : W.heap[p.1]? = some (.cells cs 47 (0, 0))) (hit : i ≤ t) (hg : W.grownBy W' (some p.1)) : CS w q lo lc l L i S c W' := by
  obtain ⟨A, a1, a2, a3⟩ := h.arr
  obtain ⟨A', b1, b2, b3, b4⟩ := h.ptrs
  have key : ∀ {b : Nat} {o : Obj}, W.heap[b]? = some o → b ≠ p.1 → W'.heap[b]? = W.heap[b]? := fun ho hne => hg.block _ (Array.getElem?_eq_some_iff.1 ho).1 (by simpa using hne)
  have hpl := (h.low.2.2.2.1 p (List.mem_of_getElem? hi)).1
  have hlow := h.low.2.2.2.2
  refine h.via hit (below_grown h.B hg (Nat.le_trans hlow hpl) h.B.size) ⟨A, (key a1 (blk_ne a1 hp (by decide))).trans a1, a2, a3⟩ fun b hb => ?_
  rcases hb with rfl | rfl | rfl | rfl | ⟨p', hp', rfl⟩ | ⟨j, p', hp', hj, rfl⟩
  · exact key h.lbox (blk_ne h.lbox hp (by decide))
  · exact key h.cabox (blk_ne h.cabox hp (by decide))
  · exact key h.cebox (blk_ne h.cebox hp (by decide))
  · exact key b1 (blk_ne b1 hp (by decide))
  · obtain ⟨j, hj⟩ := List.getElem?_of_mem hp'; exact key (h.box j p' hj) (blk_ne (h.box j p' hj) hp (by decide))
  · have hne := pair_ne h.ord hp' hi (by omega)
    rcases h.cell j p' hp' (by omega) with ⟨_, c⟩ | ⟨_, a, _, _, c⟩ <;> exact key c hne
/-- calls[i]++ -/
theorem CS.call {t : Nat} {S : Nat → Bool} {c : Nat → Int} {W : World} {i : Nat} (h : CS w q lo lc l L t S c W) (hi : i < l.length) (v : Int) : CS w q lo lc l L t S (fun j => if j = i then v else c j) (W.setCell ⟨q.CA, i, none⟩ (.int .i64 v)) := by
  obtain ⟨A, a1, a2, a3⟩ := h.arr
  obtain ⟨A', b1, b2, b3, b4⟩ := h.ptrs
  have hg := grown_set W q.CA i (.int .i64 v)
  have key : ∀ {b : Nat} {o : Obj}, W.heap[b]? = some o → b ≠ q.CA → (W.setCell ⟨q.CA, i, none⟩ (.int .i64 v)).heap[b]? = W.heap[b]? := fun ho hne => hg.block _ (Array.getElem?_eq_some_iff.1 ho).1 (by simpa using hne)
  have t3 := block_set a1 i (.int .i64 v)
  refine h.via (Nat.le_refl _) (below_grown h.B hg h.low.1 h.B.size) ⟨_, t3, by simpa using a2, fun j hj => ?_⟩ fun b hb => ?_
  · rw [Array.getElem?_setIfInBounds]
    by_cases e : i = j
    · subst e; simp [a2, hi]
    · have e' : ¬ j = i := fun h => e h.symm
      simp only [if_neg e, if_neg e']
      exact a3 j hj
  · rcases hb with rfl | rfl | rfl | rfl | ⟨p', hp', rfl⟩ | ⟨j, p', hp', hj, rfl⟩
    · exact key h.lbox (blk_ne h.lbox a1 (by decide))
    · exact key h.cabox (blk_ne h.cabox a1 (by decide))
    · exact key h.cebox (blk_ne h.cebox a1 (by decide))
    · exact key b1 (blk_ne b1 a1 (by decide))
    · obtain ⟨j, hj⟩ := List.getElem?_of_mem hp'
      have := h.low.2.2.1
      have := (h.low.2.2.2.1 p' hp').2
      exact key (h.box j p' hj) (by omega)
    · rcases h.cell j p' hp' (by omega) with ⟨_, c⟩ | ⟨_, a, _, _, c⟩ <;> exact key c (blk_ne c a1 (by decide))
/-- what is kept but for calls' array and the cells ahead of i -/
def Fr (q : Bc) (L : List (Nat × Nat)) (i : Nat) (W W' : World) : Prop := W.heap.size ≤ W'.heap.size ∧ ∀ b, b < W.heap.size → b ≠ q.CA → (∀ (j : Nat) (p : Nat × Nat), j < i → L[j]? = some p → b ≠ p.1) → W'.heap[b]? = W.heap[b]?
theorem Fr.trans {i : Nat} {W W' W'' : World} (h : Fr q L i W W') (h2 : Fr q L i W' W'') : Fr q L i W W'' := ⟨Nat.le_trans h.1 h2.1, fun b a b' c => (h2.2 b (Nat.lt_of_lt_of_le a h.1) b' c).trans (h.2 b a b' c)⟩
theorem Fr.up {i i' : Nat} {W W' : World} (h : Fr q L i W W') (hi : i ≤ i') : Fr q L i' W W' := ⟨h.1, fun b a b' c => h.2 b a b' fun j p hj => c j p (by omega)⟩
theorem fr_cell {i : Nat} {p : Nat × Nat} {W W' : World} (hp : L[i]? = some p) (hg : W.grownBy W' (some p.1)) : Fr q L (i + 1) W W' := ⟨hg.size, fun b a _ c => hg.block b a (by simpa using c i p (Nat.lt_succ_self _) hp)⟩
theorem fr_below {i : Nat} {W W' : World} (hB : Below W.heap.size W W') : Fr q L i W W' := ⟨hB.size, fun b a _ _ => hB.block b a⟩
theorem fr_call {i : Nat} {W W' : World} (hg : W.grownBy W' (some q.CA)) : Fr q L i W W' := ⟨hg.size, fun b a c _ => hg.block b a (by simpa using c)⟩

theorem CS.shut {t : Nat} {S : Nat → Bool} {c : Nat → Int} {W : World} {p : Nat × Nat} {a : Int} (h : CS w q lo lc l L t S c W) (hp : L[t]? = some p) (hS : S t = true) (h0 : 0 ≤ a) (h1 : a ≤ 5) (hc : Cl W p.1 0 1 1 a .nilFunc (val l (t + 1))) : CS w q lo lc l L (t + 1) S c W :=
  ⟨h.lbox, h.cabox, h.cebox, h.arr, h.ptrs, h.box, fun j p' hj hlt => by
    by_cases e : j = t
    · subst e
      rw [hp] at hj; cases hj
      exact .inr ⟨hS, a, h0, h1, hc⟩
    · exact h.cell j p' hj (by omega), h.ord, h.B, h.low⟩
theorem CS.down {t t' : Nat} {S : Nat → Bool} {c : Nat → Int} {W : World} (h : CS w q lo lc l L t S c W) (ht : t' ≤ t) : CS w q lo lc l L t' S c W :=
  ⟨h.lbox, h.cabox, h.cebox, h.arr, h.ptrs, h.box, fun j p hj hlt => h.cell j p hj (by omega), h.ord, h.B, h.low⟩
theorem CS.same {t : Nat} {S S' : Nat → Bool} {c c' : Nat → Int} {W : World} (h : CS w q lo lc l L t S c W) (hS : ∀ j, j < t → S' j = S j) (hc : ∀ j, j < l.length → c' j = c j) : CS w q lo lc l L t S' c' W := by
  obtain ⟨A, a1, a2, a3⟩ := h.arr
  exact ⟨h.lbox, h.cabox, h.cebox, ⟨A, a1, a2, fun j hj => by rw [hc j hj]; exact a3 j hj⟩, h.ptrs, h.box, fun j p hj hlt => by rw [hS j hlt]; exact h.cell j p hj hlt, h.ord, h.B, h.low⟩

theorem CS.loads {t : Nat} {S : Nat → Bool} {c : Nat → Int} {W : World} {i j b off : Nat} {p p' : Nat × Nat} (h : CS w q (some ⟨b, off, none⟩) lc l L t S c W) (hl : w.cell? ⟨b, off + i, none⟩ = some (.int .i64 (l.getD i 0))) (hp : L[i]? = some p) (hp' : L[j]? = some p') :
    W.cell? ⟨q.lb, 0, none⟩ = some (.slice (some ⟨b, off, none⟩) l.length lc) ∧ W.cell? ⟨p.2, 0, none⟩ = some (.int .i64 i) ∧ W.cell? ⟨b, off + i, none⟩ = some (.int .i64 (l.getD i 0)) ∧ W.cell? ⟨q.ceb, 0, none⟩ = some (.slice (some ⟨q.CE, 0, none⟩) l.length l.length) ∧ W.cell? ⟨q.CE, j, none⟩ = some (.pointer (some ⟨p'.1, 0, none⟩)) := by
  obtain ⟨A, a1, a2, a3, a4⟩ := h.ptrs
  have e0 := block_cell h.lbox 0
  have e1 := block_cell (h.box i p hp) 0
  have e2 := block_cell h.cebox 0
  have e3 := block_cell a1 j
  rw [a4 j p' hp'] at e3
  simp at e0 e1 e2
  exact ⟨e0, e1, (h.B.cell (p := ⟨b, off + i, none⟩) (cell?_lt hl)).trans hl, e2, e3⟩

set_option maxRecDepth 100000 in
set_option maxHeartbeats 2000000 in
/-- the closure of the first cell -/
theorem chain1_zero {p : Nat × Nat} {c : Nat → Int} {W : World} (h : CS w q lo lc l L 0 (fun _ => false) c W) (hp : L[0]? = some p) (hl : Sl w 1 lo l.length lc (l.map (Value.int .i64))) (hok : ∀ i ∈ l, (Lit.int .i64 i).wf = true) (hn : 0 < l.length) (hn2 : l.length ≤ 100) (hc : c 0 = 0) :
    Calls Try.prog 9 #[.pointer (some ⟨q.cab, 0, none⟩), .pointer (some ⟨p.2, 0, none⟩), .pointer (some ⟨q.lb, 0, none⟩), .pointer (some ⟨q.ceb, 0, none⟩)] W fun e W' => e = .returned (.int .i64 (val l 1)) ∧ CS w q lo lc l L 0 (fun _ => true) (fun j => if j ≤ 0 then 1 else c j) W' ∧ Fr q L 0 W W' := by
  obtain ⟨b, off, rfl, hcell⟩ := hl.cell 0 (.int .i64 (l.getD 0 0)) (by simp [List.getD_eq_getElem?_getD, List.getElem?_eq_getElem hn])
  have hv : val l 1 = l.getD 0 0 := by
    rw [val_one l hn (hok _ (List.getElem_mem hn))]; simp [List.getD_eq_getElem?_getD, List.getElem?_eq_getElem hn]
  obtain ⟨A, a1, a2, a3⟩ := h.arr
  have c0 := block_cell h.cabox 0
  have c1 := block_cell (h.box 0 p hp) 0
  have c2 := block_cell a1 0
  have f2 := block_free a1 0
  rw [a3 0 hn, hc] at c2
  simp at c0 c1 c2
  have h2 := h.call hn 1
  obtain ⟨d0, d1, d2, d3, d4⟩ := h2.loads hcell hp hp
  simp only [Nat.add_zero, Int.ofNat_zero, Int.natCast_zero] at d1 d2
  rw [← hv] at d2
  obtain ⟨v, hvv⟩ : ∃ v, v = val l 1 := ⟨_, rfl⟩
  rw [← hvv] at d2 ⊢
  have hfin : CS w q (some ⟨b, off, none⟩) lc l L 0 (fun _ => true) (fun j => if j ≤ 0 then 1 else c j) (W.setCell ⟨q.CA, 0, none⟩ (.int .i64 1)) := h2.same (fun j hj => by omega) (fun j hj => by simp)
  have Hfin := Lib.hid hfin
  have H2 := Lib.hid h2
  clear hvv hv a2 a3 hc hok hcell hfin h2
  go_enter Try.func9, Try.ntmps9
  go_wp2
  go_ret
  exact ⟨rfl, Hfin.out, fr_call (grown_set _ _ _ _)⟩

set_option maxRecDepth 100000 in
set_option maxHeartbeats 4000000 in
/-- the closure of a cell behind the first -/
theorem chain1_succ {i : Nat} {p p' : Nat × Nat} {c : Nat → Int} {W : World} (h : CS w q lo lc l L (i + 1) (fun _ => false) c W) (hp : L[i + 1]? = some p) (hp' : L[i]? = some p') (hl : Sl w 1 lo l.length lc (l.map (Value.int .i64))) (hn : i + 1 < l.length) (hn2 : l.length ≤ 100) (hc : ∀ j, j ≤ i + 1 → c j = 0)
    (IH : ∀ W c, CS w q lo lc l L (i + 1) (fun _ => false) c W → (∀ j, j ≤ i → c j = 0) → Calls Try.prog 10 #[.pointer (some ⟨p'.1, 0, none⟩)] W fun e W' => e = .returned (.int .i64 (val l (i + 1))) ∧ CS w q lo lc l L (i + 1) (fun _ => true) (fun j => if j ≤ i then 1 else c j) W' ∧ Fr q L (i + 1) W W') :
    Calls Try.prog 9 #[.pointer (some ⟨q.cab, 0, none⟩), .pointer (some ⟨p.2, 0, none⟩), .pointer (some ⟨q.lb, 0, none⟩), .pointer (some ⟨q.ceb, 0, none⟩)] W fun e W' => e = .returned (.int .i64 (val l (i + 2))) ∧ CS w q lo lc l L (i + 1) (fun _ => true) (fun j => if j ≤ i + 1 then 1 else c j) W' ∧ Fr q L (i + 1) W W' := by
  obtain ⟨b, off, rfl, hcell⟩ := hl.cell (i + 1) (.int .i64 (l.getD (i + 1) 0)) (by simp [List.getD_eq_getElem?_getD, List.getElem?_eq_getElem hn])
  have hv : bits .xor .i64 (l.getD (i + 1) 0) (val l (i + 1)) = val l (i + 2) := by
    rw [← val_back l (i + 1) hn]; simp [List.getD_eq_getElem?_getD, List.getElem?_eq_getElem hn]
  obtain ⟨A, a1, a2, a3⟩ := h.arr
  have c0 := block_cell h.cabox 0
  have c1 := block_cell (h.box (i + 1) p hp) 0
  have c2 := block_cell a1 (i + 1)
  have f2 := block_free a1 (i + 1)
  rw [a3 (i + 1) hn, hc (i + 1) (Nat.le_refl _)] at c2
  simp at c0 c1 c2
  have h2 := h.call hn 1
  have L2 := h2.loads hcell hp hp'
  have hIH := IH _ _ (h2.below (Below.refl _ _).drew) (fun j hj => by
    have : ¬ j = i + 1 := by omega
    simp only [if_neg this]; exact hc j (by omega))
  have HIH := Lib.hid hIH
  have Hcell := Lib.hid hcell
  have H2 := Lib.hid h2
  have HV := Lib.hid hv
  have HC := Lib.hid hc
  obtain ⟨d0, d1, d2, d3, d4⟩ := L2
  obtain ⟨v, hvv⟩ : ∃ v, v = l.getD (i + 1) 0 := ⟨_, rfl⟩
  rw [← hvv] at d2
  push_cast at d1
  have Hvv := Lib.hid hvv
  have Hp := Lib.hid hp
  have Hp' := Lib.hid hp'
  have i0 : (0 : Int) ≤ (i : Int) := Int.natCast_nonneg _
  have i1 : (i : Int) + 1 < (l.length : Int) := by omega
  have i2 : (i : Int) < (l.length : Int) := by omega
  have i3 : (0 : Int) ≤ (i : Int) + 1 := by omega
  clear a2 a3 hc hv hcell h2 hIH IH hvv hp hp'
  go_enter Try.func9, Try.ntmps9
  go_wp2_with fail
  have s1 : IntKind.i64.wrap (i : Int) = (i : Int) := IntWalk.i64_in _ (by omega)
  have s2 : IntKind.i64.wrap ((i : Int) + 1 - 1) = (i : Int) := by rw [show (i : Int) + 1 - 1 = (i : Int) from by omega]; exact s1
  go_region_held3 (fun W' => (W'.cell? ⟨q.lb, 0, none⟩ = some (.slice (some ⟨b, off, none⟩) l.length lc) ∧ W'.cell? ⟨p.2, 0, none⟩ = some (.int .i64 ((i : Int) + 1)) ∧ W'.cell? ⟨b, off + (i + 1), none⟩ = some (.int .i64 v) ∧ W'.cell? ⟨q.ceb, 0, none⟩ = some (.slice (some ⟨q.CE, 0, none⟩) l.length l.length) ∧ W'.cell? ⟨q.CE, i, none⟩ = some (.pointer (some ⟨p'.1, 0, none⟩))))
    (first | exact hL3 | go_keep)
    ((go_at_call 10; refine HIH.out.mono ?_; rintro e w3 ⟨rfl, hC3, hF3⟩; have hL3 := hC3.loads Hcell.out Hp.out Hp'.out; rw [← Hvv.out] at hL3; push_cast at hL3))
  clear s1 s2
  all_goals
    go_wp2_with fail
    go_ret
    refine ⟨ret_int (by rw [Hvv.out]; exact HV.out), hC3.same (fun _ _ => rfl) (fun j hj => ?_), (fr_call (grown_set _ _ _ _)).trans ((fr_below (Below.refl _ _).drew).trans hF3)⟩
    by_cases e1 : j ≤ i
    · simp only [if_pos e1, if_pos (show j ≤ i + 1 by omega)]
    · by_cases e2 : j = i + 1
      · simp only [if_neg e1, if_pos e2, if_pos (show j ≤ i + 1 by omega)]
      · simp only [if_neg e1, if_neg e2, if_neg (show ¬ j ≤ i + 1 by omega)]

theorem get_step {i : Nat} {p : Nat × Nat} {c c' : Nat → Int} {W : World} (h : CS w q lo lc l L (i + 1) (fun _ => false) c W) (hp : L[i]? = some p)
    (hk : ∀ W1, CS w q lo lc l L i (fun _ => false) c W1 → Calls Try.prog 9 #[.pointer (some ⟨q.cab, 0, none⟩), .pointer (some ⟨p.2, 0, none⟩), .pointer (some ⟨q.lb, 0, none⟩), .pointer (some ⟨q.ceb, 0, none⟩)] W1 fun e W' => e = .returned (.int .i64 (val l (i + 1))) ∧ CS w q lo lc l L i (fun _ => true) c' W' ∧ Fr q L i W1 W') :
    Calls Try.prog 10 #[.pointer (some ⟨p.1, 0, none⟩)] W fun e W' => e = .returned (.int .i64 (val l (i + 1))) ∧ CS w q lo lc l L (i + 1) (fun _ => true) c' W' ∧ Fr q L (i + 1) W W' ∧ Cl W' p.1 0 1 1 1 .nilFunc (val l (i + 1)) := by
  have hcl : Cl W p.1 0 0 0 0 (chFn q p.2) 0 := by
    rcases h.cell i p hp (Nat.lt_succ_self _) with ⟨_, c⟩ | ⟨c, _⟩
    · exact c
    · cases c
  refine (get_fn 9 _ (enters_of Try.func9 (by kernel_rfl) rfl) W p.1 0 (val l (i + 1)) (fun w1 => CS w q lo lc l L i (fun _ => true) c' w1 ∧ Cl w1 p.1 1 0 0 (0 + 1) (chFn q p.2) 0 ∧ Fr q L (i + 1) W w1) hcl (by omega) (by omega) ?_).mono ?_
  · intro W1 hg hW1
    refine (hk W1 (h.open hp hcl (Nat.le_succ _) hg)).mono ?_
    rintro e w1 ⟨rfl, a, b⟩
    have hlt := (Array.getElem?_eq_some_iff.1 hW1).1
    obtain ⟨A, a1, _⟩ := (h.open hp hcl (Nat.le_succ _) hg).arr
    have hw1 : Cl w1 p.1 1 0 0 (0 + 1) (chFn q p.2) 0 := (b.2 p.1 hlt (blk_ne hW1 a1 (by decide)) (fun j p' hj hp' => (pair_ne h.ord hp hp' (by omega)))).trans hW1
    exact ⟨rfl, hw1, a, hw1, (fr_cell hp hg).trans (b.up (Nat.le_succ _))⟩
  · rintro e w' ⟨rfl, hc', w1, ⟨a, a', b⟩, hg⟩
    exact ⟨rfl, (a.open hp a' (Nat.le_refl _) hg).shut hp rfl (by omega) (by omega) hc', b.trans (fr_cell hp hg), hc'⟩
theorem chain_get (hl : Sl w 1 lo l.length lc (l.map (Value.int .i64))) (hok : ∀ i ∈ l, (Lit.int .i64 i).wf = true) (hn2 : l.length ≤ 100) (hLn : L.length = l.length) :
    ∀ (i : Nat) (p : Nat × Nat), L[i]? = some p → ∀ (c : Nat → Int) (W : World), CS w q lo lc l L (i + 1) (fun _ => false) c W → (∀ j, j ≤ i → c j = 0) →
      Calls Try.prog 10 #[.pointer (some ⟨p.1, 0, none⟩)] W fun e W' => e = .returned (.int .i64 (val l (i + 1))) ∧ CS w q lo lc l L (i + 1) (fun _ => true) (fun j => if j ≤ i then 1 else c j) W' ∧ Fr q L (i + 1) W W' ∧ Cl W' p.1 0 1 1 1 .nilFunc (val l (i + 1)) := by
  intro i
  induction i with
  | zero =>
    intro p hp c W h hc
    have hn : 0 < l.length := by have := (List.getElem?_eq_some_iff.1 hp).1; omega
    exact get_step h hp fun W1 h1 => chain1_zero h1 hp hl hok hn hn2 (hc 0 (Nat.le_refl _))
  | succ i ih =>
    intro p hp c W h hc
    have hn : i + 1 < l.length := by have := (List.getElem?_eq_some_iff.1 hp).1; omega
    obtain ⟨p', hp'⟩ : ∃ p', L[i]? = some p' := ⟨L[i]'(by omega), List.getElem?_eq_getElem (by omega)⟩
    exact get_step h hp fun W1 h1 => chain1_succ h1 hp hp' hl hn hn2 hc fun W c hW hc => (ih p' hp' c W hW hc).mono fun _ _ ⟨a, b, d, _⟩ => ⟨a, b, d⟩
end Go.Proofs.Ytljlgphieefdmaa
