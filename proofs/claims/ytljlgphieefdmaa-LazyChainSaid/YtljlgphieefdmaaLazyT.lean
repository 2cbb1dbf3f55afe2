/- Contracts of package lazy: Rows, At, Len, Made of a table. No statement of the seat is proved here. -/
import Derived.Test.YtljlgphieefdmaaLazy
import Derived.Deep.RegionHeld3
import Derived.Deep.DrawnRows
namespace Go.Proofs.Ytljlgphieefdmaa
set_option linter.unusedVariables false
set_option linter.unusedSimpArgs false
set_option linter.unusedSectionVars false
open Go Go.RowKit Go.Shelf
attribute [local go_sem ↓] Go.wp_at_zero Go.wp_at_succ

theorem own_elem {w : World} {base e k n : Nat} {v : Value} {xs : List Value} (h : w.ownsRow base e k v n xs) (g : Nat) (hg : v.ownBlock = some g) : elem? w g = some e := by
  rcases h.2 with ⟨h2, _⟩ | ⟨g', cap', cur, hv, _, hh, _⟩
  · rw [h2] at hg; simp [Value.ownBlock] at hg
  · rw [hv] at hg; simp [Value.ownBlock] at hg; subst hg; exact elem?_of hh
/-- a block of cells is kept where what is written is of another type -/
theorem blk_kept {w w' : World} {row : Option Nat} {b T : Nat} {cs : Array Value} (h : w.heap[b]? = some (.cells cs T (0, 0))) (hg : w.grownBy w' row) (hne : ∀ g, row = some g → elem? w g ≠ some T) : w'.heap[b]? = some (.cells cs T (0, 0)) :=
  (hg.block b (Array.getElem?_eq_some_iff.1 h).1 (fun e => hne b e.symm (elem?_of h))).trans h

/-- all blocks of cells but those of type e are kept -/
def Keeps (w w' : World) (e : TypeId) : Prop := ∀ (b : Nat) (T : TypeId) (cs : Array Value), T ≠ e → w.heap[b]? = some (.cells cs T (0, 0)) → w'.heap[b]? = some (.cells cs T (0, 0))
theorem keeps_below {w w' : World} (h : Below w.heap.size w w') (e : TypeId) : Keeps w w' e := fun b T cs _ hb => (h.block b (Array.getElem?_eq_some_iff.1 hb).1).trans hb
theorem Keeps.trans {w w' w'' : World} {e : TypeId} (h : Keeps w w' e) (h2 : Keeps w' w'' e) : Keeps w w'' e := fun b T cs ne hb => h2 b T cs ne (h b T cs ne hb)
theorem keeps_own {w w' : World} {base e k n : Nat} {v : Value} {xs : List Value} (hown : w.ownsRow base e k v n xs) (hg : w.grownBy w' v.ownBlock) : Keeps w w' e :=
  fun b T cs ne hb => blk_kept hb hg fun g hv he => ne (by have := own_elem hown g hv; rw [he] at this; simpa using this)
theorem keeps_set (w : World) (b i : Nat) (u : Value) {T : TypeId} {cs : Array Value} (hb : w.heap[b]? = some (.cells cs T (0, 0))) : Keeps w (w.setCell ⟨b, i, none⟩ u) T :=
  fun b' T' cs' ne h => blk_kept h (grown_set w b i u) fun g e he => ne (by cases e; rw [elem?_of hb] at he; simpa using he.symm)
theorem keeps_grown {w w' : World} {b : Nat} {T : TypeId} (hg : w.grownBy w' (some b)) (hb : elem? w b = some T) : Keeps w w' T :=
  fun b' T' cs' ne h => blk_kept h hg fun g e he => ne (by cases e; rw [hb] at he; simpa using he.symm)
theorem below_al {B : Nat} {w W : World} {o : Obj} (h : Below B w W) (hB : B ≤ w.heap.size) : Below B w (W.alloc o) := below_on h (below_new W o) hB
theorem below_dr {B : Nat} {w W : World} (h : Below B w W) : Below B w W.drew := h.drew

/-- how the closure of a row is captured -/
abbrev rowFn (tb rb ib : Nat) : Value := .func (.func 28) #[] #[.pointer (some ⟨tb, 0, none⟩), .pointer (some ⟨rb, 0, none⟩), .pointer (some ⟨ib, 0, none⟩)]
/-- the cells of a table: each row's cell and the box of its number; S tells which are made, V what they have -/
structure TabC (base : Nat) (w : World) (T tb rb : Nat) (row : Value) (L : List (Nat × Nat)) (S : Nat → Bool) (V : Nat → Int) (most : Int) : Prop where
  t : w.heap[tb]? = some (.cells #[.pointer (some ⟨T, 0, none⟩)] 48 (0, 0))
  r : w.heap[rb]? = some (.cells #[row] 56 (0, 0))
  box : ∀ (j : Nat) (p : Nat × Nat), L[j]? = some p → Bx w p.2 j
  cell : ∀ (j : Nat) (p : Nat × Nat), L[j]? = some p → (S j = false ∧ Cl w p.1 0 0 0 0 (rowFn tb rb p.2) 0) ∨ (S j = true ∧ ∃ a, 0 ≤ a ∧ a ≤ most ∧ Cl w p.1 0 1 1 a .nilFunc (V j))
  low : base ≤ tb ∧ base ≤ rb ∧ ∀ p ∈ L, base ≤ p.1 ∧ base ≤ p.2
  ord : L.Pairwise (fun p q => p.1 < q.1)

theorem TabC.lt {base : Nat} {w : World} {T tb rb : Nat} {row : Value} {L : List (Nat × Nat)} {S : Nat → Bool} {V : Nat → Int} {most : Int} (h : TabC base w T tb rb row L S V most) (j : Nat) (p : Nat × Nat) (hj : L[j]? = some p) : p.1 < w.heap.size := by
  rcases h.cell j p hj with ⟨_, h⟩ | ⟨_, a, _, _, h⟩ <;> exact (Array.getElem?_eq_some_iff.1 h).1
theorem TabC.keeps {base : Nat} {w w' : World} {T tb rb : Nat} {row : Value} {L : List (Nat × Nat)} {S : Nat → Bool} {V : Nat → Int} {most : Int} {e : TypeId} (h : TabC base w T tb rb row L S V most) (K : Keeps w w' e)
    (h1 : 48 ≠ e) (h2 : 56 ≠ e) (h3 : 3 ≠ e) (h4 : 47 ≠ e) : TabC base w' T tb rb row L S V most :=
  ⟨K _ _ _ h1 h.t, K _ _ _ h2 h.r, fun j p hj => K _ _ _ h3 (h.box j p hj), fun j p hj => (h.cell j p hj).imp (fun ⟨a, c⟩ => ⟨a, K _ _ _ h4 c⟩) (fun ⟨a, x, y, z, c⟩ => ⟨a, x, y, z, K _ _ _ h4 c⟩), h.low, h.ord⟩
theorem TabC.below {base : Nat} {w w' : World} {T tb rb : Nat} {row : Value} {L : List (Nat × Nat)} {S : Nat → Bool} {V : Nat → Int} {most : Int} (h : TabC base w T tb rb row L S V most) (hB : Below w.heap.size w w') : TabC base w' T tb rb row L S V most :=
  h.keeps (e := 1000000) (keeps_below hB _) (by decide) (by decide) (by decide) (by decide)

/-- the table itself: its slice of rows, how many are made -/
def TabT (base : Nat) (w : World) (T : Nat) (L : List (Nat × Nat)) (made : Int) : Prop :=
  ∃ ao cap, w.heap[T]? = some (.cells #[.slice ao L.length cap, .int .i64 made] 62 (0, 0)) ∧ w.ownsRow base 26 1 (.slice ao L.length cap) L.length (L.map fun p => .pointer (some ⟨p.1, 0, none⟩))
theorem TabT.below {base : Nat} {w w' : World} {T : Nat} {L : List (Nat × Nat)} {made : Int} (h : TabT base w T L made) (hB : Below w.heap.size w w') : TabT base w' T L made := by
  obtain ⟨ao, cap, h1, h2⟩ := h
  exact ⟨ao, cap, (hB.block _ (Array.getElem?_eq_some_iff.1 h1).1).trans h1, own_below h2 hB⟩
theorem TabT.kept {base : Nat} {w w' : World} {T : Nat} {L : List (Nat × Nat)} {made : Int} {b : Nat} {E : TypeId} (h : TabT base w T L made) (hg : w.grownBy w' (some b)) (hE : elem? w b = some E) (h1 : E ≠ 62) (h2 : E ≠ 26) : TabT base w' T L made := by
  obtain ⟨ao, cap, a1, a2⟩ := h
  refine ⟨ao, cap, blk_kept a1 hg (fun g e => by cases e; rw [hE]; simpa using h1), a2.kept hg ?_⟩
  cases hv : (Value.slice ao L.length cap).ownBlock with
  | none => exact .inl rfl
  | some g => refine .inr fun e => h2 ?_; cases e; have := own_elem a2 _ hv; rw [hE] at this; simpa using this

theorem infoPC : (Try.prog.info? 26).map (fun i => (i.zero, i.size, i.bytes)) = some (some (.pointer none), 1, 8) := by kernel_rfl
theorem map_flat (L : List (Nat × Nat)) : (L.map fun p => [Value.pointer (some ⟨p.1, 0, none⟩)]).flatten = L.map fun p => Value.pointer (some ⟨p.1, 0, none⟩) := by
  induction L with
  | nil => rfl
  | cons p L ih => simp only [List.map_cons, List.flatten_cons, ih]; rfl

theorem blk_at (w : World) (n : Nat) (o : Obj) (h : w.heap.size = n) : (w.alloc o).heap[n]? = some o := by rw [← h]; exact heap_alloc_new w o

set_option maxRecDepth 100000 in
set_option maxHeartbeats 2000000 in
theorem rows_none (n : Int) (row : Value) (hrow : row = .nilFunc ∨ ∃ k caps, row = .func (.func k) #[] caps) (w : World) (h : n < 0 ∨ 65536 < n) :
    Calls Try.prog 19 #[.int .i64 n, row] w fun e w' => ∃ T, e = .returned (.pointer (some ⟨T, 0, none⟩)) ∧ w'.heap[T]? = some (.cells #[.slice none 0 0, .int .i64 0] 62 (0, 0)) ∧ Below w.heap.size w w' := by
  rcases hrow with rfl | ⟨k, caps, rfl⟩ <;> rcases h with h | h
  all_goals
    go_enter Try.func19, Try.ntmps19
    go_wp2
    go_ret
    exact ⟨_, rfl, (heap_alloc_old _ _ (by simp)).trans (blk_at _ _ _ (by simp)), below_on (below_on (below_new _ _) (below_new _ _) (by simp)) (below_new _ _) (by simp)⟩

/-- the state in a round of Rows: w the world at the call; the table lies behind the row's function -/
structure RSt (w : World) (row : Value) (L : List (Nat × Nat)) (ao : Option Addr) (cap ib k : Nat) (W : World) : Prop where
  C : TabC w.heap.size W (w.heap.size + 1) (w.heap.size + 1 + 1) w.heap.size row L (fun _ => false) (fun _ => 0) 0
  T : W.heap[w.heap.size + 1]? = some (.cells #[.slice ao L.length cap, .int .i64 0] 62 (0, 0))
  own : W.ownsRow w.heap.size 26 1 (.slice ao L.length cap) L.length (L.map fun (p : Nat × Nat) => Value.pointer (some ⟨p.1, 0, none⟩))
  box : Bx W ib k
  B : Below w.heap.size w W
theorem RSt.below {w : World} {row : Value} {L : List (Nat × Nat)} {ao : Option Addr} {cap ib k : Nat} {W W' : World} (h : RSt w row L ao cap ib k W) (hB : Below W.heap.size W W') : RSt w row L ao cap ib k W' :=
  ⟨h.C.below hB, (hB.block _ (Array.getElem?_eq_some_iff.1 h.T).1).trans h.T, own_below h.own hB, h.box.below hB, below_on h.B hB (Nat.le_refl _)⟩
theorem RSt.cells {w : World} {row : Value} {L : List (Nat × Nat)} {ao : Option Addr} {cap ib k : Nat} {W : World} (h : RSt w row L ao cap ib k W) :
    W.cell? ⟨w.heap.size + 1 + 1, 0, none⟩ = some (.pointer (some ⟨w.heap.size + 1, 0, none⟩)) ∧ W.cell? ⟨w.heap.size + 1, 0, none⟩ = some (.slice ao L.length cap) := by
  have e0 := block_cell h.C.t 0
  have e1 := block_cell h.T 0
  simp at e0 e1
  exact ⟨e0, e1⟩
theorem new_r {w : World} {row : Value} {L : List (Nat × Nat)} {ao : Option Addr} {cap ib k : Nat} {W : World} (c : Nat) (hc : W.heap.size = c) (h : RSt w row L ao cap ib k W) :
    Calls Try.prog 8 #[rowFn (w.heap.size + 1 + 1) w.heap.size ib] W fun e w2 => e = .returned (.pointer (some ⟨c, 0, none⟩)) ∧ RSt w row L ao cap ib k w2 ∧ Cl w2 c 0 0 0 0 (rowFn (w.heap.size + 1 + 1) w.heap.size ib) 0 ∧
      (w2.cell? ⟨w.heap.size + 1 + 1, 0, none⟩ = some (.pointer (some ⟨w.heap.size + 1, 0, none⟩)) ∧ w2.cell? ⟨w.heap.size + 1, 0, none⟩ = some (.slice ao L.length cap)) ∧
      ((w2.alloc (.cells #[Value.pointer (some ⟨c, 0, none⟩)] 26)).cell? ⟨w.heap.size + 1 + 1, 0, none⟩ = some (.pointer (some ⟨w.heap.size + 1, 0, none⟩)) ∧ (w2.alloc (.cells #[Value.pointer (some ⟨c, 0, none⟩)] 26)).cell? ⟨w.heap.size + 1, 0, none⟩ = some (.slice ao L.length cap)) := by
  subst hc
  refine (new_fn W _ _).mono ?_
  rintro e w2 ⟨rfl, rfl⟩
  have h2 := h.below (below_new W (.cells #[.int .u32 0, .int .i32 0, .int .u32 0, .int .u32 0, .int .i64 0, rowFn (w.heap.size + 1 + 1) w.heap.size ib, .int .i64 0] 47))
  exact ⟨rfl, h2, cl_new _ _, h2.cells, (h2.below (below_new _ _)).cells⟩

/-- behind the append -/
structure RFin (w : World) (row : Value) (L : List (Nat × Nat)) (ao : Option Addr) (cap ib k cb g c3 : Nat) (W : World) : Prop where
  C : TabC w.heap.size W (w.heap.size + 1) (w.heap.size + 1 + 1) w.heap.size row L (fun _ => false) (fun _ => 0) 0
  T : W.heap[w.heap.size + 1]? = some (.cells #[.slice ao L.length cap, .int .i64 0] 62 (0, 0))
  own : W.ownsRow w.heap.size 26 1 (.slice (some ⟨g, 0, none⟩) (L.length + 1) c3) (L.length + 1) ((L.map fun (p : Nat × Nat) => [Value.pointer (some ⟨p.1, 0, none⟩)]) ++ [[Value.pointer (some ⟨cb, 0, none⟩)]]).flatten
  box : Bx W ib k
  cl : Cl W cb 0 0 0 0 (rowFn (w.heap.size + 1 + 1) w.heap.size ib) 0
  B : Below w.heap.size w W
theorem RFin.cells {w : World} {row : Value} {L : List (Nat × Nat)} {ao : Option Addr} {cap ib k cb g c3 : Nat} {W : World} (h : RFin w row L ao cap ib k cb g c3 W) :
    W.cell? ⟨w.heap.size + 1 + 1, 0, none⟩ = some (.pointer (some ⟨w.heap.size + 1, 0, none⟩)) ∧ W.cell? ⟨w.heap.size + 1, 0, none⟩ = some (.slice ao L.length cap) ∧ W.frozen? ⟨w.heap.size + 1, 0, none⟩ = false := by
  have e0 := block_cell h.C.t 0
  have e1 := block_cell h.T 0
  simp at e0 e1
  exact ⟨e0, e1, block_free h.T 0⟩
theorem step_rows {ops : Array Oper} {o : Oper} {a : Act} {K : Act → World → Prop} {Q : Exit → Act → World → Prop} {E : Prop} (hw : Region.wanted o (yielded ops a.tmps) = true) (s x : Operand)
    (ho : o.op = .call { callee := .builtin .append, args := #[s, x], argTypes := #[25, 25] })
    {w : World} {row : Value} {L : List (Nat × Nat)} {ao : Option Addr} {cap ib k cb : Nat} {w2 : World} (hs : a.eval s = .slice ao L.length cap) (hx : a.eval x = .slice (some ⟨w2.heap.size, 0, none⟩) 1 1)
    (h : RSt w row L ao cap ib k w2) (hcl : Cl w2 cb 0 0 0 0 (rowFn (w.heap.size + 1 + 1) w.heap.size ib) 0) (hL : L.length ≤ 65536)
    (hK : ∀ g c3 w3, RFin w row L ao cap ib k cb g c3 w3 → K (a.put o.dst (.slice (some ⟨g, 0, none⟩) (L.length + 1) c3)) w3) :
    if Region.wanted o (yielded ops a.tmps) = true then Oper.wp Try.prog o a (w2.alloc (.cells #[Value.pointer (some ⟨cb, 0, none⟩)] 26)) K Q else E := by
  have hB2a : Below w2.heap.size w2 (w2.alloc (.cells #[Value.pointer (some ⟨cb, 0, none⟩)] 26)) := below_new _ _
  have h2 := h.below hB2a
  have hown := h2.own
  rw [← map_flat] at hown
  have hs2 := h2.B.size
  refine step_append_one hw s x 25 ho w.heap.size 26 infoPC Try.underlying25 rfl (by decide) (.slice ao L.length cap) L.length (L.map fun p => [Value.pointer (some ⟨p.1, 0, none⟩)]) hs hown ⟨w2.heap.size, 0, none⟩ 1 [Value.pointer (some ⟨cb, 0, none⟩)] hx rfl (news_at _ rfl) (by intro u hu; simp at hu; subst hu; rfl) (by omega) (by unfold maxLen; omega) hs2 fun g c3 w3 hown3 hg3 hlie => hK g c3 w3 ?_
  have K3 := keeps_own hown hg3
  exact ⟨h2.C.keeps K3 (by decide) (by decide) (by decide) (by decide), K3 _ _ _ (by decide) h2.T, hown3, K3 _ _ _ (by decide) h2.box, K3 _ _ _ (by decide) (cl_below hcl hB2a), below_app h2.B hg3 hown (Nat.le_refl _) hs2⟩
theorem RFin.fin {w : World} {row : Value} {L : List (Nat × Nat)} {ao : Option Addr} {cap ib k cb g c3 : Nat} {W : World} (h : RFin w row L ao cap ib k cb g c3 W) (hk : L.length = k) (hlt : ∀ p ∈ L, p.1 < cb) (hcb : w.heap.size ≤ cb) (hib : w.heap.size ≤ ib) :
    TabT w.heap.size (W.setCell ⟨w.heap.size + 1, 0, none⟩ (.slice (some ⟨g, 0, none⟩) (L.length + 1) c3)) (w.heap.size + 1) (L ++ [(cb, ib)]) 0 ∧
    TabC w.heap.size (W.setCell ⟨w.heap.size + 1, 0, none⟩ (.slice (some ⟨g, 0, none⟩) (L.length + 1) c3)) (w.heap.size + 1) (w.heap.size + 1 + 1) w.heap.size row (L ++ [(cb, ib)]) (fun _ => false) (fun _ => 0) 0 ∧
    Below w.heap.size w (W.setCell ⟨w.heap.size + 1, 0, none⟩ (.slice (some ⟨g, 0, none⟩) (L.length + 1) c3)) := by
  have K := keeps_set W (w.heap.size + 1) 0 (.slice (some ⟨g, 0, none⟩) (L.length + 1) c3) h.T
  have hC := h.C.keeps K (by decide) (by decide) (by decide) (by decide)
  have hg := grown_set W (w.heap.size + 1) 0 (.slice (some ⟨g, 0, none⟩) (L.length + 1) c3)
  have hcase : ∀ (j : Nat) (p : Nat × Nat), (L ++ [(cb, ib)])[j]? = some p → L[j]? = some p ∨ (j = k ∧ p = (cb, ib)) := by
    intro j p hj
    rw [List.getElem?_append] at hj
    split at hj
    · exact .inl hj
    · rename_i hn
      have h0 : j - L.length = 0 := by
        have := (List.getElem?_eq_some_iff.1 hj).1
        simp at this
        omega
      rw [h0] at hj
      simp at hj
      exact .inr ⟨by omega, hj.symm⟩
  refine ⟨⟨some ⟨g, 0, none⟩, c3, ?_, ?_⟩, ⟨hC.t, hC.r, ?_, ?_, ⟨hC.low.1, hC.low.2.1, ?_⟩, ?_⟩, below_grown h.B hg (by omega) h.B.size⟩
  · have := block_set h.T 0 (.slice (some ⟨g, 0, none⟩) (L.length + 1) c3)
    simpa using this
  · have ho := h.own.kept hg (by
      refine .inr fun e => ?_
      have := own_elem h.own (w.heap.size + 1) (by rw [← e])
      rw [elem?_of h.T] at this
      exact absurd this (by decide))
    rw [List.flatten_append, map_flat] at ho
    simpa using ho
  · intro j p hj
    rcases hcase j p hj with hj | ⟨rfl, rfl⟩
    · exact hC.box j p hj
    · exact K _ _ _ (by decide) h.box
  · intro j p hj
    rcases hcase j p hj with hj | ⟨rfl, rfl⟩
    · exact hC.cell j p hj
    · exact .inl ⟨rfl, K _ _ _ (by decide) h.cl⟩
  · intro p hp
    rcases List.mem_append.1 hp with hp | hp
    · exact hC.low.2.2 p hp
    · simp at hp; subst hp; exact ⟨hcb, hib⟩
  · rw [List.pairwise_append]
    exact ⟨hC.ord, by simp, fun p hp q hq => by simp at hq; subst hq; exact hlt p hp⟩

end Go.Proofs.Ytljlgphieefdmaa
