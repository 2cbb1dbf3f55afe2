/- Helper lemmas of our own, for slices of structs and for objects behind a pointer. No statement of the seat is proved here. -/
import Derived.Test.YtadghaiengonoaaAux2
import Derived.Deep.AppendLies
namespace Go.Proofs.Ytadghaiengonoaa
set_option linter.unusedVariables false
set_option linter.unusedSimpArgs false
set_option linter.unusedSectionVars false
open Go Go.RowKit

/-- the element type of a block of cells -/
def elem? (w : World) (b : Nat) : Option TypeId := match w.heap[b]? with
  | some (.cells _ e _) => some e
  | _ => .none
theorem elem?_of {w : World} {b : Nat} {cs : Array Value} {e : TypeId} {fr : Nat × Nat} (h : w.heap[b]? = some (.cells cs e fr)) : elem? w b = some e := by unfold elem?; rw [h]
theorem elem?_same {w w' : World} {b : Nat} (h : w'.heap[b]? = w.heap[b]?) : elem? w' b = elem? w b := by unfold elem?; rw [h]

/-- the slice (ao, n, cap) of elements of k cells, of type E, reads in w as the rows -/
structure Rw (w : World) (E : TypeId) (k : Nat) (ao : Option Addr) (n cap : Nat) (rows : List (List Value)) : Prop where
  num : rows.length = n
  each : ∀ r ∈ rows, r.length = k
  sl : Sl w k ao n cap rows.flatten
  typ : ∀ b off s, ao = some ⟨b, off, s⟩ → elem? w b = some E

theorem flatten_get {rows : List (List Value)} {k : Nat} (h : ∀ r ∈ rows, r.length = k) : ∀ (i j : Nat) (hi : i < rows.length) (hj : j < rows[i].length), rows.flatten[i * k + j]? = some rows[i][j] := by
  induction rows with
  | nil => intro i j hi; simp at hi
  | cons r rows ih =>
    intro i j hi hj
    have hr := h r (by simp)
    cases i with
    | zero =>
      simp only [List.getElem_cons_zero] at hj ⊢
      simp only [List.flatten_cons, Nat.zero_mul, Nat.zero_add]
      rw [List.getElem?_append_left (by omega), List.getElem?_eq_getElem hj]
    | succ i =>
      simp only [List.getElem_cons_succ] at hj ⊢
      have := ih (fun r hr => h r (by simp [hr])) i j (by simpa using hi) hj
      simp only [List.flatten_cons]
      rw [List.getElem?_append_right (by rw [hr, Nat.succ_mul]; omega), ← this]
      congr 1
      rw [hr, Nat.succ_mul]; omega

theorem Rw.get {w : World} {E : TypeId} {k n cap : Nat} {ao : Option Addr} {rows : List (List Value)} (h : Rw w E k ao n cap rows) (hk : 0 < k) (i : Nat) (hi : i < n) :
    ∃ b off, ao = some ⟨b, off, .none⟩ ∧ ∀ j (hj : j < (rows[i]'(by rw [h.num]; exact hi)).length), w.cell? ⟨b, off + i * k + j, .none⟩ = some ((rows[i]'(by rw [h.num]; exact hi))[j]) := by
  have hin : i < rows.length := by rw [h.num]; exact hi
  have hr := h.each _ (List.getElem_mem hin)
  obtain ⟨b, off, e, _⟩ := h.sl.cell (i * k + 0) _ (flatten_get h.each i 0 hin (by omega))
  refine ⟨b, off, e, fun j hj => ?_⟩
  obtain ⟨b', off', e', hc⟩ := h.sl.cell (i * k + j) _ (flatten_get h.each i j hin hj)
  rw [e] at e'
  simp only [Option.some.injEq, Addr.mk.injEq] at e'
  obtain ⟨rfl, rfl, -⟩ := e'
  rw [Nat.add_assoc]; exact hc

theorem elem?_lt {w : World} {b : Nat} {e : TypeId} (h : elem? w b = some e) : b < w.heap.size := by
  unfold elem? at h
  split at h
  · rename_i h'; exact (Array.getElem?_eq_some_iff.1 h').1
  · cases h

/-- blocks of another type may be written -/
theorem Rw.grown {w w' : World} {E T : TypeId} {k n cap g : Nat} {ao : Option Addr} {rows : List (List Value)} (h : Rw w E k ao n cap rows) (hg : w.grownBy w' (some g)) (hT : elem? w g = some T) (hne : T ≠ E) : Rw w' E k ao n cap rows := by
  have key : ∀ b off s, ao = some ⟨b, off, s⟩ → w'.heap[b]? = w.heap[b]? := fun b off s e => by
    have ht := h.typ b off s e
    refine hg.block b (elem?_lt ht) fun e2 => hne ?_
    simp only [Option.some.injEq] at e2
    rw [e2, hT] at ht
    simpa using ht
  refine ⟨h.num, h.each, ⟨h.sl.len, h.sl.le, h.sl.max, h.sl.none, fun j u hu => ?_⟩, fun b off s e => ?_⟩
  · obtain ⟨b, off, e, hc⟩ := h.sl.cell j u hu
    exact ⟨b, off, e, by rw [World.cell?_of_block (w := w) (key b off .none e)]; exact hc⟩
  · rw [elem?_same (key b off s e)]; exact h.typ b off s e
theorem Rw.below {w w' : World} {E : TypeId} {k n cap : Nat} {ao : Option Addr} {rows : List (List Value)} (h : Rw w E k ao n cap rows) (hb : Below w.heap.size w w') : Rw w' E k ao n cap rows :=
  ⟨h.num, h.each, h.sl.below hb, fun b off s e => by
    have ht := h.typ b off s e
    rw [elem?_same (hb.block b (elem?_lt ht))]; exact ht⟩
theorem Rw.nil (w : World) (E : TypeId) (k : Nat) : Rw w E k none 0 0 [] := ⟨rfl, by simp, ⟨by simp, by simp, by decide, fun _ => rfl, fun j u hu => by simp at hu⟩, by simp⟩
theorem Rw.of_own {w : World} {base E k n cap : Nat} {ao : Option Addr} {rows : List (List Value)} (h : w.ownsRow base E k (.slice ao n cap) n rows.flatten) (hn : rows.length = n) (hk : ∀ r ∈ rows, r.length = k) : Rw w E k ao n cap rows :=
  ⟨hn, hk, Sl.of_own h, fun b off s e => by
    rcases h.2 with ⟨h2, _⟩ | ⟨g, cap', cur, hv, _, hh, _⟩
    · simp only [Value.slice.injEq] at h2
      rw [h2.1] at e; cases e
    · simp only [Value.slice.injEq] at hv
      rw [hv.1] at e
      simp only [Option.some.injEq, Addr.mk.injEq] at e
      rw [← e.1]; exact elem?_of hh⟩

/-- append(out, x) of one element that lies at 'ad' -/
theorem wpo_append_one {P : Program} {w : World} {o : Oper} {a : Act} {K : Act → World → Prop} {Q : Exit → Act → World → Prop} (s x : Operand) (t : TypeId)
    (ho : o.op = .call { callee := .builtin .append, args := #[s, x], argTypes := #[t, t] })
    (base : Nat) (e : TypeId) {z : Value} {k bytes : Nat} (hi : (P.info? e).map (fun i => (i.zero, i.size, i.bytes)) = some (some z, k, bytes)) (ht : P.underlying t = some (.slice e))
    (hzs : z.cells.size = k) (hk : 0 < k)
    (v : Value) (n : Nat) (rows : List (List Value)) (hs : a.eval s = v) (hown : w.ownsRow base e k v n rows.flatten)
    (ad : Addr) (c : Nat) (row : List Value) (hx : a.eval x = .slice (some ad) 1 c) (hl : row.length = k) (hnews : ∀ j u, row[j]? = some u → w.cell? (ad.add j) = some u) (h1 : ∀ u ∈ row, u.oneCell' = true)
    (hbytes : (n + 1) * bytes ≤ 140737488355328) (hmax : n + 1 ≤ maxLen) (hbase : base ≤ w.heap.size)
    (h : ∀ g cap w', w'.ownsRow base e k (.slice (some ⟨g, 0, .none⟩) (n + 1) cap) (n + 1) (rows ++ [row]).flatten → w.grownBy w' v.ownBlock → (v.ownBlock = some g ∨ g = w.heap.size) → K (a.put o.dst (.slice (some ⟨g, 0, .none⟩) (n + 1) cap)) w') : o.wp P a w K Q := by
  obtain ⟨i, hi1, hi2, hi3, hi4⟩ := info_parts hi
  refine wp_append_lies w s x t ho base e i z k bytes ht hi1 hi2 hi3 hi4 hzs hk v n rows.flatten hs hown ad 1 c row hx (by omega) hnews h1 (by decide) hmax hbytes hbase _ rfl fun g cap w' h1 h2 h3 _ => ?_
  refine h g cap w' ?_ h2 h3
  rw [List.flatten_append]
  simpa using h1
theorem wpl_append_one {P : Program} {w : World} {ops : Array Oper} {rest : List Oper} {o : Oper} {a : Act} {Q : Exit → Act → World → Prop} (hw : Region.wanted o (yielded ops a.tmps) = true) (s x : Operand) (t : TypeId)
    (ho : o.op = .call { callee := .builtin .append, args := #[s, x], argTypes := #[t, t] })
    (base : Nat) (e : TypeId) {z : Value} {k bytes : Nat} (hi : (P.info? e).map (fun i => (i.zero, i.size, i.bytes)) = some (some z, k, bytes)) (ht : P.underlying t = some (.slice e))
    (hzs : z.cells.size = k) (hk : 0 < k)
    (v : Value) (n : Nat) (rows : List (List Value)) (hs : a.eval s = v) (hown : w.ownsRow base e k v n rows.flatten)
    (ad : Addr) (c : Nat) (row : List Value) (hx : a.eval x = .slice (some ad) 1 c) (hl : row.length = k) (hnews : ∀ j u, row[j]? = some u → w.cell? (ad.add j) = some u) (h1 : ∀ u ∈ row, u.oneCell' = true)
    (hbytes : (n + 1) * bytes ≤ 140737488355328) (hmax : n + 1 ≤ maxLen) (hbase : base ≤ w.heap.size)
    (h : ∀ g cap w', w'.ownsRow base e k (.slice (some ⟨g, 0, .none⟩) (n + 1) cap) (n + 1) (rows ++ [row]).flatten → w.grownBy w' v.ownBlock → (v.ownBlock = some g ∨ g = w.heap.size) → wpList P ops Q rest (a.put o.dst (.slice (some ⟨g, 0, .none⟩) (n + 1) cap)) w') : wpList P ops Q (o :: rest) a w :=
  wpl_of hw fun K hK => wpo_append_one s x t ho base e hi ht hzs hk v n rows hs hown ad c row hx hl hnews h1 hbytes hmax hbase fun g cap w' a1 a2 a3 => hK _ _ (h g cap w' a1 a2 a3)
theorem step_append_one {P : Program} {ops : Array Oper} {w : World} {o : Oper} {a : Act} {K : Act → World → Prop} {Q : Exit → Act → World → Prop} {E : Prop} (hw : Region.wanted o (yielded ops a.tmps) = true) (s x : Operand) (t : TypeId)
    (ho : o.op = .call { callee := .builtin .append, args := #[s, x], argTypes := #[t, t] })
    (base : Nat) (e : TypeId) {z : Value} {k bytes : Nat} (hi : (P.info? e).map (fun i => (i.zero, i.size, i.bytes)) = some (some z, k, bytes)) (ht : P.underlying t = some (.slice e))
    (hzs : z.cells.size = k) (hk : 0 < k)
    (v : Value) (n : Nat) (rows : List (List Value)) (hs : a.eval s = v) (hown : w.ownsRow base e k v n rows.flatten)
    (ad : Addr) (c : Nat) (row : List Value) (hx : a.eval x = .slice (some ad) 1 c) (hl : row.length = k) (hnews : ∀ j u, row[j]? = some u → w.cell? (ad.add j) = some u) (h1 : ∀ u ∈ row, u.oneCell' = true)
    (hbytes : (n + 1) * bytes ≤ 140737488355328) (hmax : n + 1 ≤ maxLen) (hbase : base ≤ w.heap.size)
    (h : ∀ g cap w', w'.ownsRow base e k (.slice (some ⟨g, 0, .none⟩) (n + 1) cap) (n + 1) (rows ++ [row]).flatten → w.grownBy w' v.ownBlock → (v.ownBlock = some g ∨ g = w.heap.size) → K (a.put o.dst (.slice (some ⟨g, 0, .none⟩) (n + 1) cap)) w') :
    if Region.wanted o (yielded ops a.tmps) = true then Oper.wp P o a w K Q else E := by
  rw [if_pos hw]
  exact wpo_append_one s x t ho base e hi ht hzs hk v n rows hs hown ad c row hx hl hnews h1 hbytes hmax hbase h

/-- a literal's cells in a new block -/
theorem news_at {w : World} {cs : Array Value} {T : TypeId} (row : List Value) (h : cs.toList = row) : ∀ j u, row[j]? = some u → (w.alloc (.cells cs T)).cell? ((⟨w.heap.size, 0, .none⟩ : Addr).add j) = some u := by
  intro j u hu
  rw [Addr.add_none, cell?_new, Nat.zero_add, ← Array.getElem?_toList, h]; exact hu

/-! objects behind a pointer -/
theorem block_cell {w : World} {b : Nat} {cs : Array Value} {T : TypeId} (h : w.heap[b]? = some (.cells cs T (0, 0))) (i : Nat) : w.cell? ⟨b, i, .none⟩ = cs[i]? := by
  unfold World.cell?; simp only [h]; rfl
theorem block_free {w : World} {b : Nat} {cs : Array Value} {T : TypeId} (h : w.heap[b]? = some (.cells cs T (0, 0))) (i : Nat) : w.frozen? ⟨b, i, .none⟩ = false := by
  unfold World.frozen?; simp only [h]; simp
theorem block_set {w : World} {b : Nat} {cs : Array Value} {T : TypeId} (h : w.heap[b]? = some (.cells cs T (0, 0))) (i : Nat) (u : Value) : (w.setCell ⟨b, i, .none⟩ u).heap[b]? = some (.cells (cs.setIfInBounds i u) T (0, 0)) :=
  heap_setCell_same w b i cs T u h
theorem grown_set (w : World) (b i : Nat) (u : Value) : w.grownBy (w.setCell ⟨b, i, .none⟩ u) (some b) :=
  ⟨rfl, rfl, rfl, by simp, fun k _ hk => heap_setCell_other w ⟨b, i, .none⟩ k u (fun e => hk (by simp [e]))⟩
theorem grown_below {w w' : World} {row : Option Nat} (h : Below w.heap.size w w') : w.grownBy w' row := ⟨h.os, h.tape, h.output, h.size, fun k hk _ => h.block k hk⟩
theorem grown_drew {w w' : World} {row : Option Nat} (h : w.grownBy w' row) : w.grownBy w'.drew row := ⟨h.os, h.tape, h.output, h.size, h.block⟩
theorem grown_trans {w w' w'' : World} {row : Option Nat} (h : w.grownBy w' row) (h2 : w'.grownBy w'' row) : w.grownBy w'' row :=
  ⟨h2.os.trans h.os, h2.tape.trans h.tape, h2.output.trans h.output, Nat.le_trans h.size h2.size, fun k hk hne => (h2.block k (Nat.lt_of_lt_of_le hk h.size) hne).trans (h.block k hk hne)⟩
theorem below_grown {B : Nat} {w0 w w' : World} {g : Nat} (h : Below B w0 w) (hg : w.grownBy w' (some g)) (hB : B ≤ g) (hw : B ≤ w.heap.size) : Below B w0 w' :=
  h.grown hg hw (fun k hk => by simp only [Option.some.injEq] at hk; omega)
end Go.Proofs.Ytadghaiengonoaa
