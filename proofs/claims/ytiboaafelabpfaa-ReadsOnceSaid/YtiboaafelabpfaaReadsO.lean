/- Helper lemmas for the walk of ReadsOnce: a map of rounds to ids. No statement of the seat is proved here. -/
import Derived.Test.YtiboaafelabpfaaReadsE
import Derived.Test.YtiboaafelabpfaaOpenR
import Derived.Maps.OwnSet
import Derived.Deep.CutBlock
import Derived.Deep.DrawnRows
namespace Go.Proofs.Ytiboaafelabpfaa
set_option linter.unusedVariables false
set_option linter.unusedSimpArgs false
set_option linter.unusedSectionVars false
open Go Go.RowKit Go.Maps

theorem qq_below {W W' : World} {b n cap : Nat} {begun sure : Int} {ao : Option Addr} (h : Q W b true begun sure ao n cap) (hB : Below W.heap.size W W') : Q W' b true begun sure ao n cap := (hB.block _ (Array.getElem?_eq_some_iff.1 h).1).trans h
abbrev ML := 51
theorem u64law : Keyed Try.prog 26 := int_keyed Try.underlying26
theorem zeroU (w : World) : (zeroValue 26).run Try.prog w = .ok (.int .u64 0) w := by kernel_rfl

/-- the map D has just the reads of L: round to id -/
def MapIs (D : DataW Unit) (L : List Rd) : Prop :=
  Maps.Tidy D ∧ (∀ k : Int, Maps.has D (.int .u64 k) = true ↔ ∃ r ∈ L, r.round = k) ∧ (∀ r ∈ L, ∀ z, D.atKey (.int .u64 r.round) z = .lit (.int .u64 r.id)) ∧ Maps.size D = L.length ∧ L.Pairwise (fun a b => a.round ≠ b.round)

theorem MapIs.nil : MapIs (.map []) [] := ⟨tidy_empty, fun k => by simp [has_eq], by simp, rfl, List.Pairwise.nil⟩
theorem key_ne {a b : Int} (h : a ≠ b) : (Lit.int .u64 a) ≠ Lit.int .u64 b := fun e => by cases e; exact h rfl
theorem MapIs.put {D : DataW Unit} {L : List Rd} (h : MapIs D L) (i x k : Int) (hf : ∀ r ∈ L, r.round ≠ k) : MapIs (D.put (.int .u64 k) (.lit (.int .u64 i))) (L ++ [⟨i, x, k⟩]) := by
  obtain ⟨h1, h2, h3, h4, h5⟩ := h
  have hk : WideAt.IsKeyLit (.int .u64 k) := by trivial
  have hno : Maps.has D (.int .u64 k) = false := by
    cases hh : Maps.has D (.int .u64 k) with
    | false => rfl
    | true => obtain ⟨r, hr, e⟩ := (h2 k).1 hh; exact absurd e (hf r hr)
  refine ⟨h1.put hk _, fun j => ?_, fun r hr z => ?_, ?_, ?_⟩
  · by_cases e : j = k
    · subst e
      simp [has_put_same h1.isMap hk]
    · rw [has_put_other (key_ne e), h2 j]
      simp [Ne.symm e]
  · rcases List.mem_append.1 hr with hr | hr
    · rw [atKey_put_other (key_ne (hf r hr))]; exact h3 r hr z
    · simp at hr; subst hr
      exact atKey_put_same h1.isMap hk _ _
  · rw [size_put h1, hno]; simp [h4]
  · rw [List.pairwise_append]
    exact ⟨h5, by simp, fun a ha b hb => by simp at hb; subst hb; exact hf a ha⟩
theorem MapIs.del {D : DataW Unit} {L : List Rd} {r : Rd} (h : MapIs D (r :: L)) : MapIs (D.del (.int .u64 r.round)) L := by
  obtain ⟨h1, h2, h3, h4, h5⟩ := h
  rw [List.pairwise_cons] at h5
  refine ⟨h1.del _, fun j => ?_, fun q hq z => ?_, ?_, h5.2⟩
  · by_cases e : j = r.round
    · subst e
      rw [has_del_same]
      constructor
      · intro h; cases h
      · rintro ⟨q, hq, e⟩; exact absurd e.symm (h5.1 q hq)
    · rw [has_del_other (key_ne e), h2 j]
      constructor
      · rintro ⟨q, hq, rfl⟩
        rcases List.mem_cons.1 hq with rfl | hq
        · exact absurd rfl e
        · exact ⟨q, hq, rfl⟩
      · rintro ⟨q, hq, rfl⟩; exact ⟨q, List.mem_cons_of_mem _ hq, rfl⟩
  · rw [atKey_del_other (key_ne (fun e => h5.1 q hq e.symm))]
    exact h3 q (List.mem_cons_of_mem _ hq) z
  · have := size_del (k := .int .u64 r.round) h1
    rw [(h2 r.round).2 ⟨r, by simp, rfl⟩] at this
    simp at this h4
    omega
theorem MapIs.perm {D : DataW Unit} {L L' : List Rd} (h : MapIs D L) (p : L.Perm L') : MapIs D L' := by
  obtain ⟨h1, h2, h3, h4, h5⟩ := h
  exact ⟨h1, fun k => by rw [h2 k]; exact ⟨fun ⟨r, hr, e⟩ => ⟨r, p.mem_iff.1 hr, e⟩, fun ⟨r, hr, e⟩ => ⟨r, p.mem_iff.2 hr, e⟩⟩, fun r hr => h3 r (p.mem_iff.2 hr), by rw [h4, p.length_eq], (p.pairwise_iff (fun {_ _} h => Ne.symm h)).1 h5⟩
theorem filter_perm (p : Rd → Bool) (l : List Rd) : l.Perm (l.filter p ++ l.filter (fun r => !p r)) := (List.filter_append_perm p l).symm

/-- the order of what waits -/
def Ord (l : List Rd) (begun : Int) : Prop := l.Pairwise (fun a b => a.round < b.round) ∧ ∀ r ∈ l, 1 ≤ r.round ∧ r.round ≤ begun
theorem Ord.filter {l : List Rd} {begun : Int} (h : Ord l begun) (p : Rd → Bool) : Ord (l.filter p) begun := ⟨h.1.filter _, fun r hr => h.2 r (List.mem_filter.1 hr).1⟩
theorem Ord.mono {l : List Rd} {a b : Int} (h : Ord l a) (hab : a ≤ b) : Ord l b := ⟨h.1, fun r hr => ⟨(h.2 r hr).1, Int.le_trans (h.2 r hr).2 hab⟩⟩
theorem Ord.snoc {l : List Rd} {begun x y : Int} (h : Ord l begun) (h0 : 0 ≤ begun) : Ord (l ++ [⟨x, y, begun + 1⟩]) (begun + 1) := by
  refine ⟨List.pairwise_append.2 ⟨h.1, by simp, fun a ha b hb => ?_⟩, fun r hr => ?_⟩
  · simp at hb; subst hb; have := (h.2 a ha).2; simp; omega
  · rcases List.mem_append.1 hr with hr | hr
    · have := h.2 r hr; exact ⟨this.1, by omega⟩
    · simp at hr; subst hr; simp; omega

/-- blocks that hold no such rows may be written -/
theorem Rw.grown_ne {w w' : World} {E : TypeId} {k n cap g : Nat} {ao : Option Addr} {rows : List (List Value)} (h : Rw w E k ao n cap rows) (hg : w.grownBy w' (some g)) (hT : elem? w g ≠ some E) : Rw w' E k ao n cap rows := by
  have key : ∀ b off s, ao = some ⟨b, off, s⟩ → w'.heap[b]? = w.heap[b]? := fun b off s e => by
    have ht := h.typ b off s e
    refine hg.block b (elem?_lt ht) fun e2 => hT ?_
    simp only [Option.some.injEq] at e2
    rw [← e2]; exact ht
  refine ⟨h.num, h.each, ⟨h.sl.len, h.sl.le, h.sl.max, h.sl.none, fun j u hu => ?_⟩, fun b off s e => ?_⟩
  · obtain ⟨b, off, e, hc⟩ := h.sl.cell j u hu
    exact ⟨b, off, e, by rw [World.cell?_of_block (w := w) (key b off .none e)]; exact hc⟩
  · rw [elem?_same (key b off s e)]; exact h.typ b off s e
abbrev Lft (w : World) (b n : Nat) (D : DataW Unit) : Prop := w.ownsMap Try.prog 26 (plainElem Try.prog 26) b n D
theorem Lft.elem {w : World} {b n : Nat} {D : DataW Unit} (h : Lft w b n D) (E : TypeId) : elem? w b ≠ some E := by
  obtain ⟨es, clock, hb, _⟩ := h
  unfold elem?; rw [hb]; simp
theorem Lft.below {w w' : World} {b n : Nat} {D : DataW Unit} (h : Lft w b n D) (hB : Below w.heap.size w w') : Lft w' b n D := h.kept (grown_below hB (row := none)) (by simp)

/-- 'id, ok := left[r.Round]' -/
theorem wpl_look {w : World} {ops : Array Oper} {rest : List Oper} {o : Oper} {a : Act} {Q : Exit → Act → World → Prop} (hg : o.guard = none) (m x : Operand) (hop : o.op = Op.lookup ML m x true)
    (b n : Nat) (D : DataW Unit) (L : List Rd) (r : Rd) (hM : MapIs D (r :: L)) (hm : a.eval m = .map (some b)) (hown : Lft w b n D) (hx : a.eval x = .int .u64 r.round) (hwf : (Lit.int .u64 r.round).wf = true)
    (hK : wpList Try.prog ops Q rest (a.put o.dst (.tuple #[.int .u64 r.id, .bool true])) w) : wpList Try.prog ops Q (o :: rest) a w := by
  refine wpList_lookup_own_ok_int w hg m x ML hop 26 26 .u64 u64law Try.underlying51 Try.underlying26 (zeroU _) b n D hm hown _ _ hx (keyOf_int_mk Try.underlying26 hwf) fun c hat _ => ?_
  obtain ⟨h1, h2, h3, _⟩ := hM
  rw [h3 r (by simp)] at hat
  simp at hat
  rw [(h2 r.round).2 ⟨r, by simp, rfl⟩, ← hat]
  exact hK
/-- 'len(left)' -/
theorem wpl_len {w : World} {ops : Array Oper} {rest : List Oper} {o : Oper} {a : Act} {Q : Exit → Act → World → Prop} (hg : o.guard = none) (m : Operand) (hop : o.op = Op.call { callee := Callee.builtin Builtin.len, args := #[m], argTypes := #[ML] })
    (b n : Nat) (D : DataW Unit) (L : List Rd) (hM : MapIs D L) (hm : a.eval m = .map (some b)) (hown : Lft w b n D)
    (hK : wpList Try.prog ops Q rest (a.put o.dst (.int .i64 (L.length : Int))) w) : wpList Try.prog ops Q (o :: rest) a w := by
  refine wpList_len_own w hg m ML hop 26 26 Try.underlying51 _ b n D hm hown ?_
  rw [hM.2.2.2.1]
  exact hK
end Go.Proofs.Ytiboaafelabpfaa
