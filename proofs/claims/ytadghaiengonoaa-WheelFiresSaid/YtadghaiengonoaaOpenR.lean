/- Arguments that came in, opened: slices of structs of integers. No statement of the seat is proved here. -/
import Derived.Test.YtadghaiengonoaaOpen
import Derived.Test.YtadghaiengonoaaAux3
import Derived.Deep.Slices
import Derived.Deep.Fields
import Derived.Deep.Strs
namespace Go.Proofs.Ytadghaiengonoaa
set_option linter.unusedVariables false
set_option linter.unusedSimpArgs false
set_option linter.unusedSectionVars false
open Go Go.ChangeShapes Go.WideShapes Go.ChangeAt Go.RowKit Go.Deep

theorem rows_len {α : Type} {cells : α → List Value} {k : Nat} (hl : ∀ a, (cells a).length = k) (l : List α) : (l.map cells).flatten.length = l.length * k := by
  induction l with
  | nil => simp
  | cons a l ih => simp only [List.map_cons, List.flatten_cons, List.length_append, ih, hl, List.length_cons, Nat.succ_mul]; omega

/-- what a cell of rows is -/
theorem rows_get {α : Type} {cells : α → List Value} {k : Nat} (hl : ∀ a, (cells a).length = k) (hk : 0 < k) (l : List α) (j : Nat) (u : Value) (h : (l.map cells).flatten[j]? = some u) :
    ∃ (hi : j / k < l.length), (cells l[j / k])[j % k]? = some u := by
  have hj : j < (l.map cells).flatten.length := (List.getElem?_eq_some_iff.1 h).1
  rw [rows_len hl] at hj
  have hi : j / k < l.length := Nat.div_lt_of_lt_mul (by rw [Nat.mul_comm]; exact hj)
  refine ⟨hi, ?_⟩
  have hm : j % k < k := Nat.mod_lt _ hk
  have := flatten_get (rows := l.map cells) (k := k) (by intro r hr; obtain ⟨x, _, rfl⟩ := List.mem_map.1 hr; exact hl x) (j / k) (j % k) (by simpa using hi) (by simp [hl]; exact hm)
  rw [show j / k * k + j % k = j from by rw [Nat.mul_comm]; exact Nat.div_add_mod j k, h] at this
  rw [this, List.getElem?_eq_getElem (by rw [hl]; exact hm)]
  simp

section
variable {H : Type} {enc : TypeId × Value → H} {P : Program} {w : World} {base : Nat} {held : Bool}
theorem open_rows {α : Type} [Inhabited α] (cells : α → List Value) (good : α → Prop) {k : Nat} (hl : ∀ a, (cells a).length = k) (hk : 0 < k) {t e : TypeId} {fuel : Nat} {ao : Option Addr} {len cap : Nat} {x : DataW H × List MemPlace}
    (ht : P.underlying t = some (.slice e)) (hC : P.cellsOf e = k)
    (hrow : ∀ (n : Nat) (cs : List Value) (y : DataW H × List MemPlace), cs.length = k → DataW.trod enc P w base (fun _ => true) held n e cs = some y → ∃ a, cs = cells a ∧ good a)
    (h : DataW.trod enc P w base (fun _ => true) held fuel t (Value.slice ao len cap).cells.toList = some x) : ∃ l : List α, len = l.length ∧ Sl w k ao l.length cap (l.map cells).flatten ∧ ∀ a ∈ l, good a := by
  rcases open_slice ht h with ⟨hcs, _⟩ | ⟨a, len', cap', m, n, D, Pl, hcs, _, hle, hmax, hmm, _, hx⟩
  · simp [Value.cells] at hcs
    obtain ⟨rfl, rfl, rfl⟩ := hcs
    exact ⟨[], rfl, ⟨by simp, by simp, by decide, fun _ => rfl, fun j u hu => by simp at hu⟩, by simp⟩
  · simp [Value.cells] at hcs
    obtain ⟨rfl, rfl, rfl⟩ := hcs
    simp only [if_true] at hmm
    subst hmm
    have each : ∀ i, i < len → ∃ q : α, (∀ j, j < k → w.cell? (a.add (i * k + j)) = (cells q)[j]?) ∧ good q := by
      intro i hi
      obtain ⟨cs', h1, h2⟩ := hx i (by omega)
      rw [hC] at h1
      obtain ⟨_, hlen, hcell⟩ := World.cells?_some h1
      obtain ⟨q, rfl, hq⟩ := hrow _ _ _ hlen h2
      refine ⟨q, fun j hj => ?_, hq⟩
      rw [← add_add]; exact hcell j hj
    obtain ⟨y, hy⟩ := choose_lt each
    refine ⟨(List.range len).map y, by simp, ⟨by simpa using rows_len hl ((List.range len).map y), by simpa using hle, hmax, by simp, fun j u hu => ?_⟩, ?_⟩
    · obtain ⟨hi, hu'⟩ := rows_get hl hk _ j u hu
      have hi' : j / k < len := by simpa using hi
      have hm : j % k < k := Nat.mod_lt _ hk
      have hc := (hy _ hi').1 _ hm
      rw [show j / k * k + j % k = j from by rw [Nat.mul_comm]; exact Nat.div_add_mod j k] at hc
      simp only [List.getElem_map, List.getElem_range] at hu'
      rw [hu'] at hc
      obtain ⟨b, off, sp⟩ := a
      have hcz := (hy 0 (Nat.lt_of_le_of_lt (Nat.zero_le _) hi')).1 0 hk
      rw [List.getElem?_eq_getElem (by rw [hl]; exact hk)] at hcz
      have hsp : sp = none := by simpa [Addr.add] using World.cell?_spot hcz
      subst hsp
      refine ⟨b, off, rfl, ?_⟩
      rwa [Addr.add_none] at hc
    · intro q hq
      obtain ⟨i, hi, rfl⟩ := List.mem_map.1 hq
      exact (hy i (List.mem_range.1 hi)).2

theorem row_ints3 {k0 k1 k2 : IntKind} {e : TypeId} {f0 f1 f2 : Field} (he : P.underlying e = some (.struct #[f0, f1, f2])) (hone : oneCellFields P #[f0, f1, f2] = true) (hC : P.cellsOf e = 3)
    (u0 : P.underlying f0.type = some (.int k0)) (u1 : P.underlying f1.type = some (.int k1)) (u2 : P.underlying f2.type = some (.int k2)) (n : Nat) (cs : List Value) (y : DataW H × List MemPlace) (hcs : cs.length = 3)
    (h : DataW.trod enc P w base (fun _ => true) held n e cs = some y) : ∃ a : Int × Int × Int, cs = [.int k0 a.1, .int k1 a.2.1, .int k2 a.2.2] ∧ (Lit.int k0 a.1).wf = true ∧ (Lit.int k1 a.2.1).wf = true ∧ (Lit.int k2 a.2.2).wf = true := by
  obtain ⟨o0, c0⟩ := hone_of hone 0 f0 rfl
  obtain ⟨o1, c1⟩ := hone_of hone 1 f1 rfl
  obtain ⟨o2, c2⟩ := hone_of hone 2 f2 rfl
  match cs, hcs with
  | [v0, v1, v2], _ =>
    obtain ⟨y0, y1, y2, m, _, _, h0, h1, h2⟩ := trod_struct3 he h
    rw [o0, c0] at h0
    rw [o1, c1] at h1
    rw [o2, c2] at h2
    simp at h0 h1 h2
    obtain ⟨n0, e0, _, w0⟩ := DataW.trod_int u0 h0
    obtain ⟨n1, e1, _, w1⟩ := DataW.trod_int u1 h1
    obtain ⟨n2, e2, _, w2⟩ := DataW.trod_int u2 h2
    simp only [List.cons.injEq, and_true] at e0 e1 e2
    subst e0; subst e1; subst e2
    exact ⟨(n0, n1, n2), rfl, w0, w1, w2⟩
end

/-- a slice of structs of three integers, read -/
abbrev I3 := Int × Int × Int
def i3 (k0 k1 k2 : IntKind) (a : I3) : List Value := [.int k0 a.1, .int k1 a.2.1, .int k2 a.2.2]
def I3s (w : World) (k0 k1 k2 : IntKind) (ao : Option Addr) (cap : Nat) (l : List I3) : Prop := Sl w 3 ao l.length cap (l.map (i3 k0 k1 k2)).flatten
def I3ok (k0 k1 k2 : IntKind) (l : List I3) : Prop := ∀ a ∈ l, (Lit.int k0 a.1).wf = true ∧ (Lit.int k1 a.2.1).wf = true ∧ (Lit.int k2 a.2.2).wf = true
theorem I3s.get {w : World} {k0 k1 k2 : IntKind} {ao : Option Addr} {cap : Nat} {l : List I3} (h : I3s w k0 k1 k2 ao cap l) (k : Nat) (hk : k < l.length) :
    ∃ b off, ao = some ⟨b, off, none⟩ ∧ w.cell? ⟨b, off + k * 3, none⟩ = some (.int k0 l[k].1) ∧ w.cell? ⟨b, off + k * 3 + 1, none⟩ = some (.int k1 l[k].2.1) ∧ w.cell? ⟨b, off + k * 3 + 2, none⟩ = some (.int k2 l[k].2.2) := by
  have key : ∀ j (hj : j < 3), (l.map (i3 k0 k1 k2)).flatten[k * 3 + j]? = (i3 k0 k1 k2 l[k])[j]? := by
    intro j hj
    have := flatten_get (rows := l.map (i3 k0 k1 k2)) (k := 3) (by intro r hr; obtain ⟨x, _, rfl⟩ := List.mem_map.1 hr; rfl) k j (by simpa using hk) (by simpa [i3] using hj)
    rw [this, List.getElem?_eq_getElem (by simpa [i3] using hj)]
    simp
  obtain ⟨b, off, e, c0⟩ := h.cell _ _ (key 0 (by omega))
  obtain ⟨b1, off1, e1, c1⟩ := h.cell _ _ (key 1 (by omega))
  obtain ⟨b2, off2, e2, c2⟩ := h.cell _ _ (key 2 (by omega))
  rw [e] at e1 e2
  simp only [Option.some.injEq, Addr.mk.injEq] at e1 e2
  obtain ⟨rfl, rfl, -⟩ := e1
  obtain ⟨rfl, rfl, -⟩ := e2
  exact ⟨b, off, e, by simpa using c0, by rw [Nat.add_assoc]; exact c1, by rw [Nat.add_assoc]; exact c2⟩
theorem I3s.below {w w' : World} {k0 k1 k2 : IntKind} {ao : Option Addr} {cap : Nat} {l : List I3} (h : I3s w k0 k1 k2 ao cap l) (hb : Below w.heap.size w w') : I3s w' k0 k1 k2 ao cap l := Sl.below h hb
end Go.Proofs.Ytadghaiengonoaa
