/- slots: things, their order, a row of one's own that is being sorted. No statement of the seat is proved here. -/
import Derived.Test.YtadghaiengonoaaSta
import Derived.Test.YtadghaiengonoaaAux3
import Derived.WalkLawsBesides
import Derived.BigQuiet
import Derived.Deep.QuietTactic
import Derived.RegionTactic
import Derived.BigRegion
import Derived.Deep.RegionWith
import Derived.Deep.RegionLaw
import Derived.Deep.RegionHeld3
import Derived.Deep.DeepCutAuto
import Derived.IntWalk
import Derived.WalkSpells
import Derived.Laws.NewBlocks
import Derived.Lib.QuietBelow
namespace Go.Proofs.Ytadghaiengonoaa
set_option linter.unusedVariables false
set_option linter.unusedSimpArgs false
set_option linter.unusedSectionVars false
open Go Go.RowKit

structure Th where
  id : Int
  gen : Int
  due : Int
deriving DecidableEq
def thCells (t : Th) : List Value := [.int .u64 t.id, .int .u64 t.gen, .int .i64 t.due]
def thVal (t : Th) : Value := .agg #[.int .u64 t.id, .int .u64 t.gen, .int .i64 t.due]
theorem th_len (t : Th) : (thCells t).length = 3 := rfl
abbrev thFlat (l : List Th) : List Value := (l.map thCells).flatten
theorem thFlat_len (l : List Th) : (thFlat l).length = l.length * 3 := by
  induction l with
  | nil => rfl
  | cons t l ih => simp only [thFlat, List.map_cons, List.flatten_cons, List.length_append, th_len] at ih ⊢; rw [ih, List.length_cons]; omega
theorem thFlat_get (l : List Th) (i : Nat) (hi : i < l.length) (j : Nat) (hj : j < 3) : (thFlat l)[i * 3 + j]? = some ((thCells l[i])[j]'hj) := by
  induction l generalizing i with
  | nil => simp at hi
  | cons t l ih =>
    simp only [thFlat, List.map_cons, List.flatten_cons] at ih ⊢
    cases i with
    | zero => rw [List.getElem?_append_left (by rw [th_len]; omega), Nat.zero_mul, Nat.zero_add, List.getElem?_eq_getElem (by rw [th_len]; omega)]; rfl
    | succ i =>
      rw [List.getElem?_append_right (by rw [th_len]; omega), th_len, show (i + 1) * 3 + j - 3 = i * 3 + j from by omega, ih i (by simpa using hi)]
      rfl
theorem thFlat_set (l : List Th) (i : Nat) (hi : i < l.length) (t : Th) : (((thFlat l).set (i * 3) (.int .u64 t.id)).set (i * 3 + 1) (.int .u64 t.gen)).set (i * 3 + 2) (.int .i64 t.due) = thFlat (l.set i t) := by
  induction l generalizing i with
  | nil => simp at hi
  | cons u l ih =>
    cases i with
    | zero => rfl
    | succ i =>
      have ih := ih i (by simpa using hi)
      simp only [thFlat, List.map_cons, List.flatten_cons, List.set_cons_succ] at ih ⊢
      rw [← ih]
      have e : ∀ (a b : List Value) (k : Nat) (v : Value), a.length = 3 → (a ++ b).set (k + 3) v = a ++ b.set k v := fun a b k v h => by
        rw [List.set_append_right _ _ (by omega), h]; simp
      rw [show (i + 1) * 3 = i * 3 + 3 from by omega, show i * 3 + 3 + 1 = (i * 3 + 1) + 3 from by omega, show i * 3 + 3 + 2 = (i * 3 + 2) + 3 from by omega, e _ _ _ _ (th_len u), e _ _ _ _ (th_len u), e _ _ _ _ (th_len u)]

/-- the order: a stands no later than b -/
def thLt (a b : Th) : Bool := decide (a.due < b.due) || (decide (a.due = b.due) && decide (a.id < b.id))
def thLe (a b : Th) : Bool := !thLt b a
theorem thLe_iff (a b : Th) : thLe a b = true ↔ a.due < b.due ∨ (a.due = b.due ∧ a.id ≤ b.id) := by
  simp only [thLe, thLt, Bool.not_eq_true', Bool.or_eq_false_iff, Bool.and_eq_false_iff, decide_eq_false_iff_not]; omega
theorem thLe_no (a b : Th) : thLe a b = false ↔ thLt b a = true := by simp [thLe]
theorem thLt_iff (a b : Th) : thLt a b = true ↔ a.due < b.due ∨ (a.due = b.due ∧ a.id < b.id) := by simp [thLt]
theorem thLe_trans (a b c : Th) (h1 : thLe a b = true) (h2 : thLe b c = true) : thLe a c = true := by
  rw [thLe_iff] at h1 h2 ⊢; omega
theorem thLe_total (a b : Th) : thLe a b = true ∨ thLe b a = true := by
  rw [thLe_iff, thLe_iff]; omega
abbrev thUp (l : List Th) : Prop := Sta.Up thLe l

/-- a row of things of one's own that is being sorted -/
structure SR (E : TypeId) (W0 W : World) (base g n cap : Nat) (D : List Th) : Prop where
  own : W.ownsRow base E 3 (.slice (some ⟨g, 0, none⟩) n cap) n (thFlat D)
  gr : W0.grownBy W (some g)
  len : D.length = n
theorem SR.cells {E : TypeId} {W0 W : World} {base g n cap : Nat} {D : List Th} (h : SR E W0 W base g n cap D) (i : Nat) (hi : i < D.length) :
    W.cell? ⟨g, i * 3, none⟩ = some (.int .u64 D[i].id) ∧ W.cell? ⟨g, i * 3 + 1, none⟩ = some (.int .u64 D[i].gen) ∧ W.cell? ⟨g, i * 3 + 2, none⟩ = some (.int .i64 D[i].due) := by
  have hn := h.len
  refine ⟨?_, ?_, ?_⟩
  · rw [h.own.cellAt (i * 3) (by omega)]; exact thFlat_get D i hi 0 (by decide)
  · rw [h.own.cellAt (i * 3 + 1) (by omega)]; exact thFlat_get D i hi 1 (by decide)
  · rw [h.own.cellAt (i * 3 + 2) (by omega)]; exact thFlat_get D i hi 2 (by decide)
theorem SR.free {E : TypeId} {W0 W : World} {base g n cap : Nat} {D : List Th} (h : SR E W0 W base g n cap D) (j : Nat) : W.frozen? ⟨g, j, none⟩ = false := h.own.frozenAt j
theorem SR.lt {E : TypeId} {W0 W : World} {base g n cap : Nat} {D : List Th} (h : SR E W0 W base g n cap D) : g < W.heap.size := (h.own.lt g rfl).2
theorem SR.below {E : TypeId} {W0 W W' : World} {base g n cap : Nat} {D : List Th} (h : SR E W0 W base g n cap D) (hb : Below W.heap.size W W') : SR E W0 W' base g n cap D :=
  ⟨own_below h.own hb, h.gr.trans ⟨hb.os, hb.tape, hb.output, hb.size, fun i hi _ => hb.block i hi⟩, h.len⟩
theorem SR.put {E : TypeId} {W0 W : World} {base g n cap : Nat} {D : List Th} (h : SR E W0 W base g n cap D) (i : Nat) (hi : i < D.length) (t : Th) :
    SR E W0 (((W.setCell ⟨g, i * 3, none⟩ (.int .u64 t.id)).setCell ⟨g, i * 3 + 1, none⟩ (.int .u64 t.gen)).setCell ⟨g, i * 3 + 2, none⟩ (.int .i64 t.due)) base g n cap (D.set i t) := by
  refine ⟨?_, ?_, by simp [h.len]⟩
  · have := (((h.own.stored (i * 3) (.int .u64 t.id)).1.stored (i * 3 + 1) (.int .u64 t.gen)).1.stored (i * 3 + 2) (.int .i64 t.due)).1
    rwa [thFlat_set D i hi t] at this
  · exact h.gr.trans (grown_trans (grown_set _ _ _ _) (grown_trans (grown_set _ _ _ _) (grown_set _ _ _ _)))
end Go.Proofs.Ytadghaiengonoaa
