/- Arguments that came in, opened: slices of integers. No statement of the seat is proved here. -/
import Derived.Test.YtadghaiengonoaaOpenR
namespace Go.Proofs.Ytadghaiengonoaa
set_option linter.unusedVariables false
set_option linter.unusedSimpArgs false
set_option linter.unusedSectionVars false
open Go Go.ChangeShapes Go.WideShapes Go.ChangeAt Go.RowKit Go.Deep

theorem ints_flat (k : IntKind) (l : List Int) : (l.map fun a => [Value.int k a]).flatten = l.map (Value.int k) := by
  induction l with
  | nil => rfl
  | cons a l ih => simp only [List.map_cons, List.flatten_cons, ih]; rfl
section
variable {H : Type} {enc : TypeId × Value → H} {P : Program} {w : World} {base : Nat} {held : Bool}
theorem open_is {t e : TypeId} {k : IntKind} {fuel : Nat} {ao : Option Addr} {len cap : Nat} {x : DataW H × List MemPlace} (ht : P.underlying t = some (.slice e)) (he : P.underlying e = some (.int k)) (hC : P.cellsOf e = 1)
    (h : DataW.trod enc P w base (fun _ => true) held fuel t (Value.slice ao len cap).cells.toList = some x) : ∃ l : List Int, len = l.length ∧ Sl w 1 ao l.length cap (l.map (Value.int k)) ∧ ∀ a ∈ l, (Lit.int k a).wf = true := by
  obtain ⟨l, h1, h2, h3⟩ := open_rows (fun a : Int => [Value.int k a]) (fun a => (Lit.int k a).wf = true) (fun _ => rfl) (by decide) ht hC (fun n cs y hcs hy => by
    obtain ⟨a, e0, _, w0⟩ := DataW.trod_int he hy
    exact ⟨a, e0, w0⟩) h
  exact ⟨l, h1, by rw [← ints_flat]; exact h2, h3⟩
end
end Go.Proofs.Ytadghaiengonoaa
