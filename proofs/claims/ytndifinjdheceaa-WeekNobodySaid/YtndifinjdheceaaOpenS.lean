/- Arguments that came in, opened: slices of spans. No statement of the seat is proved here. -/
import Derived.Test.YtndifinjdheceaaOpenR
import Derived.Test.YtndifinjdheceaaSpan
namespace Go.Proofs.Ytndifinjdheceaa
set_option linter.unusedVariables false
set_option linter.unusedSimpArgs false
set_option linter.unusedSectionVars false
open Go Go.ChangeShapes Go.WideShapes Go.ChangeAt Go.RowKit Go.Deep
section
variable {H : Type} {enc : TypeId × Value → H} {P : Program} {w : World} {base : Nat} {held : Bool}

theorem row_ints2 {k0 k1 : IntKind} {e : TypeId} {f0 f1 : Field} (he : P.underlying e = some (.struct #[f0, f1])) (hone : oneCellFields P #[f0, f1] = true) (hC : P.cellsOf e = 2)
    (u0 : P.underlying f0.type = some (.int k0)) (u1 : P.underlying f1.type = some (.int k1)) (n : Nat) (cs : List Value) (y : DataW H × List MemPlace) (hcs : cs.length = 2)
    (h : DataW.trod enc P w base (fun _ => true) held n e cs = some y) : ∃ a : Int × Int, cs = [.int k0 a.1, .int k1 a.2] ∧ (Lit.int k0 a.1).wf = true ∧ (Lit.int k1 a.2).wf = true := by
  obtain ⟨o0, c0⟩ := hone_of hone 0 f0 rfl
  obtain ⟨o1, c1⟩ := hone_of hone 1 f1 rfl
  match cs, hcs with
  | [v0, v1], _ =>
    obtain ⟨y0, y1, m, _, _, h0, h1⟩ := trod_struct2 he h
    rw [o0, c0] at h0
    rw [o1, c1] at h1
    simp at h0 h1
    obtain ⟨n0, e0, _, w0⟩ := DataW.trod_int u0 h0
    obtain ⟨n1, e1, _, w1⟩ := DataW.trod_int u1 h1
    simp only [List.cons.injEq, and_true] at e0 e1
    subst e0; subst e1
    exact ⟨(n0, n1), rfl, w0, w1⟩
end
def SpOk (l : List Sp) : Prop := ∀ s ∈ l, (Lit.int .i64 s.a).wf = true ∧ (Lit.int .i64 s.b).wf = true
theorem open_spans {H : Type} {enc : TypeId × Value → H} {w : World} {base : Nat} {held : Bool} {fuel : Nat} {ao : Option Addr} {len cap : Nat} {x : DataW H × List MemPlace}
    (h : DataW.trod enc Try.prog w base (fun _ => true) held fuel 22 (Value.slice ao len cap).cells.toList = some x) : ∃ l : List Sp, len = l.length ∧ Sps w ao cap l ∧ SpOk l := by
  have key : ∀ (n : Nat) (cs : List Value) (y : DataW H × List MemPlace), cs.length = 2 → DataW.trod enc Try.prog w base (fun _ => true) held n 50 cs = some y → ∃ a : Sp, cs = spCells a ∧ ((Lit.int .i64 a.a).wf = true ∧ (Lit.int .i64 a.b).wf = true) := by
    intro n cs y h1 h2
    obtain ⟨⟨a, b⟩, h3, h4, h5⟩ := row_ints2 Try.underlying50 (by kernel_rfl) (by kernel_rfl) Try.underlying2 Try.underlying2 n cs y h1 h2
    exact ⟨⟨a, b⟩, h3, h4, h5⟩
  obtain ⟨l, h1, h2, h3⟩ := open_rows spCells (fun a => (Lit.int .i64 a.a).wf = true ∧ (Lit.int .i64 a.b).wf = true) (fun _ => rfl) (by decide) Try.underlying22 (by kernel_rfl) key h
  exact ⟨l, h1, h2, h3⟩
end Go.Proofs.Ytndifinjdheceaa
