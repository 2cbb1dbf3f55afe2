/- Arguments that came in, opened: things. No statement of the seat is proved here. -/
import Derived.Test.YtadghaiengonoaaOpenR
import Derived.Test.YtadghaiengonoaaUd
namespace Go.Proofs.Ytadghaiengonoaa
set_option linter.unusedVariables false
set_option linter.unusedSimpArgs false
set_option linter.unusedSectionVars false
open Go Go.ChangeShapes Go.WideShapes Go.ChangeAt Go.RowKit Go.Deep
instance : Inhabited Th := ⟨⟨0, 0, 0⟩⟩
def ThOk (t : Th) : Prop := (Lit.int .u64 t.id).wf = true ∧ (Lit.int .u64 t.gen).wf = true ∧ (Lit.int .i64 t.due).wf = true
theorem ThOk.id {t : Th} (h : ThOk t) : IdOk t.id := by
  have := h.1
  simp [Lit.wf, IntKind.min, IntKind.max, IntKind.signed, IntKind.bits] at this
  exact ⟨this.1, by omega⟩
theorem ThOk.due {t : Th} (h : ThOk t) : -9223372036854775808 ≤ t.due ∧ t.due ≤ 9223372036854775807 := by
  have := h.2.2
  simp [Lit.wf, IntKind.min, IntKind.max, IntKind.signed, IntKind.bits] at this
  exact ⟨by omega, by omega⟩
set_option maxRecDepth 100000 in
theorem th_row {H : Type} {enc : TypeId × Value → H} {w : World} {base : Nat} {held : Bool} (n : Nat) (cs : List Value) (y : DataW H × List MemPlace) (hcs : cs.length = 3)
    (h : DataW.trod enc Try.prog w base (fun _ => true) held n 30 cs = some y) : ∃ t : Th, cs = thCells t ∧ ThOk t := by
  obtain ⟨a, e, w0, w1, w2⟩ := row_ints3 Try.underlying30 (by kernel_rfl) (by kernel_rfl) Try.underlying28 Try.underlying28 Try.underlying2 n cs y hcs h
  exact ⟨⟨a.1, a.2.1, a.2.2⟩, e, w0, w1, w2⟩
set_option maxRecDepth 100000 in
theorem open_th {H : Type} {enc : TypeId × Value → H} {w : World} {base : Nat} {held : Bool} {r : Reach} {b0 : Nat} {v : Value} {d : DataW H} {p : List MemPlace}
    (hv : Value.okWide Try.prog w r b0 30 v) (h : DataW.Trod enc Try.prog w base (fun _ => true) held 30 v d p) : ∃ t : Th, v = thVal t ∧ ThOk t := by
  obtain ⟨cs, rfl, hsz⟩ := okWide_struct Try.underlying30 hv
  obtain ⟨fuel, hf⟩ := h
  have hC : Try.prog.cellsOf 30 = 3 := by kernel_rfl
  obtain ⟨t, e, hok⟩ := th_row fuel cs.toList _ (by rw [Array.length_toList, hsz, hC]) hf
  refine ⟨t, ?_, hok⟩
  unfold thVal
  congr 1
  exact Array.toList_inj.1 e
set_option maxRecDepth 100000 in
theorem open_ths {H : Type} {enc : TypeId × Value → H} {w : World} {base : Nat} {held : Bool} {fuel : Nat} {ao : Option Addr} {len cap : Nat} {x : DataW H × List MemPlace}
    (h : DataW.trod enc Try.prog w base (fun _ => true) held fuel 32 (Value.slice ao len cap).cells.toList = some x) : ∃ l : List Th, len = l.length ∧ Sl w 3 ao l.length cap (thFlat l) ∧ ∀ a ∈ l, ThOk a :=
  open_rows thCells ThOk (fun _ => rfl) (by decide) Try.underlying32 (by kernel_rfl) th_row h
end Go.Proofs.Ytadghaiengonoaa
