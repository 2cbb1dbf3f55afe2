/- Arguments that came in, opened: things. No statement of the seat is proved here. -/
import Derived.Test.YtadghaiengonoaaDoorOpenR
import Derived.Test.YtadghaiengonoaaDoorUd
namespace Go.Proofs.YtadghaiengonoaaDoor
set_option linter.unusedVariables false
set_option linter.unusedSimpArgs false
set_option linter.unusedSectionVars false
open Go Go.ChangeShapes Go.WideShapes Go.ChangeAt Go.RowKit Go.Deep
instance : Inhabited Th := ⟨⟨0, 0, 0⟩⟩
def ThOk (t : Th) : Prop := (Lit.int .u64 t.id).wf = true ∧ (Lit.int .u64 t.gen).wf = true ∧ (Lit.int .i64 t.due).wf = true
theorem ThOk.id {t : Th} (h : ThOk t) : IdOk t.id := by
  have := h.1
  simp [Lit.wf, IntKind.min, IntKind.max, IntKind.signed, IntKind.bits] at this
  exact ⟨this.1, by omega⟩
theorem ThOk.due {t : Th} (h : ThOk t) : -9223372036854775808 ≤ t.due ∧ t.due ≤ 9223372036854775807 := by
  have := h.2.2
  simp [Lit.wf, IntKind.min, IntKind.max, IntKind.signed, IntKind.bits] at this
  exact ⟨by omega, by omega⟩
theorem th_row {H : Type} {enc : TypeId × Value → H} {w : World} {base : Nat} {held : Bool} (n : Nat) (cs : List Value) (y : DataW H × List MemPlace) (hcs : cs.length = 3)
    (h : DataW.trod enc Tryd.prog w base (fun _ => true) held n 27 cs = some y) : ∃ t : Th, cs = thCells t ∧ ThOk t := by
  obtain ⟨a, e, w0, w1, w2⟩ := row_ints3 Tryd.underlying27 (by kernel_rfl) (by kernel_rfl) Tryd.underlying25 Tryd.underlying25 Tryd.underlying2 n cs y hcs h
  exact ⟨⟨a.1, a.2.1, a.2.2⟩, e, w0, w1, w2⟩
theorem open_th {H : Type} {enc : TypeId × Value → H} {w : World} {base : Nat} {held : Bool} {r : Reach} {b0 : Nat} {v : Value} {d : DataW H} {p : List MemPlace}
    (hv : Value.okWide Tryd.prog w r b0 27 v) (h : DataW.Trod enc Tryd.prog w base (fun _ => true) held 27 v d p) : ∃ t : Th, v = thVal t ∧ ThOk t := by
  obtain ⟨cs, rfl, hsz⟩ := okWide_struct Tryd.underlying27 hv
  obtain ⟨fuel, hf⟩ := h
  have hC : Tryd.prog.cellsOf 27 = 3 := by kernel_rfl
  obtain ⟨t, e, hok⟩ := th_row fuel cs.toList _ (by rw [Array.length_toList, hsz, hC]) hf
  refine ⟨t, ?_, hok⟩
  unfold thVal
  congr 1
  exact Array.toList_inj.1 e
theorem open_ths {H : Type} {enc : TypeId × Value → H} {w : World} {base : Nat} {held : Bool} {fuel : Nat} {ao : Option Addr} {len cap : Nat} {x : DataW H × List MemPlace}
    (h : DataW.trod enc Tryd.prog w base (fun _ => true) held fuel 22 (Value.slice ao len cap).cells.toList = some x) : ∃ l : List Th, len = l.length ∧ Sl w 3 ao l.length cap (thFlat l) ∧ ∀ a ∈ l, ThOk a :=
  open_rows thCells ThOk (fun _ => rfl) (by decide) Tryd.underlying22 (by kernel_rfl) th_row h
end Go.Proofs.YtadghaiengonoaaDoor
