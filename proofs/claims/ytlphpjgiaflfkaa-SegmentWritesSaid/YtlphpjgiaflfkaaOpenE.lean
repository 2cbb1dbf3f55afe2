/- Arguments that came in, opened: a row of entries. No statement of the seat is proved here. -/
import Derived.Test.YtlphpjgiaflfkaaOpenR
import Derived.Test.YtlphpjgiaflfkaaSs
namespace Go.Proofs.Ytlphpjgiaflfkaa
set_option linter.unusedVariables false
set_option linter.unusedSimpArgs false
set_option linter.unusedSectionVars false
open Go Go.ChangeShapes Go.WideShapes Go.ChangeAt Go.RowKit Go.Deep

instance : Inhabited Ep := ⟨⟨⟨0, 0, []⟩, none, 0⟩⟩
section
variable {H : Type} {enc : TypeId × Value → H} {w : World} {base : Nat} {held : Bool}
def EpOk (w : World) (a : Ep) : Prop := Bs w a.ao a.cap a.e.data ∧ (Lit.int .u64 a.e.term).wf = true ∧ (Lit.int .i64 a.e.kind).wf = true
set_option maxRecDepth 100000 in
theorem row_ep (n : Nat) (cs : List Value) (y : DataW H × List MemPlace) (hcs : cs.length = 3) (h : DataW.trod enc Try.prog w base (fun _ => true) held n 38 cs = some y) : ∃ a : Ep, cs = epCells a ∧ EpOk w a := by
  obtain ⟨xs, m, _, hx, _, hlen, hg⟩ := DataW.trod_struct Try.underlying38 h
  match cs, hcs with
  | [c0, c1, c2], _ =>
    match xs, hlen with
    | [y0, y1, y2], _ =>
      have hone : oneCellFields Try.prog _ = true := (by kernel_rfl : oneCellFields Try.prog (match Try.prog.underlying 38 with | some (.struct fs) => fs | _ => #[]) = true)
      rw [Try.underlying38] at hone
      obtain ⟨o0, k0⟩ := hone_of hone 0 _ rfl
      obtain ⟨o1, k1⟩ := hone_of hone 1 _ rfl
      obtain ⟨o2, k2⟩ := hone_of hone 2 _ rfl
      have t0 := hg 0 _ rfl
      have t1 := hg 1 _ rfl
      have t2 := hg 2 _ rfl
      rw [o0, k0] at t0
      rw [o1, k1] at t1
      rw [o2, k2] at t2
      obtain ⟨n0, e0, d0, w0⟩ := DataW.trod_int (k := .u64) Try.underlying24 t0
      obtain ⟨n1, e1, d1, w1⟩ := DataW.trod_int (k := .i64) Try.underlying3 t1
      simp at e0 e1 t2
      subst e0; subst e1
      have key : ∃ (ao : Option Addr) (len cap : Nat), c2 = .slice ao len cap := by
        rcases open_ints Try.underlying22 Try.underlying5 (by kernel_rfl) t2 with ⟨hcs, _⟩ | ⟨a, l, c, zs, hcs, _⟩
        · simp [Value.cells] at hcs; exact ⟨_, _, _, hcs⟩
        · simp [Value.cells] at hcs; exact ⟨_, _, _, hcs⟩
      obtain ⟨ao, len, cap, rfl⟩ := key
      obtain ⟨l, rfl, hb⟩ := open_bs Try.underlying22 Try.underlying5 (by kernel_rfl) (by simpa [Value.cells] using t2)
      exact ⟨⟨⟨n0, n1, l⟩, ao, cap⟩, rfl, hb, w0, w1⟩
theorem open_eps {fuel : Nat} {ao : Option Addr} {len cap : Nat} {x : DataW H × List MemPlace} (h : DataW.trod enc Try.prog w base (fun _ => true) held fuel 25 (Value.slice ao len cap).cells.toList = some x) :
    ∃ l : List Ep, len = l.length ∧ Ens w ao cap l ∧ ∀ a ∈ l, EpOk w a := by
  obtain ⟨l, h1, h2, h3⟩ := open_rows epCells (EpOk w) (fun _ => rfl) (by decide) Try.underlying25 (by kernel_rfl) (fun n cs y hcs hy => row_ep n cs y hcs hy) h
  exact ⟨l, h1, ⟨h2, fun a ha => (h3 a ha).1⟩, h3⟩
end
end Go.Proofs.Ytlphpjgiaflfkaa
