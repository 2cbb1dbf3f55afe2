/- Arguments that came in, opened: a row of operations on a ring. No statement of the seat is proved here. -/
import Derived.Test.YtadghaiengonoaaDoorOpenT
namespace Go.Proofs.YtadghaiengonoaaDoor
set_option linter.unusedVariables false
set_option linter.unusedSimpArgs false
set_option linter.unusedSectionVars false
open Go Go.ChangeShapes Go.WideShapes Go.ChangeAt Go.RowKit Go.Deep

/-- an operation -/
structure SOp where
  kind : Int
  slot : Int
  t : Th
deriving Inhabited
def sopCells (o : SOp) : List Value := [.int .i64 o.kind, .int .i64 o.slot, .int .u64 o.t.id, .int .u64 o.t.gen, .int .i64 o.t.due]
def sopVal (o : SOp) : Value := .agg #[.int .i64 o.kind, .int .i64 o.slot, .int .u64 o.t.id, .int .u64 o.t.gen, .int .i64 o.t.due]
def SOpOk (o : SOp) : Prop := (Lit.int .i64 o.kind).wf = true ∧ (Lit.int .i64 o.slot).wf = true ∧ ThOk o.t
def SOps (w : World) (ao : Option Addr) (cap : Nat) (l : List SOp) : Prop := Sl w 5 ao l.length cap (l.map sopCells).flatten
section
variable {H : Type} {enc : TypeId × Value → H} {w : World} {base : Nat} {held : Bool}
set_option maxRecDepth 100000 in
theorem row_sop (n : Nat) (cs : List Value) (y : DataW H × List MemPlace) (hcs : cs.length = 5) (h : DataW.trod enc Tryd.prog w base (fun _ => true) held n 41 cs = some y) : ∃ a : SOp, cs = sopCells a ∧ SOpOk a := by
  obtain ⟨xs, m, _, hx, _, hlen, hg⟩ := DataW.trod_struct Tryd.underlying41 h
  match xs, hlen with
  | [y0, y1, y2], _ =>
    have t0 := hg 0 _ rfl
    have t1 := hg 1 _ rfl
    have t2 := hg 2 _ rfl
    have k2 : Tryd.prog.cellsOf 3 = 1 := by kernel_rfl
    have k9 : Tryd.prog.cellsOf 27 = 3 := by kernel_rfl
    match cs, hcs with
    | [c0, c1, c2, c3, c4], _ =>
      simp [k2, k9] at t0 t1 t2
      obtain ⟨n0, e0, d0, w0⟩ := DataW.trod_int (k := .i64) Tryd.underlying3 t0
      obtain ⟨n1, e1, d1, w1⟩ := DataW.trod_int (k := .i64) Tryd.underlying3 t1
      obtain ⟨a, ea, wa⟩ := th_row _ _ _ rfl t2
      simp [thCells] at e0 e1 ea
      obtain ⟨a1, a2, a3⟩ := ea
      subst e0; subst e1; subst a1; subst a2; subst a3
      exact ⟨⟨n0, n1, a⟩, rfl, w0, w1, wa⟩
set_option maxRecDepth 100000 in
theorem open_sops {fuel : Nat} {ao : Option Addr} {len cap : Nat} {x : DataW H × List MemPlace} (h : DataW.trod enc Tryd.prog w base (fun _ => true) held fuel 37 (Value.slice ao len cap).cells.toList = some x) :
    ∃ l : List SOp, len = l.length ∧ SOps w ao cap l ∧ ∀ a ∈ l, SOpOk a :=
  open_rows sopCells SOpOk (fun _ => rfl) (by decide) Tryd.underlying37 (by kernel_rfl) (fun n cs y hcs hy => row_sop n cs y hcs hy) h
end
theorem SOps.get {w : World} {ao : Option Addr} {cap : Nat} {l : List SOp} (h : SOps w ao cap l) (i : Nat) (hi : i < l.length) :
    ∃ b off, ao = some ⟨b, off, none⟩ ∧ ∀ j (hj : j < 5), w.cell? ⟨b, off + i * 5 + j, none⟩ = some ((sopCells l[i])[j]'hj) := by
  have key : ∀ j (hj : j < 5), (l.map sopCells).flatten[i * 5 + j]? = some ((sopCells l[i])[j]'hj) := by
    intro j hj
    have := flatten_get (rows := l.map sopCells) (k := 5) (by intro r hr; obtain ⟨x, _, rfl⟩ := List.mem_map.1 hr; rfl) i j (by simpa using hi) (by rw [List.getElem_map]; exact hj)
    rw [this]; simp only [List.getElem_map]; rfl
  obtain ⟨b, off, e, _⟩ := h.cell _ _ (key 0 (by decide))
  refine ⟨b, off, e, fun j hj => ?_⟩
  obtain ⟨b', off', e', hc⟩ := h.cell _ _ (key j hj)
  rw [e] at e'
  simp only [Option.some.injEq, Addr.mk.injEq] at e'
  obtain ⟨rfl, rfl, -⟩ := e'
  rw [Nat.add_assoc]; exact hc
theorem SOps.below {w w' : World} {ao : Option Addr} {cap : Nat} {l : List SOp} (h : SOps w ao cap l) (hb : Below w.heap.size w w') : SOps w' ao cap l := Sl.below h hb
end Go.Proofs.YtadghaiengonoaaDoor
