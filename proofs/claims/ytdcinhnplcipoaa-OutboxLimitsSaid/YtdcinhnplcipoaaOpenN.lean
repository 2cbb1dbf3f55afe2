/- Arguments that came in, opened: a notice by value. No statement of the seat is proved here. -/
import Derived.Test.YtdcinhnplcipoaaOpen
import Derived.Test.YtdcinhnplcipoaaOb
import Derived.Lib.SmallJoins
namespace Go.Proofs.Ytdcinhnplcipoaa
set_option linter.unusedVariables false
set_option linter.unusedSimpArgs false
set_option linter.unusedSectionVars false
open Go Go.Joins Go.ChangeShapes Go.WideShapes Go.RowKit Go.Deep
section
variable {H : Type} {enc : TypeId × Value → H} {P : Program} {w : World} {base : Nat} {spare : Nat → Bool} {held : Bool}
theorem open_agg9 {r : Reach} {b0 : Nat} {t : TypeId} {f0 f1 f2 f3 f4 f5 f6 f7 f8 : Field} {v : Value} {d : DataW H} {p : List MemPlace} (hs : P.underlying t = some (.struct #[f0, f1, f2, f3, f4, f5, f6, f7, f8])) (hone : oneCellFields P #[f0, f1, f2, f3, f4, f5, f6, f7, f8] = true) (hC : P.cellsOf t = 9)
    (hv : Value.okWide P w r b0 t v) (h : DataW.Trod enc P w base spare held t v d p) :
    ∃ (v0 v1 v2 v3 v4 v5 v6 v7 v8 : Value) (y0 y1 y2 y3 y4 y5 y6 y7 y8 : DataW H × List MemPlace) (n : Nat), v = .agg #[v0, v1, v2, v3, v4, v5, v6, v7, v8] ∧
      DataW.trod enc P w base spare held n f0.type [v0] = some y0 ∧ DataW.trod enc P w base spare held n f1.type [v1] = some y1 ∧ DataW.trod enc P w base spare held n f2.type [v2] = some y2 ∧ DataW.trod enc P w base spare held n f3.type [v3] = some y3 ∧ DataW.trod enc P w base spare held n f4.type [v4] = some y4 ∧ DataW.trod enc P w base spare held n f5.type [v5] = some y5 ∧ DataW.trod enc P w base spare held n f6.type [v6] = some y6 ∧ DataW.trod enc P w base spare held n f7.type [v7] = some y7 ∧ DataW.trod enc P w base spare held n f8.type [v8] = some y8 := by
  obtain ⟨cs, rfl, hsz⟩ := okWide_struct hs hv
  obtain ⟨l⟩ := cs
  match l, hsz.trans hC with
  | [c0, c1, c2, c3, c4, c5, c6, c7, c8], _ =>
    obtain ⟨fuel, hf⟩ := h
    obtain ⟨xs, n, _, hx, _, hlen, hg⟩ := DataW.trod_struct hs hf
    obtain ⟨o0, k0⟩ := hone_of hone 0 f0 rfl
    obtain ⟨o1, k1⟩ := hone_of hone 1 f1 rfl
    obtain ⟨o2, k2⟩ := hone_of hone 2 f2 rfl
    obtain ⟨o3, k3⟩ := hone_of hone 3 f3 rfl
    obtain ⟨o4, k4⟩ := hone_of hone 4 f4 rfl
    obtain ⟨o5, k5⟩ := hone_of hone 5 f5 rfl
    obtain ⟨o6, k6⟩ := hone_of hone 6 f6 rfl
    obtain ⟨o7, k7⟩ := hone_of hone 7 f7 rfl
    obtain ⟨o8, k8⟩ := hone_of hone 8 f8 rfl
    match xs, hlen with
    | [y0, y1, y2, y3, y4, y5, y6, y7, y8], _ =>
      exact ⟨c0, c1, c2, c3, c4, c5, c6, c7, c8, y0, y1, y2, y3, y4, y5, y6, y7, y8, n, rfl, by simpa [Value.cells, o0, k0] using hg 0 f0 rfl, by simpa [Value.cells, o1, k1] using hg 1 f1 rfl, by simpa [Value.cells, o2, k2] using hg 2 f2 rfl, by simpa [Value.cells, o3, k3] using hg 3 f3 rfl, by simpa [Value.cells, o4, k4] using hg 4 f4 rfl, by simpa [Value.cells, o5, k5] using hg 5 f5 rfl, by simpa [Value.cells, o6, k6] using hg 6 f6 rfl, by simpa [Value.cells, o7, k7] using hg 7 f7 rfl, by simpa [Value.cells, o8, k8] using hg 8 f8 rfl⟩
end
def NoOk (n : No) : Prop := (Lit.int .u64 n.id).wf = true ∧ (Lit.int .u64 n.tk).wf = true ∧ (Lit.int .i64 n.lv).wf = true ∧ (Lit.int .i64 n.pt).wf = true ∧ (Lit.int .i64 n.st).wf = true ∧ (Lit.int .i64 n.tr).wf = true ∧ (Lit.int .i64 n.rt).wf = true ∧ (Lit.int .i64 n.wt).wf = true ∧ (Lit.int .i64 n.nx).wf = true
set_option maxRecDepth 100000 in
theorem open_no {H : Type} {enc : TypeId × Value → H} {w : World} {base : Nat} {spare : Nat → Bool} {held : Bool} {r : Reach} {b0 : Nat} {v : Value} {d : DataW H} {p : List MemPlace}
    (hv : Value.okWide Try.prog w r b0 24 v) (h : DataW.Trod enc Try.prog w base spare held 24 v d p) : ∃ n : No, v = noVal n ∧ NoOk n := by
  obtain ⟨v0, v1, v2, v3, v4, v5, v6, v7, v8, y0, y1, y2, y3, y4, y5, y6, y7, y8, m, rfl, t0, t1, t2, t3, t4, t5, t6, t7, t8⟩ := open_agg9 Try.underlying24 (by kernel_rfl) (by kernel_rfl) hv h
  obtain ⟨n0, e0, d0, w0⟩ := DataW.trod_int Try.underlying22 t0
  obtain ⟨n1, e1, d1, w1⟩ := DataW.trod_int Try.underlying22 t1
  obtain ⟨n2, e2, d2, w2⟩ := DataW.trod_int Try.underlying3 t2
  obtain ⟨n3, e3, d3, w3⟩ := DataW.trod_int Try.underlying3 t3
  obtain ⟨n4, e4, d4, w4⟩ := DataW.trod_int Try.underlying3 t4
  obtain ⟨n5, e5, d5, w5⟩ := DataW.trod_int Try.underlying3 t5
  obtain ⟨n6, e6, d6, w6⟩ := DataW.trod_int Try.underlying3 t6
  obtain ⟨n7, e7, d7, w7⟩ := DataW.trod_int Try.underlying2 t7
  obtain ⟨n8, e8, d8, w8⟩ := DataW.trod_int Try.underlying2 t8
  simp only [List.cons.injEq, and_true] at e0
  subst e0
  simp only [List.cons.injEq, and_true] at e1
  subst e1
  simp only [List.cons.injEq, and_true] at e2
  subst e2
  simp only [List.cons.injEq, and_true] at e3
  subst e3
  simp only [List.cons.injEq, and_true] at e4
  subst e4
  simp only [List.cons.injEq, and_true] at e5
  subst e5
  simp only [List.cons.injEq, and_true] at e6
  subst e6
  simp only [List.cons.injEq, and_true] at e7
  subst e7
  simp only [List.cons.injEq, and_true] at e8
  subst e8
  exact ⟨⟨n0, n1, n2, n3, n4, n5, n6, n7, n8⟩, rfl, w0, w1, w2, w3, w4, w5, w6, w7, w8⟩
end Go.Proofs.Ytdcinhnplcipoaa
