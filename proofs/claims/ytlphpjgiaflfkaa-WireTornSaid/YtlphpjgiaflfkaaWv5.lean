/- Lemmas for WireReads (Sd Sw). No statement of the seat is proved here. -/
import Derived.Maps.OwnIn
import Derived.Scope
import Derived.Test.YtlphpjgiaflfkaaWv4
namespace Go.Proofs.Ytlphpjgiaflfkaa
set_option linter.unusedVariables false
set_option linter.unusedSimpArgs false
set_option linter.unusedSectionVars false
open Go Go.RowKit Go.Shelf
attribute [local go_sem] Oper.semAt_some
theorem blk_turned {A B : World} {row : Option Nat} {k : Nat} {cs : Array Value} {T : TypeId} {m : Nat × Nat} (h : A.heap[k]? = some (.cells cs T m)) (hg : A.grownBy B row) (hr : ∀ r, row = some r → ∃ o : Obj, A.heap[r]? = some o ∧ o.isCells = false) : B.heap[k]? = some (.cells cs T m) :=
  (hg.block k (Array.getElem?_eq_some_iff.1 h).1 (fun e => by
    obtain ⟨o, ho, hc⟩ := hr k e.symm
    rw [ho] at h
    cases h
    cases hc)).trans h
theorem elem?_cells {w : World} {b : Nat} {T : TypeId} (h : elem? w b = some T) : ∃ cs m, w.heap[b]? = some (.cells cs T m) := by
  unfold elem? at h
  split at h
  · rename_i cs t m hh
    simp only [Option.some.injEq] at h
    subst h
    exact ⟨cs, m, hh⟩
  · cases h
theorem EnsO.turned {A B : World} {row : Option Nat} {base : Nat} {v : Value} {l : List Ep} (h : EnsO A base v l) (hg : A.grownBy B row) (hr : ∀ r, row = some r → ∃ o : Obj, A.heap[r]? = some o ∧ o.isCells = false) : EnsO B base v l := by
  refine ⟨?_, fun x hx => (h.data x hx).kept fun b hb => ?_⟩
  · cases hv : row with
    | none => rw [hv] at hg; exact own_below h.own ((Below.refl A.heap.size A).grown hg (Nat.le_refl _) (fun k e => by cases e))
    | some r =>
      rw [hv] at hg
      refine h.own.kept hg (.inr fun e => ?_)
      obtain ⟨o, ho, hc⟩ := hr r hv
      obtain ⟨cs, m, hh⟩ := elem?_cells (own_elemE h.own r e)
      rw [ho] at hh
      cases hh
      cases hc
  · obtain ⟨cs, m, hh⟩ := elem?_cells hb
    exact (blk_turned hh hg hr).trans hh.symm
/-- what Read holds -/
structure SegAt (w : World) (A : Nat) (s : SegS) (v : Value) (l : List Ep) (W : World) : Prop where
  k2 : W.heap[A]? = some (.cells #[.int .u64 (s.first : Nat)] 24 (0, 0))
  k3 : W.heap[A + 1]? = some (.cells #[v] 25 (0, 0))
  k4 : W.heap[A + 1 + 1]? = some (.cells #[.int .i64 (s.good : Nat)] 3 (0, 0))
  ens : EnsO W A v l
  el : l.map Ep.e = s.l
  bel : Below A w W
theorem SegAt.turned {w : World} {A : Nat} {s : SegS} {v : Value} {l : List Ep} {X Y : World} {row : Option Nat} (h : SegAt w A s v l X) (hA : A ≤ w.heap.size) (hg : X.grownBy Y row) (hr : ∀ r, row = some r → A ≤ r ∧ ∃ o : Obj, X.heap[r]? = some o ∧ o.isCells = false) : SegAt w A s v l Y :=
  ⟨blk_turned h.k2 hg fun r e => (hr r e).2, blk_turned h.k3 hg fun r e => (hr r e).2, blk_turned h.k4 hg fun r e => (hr r e).2, h.ens.turned hg fun r e => (hr r e).2, h.el, h.bel.grown hg (Nat.le_trans hA h.bel.size) fun k e => (hr k e).1⟩
theorem SegAt.below {w : World} {A : Nat} {s : SegS} {v : Value} {l : List Ep} {X Y : World} (h : SegAt w A s v l X) (hA : A ≤ w.heap.size) (hb : Below X.heap.size X Y) : SegAt w A s v l Y := h.turned (row := none) hA (grown_below hb) fun r e => by cases e
theorem SegAt.lt {w : World} {A : Nat} {s : SegS} {v : Value} {l : List Ep} {X : World} (h : SegAt w A s v l X) : A + 1 + 1 < X.heap.size := (Array.getElem?_eq_some_iff.1 h.k4).1
theorem KeepsOthers.of_below {W W' : World} (h : Below W.heap.size W W') : KeepsOthers W W' := KeepsOthers.of_grownBy (row := none) (grown_below h) (fun j o e => by cases e)
/-- one entry more -/
theorem SegAt.push {w : World} {A : Nat} {s : SegS} {v v' : Value} {l : List Ep} {x : Ep} {X Y : World} (h : SegAt w A s v l X) (hA : A ≤ w.heap.size) (ho : Y.ownsRow A 38 3 v' (l.length + 1) (l.map epCells ++ [epCells x]).flatten) (hg : X.grownBy Y v.ownBlock) (hx : BsT X x.ao x.cap x.e.data) :
    SegAt w A ⟨s.first, s.l ++ [x.e], s.good⟩ v' (l ++ [x]) (Y.setCell ⟨A + 1, 0, none⟩ v') ∧ Y.heap[A + 1]? = some (.cells #[v] 25 (0, 0)) ∧ KeepsOthers X (Y.setCell ⟨A + 1, 0, none⟩ v') ∧ Below A X (Y.setCell ⟨A + 1, 0, none⟩ v') := by
  have hlt := h.lt
  have hz := hg.size
  have hne : ∀ k T cs m, X.heap[k]? = some (.cells cs T m) → T ≠ 38 → v.ownBlock ≠ some k := fun k T cs m hk hT e => by
    have := own_elemE h.ens.own k e
    rw [elem?_of hk] at this
    exact hT (by simpa using this)
  have g2 := (hg.block _ (by omega) (fun e => hne _ _ _ _ h.k2 (by decide) e.symm)).trans h.k2
  have g3 := (hg.block _ (by omega) (fun e => hne _ _ _ _ h.k3 (by decide) e.symm)).trans h.k3
  have g4 := (hg.block _ (by omega) (fun e => hne _ _ _ _ h.k4 (by decide) e.symm)).trans h.k4
  have hg' : Y.grownBy (Y.setCell ⟨A + 1, 0, none⟩ v') (some (A + 1)) := grown_set _ _ _ _
  have hens := h.ens.push ho hg hx
  have hb : Below A X Y := (Below.refl A X).grown hg (by omega) (fun k e => (h.ens.own.lt k e).1)
  have hb2 : Below A X (Y.setCell ⟨A + 1, 0, none⟩ v') := hb.grown hg' (by omega) (fun k e => by cases e; omega)
  have hko : KeepsOthers X Y := KeepsOthers.of_grownBy hg fun j o e hj => by
    obtain ⟨cs, m, hh⟩ := elem?_cells (own_elemE h.ens.own j e)
    rw [hj] at hh
    cases hh
    rfl
  refine ⟨⟨(hg'.block _ (by omega) (by simp <;> omega)).trans g2, ?_, (hg'.block _ (by omega) (by simp <;> omega)).trans g4, hens.grown hg' (elem?_of g3) (by decide) (by decide), by simp [h.el], h.bel.trans hb2⟩, g3, hko.trans (KeepsOthers.setCell _ _ _), hb2⟩
  have := block_set g3 0 v'
  simpa using this
end Go.Proofs.Ytlphpjgiaflfkaa
namespace Go.Proofs.Ytlphpjgiaflfkaa
set_option linter.unusedVariables false
set_option linter.unusedSimpArgs false
set_option linter.unusedSectionVars false
open Go Go.RowKit Go.Shelf
def LightP (l : List Ep) : Prop := (∀ x ∈ l, x.e.data.length ≤ 5000) ∧ l.length ≤ 60
instance (l : List Ep) : Decidable (LightP l) := by unfold LightP; exact inferInstance
end Go.Proofs.Ytlphpjgiaflfkaa
