/- Rows of bytes of one's own, whatever they hold. No statement of the seat is proved here. -/
import Derived.Test.YtlphpjgiaflfkaaSo
namespace Go.Proofs.Ytlphpjgiaflfkaa
set_option linter.unusedVariables false
set_option linter.unusedSimpArgs false
set_option linter.unusedSectionVars false
open Go Go.RowKit Go.Shelf

/-- some bytes, as many as the entry's data, are one's own -/
def OwnAny (w : World) (base : Nat) (x : Ep) : Prop := ∃ bs : List UInt8, bs.length = x.e.data.length ∧ w.ownsRow base 5 1 (.slice x.ao bs.length x.cap) bs.length (bs.map u8)
theorem OwnD.any {w : World} {base : Nat} {x : Ep} (h : OwnD w base x) : OwnAny w base x := ⟨x.e.data, rfl, h⟩
theorem OwnAny.below {w w' : World} {base : Nat} {x : Ep} (h : OwnAny w base x) (hb : Below w.heap.size w w') : OwnAny w' base x := by
  obtain ⟨bs, h1, h2⟩ := h
  exact ⟨bs, h1, own_below h2 hb⟩
theorem OwnAny.store {w : World} {base g k : Nat} {x : Ep} (h : OwnAny w base x) (c : UInt8) : OwnAny (w.setCell ⟨g, k, none⟩ (u8 c)) base x := by
  obtain ⟨bs, h1, h2⟩ := h
  by_cases e : (Value.slice x.ao bs.length x.cap).ownBlock = some g
  · have hao : x.ao = some ⟨g, 0, none⟩ := by
      rcases h2.2 with ⟨hn, _⟩ | ⟨g', cap', cur, hv, _⟩
      · rw [hn] at e; cases e
      · simp only [Value.slice.injEq] at hv
        rw [hv.1] at e ⊢
        simp only [Value.ownBlock, Option.some.injEq] at e
        rw [e]
    rw [hao] at h2
    refine ⟨bs.set k c, by rw [List.length_set]; exact h1, ?_⟩
    rw [hao, List.length_set, List.map_set]
    exact (h2.stored k _).1
  · exact ⟨bs, h1, ownsRow_setCell_other h2 (a := ⟨g, k, none⟩) e _⟩
theorem rows_store {w : World} {base g k : Nat} {v : Value} {n : Nat} {xs : List Value} (h : w.ownsRow base 38 3 v n xs) (hg : elem? w g = some 5) (u : Value) : (w.setCell ⟨g, k, none⟩ u).ownsRow base 38 3 v n xs := by
  refine ownsRow_setCell_other h (a := ⟨g, k, none⟩) ?_ u
  intro e
  have h1 := own_elemE h g e
  rw [hg] at h1
  exact absurd h1 (by decide)
end Go.Proofs.Ytlphpjgiaflfkaa
