/- slots: what a drop leaves, in plain Lean. No statement of the seat is proved here. -/
import Derived.Test.YtadghaiengonoaaDoorVe
namespace Go.Proofs.YtadghaiengonoaaDoor
set_option linter.unusedVariables false
open Go Go.RowKit Go.Maps

/-- the row without the one at its place is the row without its id -/
theorem gone_mid (A B : RLs) (p : Th × Nat) (h : (A ++ p :: B).Pairwise (fun a b => a.1.id ≠ b.1.id)) : A ++ B = gone (A ++ p :: B) p.1.id := by
  obtain ⟨hA, hpB, hc⟩ := List.pairwise_append.1 h
  obtain ⟨hp, hB⟩ := List.pairwise_cons.1 hpB
  unfold gone
  rw [List.filter_append, List.filter_cons, if_neg (by simp)]
  congr 1
  · exact (List.filter_eq_self.2 fun a ha => by simpa using hc a ha p (by simp)).symm
  · exact (List.filter_eq_self.2 fun b hb => by simpa using fun e => hp b hb e.symm).symm
theorem gone_at (L : RLs) (h : RLok L) (i : Nat) (hi : i < L.length) : L.take i ++ L.drop (i + 1) = gone L L[i].1.id := by
  have hs : L.take i ++ L[i] :: L.drop (i + 1) = L := by rw [List.getElem_cons_drop, List.take_append_drop]
  have := gone_mid (L.take i) (L.drop (i + 1)) L[i] (by rw [hs]; exact h.ids)
  rw [hs] at this
  exact this
end Go.Proofs.YtadghaiengonoaaDoor
