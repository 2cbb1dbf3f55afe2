/- Plain law of the reference's Put's loop. No statement of the seat is proved here. -/
import Derived.Test.YtdcinhnplcipoaaObPb
namespace Go.Proofs.Ytdcinhnplcipoaa
set_option linter.unusedVariables false
set_option linter.unusedSimpArgs false
set_option linter.unusedSectionVars false
open Go Go.RowKit Go.Shelf

/-- the place that goes -/
def goesN (l : List No) : Nat := if l.length < 128 then l.length else restN l
/-- what is kept of the first i -/
def keepN (l : List No) (i : Nat) : List No := (l.take i).eraseIdx (goesN l)
theorem keep_zero (l : List No) : keepN l 0 = [] := by unfold keepN; simp
theorem keep_all (l : List No) : keepN l l.length = roomL l := by
  unfold keepN roomL goesN
  rw [List.take_length]
  split
  · exact List.eraseIdx_of_length_le (Nat.le_refl _)
  · rfl
theorem keep_gone (l : List No) (i : Nat) (hi : i < l.length) (h : goesN l = i) : keepN l (i + 1) = keepN l i := by
  unfold keepN
  rw [h, List.take_succ_eq_append_getElem hi, List.eraseIdx_append_of_length_le (by simp; omega)]
  have e : (l.take i).length = i := by simp; omega
  rw [e, Nat.sub_self]
  show l.take i ++ [] = (l.take i).eraseIdx i
  rw [List.append_nil, List.eraseIdx_of_length_le (by omega)]
theorem keep_more (l : List No) (i : Nat) (hi : i < l.length) (h : goesN l ≠ i) : keepN l (i + 1) = keepN l i ++ [l[i]] := by
  unfold keepN
  have e : (l.take i).length = i := by simp; omega
  rw [List.take_succ_eq_append_getElem hi]
  by_cases g : goesN l < i
  · rw [List.eraseIdx_append_of_lt_length (by omega)]
  · rw [List.eraseIdx_of_length_le (by simp; omega), List.eraseIdx_of_length_le (by omega)]
/-- has one gone, or need none go? -/
def goneB (l : List No) (i : Nat) : Bool := decide (l.length < 128) || decide (goesN l < i)
theorem gone_zero (l : List No) : goneB l 0 = decide (l.length < 128) := by unfold goneB; simp
theorem goes_iff (l : List No) (i : Nat) (hi : i < l.length) : goesN l = i ↔ goneB l i = false ∧ (l[i].st == 1) = false := by
  unfold goneB goesN
  by_cases g : l.length < 128
  · simp [g]; omega
  · simp only [g, if_false, decide_false, Bool.false_or, decide_eq_false_iff_not]
    unfold restN
    constructor
    · intro e
      refine ⟨by omega, ?_⟩
      have := List.findIdx_getElem (xs := l) (p := fun n => !waitsB n) (w := by rw [e]; exact hi)
      simp only [e] at this
      unfold waitsB at this
      simpa using this
    · rintro ⟨h1, h2⟩
      have h3 : l.findIdx (fun n => !waitsB n) ≤ i := by
        refine Nat.le_of_not_lt fun h3 => ?_
        have := List.not_of_lt_findIdx h3
        unfold waitsB at this
        simp [h2] at this
      omega
theorem gone_succ (l : List No) (i : Nat) : goneB l (i + 1) = (goneB l i || decide (goesN l = i)) := by
  unfold goneB
  rw [Bool.or_assoc]
  congr 1
  rw [Bool.eq_iff_iff]; simp; omega
end Go.Proofs.Ytdcinhnplcipoaa
