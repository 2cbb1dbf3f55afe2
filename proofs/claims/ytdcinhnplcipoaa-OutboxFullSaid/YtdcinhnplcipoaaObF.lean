/- OutboxFull's walk. No statement of the seat is proved here. -/
import Derived.Test.YtdcinhnplcipoaaObL
namespace Go.Proofs.Ytdcinhnplcipoaa
set_option linter.unusedVariables false
set_option linter.unusedSimpArgs false
set_option linter.unusedSectionVars false
open Go Go.RowKit Go.Shelf

/-- so many of one notice -/
def fullL (k : Nat) (n : No) (now : Int) : List No := (List.range k).map fun (i : Nat) => putN (i : Int) n now
theorem full_len (k : Nat) (n : No) (now : Int) : (fullL k n now).length = k := by simp [fullL]
theorem full_at (k : Nat) (n : No) (now : Int) (i : Nat) (hi : i < k) : (fullL k n now)[i]'(by rw [full_len]; exact hi) = putN (i : Int) n now := by simp [fullL]
theorem full_succ (k : Nat) (n : No) (now : Int) (hk : k < 128) : roomL (fullL k n now) ++ [putN (k : Int) n now] = fullL (k + 1) n now := by
  unfold roomL
  rw [if_pos (by rw [full_len]; exact hk)]
  unfold fullL
  rw [List.range_succ, List.map_append]
  rfl
theorem find_is (l : List No) (p : No → Bool) (j : Nat) (hj : j < l.length) (h1 : p l[j] = true) (h2 : ∀ i (hi : i < j), p (l[i]'(by omega)) = false) : l.findIdx p = j := by
  rw [List.findIdx_eq hj]
  exact ⟨h1, h2⟩
theorem find_none (l : List No) (p : No → Bool) (h : ∀ x ∈ l, p x = false) : l.findIdx p = l.length := by
  rw [List.findIdx_eq_length]
  exact h
theorem waits_put (last : Int) (n : No) (now : Int) : waitsB (putN last n now) = true := rfl
theorem full_waits (k : Nat) (n : No) (now : Int) : (fullL k n now).findIdx (fun n => !waitsB n) = (fullL k n now).length := by
  refine find_none _ _ fun x hx => ?_
  unfold fullL at hx
  obtain ⟨i, _, rfl⟩ := List.mem_map.1 hx
  rfl
theorem full_place (n : No) (now : Int) (j : Nat) (hj : j < 128) : placeN (fullL 128 n now) ((j : Int) + 1) = j := by
  refine find_is _ _ j (by rw [full_len]; exact hj) ?_ (fun i hi => ?_)
  · rw [full_at 128 n now j hj]; simp [putN]
  · rw [full_at 128 n now i (by omega)]; simp [putN]; omega
/-- with one changed that keeps its ID -/
theorem set_place (n : No) (now : Int) (j : Nat) (hj : j < 128) (T : No) (hT : T.id = (j : Int) + 1) : placeN ((fullL 128 n now).set j T) ((j : Int) + 1) = j := by
  refine find_is _ _ j (by rw [List.length_set, full_len]; exact hj) ?_ (fun i hi => ?_)
  · rw [List.getElem_set_self]; simp [hT]
  · rw [List.getElem_set_ne (by omega), full_at 128 n now i (by omega)]; simp [putN]; omega
theorem set_rest (n : No) (now : Int) (j : Nat) (hj : j < 128) (A : No) (hA : waitsB A = false) : restN ((fullL 128 n now).set j A) = j := by
  refine find_is _ _ j (by rw [List.length_set, full_len]; exact hj) ?_ (fun i hi => ?_)
  · rw [List.getElem_set_self]; simp [hA]
  · rw [List.getElem_set_ne (by omega), full_at 128 n now i (by omega)]; rfl
/-- behind the drop and the last Put -/
def lastL (n : No) (now : Int) (j : Nat) : List No := (fullL 128 n now).eraseIdx j ++ [putN 128 n now]
theorem room_set (n : No) (now : Int) (j : Nat) (hj : j < 128) (A : No) (hA : waitsB A = false) : roomL ((fullL 128 n now).set j A) ++ [putN 128 n now] = lastL n now j := by
  unfold roomL lastL
  rw [if_neg (by rw [List.length_set, full_len]; omega), set_rest n now j hj A hA, List.eraseIdx_set_eq]
theorem last_len (n : No) (now : Int) (j : Nat) (hj : j < 128) : (lastL n now j).length = 128 := by
  unfold lastL
  rw [List.length_append, List.length_eraseIdx, full_len, if_pos hj]; rfl
theorem last_mem (n : No) (now : Int) (j : Nat) (hj : j < 128) : ∀ x ∈ lastL n now j, waitsB x = true ∧ x.id ≠ (j : Int) + 1 := by
  intro x hx
  unfold lastL at hx
  rcases List.mem_append.1 hx with h | h
  · obtain ⟨i, hi, rfl⟩ := List.getElem_of_mem h
    rw [List.getElem_eraseIdx]
    split
    · rename_i h1
      rw [full_at 128 n now i (by omega)]
      exact ⟨rfl, by show (i : Int) + 1 ≠ _; omega⟩
    · rename_i h1
      have hi2 : i < 127 := by rw [List.length_eraseIdx, full_len, if_pos hj] at hi; exact hi
      rw [full_at 128 n now (i + 1) (by omega)]
      exact ⟨rfl, by show ((i + 1 : Nat) : Int) + 1 ≠ _; omega⟩
  · simp only [List.mem_singleton] at h
    subst h
    exact ⟨rfl, by show (128 : Int) + 1 ≠ _; omega⟩
theorem last_place (n : No) (now : Int) (j : Nat) (hj : j < 128) : ¬ placeN (lastL n now j) ((j : Int) + 1) < (lastL n now j).length := by
  have : placeN (lastL n now j) ((j : Int) + 1) = (lastL n now j).length := find_none _ _ fun x hx => by
    have := (last_mem n now j hj x hx).2
    simpa using this
  omega
theorem last_waits (n : No) (now : Int) (j : Nat) (hj : j < 128) : (lastL n now j).findIdx (fun n => !waitsB n) = (lastL n now j).length :=
  find_none _ _ fun x hx => by rw [(last_mem n now j hj x hx).1]; rfl
theorem last_count (n : No) (now : Int) (j : Nat) (hj : j < 128) : ((lastL n now j).filter waitsB).length = 128 := by
  rw [List.filter_eq_self.2 (fun x hx => (last_mem n now j hj x hx).1), last_len n now j hj]
theorem put_err0 {l : List No} {last : Int} {n : No} {now : Int} (h : putErr last l n now = 0) : instB now = true ∧ fitsN n = true := by
  unfold putErr at h
  by_cases g : (!instB now || !fitsN n) = true
  · rw [if_pos g] at h; cases h
  · simp at g; exact g
theorem fits_put (last : Int) (n : No) (now : Int) : fitsN (putN last n now) = fitsN n := rfl
theorem try_full (j : Int) (n : No) (now : Int) (hf : fitsN n = true) : tryErr (putN j n now) now = 0 := by
  unfold fitsN at hf
  simp only [Bool.and_eq_true, decide_eq_true_eq] at hf
  unfold tryErr putN waitsB
  simp only
  rw [if_neg (by simp; omega), if_neg (by omega)]
end Go.Proofs.Ytdcinhnplcipoaa
