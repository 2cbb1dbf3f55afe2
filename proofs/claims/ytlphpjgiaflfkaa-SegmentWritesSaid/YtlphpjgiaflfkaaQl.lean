/- Plain law of quill: a number's bytes, and a number read. No program in sight, no statement of the seat is proved here. -/
import Derived.Test.YtlphpjgiaflfkaaAux3
namespace Go.Proofs.Ytlphpjgiaflfkaa
set_option linter.unusedVariables false
set_option linter.unusedSimpArgs false
set_option linter.unusedSectionVars false
open Go Go.RowKit

/-- a number's digits of 256, the greatest first -/
def digs (n : Nat) : List UInt8 := if h : n = 0 then [] else digs (n / 256) ++ [UInt8.ofNat n]
termination_by n
decreasing_by omega
theorem digs_zero : digs 0 = [] := by unfold digs; simp
theorem digs_pos {n : Nat} (h : n ≠ 0) : digs n = digs (n / 256) ++ [UInt8.ofNat n] := by rw [digs]; simp [h]
/-- a number's bytes -/
def numB (n : Nat) : List UInt8 := UInt8.ofNat (digs n).length :: digs n
theorem digs_len_le (k : Nat) : ∀ n, n < 256 ^ k → (digs n).length ≤ k := by
  induction k with
  | zero => intro n h; obtain rfl : n = 0 := by simpa using h
            rw [digs_zero]; simp
  | succ k ih =>
    intro n h
    by_cases hn : n = 0
    · rw [hn, digs_zero]; simp
    · rw [digs_pos hn]
      have := ih (n / 256) (by rw [Nat.pow_succ] at h; omega)
      simp; omega
theorem digs_len8 (n : Nat) (h : n < 2 ^ 64) : (digs n).length ≤ 8 := digs_len_le 8 n (by rw [show (256 ^ 8 : Nat) = 2 ^ 64 by decide]; exact h)
theorem digs_get (n : Nat) : ∀ k (h : k < (digs n).length), (digs n)[k] = UInt8.ofNat (n / 256 ^ ((digs n).length - 1 - k)) := by
  induction n using Nat.strongRecOn with
  | ind n ih =>
    intro k h
    by_cases hn : n = 0
    · subst hn; simp [digs_zero] at h
    · have e := digs_pos hn
      have hl : (digs n).length = (digs (n / 256)).length + 1 := by rw [e]; simp
      by_cases hk : k < (digs (n / 256)).length
      · have h1 := ih (n / 256) (by omega) k hk
        have h2 : (digs n)[k] = (digs (n / 256))[k] := by
          have : ∀ (l : List UInt8) (hl : l = digs (n / 256) ++ [UInt8.ofNat n]) (hk' : k < l.length), l[k] = (digs (n / 256))[k] := by
            intro l hl hk'; subst hl; rw [List.getElem_append_left hk]
          exact this _ e h
        rw [h2, h1]
        have h3 : (digs n).length - 1 - k = ((digs (n / 256)).length - 1 - k) + 1 := by omega
        rw [h3, Nat.pow_succ, Nat.mul_comm, ← Nat.div_div_eq_div_mul]
      · have hk' : k = (digs (n / 256)).length := by omega
        have h2 : (digs n)[k] = UInt8.ofNat n := by
          have : ∀ (l : List UInt8) (hl : l = digs (n / 256) ++ [UInt8.ofNat n]) (hkl : k < l.length), l[k] = UInt8.ofNat n := by
            intro l hl hkl; subst hl; subst hk'; simp
          exact this _ e h
        rw [h2]
        have h3 : (digs n).length - 1 - k = 0 := by omega
        rw [h3]; simp
/-- how many digits are left when k were cut off -/
theorem digs_cut (n k : Nat) : (digs (n / 256 ^ k)).length = (digs n).length - k := by
  induction k generalizing n with
  | zero => simp
  | succ k ih =>
    rw [Nat.pow_succ, Nat.mul_comm, ← Nat.div_div_eq_div_mul, ih (n / 256)]
    by_cases hn : n = 0
    · subst hn; simp [digs_zero]
    · rw [digs_pos hn]; simp
theorem digs_nil {n : Nat} : (digs n).length = 0 ↔ n = 0 := by
  constructor
  · intro h
    by_cases hn : n = 0
    · exact hn
    · rw [digs_pos hn] at h; simp at h
  · rintro rfl; rw [digs_zero]; rfl
/-- the number of digits -/
def valN (l : List UInt8) : Nat := l.foldl (fun x c => x * 256 + c.toNat) 0
theorem valN_snoc (l : List UInt8) (c : UInt8) : valN (l ++ [c]) = valN l * 256 + c.toNat := by simp [valN]
theorem valN_lt (l : List UInt8) : valN l < 256 ^ l.length := by
  rw [← List.reverse_reverse l]
  induction l.reverse with
  | nil => simp [valN]
  | cons c l ih => rw [List.reverse_cons, valN_snoc]; have := c.toNat_lt; simp only [List.length_append, List.length_reverse, List.length_cons, List.length_nil, Nat.zero_add, Nat.pow_succ]; simp only [List.length_reverse] at ih; omega
/-- what is read: the number, what is left, whether it is bad -/
def readN (most : Nat) (b : List UInt8) (bad : Bool) : Nat × List UInt8 × Bool :=
  match b with
  | [] => (0, [], true)
  | c :: r => if 8 < c.toNat ∨ r.length < c.toNat ∨ (0 < c.toNat ∧ r.head? = some 0) then (0, [], true) else if most < valN (r.take c.toNat) then (0, [], true) else (valN (r.take c.toNat), r.drop c.toNat, bad)

theorem valN_digs (n : Nat) : valN (digs n) = n := by
  induction n using Nat.strongRecOn with
  | ind n ih =>
    by_cases hn : n = 0
    · subst hn; rw [digs_zero]; rfl
    · rw [digs_pos hn, valN_snoc, ih (n / 256) (by omega)]
      simp
      omega
theorem digs_head (n : Nat) : (digs n).head? ≠ some 0 := by
  induction n using Nat.strongRecOn with
  | ind n ih =>
    by_cases hn : n = 0
    · subst hn; rw [digs_zero]; simp
    · rw [digs_pos hn]
      by_cases h2 : n / 256 = 0
      · rw [h2, digs_zero]
        simp only [List.nil_append, List.head?_cons, ne_eq, Option.some.injEq]
        intro h
        have h3 := congrArg UInt8.toNat h
        simp at h3
        omega
      · have := ih (n / 256) (by omega)
        rw [List.head?_append]
        cases hd : (digs (n / 256)).head? with
        | none => rw [List.head?_eq_none_iff] at hd; have := digs_nil.1 (by rw [hd]; rfl); exact absurd this h2
        | some c => rw [hd] at this; simpa using this
theorem readN_numB (most n : Nat) (rest : List UInt8) (bad : Bool) (h : n ≤ most) (hn : n < 2 ^ 64) : readN most (numB n ++ rest) bad = (n, rest, bad) := by
  have h8 := digs_len8 n hn
  have hc : (UInt8.ofNat (digs n).length).toNat = (digs n).length := by simp; omega
  unfold numB
  simp only [List.cons_append, readN, hc]
  rw [if_neg, if_neg]
  · rw [List.take_left, List.drop_left, valN_digs]
  · rw [List.take_left, valN_digs]; omega
  · rintro (h1 | h1 | ⟨h1, h2⟩)
    · omega
    · simp at h1; omega
    · rw [List.head?_append] at h2
      have := digs_head n
      cases hd : (digs n).head? with
      | none => rw [List.head?_eq_none_iff] at hd; rw [hd] at h1; simp at h1
      | some c => rw [hd] at this h2; simp at h2 this; exact this h2
theorem readN_le (most : Nat) (b : List UInt8) (bad : Bool) : (readN most b bad).1 ≤ most := by
  unfold readN
  split
  · simp
  · split
    · simp
    · split
      · simp
      · simp; omega
theorem readN_len (most : Nat) (b : List UInt8) (bad : Bool) : (readN most b bad).2.1.length ≤ b.length := by
  unfold readN
  split
  · simp
  · split
    · simp
    · split
      · simp
      · simp; omega
end Go.Proofs.Ytlphpjgiaflfkaa
