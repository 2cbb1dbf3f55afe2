/- Plain facts on frames. No statement of the seat is proved here. -/
import Derived.Test.YtlphpjgiaflfkaaCrcLaw
namespace Go.Proofs.Ytlphpjgiaflfkaa.Fr
set_option linter.unusedVariables false
set_option linter.unusedSimpArgs false
set_option linter.unusedSectionVars false
open Crc (num tail sealed opened)

def hdr (kind : UInt8) (n : Nat) : List UInt8 := [102, kind, UInt8.ofNat (n / 65536), UInt8.ofNat (n / 256), UInt8.ofNat n]
def wrapped (kind : UInt8) (body : List UInt8) : List UInt8 := sealed (hdr kind body.length ++ body)
theorem wrapped_length (kind : UInt8) (body : List UInt8) : (wrapped kind body).length = body.length + 8 := by
  simp [wrapped, Crc.sealed_length, hdr]

/-- how long the frame is with which bytes begin, and the error's number -/
def size (l : List UInt8) : Nat × Nat :=
  if l.length = 0 then (0, 23)
  else if l.getD 0 0 ≠ 102 then (0, 20)
  else if l.length < 2 then (0, 23)
  else if l.getD 1 0 = 0 then (0, 20)
  else if l.length < 5 then (0, 23)
  else if 65536 < num (l.getD 2 0) (l.getD 3 0) (l.getD 4 0) then (0, 20)
  else if l.length < num (l.getD 2 0) (l.getD 3 0) (l.getD 4 0) + 8 then (0, 23)
  else (num (l.getD 2 0) (l.getD 3 0) (l.getD 4 0) + 8, 0)

structure Taken where
  kind : UInt8
  body : List UInt8
  n : Nat
  err : Nat

/-- the frame with which bytes begin -/
def take (l : List UInt8) : Taken :=
  if (size l).2 ≠ 0 then ⟨0, [], 0, (size l).2⟩
  else match opened (l.take (size l).1) with
    | none => ⟨0, [], 0, 22⟩
    | some own => ⟨own.getD 1 0, own.drop 5, (size l).1, 0⟩

theorem size_ok (l : List UInt8) (h : (size l).2 = 0) : 5 ≤ l.length ∧ l.getD 0 0 = 102 ∧ l.getD 1 0 ≠ 0 ∧ num (l.getD 2 0) (l.getD 3 0) (l.getD 4 0) ≤ 65536 ∧ (size l).1 = num (l.getD 2 0) (l.getD 3 0) (l.getD 4 0) + 8 ∧ (size l).1 ≤ l.length := by
  revert h
  unfold size
  split
  · intro h; cases h
  split
  · intro h; cases h
  split
  · intro h; cases h
  split
  · intro h; cases h
  split
  · intro h; cases h
  split
  · intro h; cases h
  split
  · intro h; cases h
  · intro h
    rename_i h0 h1 h2 h3 h4 h5 h6
    exact ⟨by omega, by simpa using h1, h3, by omega, rfl, by simp only; omega⟩

theorem opened_take (l own : List UInt8) (h : opened l = some own) : own = l.take (l.length - 3) ∧ 3 ≤ l.length := by
  unfold opened at h
  split at h
  · rename_i hc
    exact ⟨by simpa using h.symm, hc.1⟩
  · cases h

theorem hdr_length (k : UInt8) (n : Nat) : (hdr k n).length = 5 := rfl
theorem num_hdr (n : Nat) (h : n < 16777216) : num (UInt8.ofNat (n / 65536)) (UInt8.ofNat (n / 256)) (UInt8.ofNat n) = n := Crc.num_tail n h

theorem wrapped_at (kind : UInt8) (body more : List UInt8) : ∃ r, wrapped kind body ++ more = 102 :: kind :: UInt8.ofNat (body.length / 65536) :: UInt8.ofNat (body.length / 256) :: UInt8.ofNat body.length :: r := by
  simp [wrapped, hdr, sealed]

theorem size_wrapped (kind : UInt8) (body more : List UInt8) (hk : kind ≠ 0) (hb : body.length ≤ 65536) : size (wrapped kind body ++ more) = (body.length + 8, 0) := by
  have hl : (wrapped kind body ++ more).length = body.length + 8 + more.length := by rw [List.length_append, wrapped_length]
  obtain ⟨r, hr⟩ := wrapped_at kind body more
  have hn := num_hdr body.length (by omega)
  unfold size
  rw [hl, hr]
  simp only [List.getD_cons_zero, List.getD_cons_succ, hn]
  rw [if_neg (by omega), if_neg (by simp), if_neg (by omega), if_neg hk, if_neg (by omega), if_neg (by omega), if_neg (by omega)]

theorem take_wrapped (kind : UInt8) (body more : List UInt8) (hk : kind ≠ 0) (hb : body.length ≤ 65536) : take (wrapped kind body ++ more) = ⟨kind, body, body.length + 8, 0⟩ := by
  have hs := size_wrapped kind body more hk hb
  unfold take
  rw [hs]
  have e : (wrapped kind body ++ more).take (body.length + 8) = wrapped kind body := by
    rw [← wrapped_length kind body]; exact List.take_left
  simp only [e, ne_eq, not_true_eq_false, if_false]
  rw [wrapped, Crc.opened_sealed]
  simp [hdr]

theorem five (l : List UInt8) (h : 5 ≤ l.length) : ∃ a b c d e r, l = a :: b :: c :: d :: e :: r := by
  match l, h with
  | a :: b :: c :: d :: e :: r, _ => exact ⟨a, b, c, d, e, r, rfl⟩
/-- the bytes as the reference holds them against -/
theorem rebuilt (l : List UInt8) (h : (size l).2 = 0) : wrapped (l.getD 1 0) ((l.take ((size l).1 - 3)).drop 5) = sealed (l.take ((size l).1 - 3)) := by
  obtain ⟨h5, h0, h1, hn, hs, hle⟩ := size_ok l h
  have hb : ((l.take ((size l).1 - 3)).drop 5).length = num (l.getD 2 0) (l.getD 3 0) (l.getD 4 0) := by
    simp only [List.length_drop, List.length_take]; omega
  unfold wrapped
  rw [hb]
  congr 1
  have ht := Crc.tail_num (l.getD 2 0) (l.getD 3 0) (l.getD 4 0)
  have hk : (size l).1 - 3 = num (l.getD 2 0) (l.getD 3 0) (l.getD 4 0) + 5 := by omega
  rw [hk]
  clear hk hb hs hn hle h
  unfold tail at ht
  injection ht with t2 ht
  injection ht with t1 ht
  injection ht with t0 _
  generalize num (l.getD 2 0) (l.getD 3 0) (l.getD 4 0) = m at *
  obtain ⟨a, b, c, d, e, r, rfl⟩ := five l h5
  simp only [List.getD_cons_zero, List.getD_cons_succ] at *
  simp [hdr, t2, t1, t0, h0]

theorem take_err (l : List UInt8) (h : (size l).2 ≠ 0) : take l = ⟨0, [], 0, (size l).2⟩ := by unfold take; rw [if_pos h]
theorem take_sum (l : List UInt8) (h : (size l).2 = 0) (ho : opened (l.take (size l).1) = none) : take l = ⟨0, [], 0, 22⟩ := by unfold take; rw [if_neg (by simpa using h), ho]
theorem take_yes (l : List UInt8) (h : (size l).2 = 0) (ho : opened (l.take (size l).1) ≠ none) : opened (l.take (size l).1) = some (l.take ((size l).1 - 3)) ∧ take l = ⟨l.getD 1 0, (l.take ((size l).1 - 3)).drop 5, (size l).1, 0⟩ := by
  obtain ⟨h5, h0, h1, hn, hs, hle⟩ := size_ok l h
  cases hc : opened (l.take (size l).1) with
  | none => exact absurd hc ho
  | some own =>
    obtain ⟨e, _⟩ := opened_take _ _ hc
    have e2 : own = l.take ((size l).1 - 3) := by
      rw [e, List.length_take, List.take_take]
      congr 1; omega
    refine ⟨by rw [e2], ?_⟩
    unfold take
    rw [if_neg (by simpa using h), hc]
    simp only
    rw [e2]
    congr 1
    have hk : (size l).1 - 3 = ((size l).1 - 5) + 2 := by omega
    rw [hk]
    generalize (size l).1 - 5 = m
    obtain ⟨a, b, c, d, e, r, rfl⟩ := five l h5
    simp

/-- frames that were wrapped are whole; whatever else is whole was sealed -/
theorem take_none (l : List UInt8) (h : opened l = none) : ¬ ((take l).err = 0 ∧ (take l).n = l.length) := by
  rintro ⟨h1, h2⟩
  by_cases hs : (size l).2 = 0
  · by_cases ho : opened (l.take (size l).1) = none
    · rw [take_sum l hs ho] at h1; cases h1
    · obtain ⟨_, e⟩ := take_yes l hs ho
      rw [e] at h2
      simp only at h2
      rw [h2, List.take_length] at ho
      exact ho h
  · rw [take_err l hs] at h1; exact hs h1
end Go.Proofs.Ytlphpjgiaflfkaa.Fr
namespace Go.Proofs.Ytlphpjgiaflfkaa.Crc
/-- two that open to the same are the same -/
theorem opened_inj (a b : List UInt8) (h : opened a = opened b) (hb : opened b ≠ none) : a = b := by
  cases ho : opened b with
  | none => exact absurd ho hb
  | some own =>
    rw [ho] at h
    have key : ∀ l : List UInt8, opened l = some own → sealed own = l := by
      intro l hl
      unfold opened at hl
      split at hl
      · rename_i hc
        have : l.take (l.length - 3) = own := by simpa using hl
        rw [← this]; exact hc.2
      · cases hl
    rw [← key a h, ← key b ho]
end Go.Proofs.Ytlphpjgiaflfkaa.Crc
