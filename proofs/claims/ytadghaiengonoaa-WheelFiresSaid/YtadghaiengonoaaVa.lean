/- slots: bits: the lowest bit, a turn. Plain laws; no statement of the seat is proved here. -/
import Derived.Test.YtadghaiengonoaaUd
namespace Go.Proofs.Ytadghaiengonoaa
set_option linter.unusedVariables false
set_option linter.unusedSimpArgs false
set_option linter.unusedSectionVars false
open Go Go.RowKit Go.Maps

theorem low_form (x : Nat) (h : x ≠ 0) : ∃ t q, x = 2 ^ t * (2 * q + 1) := by
  induction x using Nat.strongRecOn with
  | _ x ih =>
    by_cases hx : x % 2 = 1
    · exact ⟨0, x / 2, by omega⟩
    · obtain ⟨t, q, e⟩ := ih (x / 2) (by omega) (by omega)
      exact ⟨t + 1, q, by rw [Nat.pow_succ, Nat.mul_comm (2 ^ t) 2, Nat.mul_assoc, ← e]; omega⟩
theorem low_and (t a b m : Nat) (h : a + b + 1 = 2 ^ m) : (2 ^ t * (2 * a + 1)) &&& (2 ^ t * (2 * b + 1)) = 2 ^ t := by
  apply Nat.eq_of_testBit_eq
  intro j
  rw [Nat.testBit_and, Nat.testBit_two_pow_mul, Nat.testBit_two_pow_mul, Nat.testBit_two_pow]
  by_cases hj : j ≥ t
  · simp only [hj, decide_true, Bool.true_and]
    obtain ⟨i, rfl⟩ : ∃ i, j = t + i := ⟨j - t, by omega⟩
    rw [Nat.add_sub_cancel_left]
    cases i with
    | zero => simp
    | succ i =>
      have e1 : (2 * a + 1).testBit (i + 1) = a.testBit i := by rw [Nat.testBit_succ]; congr 1; omega
      have e2 : (2 * b + 1).testBit (i + 1) = b.testBit i := by rw [Nat.testBit_succ]; congr 1; omega
      have e3 : b = 2 ^ m - (a + 1) := by omega
      rw [e1, e2, e3, Nat.testBit_two_pow_sub_succ (by omega)]
      cases a.testBit i <;> simp
  · have h1 : ¬ t = j := by omega
    simp [hj, h1]
/-- the lowest bit of x -/
structure Low (x t : Nat) : Prop where
  lt : t < 64
  yes : x.testBit t = true
  no : ∀ j, j < t → x.testBit j = false
  and : x &&& (18446744073709551616 - x) = 2 ^ t
theorem low_of (x : Nat) (h : x ≠ 0) (hx : x < 18446744073709551616) : ∃ t, Low x t := by
  obtain ⟨t, q, e⟩ := low_form x h
  have ht : t < 64 := by
    refine Nat.lt_of_not_le fun h64 => ?_
    have h1 : 2 ^ 64 ≤ 2 ^ t := Nat.pow_le_pow_right (by decide) h64
    have h2 : 2 ^ t * 1 ≤ 2 ^ t * (2 * q + 1) := Nat.mul_le_mul_left _ (by omega)
    have h3 : (2 : Nat) ^ 64 = 18446744073709551616 := by decide
    omega
  refine ⟨t, ht, ?_, fun j hj => ?_, ?_⟩
  · rw [e, Nat.testBit_two_pow_mul]; simp
  · rw [e, Nat.testBit_two_pow_mul]; simp; omega
  · obtain ⟨m, hm⟩ : ∃ m, 64 = t + (m + 1) := ⟨63 - t, by omega⟩
    have h64 : 18446744073709551616 = 2 ^ t * (2 * 2 ^ m) := by
      have : (18446744073709551616 : Nat) = 2 ^ 64 := by decide
      rw [this, hm, Nat.pow_add, Nat.pow_succ, Nat.mul_comm (2 ^ m) 2]
    have hq : q < 2 ^ m := by
      rw [h64, e] at hx
      have := Nat.lt_of_mul_lt_mul_left hx
      omega
    have e2 : 18446744073709551616 - x = 2 ^ t * (2 * (2 ^ m - (q + 1)) + 1) := by
      rw [h64, e, ← Nat.mul_sub]
      congr 1
      omega
    rw [e2, e]
    exact low_and t q _ m (by omega)
def tabL : List Nat := [0, 1, 56, 2, 57, 49, 28, 3, 61, 58, 42, 50, 38, 29, 17, 4, 62, 47, 59, 36, 45, 43, 51, 22, 53, 39, 33, 30, 24, 18, 12, 5, 63, 55, 48, 27, 60, 41, 37, 16, 46, 35, 44, 21, 52, 32, 23, 11, 54, 26, 40, 15, 34, 20, 31, 10, 25, 14, 19, 9, 13, 8, 7, 6]
def tabI (t : Nat) : Nat := (2 ^ t * 285870213051353865 % 18446744073709551616) / 288230376151711744
theorem tab_ok : ∀ t, t < 64 → tabI t < 64 ∧ tabL[tabI t]? = some t := by
  have h : ∀ t : Fin 64, tabI t.1 < 64 ∧ tabL[tabI t.1]? = some t.1 := by decide +kernel
  exact fun t ht => h ⟨t, ht⟩
/-- a turn to the left by s places -/
def rotl (x s : Nat) : Nat := (BitVec.ofNat 64 (x * 2 ^ s % 18446744073709551616) ||| BitVec.ofNat 64 (x / 2 ^ (64 - s))).toNat
theorem rotl_bit (x a j : Nat) (hx : x < 18446744073709551616) (ha : a < 64) (hj : j < 64) : (rotl x ((64 - a) % 64)).testBit j = x.testBit ((a + j) % 64) := by
  unfold rotl
  have h64 : (18446744073709551616 : Nat) = 2 ^ 64 := by decide
  rw [BitVec.testBit_toNat, BitVec.getLsbD_or, BitVec.getLsbD_ofNat, BitVec.getLsbD_ofNat, h64, Nat.testBit_mod_two_pow, Nat.mul_comm x, Nat.testBit_two_pow_mul, Nat.testBit_div_two_pow]
  rw [h64] at hx
  have hbig : ∀ i, 64 ≤ i → x.testBit i = false := fun i hi => Nat.testBit_lt_two_pow (Nat.lt_of_lt_of_le hx (Nat.pow_le_pow_right (by decide) hi))
  simp only [hj, decide_true, Bool.true_and]
  by_cases h0 : a = 0
  · subst h0
    rw [show (64 - 0) % 64 = 0 from rfl]
    simp only [ge_iff_le, Nat.zero_le, decide_true, Bool.true_and, Nat.sub_zero, Nat.zero_add, hbig (64 + j) (by omega), hbig (j + 64) (by omega), Bool.or_false]
    rw [Nat.mod_eq_of_lt hj]
  · rw [Nat.mod_eq_of_lt (by omega : 64 - a < 64), show 64 - (64 - a) = a from by omega]
    by_cases h1 : j ≥ 64 - a
    · simp only [h1, decide_true, Bool.true_and]
      have e1 : (a + j) % 64 = j - (64 - a) := by omega
      rw [e1]
      have e2 : x.testBit (a + j) = false := hbig _ (by omega)
      have e3 : x.testBit (j + a) = false := hbig _ (by omega)
      simp [e2, e3]
    · have e1 : (a + j) % 64 = a + j := by omega
      rw [e1]
      simp [h1, Nat.add_comm]
theorem rotl_lt (x s : Nat) : rotl x s < 18446744073709551616 := by unfold rotl; exact BitVec.isLt _
/-- where a turn begins -/
def atM (f : Int) : Nat := (f % 64).toNat
theorem atM_lt (f : Int) : atM f < 64 := by unfold atM; omega
theorem atM_and (f : Int) : bits .and .i64 f 63 = (atM f : Nat) := by
  have h1 : bits .and .i64 f 63 = IntKind.i64.wrap (((BitVec.ofInt 64 f &&& BitVec.ofInt 64 63).toNat : Nat) : Int) := rfl
  have h2 : (BitVec.ofInt 64 f &&& BitVec.ofInt 64 63).toNat = atM f := by
    rw [BitVec.toNat_and, BitVec.toNat_ofInt, BitVec.toNat_ofInt]
    have e1 : ((63 : Int) % ((2 ^ 64 : Nat) : Int)).toNat = 2 ^ 6 - 1 := by decide
    rw [e1, Nat.and_two_pow_sub_one_eq_mod]
    unfold atM
    have e2 : ((2 ^ 64 : Nat) : Int) = 18446744073709551616 := by decide
    rw [e2]
    omega
  rw [h1, h2]
  have := atM_lt f
  simp [IntKind.wrap, IntKind.signed, IntKind.bits]; omega
end Go.Proofs.Ytadghaiengonoaa
