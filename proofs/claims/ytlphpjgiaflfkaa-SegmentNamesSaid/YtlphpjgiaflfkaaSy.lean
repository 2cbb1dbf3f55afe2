/- Plain law of names: read, written, ordered. No program in sight, no statement of the seat is proved here. -/
import Derived.Test.YtlphpjgiaflfkaaSn
import Derived.Lib.Bytealg
namespace Go.Proofs.Ytlphpjgiaflfkaa
set_option linter.unusedVariables false
set_option linter.unusedSimpArgs false
set_option linter.unusedSectionVars false
open Go Go.RowKit Go.Shelf

/-- a digit's value -/
def hexv (c : UInt8) : Option Nat := if 48 ≤ c.toNat ∧ c.toNat ≤ 57 then some (c.toNat - 48) else if 97 ≤ c.toNat ∧ c.toNat ≤ 102 then some (c.toNat - 87) else none
theorem hexd_nat (r : Nat) (h : r < 16) : (hexd r).toNat = if r < 10 then 48 + r else 87 + r := by
  unfold hexd
  split <;> simp <;> omega
theorem hexv_hexd (r : Nat) (h : r < 16) : hexv (hexd r) = some r := by
  have h1 := hexd_nat r h
  unfold hexv
  rw [h1]
  by_cases h2 : r < 10
  · rw [if_pos h2, if_pos (by omega)]; congr 1; omega
  · rw [if_neg h2, if_neg (by omega), if_pos (by omega)]; congr 1; omega
theorem hexd_hexv (c : UInt8) (v : Nat) (h : hexv c = some v) : c = hexd v ∧ v < 16 := by
  have hc := c.toNat_lt
  unfold hexv at h
  split at h
  · rename_i h1
    simp only [Option.some.injEq] at h
    have hv : v < 16 := by omega
    refine ⟨UInt8.toNat_inj.1 ?_, hv⟩
    rw [hexd_nat v hv, if_pos (by omega)]; omega
  · split at h
    · rename_i h1 h2
      simp only [Option.some.injEq] at h
      have hv : v < 16 := by omega
      refine ⟨UInt8.toNat_inj.1 ?_, hv⟩
      rw [hexd_nat v hv, if_neg (by omega)]; omega
    · cases h
/-- digits read -/
def digsN : List UInt8 → Nat → Option Nat
  | [], n => some n
  | c :: l, n => match hexv c with
    | none => none
    | some v => digsN l (n * 16 + v)
def firstOf (l : List UInt8) : Nat × Bool :=
  match l with
  | [] => (0, false)
  | c :: r => if r.length = 15 ∧ c = 76 then (match digsN r 0 with
    | none => (0, false)
    | some n => (n, decide (0 < n))) else (0, false)
theorem digsN_div (l : List UInt8) : ∀ (n0 m : Nat), digsN l n0 = some m → m / 16 ^ l.length = n0 ∧ ∀ (j : Nat) (hj : j < l.length), l[j] = hexd (m / 16 ^ (l.length - 1 - j) % 16) := by
  induction l with
  | nil => intro n0 m h; simp only [digsN, Option.some.injEq] at h; subst h; exact ⟨by simp, fun j hj => by simp at hj⟩
  | cons c l ih =>
    intro n0 m h
    unfold digsN at h
    cases hv : hexv c with
    | none => rw [hv] at h; cases h
    | some v =>
      rw [hv] at h
      obtain ⟨h1, h2⟩ := ih _ _ h
      obtain ⟨hc, hv16⟩ := hexd_hexv c v hv
      refine ⟨?_, fun j hj => ?_⟩
      · rw [List.length_cons, Nat.pow_succ, ← Nat.div_div_eq_div_mul, h1]; omega
      · cases j with
        | zero =>
          simp only [List.getElem_cons_zero, List.length_cons]
          rw [show l.length + 1 - 1 - 0 = l.length by omega, h1, hc]
          congr 1; omega
        | succ j =>
          simp only [List.getElem_cons_succ, List.length_cons]
          rw [h2 j (by simpa using hj)]
          congr 4; omega
theorem digsN_lt (l : List UInt8) : ∀ (n0 m : Nat), digsN l n0 = some m → m < (n0 + 1) * 16 ^ l.length := by
  intro n0 m h
  have h1 := (digsN_div l n0 m h).1
  have h2 : 0 < 16 ^ l.length := Nat.pow_pos (by decide)
  have h3 := Nat.lt_mul_div_succ m h2
  rw [h1] at h3
  rw [Nat.mul_comm] at h3; exact h3
theorem nameL_head (n : Nat) : nameL n 0 = 76 :: (List.range 15).map (fun j => hexd (n / 16 ^ (14 - j) % 16)) := by
  apply List.ext_getElem
  · simp [nameL]
  · intro j hj hj2
    cases j with
    | zero => simp [nameL]
    | succ j =>
      simp only [nameL, List.getElem_map, List.getElem_range, List.getElem_cons_succ]
      rw [if_neg (by omega), if_pos (by omega)]
      congr 4; omega
/-- a name read is the name of what was read -/
theorem name_first (l : List UInt8) (n : Nat) (h : firstOf l = (n, true)) : nameOf n = l ∧ n < 1152921504606846976 := by
  unfold firstOf at h
  cases l with
  | nil => cases h
  | cons c r =>
    simp only at h
    split at h
    · rename_i hc
      obtain ⟨hl, rfl⟩ := hc
      cases hd : digsN r 0 with
      | none => rw [hd] at h; cases h
      | some m =>
        rw [hd] at h
        simp only [Prod.mk.injEq, decide_eq_true_eq] at h
        obtain ⟨rfl, h0⟩ := h
        have hlt := digsN_lt r 0 m hd
        rw [hl] at hlt
        have hlt2 : m < 1152921504606846976 := by simpa using hlt
        obtain ⟨h1, h2⟩ := digsN_div r 0 m hd
        refine ⟨?_, hlt2⟩
        unfold nameOf
        rw [if_neg (by omega), nameL_head]
        congr 1
        apply List.ext_getElem
        · simp [hl]
        · intro j hj hj2
          simp only [List.getElem_map, List.getElem_range]
          rw [h2 j hj2, hl]
    · cases h
theorem digsN_dg (n : Nat) : ∀ (k : Nat), digsN ((List.range k).map fun j => hexd (n / 16 ^ (k - 1 - j) % 16)) (n / 16 ^ k) = some n
  | 0 => by simp [digsN]
  | k + 1 => by
    have ih := digsN_dg n k
    have hlt : n / 16 ^ k % 16 < 16 := Nat.mod_lt _ (by decide)
    rw [List.range_succ_eq_map, List.map_cons, List.map_map, digsN]
    have e0 : k + 1 - 1 - 0 = k := by omega
    rw [e0, hexv_hexd _ hlt]
    have e1 : n / 16 ^ (k + 1) * 16 + n / 16 ^ k % 16 = n / 16 ^ k := by
      rw [Nat.pow_succ, ← Nat.div_div_eq_div_mul]; omega
    simp only [e1]
    rw [show (List.range k).map ((fun j => hexd (n / 16 ^ (k + 1 - 1 - j) % 16)) ∘ Nat.succ) = (List.range k).map (fun j => hexd (n / 16 ^ (k - 1 - j) % 16)) from ?_]
    · exact ih
    · apply List.map_congr_left
      intro j hj
      simp only [Function.comp, Nat.succ_eq_add_one]
      congr 4; omega
/-- what was named is read -/
theorem first_name (n : Nat) (h0 : 1 ≤ n) (h1 : n < 1152921504606846976) : firstOf (nameOf n) = (n, true) := by
  unfold nameOf
  rw [if_neg (by omega), nameL_head]
  unfold firstOf
  simp only
  rw [if_pos (by simp)]
  have h := digsN_dg n 15
  rw [show n / 16 ^ 15 = 0 from Nat.div_eq_of_lt (by simpa using h1)] at h
  rw [h]
  simp; omega
theorem hexd_lt {a b : Nat} (ha : a < 16) (hb : b < 16) : (hexd a < hexd b) = (a < b) := by
  have h1 := hexd_nat a ha
  have h2 := hexd_nat b hb
  rw [UInt8.lt_iff_toNat_lt, h1, h2]
  apply propext
  split <;> split <;> omega
theorem hexd_eq {a b : Nat} (ha : a < 16) (hb : b < 16) : hexd a = hexd b ↔ a = b := by
  constructor
  · intro h
    have h1 := hexv_hexd a ha
    have h2 := hexv_hexd b hb
    rw [h, h2] at h1
    simpa using h1.symm
  · rintro rfl; rfl
theorem less_dg (a b : Nat) : ∀ (k : Nat), Op.bytesLess ((List.range k).map fun j => hexd (a / 16 ^ (k - 1 - j) % 16)) ((List.range k).map fun j => hexd (b / 16 ^ (k - 1 - j) % 16)) = decide (a % 16 ^ k < b % 16 ^ k)
  | 0 => by simp [Op.bytesLess, Nat.mod_one]
  | k + 1 => by
    have ih := less_dg a b k
    have ha : a / 16 ^ k % 16 < 16 := Nat.mod_lt _ (by decide)
    have hb : b / 16 ^ k % 16 < 16 := Nat.mod_lt _ (by decide)
    have e0 : k + 1 - 1 - 0 = k := by omega
    have em : ∀ n : Nat, (List.range k).map ((fun j => hexd (n / 16 ^ (k + 1 - 1 - j) % 16)) ∘ Nat.succ) = (List.range k).map (fun j => hexd (n / 16 ^ (k - 1 - j) % 16)) := fun n => by
      apply List.map_congr_left
      intro j hj
      simp only [Function.comp, Nat.succ_eq_add_one]
      congr 4; omega
    rw [List.range_succ_eq_map, List.map_cons, List.map_cons, List.map_map, List.map_map, Op.bytesLess, e0, em, em, ih]
    have hma : a % 16 ^ (k + 1) = a / 16 ^ k % 16 * 16 ^ k + a % 16 ^ k := by
      rw [Nat.pow_succ, Nat.mod_mul]
      rw [Nat.mul_comm]; omega
    have hmb : b % 16 ^ (k + 1) = b / 16 ^ k % 16 * 16 ^ k + b % 16 ^ k := by
      rw [Nat.pow_succ, Nat.mod_mul]
      rw [Nat.mul_comm]; omega
    have hp : 0 < 16 ^ k := Nat.pow_pos (by decide)
    have hra := Nat.mod_lt a hp
    have hrb := Nat.mod_lt b hp
    rw [hma, hmb]
    generalize a / 16 ^ k % 16 = x at ha ⊢
    generalize b / 16 ^ k % 16 = y at hb ⊢
    generalize a % 16 ^ k = r at hra ⊢
    generalize b % 16 ^ k = s at hrb ⊢
    generalize 16 ^ k = p at hp hra hrb ⊢
    rw [Bool.eq_iff_iff]
    simp only [Bool.or_eq_true, Bool.and_eq_true, decide_eq_true_eq, beq_iff_eq, hexd_lt ha hb, hexd_eq ha hb]
    constructor
    · rintro (h | ⟨rfl, h⟩)
      · have : (x + 1) * p ≤ y * p := Nat.mul_le_mul_right p h
        rw [Nat.add_mul] at this
        omega
      · omega
    · intro h
      rcases Nat.lt_trichotomy x y with h2 | h2 | h2
      · exact .inl h2
      · subst h2; exact .inr ⟨rfl, by omega⟩
      · exfalso
        have : (y + 1) * p ≤ x * p := Nat.mul_le_mul_right p h2
        rw [Nat.add_mul] at this
        omega
/-- names stand in the order of their indexes -/
theorem less_names (a b : Nat) (ha0 : 1 ≤ a) (ha : a < 1152921504606846976) (hb0 : 1 ≤ b) (hb : b < 1152921504606846976) : Op.bytesLess (nameOf a) (nameOf b) = decide (a < b) := by
  unfold nameOf
  rw [if_neg (by omega), if_neg (by omega), nameL_head, nameL_head, Op.bytesLess]
  have h := less_dg a b 15
  rw [Nat.mod_eq_of_lt (by simpa using ha), Nat.mod_eq_of_lt (by simpa using hb)] at h
  rw [h]
  simp
end Go.Proofs.Ytlphpjgiaflfkaa
