/- Plain facts on the 24-bit sums: the program's shifting by bytes and the reference's by bits give one function. No statement of the seat is proved here. -/
namespace Go.Proofs.Ytlphpjgiaflfkaa.Crc
set_option linter.unusedVariables false
set_option linter.unusedSimpArgs false
set_option linter.unusedSectionVars false

def poly : Nat := 8801531
/-- one shift of the register, as the program does it -/
def shl1 (s : Nat) : Nat := if s * 2 / 16777216 = 0 then s * 2 else (s * 2 % 16777216) ^^^ 8801531
def iter (n : Nat) (s : Nat) : Nat := match n with
  | 0 => s
  | n + 1 => shl1 (iter n s)
def byteP (s c : Nat) : Nat := iter 8 (s ^^^ (c * 65536))
/-- the sum goes on over bytes -/
def on (s : Nat) (l : List UInt8) : Nat := l.foldl (fun s c => byteP s c.toNat) s
/-- one bit, as the reference does it -/
def refBit (s b : Nat) : Nat := if s / 8388608 % 2 = b then s * 2 % 16777216 else (s * 2 % 16777216) ^^^ 8801531
/-- the first n bits of a byte, from the highest on -/
def refBits (n : Nat) (s c : Nat) : Nat := match n with
  | 0 => s
  | n + 1 => refBit (refBits n s c) (c / 2 ^ (7 - n) % 2)

theorem shl1_eq (s : Nat) (h : s < 16777216) : shl1 s = (s * 2 % 2 ^ 24) ^^^ (if s.testBit 23 then 8801531 else 0) := by
  have hb : s.testBit 23 = decide (s / 8388608 % 2 = 1) := by
    rw [Nat.testBit_eq_decide_div_mod_eq]
  unfold shl1
  by_cases h2 : s * 2 / 16777216 = 0
  · rw [if_pos h2, hb, if_neg (by simp; omega), Nat.xor_zero]; omega
  · rw [if_neg h2, hb, if_pos (by simp; omega)]

theorem xor_lt {x y : Nat} (hx : x < 16777216) (hy : y < 16777216) : x ^^^ y < 16777216 := Nat.xor_lt_two_pow (n := 24) hx hy

theorem shl1_lt (s : Nat) (h : s < 16777216) : shl1 s < 16777216 := by
  rw [shl1_eq s h]
  refine xor_lt (by omega) ?_
  split <;> omega

theorem shl1_xor (x y : Nat) (hx : x < 16777216) (hy : y < 16777216) : shl1 (x ^^^ y) = shl1 x ^^^ shl1 y := by
  rw [shl1_eq _ hx, shl1_eq _ hy, shl1_eq _ (xor_lt hx hy), Nat.testBit_xor]
  have e : (x ^^^ y) * 2 % 2 ^ 24 = (x * 2 % 2 ^ 24) ^^^ (y * 2 % 2 ^ 24) := by
    rw [← Nat.xor_mod_two_pow]
    congr 1
    have := Nat.shiftLeft_xor_distrib (a := x) (b := y) (i := 1)
    rwa [Nat.shiftLeft_eq, Nat.shiftLeft_eq, Nat.shiftLeft_eq, Nat.pow_one] at this
  rw [e]
  have a4 : ∀ a b c d : Nat, (a ^^^ c) ^^^ (b ^^^ d) = (a ^^^ b) ^^^ (c ^^^ d) := by
    intro a b c d
    rw [Nat.xor_assoc, Nat.xor_assoc, ← Nat.xor_assoc c, Nat.xor_comm c b, Nat.xor_assoc b]
  cases x.testBit 23 <;> cases y.testBit 23 <;> simp [a4, Nat.xor_assoc]
  · rw [← Nat.xor_assoc _ (y * 2 % 16777216), Nat.xor_comm 8801531, Nat.xor_assoc]
  · rw [← Nat.xor_assoc 8801531, Nat.xor_comm 8801531, Nat.xor_assoc, Nat.xor_self, Nat.xor_zero]

theorem refBit_eq (s b : Nat) (h : s < 16777216) (hb : b < 2) : refBit s b = shl1 (s ^^^ (b * 8388608)) := by
  have h2 : b * 8388608 < 16777216 := by omega
  rw [shl1_xor _ _ h h2, shl1_eq s h]
  have ht : s.testBit 23 = decide (s / 8388608 % 2 = 1) := by rw [Nat.testBit_eq_decide_div_mod_eq]
  rw [ht]
  unfold refBit
  have hb2 : b = 0 ∨ b = 1 := by omega
  rcases hb2 with rfl | rfl
  · have : shl1 (0 * 8388608) = 0 := by decide
    rw [this, Nat.xor_zero]
    by_cases h1 : s / 8388608 % 2 = 1
    · rw [if_neg (by omega), if_pos (by simpa using h1)]
    · rw [if_pos (by omega), if_neg (by simpa using h1), Nat.xor_zero]
  · have : shl1 (1 * 8388608) = 8801531 := by decide
    rw [this]
    by_cases h1 : s / 8388608 % 2 = 1
    · rw [if_pos h1, if_pos (by simpa using h1), Nat.xor_assoc, Nat.xor_self, Nat.xor_zero]
    · rw [if_neg h1, if_neg (by simpa using h1), Nat.xor_zero]

theorem refBit_lt (s b : Nat) : refBit s b < 16777216 := by
  unfold refBit
  split
  · omega
  · exact xor_lt (by omega) (by omega)

theorem refBits_lt (n s c : Nat) (h : s < 16777216) : refBits n s c < 16777216 := by
  cases n with
  | zero => exact h
  | succ n => exact refBit_lt _ _

theorem split_top (y : Nat) (h : y < 16777216) : y = (y / 8388608 * 8388608) ^^^ (y % 8388608) := by
  have h1 : y / 8388608 = 0 ∨ y / 8388608 = 1 := by omega
  rcases h1 with h1 | h1
  · rw [h1, Nat.zero_mul, Nat.zero_xor]; omega
  · rw [h1]
    have := Nat.two_pow_add_eq_or_of_lt (b := y % 8388608) (i := 23) (by omega) 1
    have e2 : (1 * 8388608) ^^^ (y % 8388608) = (1 * 8388608) ||| (y % 8388608) := by
      apply Nat.eq_of_testBit_eq
      intro j
      rw [Nat.testBit_xor, Nat.testBit_or]
      by_cases hj : j = 23
      · subst hj
        have : (y % 8388608).testBit 23 = false := Nat.testBit_lt_two_pow (by omega)
        rw [this]; simp
      · have : (1 * 8388608).testBit j = false := by
          rw [show 1 * 8388608 = 2 ^ 23 from rfl, Nat.testBit_two_pow]
          simp; omega
        rw [this]; simp
    have e3 : 2 ^ 23 * 1 + y % 8388608 = y := by omega
    rw [e3] at this
    exact this.trans e2.symm

theorem shl1_low (z : Nat) (h : z < 8388608) : shl1 z = z * 2 := by
  unfold shl1; rw [if_pos (by omega)]

theorem iter_lt (n s : Nat) (h : s < 16777216) : iter n s < 16777216 := by
  induction n with
  | zero => exact h
  | succ n ih => exact shl1_lt _ ih

theorem iter_ref (s c : Nat) (hs : s < 16777216) (hc : c < 256) : ∀ n, n ≤ 8 → iter n (s ^^^ (c * 65536)) = refBits n s c ^^^ (c * 65536 * 2 ^ n % 16777216) := by
  intro n
  induction n with
  | zero => intro _; simp only [iter, refBits, Nat.pow_zero, Nat.mul_one]; rw [Nat.mod_eq_of_lt (by omega)]
  | succ n ih =>
    intro hn
    have ih := ih (by omega)
    simp only [iter, refBits]
    rw [ih]
    have hy : c * 65536 * 2 ^ n % 16777216 < 16777216 := Nat.mod_lt _ (by decide)
    have hr := refBits_lt n s c hs
    generalize hr' : refBits n s c = r at *
    have hb : c / 2 ^ (7 - n) % 2 = c * 65536 * 2 ^ n % 16777216 / 8388608 := by
      have : n = 0 ∨ n = 1 ∨ n = 2 ∨ n = 3 ∨ n = 4 ∨ n = 5 ∨ n = 6 ∨ n = 7 := by omega
      rcases this with rfl | rfl | rfl | rfl | rfl | rfl | rfl | rfl <;> simp only [Nat.reducePow, Nat.reduceSub] <;> omega
    have hnext : c * 65536 * 2 ^ (n + 1) % 16777216 = (c * 65536 * 2 ^ n % 16777216 % 8388608) * 2 := by
      rw [Nat.pow_succ, ← Nat.mul_assoc]; omega
    rw [hb, hnext]
    generalize hyy : c * 65536 * 2 ^ n % 16777216 = y at *
    have hsp := split_top y hy
    have hb2 : y / 8388608 < 2 := by omega
    rw [refBit_eq r (y / 8388608) hr hb2]
    conv => lhs; rw [hsp]
    rw [← Nat.xor_assoc, shl1_xor (r ^^^ (y / 8388608 * 8388608)) (y % 8388608) (xor_lt hr (by omega)) (by omega), shl1_low (y % 8388608) (by omega)]

theorem byteP_ref (s c : Nat) (hs : s < 16777216) (hc : c < 256) : byteP s c = refBits 8 s c := by
  unfold byteP
  rw [iter_ref s c hs hc 8 (by omega)]
  have : c * 65536 * 2 ^ 8 % 16777216 = 0 := by omega
  rw [this, Nat.xor_zero]

theorem byteP_lt (s c : Nat) (hs : s < 16777216) (hc : c < 256) : byteP s c < 16777216 := by
  rw [byteP_ref s c hs hc]; exact refBits_lt _ _ _ hs

theorem on_lt (l : List UInt8) : ∀ s, s < 16777216 → on s l < 16777216 := by
  induction l with
  | nil => intro s h; exact h
  | cons c l ih => intro s h; exact ih _ (byteP_lt s _ h c.toNat_lt)

theorem on_append (s : Nat) (a b : List UInt8) : on s (a ++ b) = on (on s a) b := List.foldl_append ..
theorem on_snoc (s : Nat) (a : List UInt8) (c : UInt8) : on s (a ++ [c]) = byteP (on s a) c.toNat := by rw [on_append]; rfl
theorem on_take (s : Nat) (l : List UInt8) (k : Nat) (h : k < l.length) : on s (l.take (k + 1)) = byteP (on s (l.take k)) l[k].toNat := by
  rw [List.take_succ_eq_append_getElem h, on_snoc]

/-- the sum of bytes -/
def sum (l : List UInt8) : Nat := on 11994318 l
/-- a sum as bytes -/
def tail (n : Nat) : List UInt8 := [UInt8.ofNat (n / 65536), UInt8.ofNat (n / 256), UInt8.ofNat n]
def sealed (l : List UInt8) : List UInt8 := l ++ tail (sum l)
theorem sum_lt (l : List UInt8) : sum l < 16777216 := on_lt l _ (by decide)
theorem sealed_length (l : List UInt8) : (sealed l).length = l.length + 3 := by simp [sealed, tail]
def num (c2 c1 c0 : UInt8) : Nat := c2.toNat * 65536 + c1.toNat * 256 + c0.toNat
theorem num_tail (n : Nat) (h : n < 16777216) : num (UInt8.ofNat (n / 65536)) (UInt8.ofNat (n / 256)) (UInt8.ofNat n) = n := by
  simp only [num, UInt8.toNat_ofNat', Nat.reducePow]; omega
theorem tail_num (c2 c1 c0 : UInt8) : tail (num c2 c1 c0) = [c2, c1, c0] := by
  have h2 := c2.toNat_lt; have h1 := c1.toNat_lt; have h0 := c0.toNat_lt
  have e2 : num c2 c1 c0 / 65536 = c2.toNat := by unfold num; omega
  have e1 : UInt8.ofNat (num c2 c1 c0 / 256) = c1 := by
    apply UInt8.toNat_inj.1; simp only [UInt8.toNat_ofNat', Nat.reducePow, num]; omega
  have e0 : UInt8.ofNat (num c2 c1 c0) = c0 := by
    apply UInt8.toNat_inj.1; simp only [UInt8.toNat_ofNat', Nat.reducePow, num]; omega
  unfold tail
  rw [e2, e1, e0]; simp
theorem sealed_iff (l : List UInt8) (c2 c1 c0 : UInt8) : sealed l = l ++ [c2, c1, c0] ↔ sum l = num c2 c1 c0 := by
  constructor
  · intro h
    unfold sealed at h
    have h' := List.append_cancel_left h
    unfold tail at h'
    injection h' with e2 h'
    injection h' with e1 h'
    injection h' with e0 h'
    rw [← num_tail (sum l) (sum_lt l), e2, e1, e0]
  · intro h
    rw [sealed, h, tail_num]
/-- what is opened -/
def opened (l : List UInt8) : Option (List UInt8) := if 3 ≤ l.length ∧ sealed (l.take (l.length - 3)) = l then some (l.take (l.length - 3)) else none
theorem take_len3 (l : List UInt8) (h : 3 ≤ l.length) : l = l.take (l.length - 3) ++ [l[l.length - 3], l[l.length - 3 + 1], l[l.length - 3 + 2]] := by
  have : l.drop (l.length - 3) = [l[l.length - 3], l[l.length - 3 + 1], l[l.length - 3 + 2]] := by
    rw [List.drop_eq_getElem_cons (by omega), List.drop_eq_getElem_cons (by omega), List.drop_eq_getElem_cons (by omega), List.drop_eq_nil_of_le (by omega)]
  rw [← this, List.take_append_drop]
theorem opened_some (l : List UInt8) (h : 3 ≤ l.length) (hs : sum (l.take (l.length - 3)) = num l[l.length - 3] l[l.length - 3 + 1] l[l.length - 3 + 2]) : opened l = some (l.take (l.length - 3)) := by
  have e := (sealed_iff _ _ _ _).2 hs
  rw [← take_len3 l h] at e
  exact if_pos ⟨h, e⟩
theorem opened_none (l : List UInt8) (h : 3 ≤ l.length) (hs : sum (l.take (l.length - 3)) ≠ num l[l.length - 3] l[l.length - 3 + 1] l[l.length - 3 + 2]) : opened l = none := by
  refine if_neg fun ⟨_, e⟩ => hs ?_
  refine (sealed_iff _ _ _ _).1 ?_
  rw [← take_len3 l h]; exact e
theorem opened_short (l : List UInt8) (h : l.length < 3) : opened l = none := if_neg fun e => by omega
theorem opened_sealed (l : List UInt8) : opened (sealed l) = some l := by
  have e : (sealed l).take ((sealed l).length - 3) = l := by
    rw [sealed_length, Nat.add_sub_cancel]; unfold sealed; exact List.take_left
  unfold opened
  rw [e, if_pos ⟨by rw [sealed_length]; omega, rfl⟩]
end Go.Proofs.Ytlphpjgiaflfkaa.Crc
