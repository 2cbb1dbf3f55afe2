/- Plain facts: a change within 24 consecutive bits is seen by the sum. No statement of the seat is proved here. -/
import Derived.Test.YtinncchnompmhaaCrcLaw
namespace Go.Proofs.Ytinncchnompmhaa.Crc

theorem iter_add (m n s : Nat) : iter (m + n) s = iter m (iter n s) := by
  induction m with
  | zero => simp [iter]
  | succ m ih => rw [Nat.succ_add]; simp only [iter, ih]
theorem iter_zero (m : Nat) : iter m 0 = 0 := by
  induction m with
  | zero => rfl
  | succ m ih => simp only [iter, ih]; decide
theorem iter_xor (m x y : Nat) (hx : x < 16777216) (hy : y < 16777216) : iter m (x ^^^ y) = iter m x ^^^ iter m y := by
  induction m with
  | zero => rfl
  | succ m ih => simp only [iter, ih]; exact shl1_xor _ _ (iter_lt m x hx) (iter_lt m y hy)
/-- shifting without overflow -/
theorem iter_low (r x : Nat) (h : x * 2 ^ r < 16777216) : iter r x = x * 2 ^ r := by
  induction r with
  | zero => simp [iter]
  | succ r ih =>
    rw [Nat.pow_succ, ← Nat.mul_assoc] at h
    simp only [iter]
    rw [ih (by omega), shl1_low _ (by omega), Nat.pow_succ, Nat.mul_assoc]
theorem shl1_ne (x : Nat) (h : x < 16777216) (h0 : x ≠ 0) : shl1 x ≠ 0 := by
  unfold shl1
  split
  · omega
  · intro e
    have e2 : x * 2 % 16777216 = 8801531 := by
      have h1 : (x * 2 % 16777216 ^^^ 8801531) ^^^ 8801531 = 0 ^^^ 8801531 := by rw [e]
      rwa [Nat.xor_assoc, Nat.xor_self, Nat.xor_zero, Nat.zero_xor] at h1
    omega
theorem iter_ne (m x : Nat) (h : x < 16777216) (h0 : x ≠ 0) : iter m x ≠ 0 := by
  induction m with
  | zero => exact h0
  | succ m ih => exact shl1_ne _ (iter_lt m x h) ih

theorem byteP_xor (x y c : Nat) (hx : x < 16777216) (hy : y < 16777216) (hc : c < 256) : byteP (x ^^^ y) c = byteP x c ^^^ iter 8 y := by
  unfold byteP
  rw [Nat.xor_assoc, Nat.xor_comm y, ← Nat.xor_assoc, iter_xor 8 _ _ (xor_lt hx (by omega)) hy]
theorem on_xor (l : List UInt8) : ∀ x y, x < 16777216 → y < 16777216 → on (x ^^^ y) l = on x l ^^^ iter (8 * l.length) y := by
  induction l with
  | nil => intro x y _ _; rfl
  | cons c l ih =>
    intro x y hx hy
    have hc := c.toNat_lt
    show on (byteP (x ^^^ y) c.toNat) l = on (byteP x c.toNat) l ^^^ _
    rw [byteP_xor x y _ hx hy hc, ih _ _ (byteP_lt x _ hx hc) (iter_lt 8 y hy), ← iter_add]
    congr 2
/-- a change of one byte -/
theorem byteP_turn (x c m : Nat) (hx : x < 16777216) (hc : c < 256) (hm : m < 256) : byteP x (c ^^^ m) = byteP x c ^^^ iter 8 (m * 65536) := by
  unfold byteP
  have e : (c ^^^ m) * 65536 = (c * 65536) ^^^ (m * 65536) := by
    have := Nat.shiftLeft_xor_distrib (a := c) (b := m) (i := 16)
    rwa [Nat.shiftLeft_eq, Nat.shiftLeft_eq, Nat.shiftLeft_eq] at this
  rw [e, ← Nat.xor_assoc, iter_xor 8 _ _ (xor_lt hx (by omega)) (by omega)]
theorem on_set (s : Nat) (hs : s < 16777216) (l : List UInt8) (p : Nat) (hp : p < l.length) (d : UInt8) : on s (l.set p (l[p] ^^^ d)) = on s l ^^^ iter (8 * (l.length - p)) (d.toNat * 65536) := by
  have e1 : l = l.take p ++ l[p] :: l.drop (p + 1) := by
    rw [← List.drop_eq_getElem_cons hp, List.take_append_drop]
  have e2 : l.set p (l[p] ^^^ d) = l.take p ++ (l[p] ^^^ d) :: l.drop (p + 1) := List.set_eq_take_append_cons_drop .. |>.trans (if_pos hp)
  have hx := on_lt (l.take p) s hs
  have hc := (l[p]).toNat_lt
  have hd := d.toNat_lt
  have q1 : on s (l.set p (l[p] ^^^ d)) = on (byteP (on s (l.take p)) (l[p].toNat ^^^ d.toNat)) (l.drop (p + 1)) := by
    rw [e2, on_append]
    show on (byteP _ (l[p] ^^^ d).toNat) _ = _
    rw [UInt8.toNat_xor]
  have q2 : on s l = on (byteP (on s (l.take p)) l[p].toNat) (l.drop (p + 1)) := by
    conv => lhs; rw [e1]
    rw [on_append]
    rfl
  rw [q1, q2, byteP_turn _ _ _ hx hc hd, on_xor _ _ _ (byteP_lt _ _ hx hc) (iter_lt 8 _ (by omega)), ← iter_add, List.length_drop]
  congr 2
  omega

/-- the sum over what was sealed is zero -/
theorem on_tail (s : Nat) (h : s < 16777216) : on s (tail s) = 0 := by
  show byteP (byteP (byteP s (UInt8.ofNat (s / 65536)).toNat) (UInt8.ofNat (s / 256)).toNat) (UInt8.ofNat s).toNat = 0
  have t2 : (UInt8.ofNat (s / 65536)).toNat = s / 65536 := by simp only [UInt8.toNat_ofNat', Nat.reducePow]; omega
  have t1 : (UInt8.ofNat (s / 256)).toNat = s / 256 % 256 := by simp only [UInt8.toNat_ofNat', Nat.reducePow]
  have t0 : (UInt8.ofNat s).toNat = s % 256 := by simp only [UInt8.toNat_ofNat', Nat.reducePow]
  rw [t2, t1, t0]
  have x1 : s ^^^ (s / 65536 * 65536) = s % 65536 := xor_high s 16 h
  have x2 : (s % 65536 * 256) ^^^ (s / 256 % 256 * 65536) = s % 256 * 256 := by
    have := xor_high (s % 65536 * 256) 16 (by omega)
    rw [show s % 65536 * 256 / 2 ^ 16 * 2 ^ 16 = s / 256 % 256 * 65536 from by simp only [Nat.reducePow]; omega] at this
    rw [this]; simp only [Nat.reducePow]; omega
  unfold byteP
  rw [x1, iter_low 8 (s % 65536) (by simp only [Nat.reducePow]; omega), show s % 65536 * 2 ^ 8 = s % 65536 * 256 from rfl, x2, iter_low 8 (s % 256 * 256) (by simp only [Nat.reducePow]; omega)]
  have x3 : s % 256 * 256 * 2 ^ 8 ^^^ (s % 256 * 65536) = 0 := by
    rw [show s % 256 * 256 * 2 ^ 8 = s % 256 * 65536 from by simp only [Nat.reducePow]; omega, Nat.xor_self]
  rw [x3]; exact iter_zero 8
where
  xor_high (s k : Nat) (_ : s < 16777216) : s ^^^ (s / 2 ^ k * 2 ^ k) = s % 2 ^ k := by
    apply Nat.eq_of_testBit_eq
    intro j
    rw [Nat.testBit_xor, Nat.testBit_mod_two_pow, Nat.testBit_mul_two_pow]
    by_cases hj : j < k
    · have : ¬ k ≤ j := by omega
      simp [hj, this]
    · have h2 : k ≤ j := by omega
      simp [hj, h2, Nat.testBit_div_two_pow, Nat.sub_add_cancel h2]

theorem on_sealed (l : List UInt8) : on 11994318 (sealed l) = 0 := by
  unfold sealed
  rw [on_append]
  exact on_tail _ (sum_lt l)
theorem opened_zero (l : List UInt8) (h : on 11994318 l ≠ 0) : opened l = none := by
  refine if_neg fun ⟨_, e⟩ => h ?_
  rw [← e]; exact on_sealed _

/-- the burst: bit i of 'turn' stands at 23 - i -/
def burst (turn : Nat) : Nat → Nat
  | 0 => 0
  | i + 1 => if turn.testBit i then burst turn i ^^^ 2 ^ (23 - i) else burst turn i
theorem burst_bit (turn : Nat) : ∀ i, i ≤ 24 → ∀ k, k < 24 → (burst turn i).testBit (23 - k) = (decide (k < i) && turn.testBit k) := by
  intro i
  induction i with
  | zero => intro _ k _; simp [burst]
  | succ i ih =>
    intro hi k hk
    have ih := ih (by omega) k hk
    unfold burst
    by_cases ht : turn.testBit i
    · rw [if_pos ht, Nat.testBit_xor, ih, Nat.testBit_two_pow]
      by_cases hki : k = i
      · subst hki; simp [ht]
      · have h1 : ¬ 23 - i = 23 - k := by omega
        have h2 : (k < i + 1) = (k < i) := by apply propext; omega
        simp [h1, h2]
    · rw [if_neg ht, ih]
      by_cases hki : k = i
      · subst hki; simp [ht]
      · have h2 : (k < i + 1) = (k < i) := by apply propext; omega
        simp [h2]
theorem burst_lt (turn : Nat) : ∀ i, i ≤ 24 → burst turn i < 16777216 := by
  intro i
  induction i with
  | zero => intro _; simp [burst]
  | succ i ih =>
    intro hi
    unfold burst
    split
    · refine xor_lt (ih (by omega)) ?_
      have : 2 ^ (23 - i) ≤ 2 ^ 23 := Nat.pow_le_pow_right (by decide) (by omega)
      omega
    · exact ih (by omega)
theorem burst_ne (turn : Nat) (h : turn % 16777216 ≠ 0) : burst turn 24 ≠ 0 := by
  intro e
  apply h
  apply Nat.eq_of_testBit_eq
  intro j
  rw [show (16777216 : Nat) = 2 ^ 24 from rfl, Nat.testBit_mod_two_pow, Nat.zero_testBit]
  by_cases hj : j < 24
  · have := burst_bit turn 24 (by omega) j hj
    rw [e, Nat.zero_testBit] at this
    simpa [hj] using this.symm
  · simp [hj]
/-- one bit turned -/
theorem turn_one (l : List UInt8) (at_ i : Nat) (h : at_ + 24 ≤ 8 * l.length) (hi : i < 24) (B : Nat) (hB : B < 16777216) (h0 : on 11994318 l = iter (8 * l.length - at_) B) (hp : (at_ + i) / 8 < l.length) :
    on 11994318 (l.set ((at_ + i) / 8) (l[(at_ + i) / 8] ^^^ UInt8.ofNat (2 ^ (7 - (at_ + i) % 8)))) = iter (8 * l.length - at_) (B ^^^ 2 ^ (23 - i)) := by
  have hr : (at_ + i) % 8 < 8 := Nat.mod_lt _ (by decide)
  have hd : (UInt8.ofNat (2 ^ (7 - (at_ + i) % 8))).toNat = 2 ^ (7 - (at_ + i) % 8) := by
    simp only [UInt8.toNat_ofNat']
    apply Nat.mod_eq_of_lt
    exact Nat.pow_lt_pow_right (by decide) (by omega)
  have hi2 : 2 ^ (23 - i) < 16777216 := by
    have : 2 ^ (23 - i) ≤ 2 ^ 23 := Nat.pow_le_pow_right (by decide) (by omega)
    omega
  rw [on_set _ (by decide) l _ hp, h0, hd, iter_xor _ _ _ hB hi2]
  congr 1
  -- both are 'iter (8 * len - at - i) 2^23'
  have hq : 2 ^ (7 - (at_ + i) % 8) * 65536 = 2 ^ (23 - (at_ + i) % 8) := by
    rw [show (65536 : Nat) = 2 ^ 16 from rfl, ← Nat.pow_add]; congr 1; omega
  have up : ∀ r, r ≤ 23 → iter r (2 ^ (23 - r)) = 2 ^ 23 := by
    intro r hr
    have : 2 ^ (23 - r) * 2 ^ r = 2 ^ 23 := by rw [← Nat.pow_add]; congr 1; omega
    rw [iter_low r _ (by rw [this]; decide), this]
  rw [hq]
  have a1 : 8 * (l.length - (at_ + i) / 8) = (8 * l.length - at_ - i) + (at_ + i) % 8 := by omega
  have a2 : 8 * l.length - at_ = (8 * l.length - at_ - i) + i := by omega
  rw [a1, iter_add, up _ (by omega)]
  conv => rhs; rw [a2]
  rw [iter_add, up _ (by omega)]
end Go.Proofs.Ytinncchnompmhaa.Crc
