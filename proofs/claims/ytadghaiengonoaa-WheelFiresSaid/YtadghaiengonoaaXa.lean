/- wheel: in which ring, which slot something waits, and what a turn does. Plain laws; no statement of the seat is proved here. -/
import Derived.Test.YtadghaiengonoaaUd
namespace Go.Proofs.Ytadghaiengonoaa
set_option linter.unusedVariables false
set_option linter.unusedSimpArgs false
set_option linter.unusedSectionVars false
open Go Go.RowKit Go.Maps

/-- the ring (4: beyond, or late) -/
def ringN (now due : Int) : Nat := if due ≤ now then 4 else if due / 64 = now / 64 then 0 else if due / 4096 = now / 4096 then 1 else if due / 262144 = now / 262144 then 2 else if due / 16777216 = now / 16777216 then 3 else 4
/-- the width of a ring's slot -/
def wid : Nat → Int
  | 0 => 1
  | 1 => 64
  | 2 => 4096
  | 3 => 262144
  | _ => 16777216
def slotN (k : Nat) (due : Int) : Nat := if k = 4 then 0 else (due / wid k % 64).toNat
theorem ringN_le (now due : Int) : ringN now due ≤ 4 := by unfold ringN; split <;> (try split) <;> (try split) <;> (try split) <;> (try split) <;> omega
theorem slotN_lt (k : Nat) (due : Int) : slotN k due < 64 := by unfold slotN; split <;> omega
/-- what the ring says -/
theorem ring_cases (now due : Int) : (due ≤ now ∧ ringN now due = 4) ∨ (now < due ∧ due / 64 = now / 64 ∧ ringN now due = 0) ∨ (now < due ∧ due / 64 ≠ now / 64 ∧ due / 4096 = now / 4096 ∧ ringN now due = 1) ∨
    (now < due ∧ due / 4096 ≠ now / 4096 ∧ due / 262144 = now / 262144 ∧ ringN now due = 2) ∨ (now < due ∧ due / 262144 ≠ now / 262144 ∧ due / 16777216 = now / 16777216 ∧ ringN now due = 3) ∨ (now < due ∧ due / 16777216 ≠ now / 16777216 ∧ ringN now due = 4) := by
  unfold ringN
  by_cases h0 : due ≤ now
  · rw [if_pos h0]; exact .inl ⟨h0, rfl⟩
  rw [if_neg h0]
  by_cases h1 : due / 64 = now / 64
  · rw [if_pos h1]; exact .inr (.inl ⟨by omega, h1, rfl⟩)
  rw [if_neg h1]
  by_cases h2 : due / 4096 = now / 4096
  · rw [if_pos h2]; exact .inr (.inr (.inl ⟨by omega, h1, h2, rfl⟩))
  rw [if_neg h2]
  by_cases h3 : due / 262144 = now / 262144
  · rw [if_pos h3]; exact .inr (.inr (.inr (.inl ⟨by omega, h2, h3, rfl⟩)))
  rw [if_neg h3]
  by_cases h4 : due / 16777216 = now / 16777216
  · rw [if_pos h4]; exact .inr (.inr (.inr (.inr (.inl ⟨by omega, h3, h4, rfl⟩))))
  · rw [if_neg h4]; exact .inr (.inr (.inr (.inr (.inr ⟨by omega, h4, rfl⟩))))
/-- the rings below one that stands: all is late -/
theorem turn_low (i j : Nat) (a b due : Int) (hi : i ≤ 4) (hj : j < i) (h0 : 0 ≤ a) (h1 : a ≤ b) (hne : a / wid i ≠ b / wid i) (hr : ringN a due = j) : due ≤ b := by
  have hc := ring_cases a due
  rcases (by omega : i = 1 ∨ i = 2 ∨ i = 3 ∨ i = 4) with rfl | rfl | rfl | rfl <;> simp only [wid] at hne <;> rcases hc with ⟨c1, c2⟩ | ⟨c1, c2, c3⟩ | ⟨c1, c2, c3, c4⟩ | ⟨c1, c2, c3, c4⟩ | ⟨c1, c2, c3, c4⟩ | ⟨c1, c2, c3⟩ <;> omega
/-- a slot of the ring that stands: what lies ahead of it stays -/
theorem turn_stay (i : Nat) (a b due : Int) (hi : i ≤ 3) (h0 : 0 ≤ a) (h1 : a ≤ b) (he : a / wid (i + 1) = b / wid (i + 1)) (hr : ringN a due = i) (hs : slotN i b < slotN i due) : b < due ∧ ringN b due = i := by
  have hc := ring_cases a due
  have hd := ring_cases b due
  rcases (by omega : i = 0 ∨ i = 1 ∨ i = 2 ∨ i = 3) with rfl | rfl | rfl | rfl <;> simp [wid, slotN] at he hs <;> rcases hc with ⟨c1, c2⟩ | ⟨c1, c2, c3⟩ | ⟨c1, c2, c3, c4⟩ | ⟨c1, c2, c3, c4⟩ | ⟨c1, c2, c3, c4⟩ | ⟨c1, c2, c3⟩ <;> (try omega) <;> rcases hd with ⟨d1, d2⟩ | ⟨d1, d2, d3⟩ | ⟨d1, d2, d3, d4⟩ | ⟨d1, d2, d3, d4⟩ | ⟨d1, d2, d3, d4⟩ | ⟨d1, d2, d3⟩ <;> (try omega) <;> exact ⟨by omega, by omega⟩
/-- what is taken and not late goes down -/
theorem turn_down (i : Nat) (a b due : Int) (hi : i ≤ 3) (h0 : 0 ≤ a) (h1 : a ≤ b) (he : a / wid (i + 1) = b / wid (i + 1)) (hr : ringN a due = i) (hs : slotN i due ≤ slotN i b) (hb : b < due) : ringN b due < i := by
  have hc := ring_cases a due
  have hd := ring_cases b due
  rcases (by omega : i = 0 ∨ i = 1 ∨ i = 2 ∨ i = 3) with rfl | rfl | rfl | rfl <;> simp [wid, slotN] at he hs <;> rcases hc with ⟨c1, c2⟩ | ⟨c1, c2, c3⟩ | ⟨c1, c2, c3, c4⟩ | ⟨c1, c2, c3, c4⟩ | ⟨c1, c2, c3, c4⟩ | ⟨c1, c2, c3⟩ <;> (try omega) <;> rcases hd with ⟨d1, d2⟩ | ⟨d1, d2, d3⟩ | ⟨d1, d2, d3, d4⟩ | ⟨d1, d2, d3, d4⟩ | ⟨d1, d2, d3, d4⟩ | ⟨d1, d2, d3⟩ <;> omega
/-- where a slot begins -/
theorem turn_from (i : Nat) (a b due : Int) (hi : i ≤ 3) (h0 : 0 ≤ a) (h1 : a ≤ b) (he : a / wid (i + 1) = b / wid (i + 1)) (hr : ringN a due = i) : slotN i a ≤ slotN i due := by
  have hc := ring_cases a due
  rcases (by omega : i = 0 ∨ i = 1 ∨ i = 2 ∨ i = 3) with rfl | rfl | rfl | rfl <;> simp [wid, slotN] at he ⊢ <;> rcases hc with ⟨c1, c2⟩ | ⟨c1, c2, c3⟩ | ⟨c1, c2, c3, c4⟩ | ⟨c1, c2, c3, c4⟩ | ⟨c1, c2, c3, c4⟩ | ⟨c1, c2, c3⟩ <;> omega
/-- the rings above stand still -/
theorem turn_high (i j : Nat) (a b due : Int) (hi : i ≤ 3) (hj : i < j) (hj4 : j ≤ 4) (h0 : 0 ≤ a) (h1 : a ≤ b) (he : a / wid (i + 1) = b / wid (i + 1)) (hr : ringN a due = j) (hd : a < due) : b < due ∧ ringN b due = j := by
  have hc := ring_cases a due
  have hd := ring_cases b due
  rcases (by omega : i = 0 ∨ i = 1 ∨ i = 2 ∨ i = 3) with rfl | rfl | rfl | rfl <;> simp only [wid] at he <;> rcases hc with ⟨c1, c2⟩ | ⟨c1, c2, c3⟩ | ⟨c1, c2, c3, c4⟩ | ⟨c1, c2, c3, c4⟩ | ⟨c1, c2, c3, c4⟩ | ⟨c1, c2, c3⟩ <;> (try omega) <;> rcases hd with ⟨d1, d2⟩ | ⟨d1, d2, d3⟩ | ⟨d1, d2, d3, d4⟩ | ⟨d1, d2, d3, d4⟩ | ⟨d1, d2, d3, d4⟩ | ⟨d1, d2, d3⟩ <;> (try omega) <;> exact ⟨by omega, by omega⟩
end Go.Proofs.Ytadghaiengonoaa
