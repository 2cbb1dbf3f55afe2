/- Plain laws for package week. No statement of a seat is proved here. -/
import Derived.Test.YtndifinjdheceaaSpLaw
namespace Go.Proofs.Ytndifinjdheceaa
set_option linter.unusedVariables false
set_option linter.unusedSimpArgs false
set_option linter.unusedSectionVars false
open Go Go.RowKit

/-- a plan's error -/
def weekErr (l : List Sp) : Nat := if rowErr l = 0 then (if l.any (fun s => decide (604800 < s.b)) then 2 else 0) else rowErr l
/-- of all spans: within a week -/
def InWeek (l : List Sp) : Prop := ∀ s ∈ l, s.b ≤ 604800
theorem week_row {l : List Sp} (h : weekErr l = 0) : rowErr l = 0 ∧ InWeek l := by
  unfold weekErr at h
  by_cases h0 : rowErr l = 0
  · refine ⟨h0, fun s hs => ?_⟩
    rw [if_pos h0] at h
    split at h
    · cases h
    · rename_i h1
      simp only [List.any_eq_true, decide_eq_true_eq, not_exists, not_and] at h1
      have := h1 s hs
      omega
  · rw [if_neg h0] at h; exact absurd h h0
theorem chain_mono (l : List Sp) : ∀ e, chain e l = true → ∀ i j (hi : i < j) (hj : j < l.length), l[i].b ≤ l[j].a := by
  induction l with
  | nil => intro e _ i j _ hj; simp at hj
  | cons s l ih =>
    intro e h i j hij hj
    unfold chain at h
    simp only [Bool.and_eq_true, decide_eq_true_eq] at h
    cases j with
    | zero => omega
    | succ j =>
      have hj' : j < l.length := by simpa using hj
      cases i with
      | zero =>
        simp only [List.getElem_cons_zero, List.getElem_cons_succ]
        exact (chain_after l s.b h.2 _ (List.getElem_mem hj')).1
      | succ i =>
        simp only [List.getElem_cons_succ]
        exact ih s.b h.2 i j (by omega) hj'
/-- the last span tells it of all -/
theorem any_last {l : List Sp} (h0 : rowErr l = 0) (hn : 0 < l.length) : l.any (fun s => decide (604800 < s.b)) = decide (604800 < (l[l.length - 1]'(by omega)).b) := by
  have hch := (row_chain h0).1
  rw [Bool.eq_iff_iff]
  simp only [List.any_eq_true, decide_eq_true_eq]
  constructor
  · rintro ⟨s, hs, h⟩
    obtain ⟨i, hi, rfl⟩ := List.getElem_of_mem hs
    by_cases hl : i = l.length - 1
    · subst hl; exact h
    · have h1 := chain_mono l 0 hch i (l.length - 1) (by omega) (by omega)
      have h2 := (rights_row h0 _ (List.getElem_mem (show l.length - 1 < l.length by omega))).1
      omega
  · intro h
    exact ⟨_, List.getElem_mem _, h⟩
theorem next_le (l : List Sp) (t : Int) : nextI l t ≤ l.length := List.findIdx_le_length
theorem next_lo (l : List Sp) (t : Int) (i : Nat) (h : i < nextI l t) : (l[i]'(Nat.lt_of_lt_of_le h (next_le l t))).b ≤ t := by
  have := List.not_of_lt_findIdx (p := aft t) (xs := l) h
  unfold aft at this
  simp at this
  exact this
theorem next_hi {l : List Sp} (h0 : rowErr l = 0) (t : Int) (i : Nat) (h : nextI l t ≤ i) (hi : i < l.length) : t < l[i].b := by
  have hn : nextI l t < l.length := by omega
  have h1 : aft t l[nextI l t] = true := List.findIdx_getElem (w := hn)
  unfold aft at h1
  simp only [decide_eq_true_eq] at h1
  by_cases he : nextI l t = i
  · subst he; exact h1
  · have h2 := chain_mono l 0 (row_chain h0).1 (nextI l t) i (by omega) hi
    have h3 := (rights_row h0 _ (List.getElem_mem hi)).1
    omega
/-- where the test turns -/
theorem next_iff {l : List Sp} (h0 : rowErr l = 0) (t : Int) (i : Nat) (hi : i < l.length) : l[i].b ≤ t ↔ i < nextI l t := by
  constructor
  · intro h
    apply Classical.byContradiction
    intro hn
    have := next_hi h0 t i (by omega) hi
    omega
  · exact next_lo l t i
theorem has_next (l : List Sp) (t : Int) : ∀ e, chain e l = true → hasL l t = (decide (nextI l t < l.length) && decide ((l.getD (nextI l t) ⟨0, 0⟩).a ≤ t)) := by
  induction l with
  | nil => intro e _; rfl
  | cons s l ih =>
    intro e h
    have h' := h
    unfold chain at h
    simp only [Bool.and_eq_true, decide_eq_true_eq] at h
    by_cases ha : t < s.b
    · have e1 : nextI (s :: l) t = 0 := by unfold nextI; rw [List.findIdx_cons]; simp [aft, ha]
      rw [e1]
      have e2 : hasL l t = false := by
        unfold hasL
        rw [List.any_eq_false]
        intro x hx
        have := (chain_after l s.b h.2 x hx).1
        simp only [Bool.and_eq_true, decide_eq_true_eq, not_and]
        omega
      unfold hasL at e2 ⊢
      rw [List.any_cons, e2]
      simp [ha]
    · have e1 : nextI (s :: l) t = nextI l t + 1 := by unfold nextI; rw [List.findIdx_cons]; simp [aft, ha]
      rw [e1]
      have := ih s.b h.2
      unfold hasL at this ⊢
      rw [List.any_cons, this]
      have e3 : (s :: l).getD (nextI l t + 1) ⟨0, 0⟩ = l.getD (nextI l t) ⟨0, 0⟩ := by simp [List.getD_eq_getElem?_getD]
      rw [e3]
      simp [ha]

/-- how many seconds are ahead of each span, and of the end -/
def sumsL (l : List Sp) : List Int := (List.range (l.length + 1)).map fun i => lenL (l.take i)
theorem sumsL_len (l : List Sp) : (sumsL l).length = l.length + 1 := by simp [sumsL]
theorem sumsL_at (l : List Sp) (i : Nat) (hi : i < l.length + 1) : (sumsL l)[i]'(by rw [sumsL_len]; exact hi) = lenL (l.take i) := by simp [sumsL]
theorem lenL_snoc (l : List Sp) (i : Nat) (hi : i < l.length) : lenL (l.take (i + 1)) = lenL (l.take i) + (l[i].b - l[i].a) := by
  rw [List.take_succ_eq_append_getElem hi, lenL_append]
  simp [lenL]
theorem rights_take {l : List Sp} (h : Rights l) (i : Nat) : Rights (l.take i) := fun s hs => h s (List.mem_of_mem_take hs)
theorem lenL_pos {l : List Sp} (h : Rights l) : 0 ≤ lenL l := lenL_nonneg l fun s hs => by have := (h s hs).1; omega
theorem lenL_mono {l : List Sp} (h : Rights l) (i j : Nat) (hij : i ≤ j) : lenL (l.take i) ≤ lenL (l.take j) := by
  have e : l.take j = (l.take i) ++ (l.take j).drop i := by
    conv => lhs; rw [← List.take_append_drop i (l.take j)]
    rw [List.take_take, Nat.min_eq_left hij]
  rw [e, lenL_append]
  have : 0 ≤ lenL ((l.take j).drop i) := lenL_nonneg _ fun s hs => by
    have := (h s (List.mem_of_mem_take (List.mem_of_mem_drop hs))).1
    omega
  omega
theorem lenL_week (l : List Sp) : ∀ e, 0 ≤ e → chain e l = true → InWeek l → lenL l ≤ 604800 - e ∨ l = [] := by
  induction l with
  | nil => intro e _ _ _; exact .inr rfl
  | cons s l ih =>
    intro e he h hw
    unfold chain at h
    simp only [Bool.and_eq_true, decide_eq_true_eq] at h
    obtain ⟨⟨h1, h2⟩, h3⟩ := h
    obtain ⟨h4, h5, h6⟩ := right_lt h1
    have h7 := hw s (by simp)
    left
    rcases ih s.b (by omega) h3 (fun x hx => hw x (by simp [hx])) with h | rfl
    · simp only [lenL]; omega
    · simp only [lenL]; omega
theorem total_week {l : List Sp} (h : weekErr l = 0) : 0 ≤ lenL l ∧ lenL l ≤ 604800 := by
  obtain ⟨h0, hw⟩ := week_row h
  refine ⟨lenL_pos (rights_row h0), ?_⟩
  rcases lenL_week l 0 (Int.le_refl _) (row_chain h0).1 hw with h | rfl
  · omega
  · simp [lenL]
theorem plen_add (s : Sp) (x y : Int) (h : s.a < s.b) (h0 : 0 ≤ s.a) (hx : 0 ≤ x) (hxy : x ≤ y) : plen s 0 x + plen s x y = plen s 0 y := by
  unfold plen
  rw [if_neg (show ¬ s.a < 0 by omega)]
  split <;> split <;> split <;> (try split) <;> (try split) <;> (try split) <;> (try split) <;> omega
theorem parts_add (l : List Sp) (hr : Rights l) (x y : Int) (hx : 0 ≤ x) (hxy : x ≤ y) : lenL (parts l 0 x) + lenL (parts l x y) = lenL (parts l 0 y) := by
  induction l with
  | nil => rfl
  | cons s l ih =>
    have h1 := hr s (by simp)
    have h2 := ih (fun x hx => hr x (by simp [hx]))
    have h3 := plen_add s x y h1.1 h1.2.1 hx hxy
    rw [plen_cons, plen_cons, plen_cons]; omega
theorem parts_all (l : List Sp) (hr : Rights l) (y : Int) (h : ∀ s ∈ l, s.b ≤ y) : lenL (parts l 0 y) = lenL l := by
  induction l with
  | nil => rfl
  | cons s l ih =>
    have h1 := hr s (by simp)
    rw [plen_cons, plen_all s 0 y h1.1 h1.2.1 (h s (by simp)), ih (fun x hx => hr x (by simp [hx])) (fun x hx => h x (by simp [hx]))]; rfl
theorem parts_pos (l : List Sp) (f t : Int) : 0 ≤ lenL (parts l f t) := lenL_nonneg _ (parts_le l f t)
/-- what lies ahead of a second, by the span that it is in or ahead of -/
theorem parts_next (l : List Sp) (t : Int) : ∀ e, 0 ≤ e → chain e l = true →
    lenL (parts l 0 t) = lenL (l.take (nextI l t)) + (if nextI l t < l.length then (if t - (l.getD (nextI l t) ⟨0, 0⟩).a < 0 then 0 else t - (l.getD (nextI l t) ⟨0, 0⟩).a) else 0) := by
  induction l with
  | nil => intro e _ _; rfl
  | cons s l ih =>
    intro e he h
    unfold chain at h
    simp only [Bool.and_eq_true, decide_eq_true_eq] at h
    obtain ⟨⟨h1, h2⟩, h3⟩ := h
    obtain ⟨h4, h5, h6⟩ := right_lt h1
    by_cases ha : t < s.b
    · have e1 : nextI (s :: l) t = 0 := by unfold nextI; rw [List.findIdx_cons]; simp [aft, ha]
      rw [e1, plen_cons, parts_past l s.b 0 t h3 (by omega)]
      unfold plen
      simp only [List.take_zero, lenL, List.length_cons, Nat.zero_lt_succ, if_true, List.getD_cons_zero]
      rw [if_neg (show ¬ s.a < 0 by omega), if_pos ha]
      split <;> split <;> omega
    · have e1 : nextI (s :: l) t = nextI l t + 1 := by unfold nextI; rw [List.findIdx_cons]; simp [aft, ha]
      have e3 : (s :: l).getD (nextI l t + 1) ⟨0, 0⟩ = l.getD (nextI l t) ⟨0, 0⟩ := by simp [List.getD_eq_getElem?_getD]
      rw [e1, e3, plen_cons, ih s.b (by omega) h3, plen_all s 0 t h4 h5 (by omega), List.take_succ_cons]
      simp only [lenL, List.length_cons, Nat.add_lt_add_iff_right]
      omega
/-- the second that has n ahead, by the sums -/
theorem nth_sums (l : List Sp) (hr : Rights l) (i : Nat) (hi : i < l.length) (n : Int) (h0 : lenL (l.take i) ≤ n) (h1 : n < lenL (l.take (i + 1))) : nthL l n = (l[i].a + (n - lenL (l.take i)), true) := by
  induction l generalizing i n with
  | nil => simp at hi
  | cons s l ih =>
    have h2 := hr s (by simp)
    have hr2 : Rights l := fun x hx => hr x (by simp [hx])
    unfold nthL
    cases i with
    | zero =>
      simp only [List.take_zero, lenL, List.take_succ_cons, List.getElem_cons_zero] at h0 h1 ⊢
      rw [if_pos (by omega)]
      simp
    | succ i =>
      simp only [List.take_succ_cons, lenL, List.getElem_cons_succ] at h0 h1 ⊢
      have h3 := lenL_pos (rights_take hr2 i)
      rw [if_neg (by omega), ih hr2 i (by simpa using hi) _ (by omega) (by omega)]
      congr 1
      omega

/-- the clock's last second -/
abbrev lastT : Int := 2251799813685248
def clampT (t : Int) : Int := if (if t < 0 then 0 else t) > 2251799813685248 then 2251799813685248 else (if t < 0 then 0 else t)
theorem clamp_le (t : Int) : 0 ≤ clampT t ∧ clampT t ≤ 2251799813685248 := by unfold clampT; split <;> split at * <;> omega
theorem clamp_in (t : Int) (h0 : 0 ≤ t) (h1 : t ≤ 2251799813685248) : clampT t = t := by unfold clampT; rw [if_neg (show ¬ t < 0 by omega), if_neg (by omega)]
/-- how many open seconds are ahead -/
def untilL (l : List Sp) (t : Int) : Int := clampT t / 604800 * lenL l + lenL (parts l 0 (clampT t % 604800))
def openL (l : List Sp) (t : Int) : Bool := decide (0 ≤ t) && decide (t ≤ 2251799813685248) && hasL l (t % 604800)
def betweenL (l : List Sp) (f t : Int) : Int := if untilL l t - untilL l f < 0 then 0 else untilL l t - untilL l f
def nthW (l : List Sp) (n : Int) : Int × Nat :=
  if n < 0 then (0, 2) else if lenL l = 0 then (0, 40) else if 3723213977 < n / lenL l then (0, 10)
  else if 2251799813685248 < (nthL l (n % lenL l)).1 + n / lenL l * 604800 then (0, 10) else ((nthL l (n % lenL l)).1 + n / lenL l * 604800, 0)
theorem mul_le {q T : Int} (hq0 : 0 ≤ q) (hq : q ≤ 3723213977) (h0 : 0 ≤ T) (h1 : T ≤ 604800) : 0 ≤ q * T ∧ q * T ≤ 2251799813289600 := by
  have h2 : 0 ≤ q * T := Int.mul_nonneg hq0 h0
  have h3 : q * T ≤ 3723213977 * T := Int.mul_le_mul_of_nonneg_right hq h0
  omega
theorem parts_week {l : List Sp} (h : weekErr l = 0) (f t : Int) : 0 ≤ lenL (parts l f t) ∧ lenL (parts l f t) ≤ lenL l :=
  ⟨parts_pos l f t, parts_lenL l f t (rights_row (week_row h).1)⟩
theorem until_le {l : List Sp} (h : weekErr l = 0) (t : Int) : 0 ≤ untilL l t ∧ untilL l t ≤ 2251799813894400 := by
  have h1 := total_week h
  have h2 := parts_week h 0 (clampT t % 604800)
  have h3 := clamp_le t
  unfold untilL
  have := mul_le (q := clampT t / 604800) (T := lenL l) (by omega) (by omega) h1.1 h1.2
  omega
theorem until_step {l : List Sp} (h : weekErr l = 0) (t : Int) (h0 : 0 ≤ t) (h1 : t < 2251799813685248) : untilL l (t + 1) - untilL l t = if openL l t then 1 else 0 := by
  obtain ⟨hr0, hw⟩ := week_row h
  have hr := rights_row hr0
  have ho : openL l t = hasL l (t % 604800) := by
    unfold openL
    have e1 : decide (0 ≤ t) = true := by simpa using h0
    have e2 : decide (t ≤ 2251799813685248) = true := by simp; omega
    rw [e1, e2]; rfl
  rw [ho, ← one_sec l (t % 604800) 0 (row_chain hr0).1]
  unfold untilL
  rw [clamp_in t h0 (by omega), clamp_in (t + 1) (by omega) (by omega)]
  obtain ⟨q, hq⟩ : ∃ q, q = t / 604800 := ⟨_, rfl⟩
  obtain ⟨r, hre⟩ : ∃ r, r = t % 604800 := ⟨_, rfl⟩
  have hr1 : 0 ≤ r ∧ r < 604800 := by omega
  have ht : t = 604800 * q + r := by omega
  have hadd := parts_add l hr r (r + 1) hr1.1 (by omega)
  rw [← hre, ← hq]
  by_cases hc : r + 1 < 604800
  · have e1 : (t + 1) / 604800 = q := by omega
    have e2 : (t + 1) % 604800 = r + 1 := by omega
    rw [e1, e2]; omega
  · have e1 : (t + 1) / 604800 = q + 1 := by omega
    have e2 : (t + 1) % 604800 = 0 := by omega
    rw [e1, e2]
    have e3 : lenL (parts l 0 0) = 0 := by
      have := parts_add l hr 0 0 (Int.le_refl _) (Int.le_refl _)
      omega
    have e4 : r + 1 = 604800 := by omega
    rw [e4, parts_all l hr 604800 hw] at hadd
    rw [e3, Int.add_mul, Int.one_mul, e4]; omega
theorem between_step {l : List Sp} (h : weekErr l = 0) (t : Int) (h0 : 0 ≤ t) (h1 : t < 2251799813685248) : betweenL l t (t + 1) = if openL l t then 1 else 0 := by
  have := until_step h t h0 h1
  unfold betweenL
  rw [this]
  split <;> rfl
theorem until_zero {l : List Sp} (h : weekErr l = 0) : untilL l 0 = 0 := by
  have hr := rights_row (week_row h).1
  have e3 : lenL (parts l 0 0) = 0 := by
    have := parts_add l hr 0 0 (Int.le_refl _) (Int.le_refl _)
    omega
  show (0 : Int) / 604800 * lenL l + lenL (parts l 0 (0 % 604800)) = 0
  simp [e3]
theorem total_zero {l : List Sp} (h : weekErr l = 0) (h0 : lenL l = 0) : l = [] := by
  have hr := rights_row (week_row h).1
  cases l with
  | nil => rfl
  | cons s l =>
    have h1 := hr s (by simp)
    have h2 := lenL_pos (fun x hx => hr x (by simp [hx]) : Rights l)
    simp only [lenL] at h0
    omega
/-- the second in its week -/
theorem nth_facts {l : List Sp} (h : weekErr l = 0) (n : Int) (hn : 0 ≤ n) (hT : lenL l ≠ 0) :
    0 ≤ n % lenL l ∧ n % lenL l < lenL l ∧ 0 ≤ n / lenL l ∧ n = n / lenL l * lenL l + n % lenL l ∧ hasL l (nthL l (n % lenL l)).1 = true ∧ 0 ≤ (nthL l (n % lenL l)).1 ∧ (nthL l (n % lenL l)).1 < 604800 ∧ lenL (parts l 0 (nthL l (n % lenL l)).1) = n % lenL l := by
  obtain ⟨hr0, hw⟩ := week_row h
  have hr := rights_row hr0
  have hT0 := total_week h
  have h1 : 0 ≤ n % lenL l := Int.emod_nonneg _ hT
  have h2 : n % lenL l < lenL l := Int.emod_lt_of_pos _ (by omega)
  have h3 : 0 ≤ n / lenL l := Int.ediv_nonneg hn hT0.1
  have h4 : n = n / lenL l * lenL l + n % lenL l := by have := Int.mul_ediv_add_emod n (lenL l); rw [Int.mul_comm] at this; omega
  have h5 : (nthL l (n % lenL l)).2 = true := by rw [nth_ok l _ hr h1]; simpa using h2
  obtain ⟨h6, h7, h8⟩ := nth_in l 0 _ (row_chain hr0).1 (Int.le_refl _) h1 h5
  refine ⟨h1, h2, h3, h4, h6, h7, ?_, h8⟩
  unfold hasL at h6
  simp only [List.any_eq_true, Bool.and_eq_true, decide_eq_true_eq] at h6
  obtain ⟨s, hs, _, h9⟩ := h6
  have := hw s hs
  omega
theorem nth_back {l : List Sp} (h : weekErr l = 0) (n : Int) (h0 : (nthW l n).2 = 0) : openL l (nthW l n).1 = true ∧ untilL l (nthW l n).1 = n := by
  unfold nthW at h0 ⊢
  by_cases hn : n < 0
  · rw [if_pos hn] at h0; cases h0
  rw [if_neg hn] at h0 ⊢
  by_cases hT : lenL l = 0
  · rw [if_pos hT] at h0; cases h0
  rw [if_neg hT] at h0 ⊢
  by_cases hb : 3723213977 < n / lenL l
  · rw [if_pos hb] at h0; cases h0
  rw [if_neg hb] at h0 ⊢
  obtain ⟨h1, h2, h3, h4, h5, h6, h7, h8⟩ := nth_facts h n (by omega) hT
  obtain ⟨x, hx⟩ : ∃ x, x = (nthL l (n % lenL l)).1 := ⟨_, rfl⟩
  obtain ⟨q, hq⟩ : ∃ q, q = n / lenL l := ⟨_, rfl⟩
  rw [← hx] at h0 h5 h6 h7 h8 ⊢
  rw [← hq] at h0 h3 h4 hb ⊢
  by_cases hl : 2251799813685248 < x + q * 604800
  · rw [if_pos hl] at h0; cases h0
  rw [if_neg hl]
  have e1 : (x + q * 604800) % 604800 = x := by omega
  have e2 : (x + q * 604800) / 604800 = q := by omega
  constructor
  · unfold openL
    simp only
    rw [e1, h5]
    have : 0 ≤ x + q * 604800 := by omega
    simp [this]; omega
  · unfold untilL
    simp only
    rw [clamp_in _ (by omega) (by omega), e1, e2, h8]
    omega
theorem until_last {l : List Sp} (h : weekErr l = 0) : untilL l 2251799813685248 = 3723213977 * lenL l + lenL (parts l 0 395648) := rfl
theorem nth_none {l : List Sp} (h : weekErr l = 0) (n : Int) (h0 : (nthW l n).2 ≠ 0) : (nthW l n).1 = 0 ∧ (n < 0 ∨ l = [] ∨ untilL l 2251799813685248 ≤ n) := by
  unfold nthW at h0 ⊢
  by_cases hn : n < 0
  · rw [if_pos hn]; exact ⟨rfl, .inl hn⟩
  rw [if_neg hn] at h0 ⊢
  by_cases hT : lenL l = 0
  · rw [if_pos hT]; exact ⟨rfl, .inr (.inl (total_zero h hT))⟩
  rw [if_neg hT] at h0 ⊢
  obtain ⟨h1, h2, h3, h4, h5, h6, h7, h8⟩ := nth_facts h n (by omega) hT
  have hT0 := total_week h
  have hpp := parts_week h 0 395648
  by_cases hb : 3723213977 < n / lenL l
  · rw [if_pos hb]
    refine ⟨rfl, .inr (.inr ?_)⟩
    rw [until_last h]
    have : 3723213978 * lenL l ≤ n / lenL l * lenL l := Int.mul_le_mul_of_nonneg_right (by omega) hT0.1
    omega
  rw [if_neg hb] at h0 ⊢
  obtain ⟨x, hx⟩ : ∃ x, x = (nthL l (n % lenL l)).1 := ⟨_, rfl⟩
  obtain ⟨q, hq⟩ : ∃ q, q = n / lenL l := ⟨_, rfl⟩
  rw [← hx] at h0 h5 h6 h7 h8 ⊢
  rw [← hq] at h0 h3 h4 hb ⊢
  by_cases hl : 2251799813685248 < x + q * 604800
  · rw [if_pos hl]
    refine ⟨rfl, .inr (.inr ?_)⟩
    rw [until_last h]
    have hqe : q = 3723213977 := by omega
    subst hqe
    have hx2 : 395648 ≤ x := by omega
    have := parts_add l (rights_row (week_row h).1) 395648 x (by omega) hx2
    have := parts_pos l 395648 x
    omega
  · rw [if_neg hl] at h0; exact absurd rfl h0
theorem rowErr_le (l : List Sp) : rowErr l = 0 ∨ rowErr l = 2 ∨ rowErr l = 21 := by
  unfold rowErr; split <;> (try split) <;> simp
/-- the reference's sum -/
theorem withinK_len (l : List Sp) : ∀ n, 0 ≤ n → Rights l → n + lenL l ≤ 4611686018427387904 → withinK l n = n + lenL l := by
  induction l with
  | nil => intro n _ _ _; simp [withinK, lenL]
  | cons s l ih =>
    intro n h0 h1 h2
    have h3 := h1 s (by simp)
    have hr2 : Rights l := fun x hx => h1 x (by simp [hx])
    have h4 := lenL_pos hr2
    simp only [lenL] at h2
    unfold withinK
    have e1 : IntKind.i64.wrap (n + s.b) = n + s.b := IntWalk.i64_in _ (by omega)
    rw [e1]
    have e2 : IntKind.i64.wrap (n + s.b - s.a) = n + s.b - s.a := IntWalk.i64_in _ (by omega)
    rw [e2, ih _ (by omega) hr2 (by omega)]
    simp only [lenL]; omega
theorem rights_parts {l : List Sp} (hr : Rights l) (f t : Int) : Rights (parts l f t) := by
  intro s hs
  unfold parts at hs
  obtain ⟨h1, h2⟩ := List.mem_filter.1 hs
  obtain ⟨x, hx, rfl⟩ := List.mem_map.1 h1
  have := hr x hx
  unfold Sp.full Sp.part at h2
  unfold Sp.part
  simp only [decide_eq_true_eq] at h2
  simp only
  refine ⟨h2, ?_, ?_⟩ <;> split <;> omega
theorem withinK_row {l : List Sp} (h0 : rowErr l = 0) (f t : Int) : withinK (cutL l f t) 0 = lenL (parts l f t) := by
  have h1 := lenL_H h0
  have h2 := parts_lenL l f t (rights_row h0)
  unfold cutL
  rw [if_pos h0, withinK_len _ 0 (by omega) (rights_parts (rights_row h0) f t) (by omega)]
  omega
theorem withinK_whole {l : List Sp} (h0 : rowErr l = 0) : withinK (cutL l 0 1125899906842624) 0 = lenL l := by
  rw [withinK_row h0, parts_whole l (rights_row h0)]
end Go.Proofs.Ytndifinjdheceaa
