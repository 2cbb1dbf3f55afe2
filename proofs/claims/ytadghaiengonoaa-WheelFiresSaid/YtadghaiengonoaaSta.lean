/- Plain facts: a stable sort by merges. No statement of the seat is proved here. -/
import Derived.Test.YtadghaiengonoaaAux
namespace Go.Proofs.Ytadghaiengonoaa.Sta
set_option linter.unusedVariables false
set_option linter.unusedSimpArgs false
set_option linter.unusedSectionVars false
variable {α : Type} (le : α → α → Bool)

abbrev Up (l : List α) : Prop := l.Pairwise fun a b => le a b = true
def mg (a b : List α) : List α := List.merge a b le
theorem mg_nil (b : List α) : mg le [] b = b := by simp [mg]
theorem mg_nil' (a : List α) : mg le a [] = a := by simp [mg]
theorem mg_cons (x y : α) (a b : List α) : mg le (x :: a) (y :: b) = if le x y = true then x :: mg le a (y :: b) else y :: mg le (x :: a) b := by
  simp [mg, List.cons_merge_cons]
theorem mg_len (a b : List α) : (mg le a b).length = a.length + b.length := by simp [mg, List.length_merge]
/-- a merge in two parts -/
theorem mg_split (a1 a2 b1 b2 : List α) (h1 : ∀ x ∈ a2, ∀ y ∈ b1, le x y = false) (h2 : ∀ x ∈ a1, ∀ y ∈ b2, le x y = true) :
    mg le (a1 ++ a2) (b1 ++ b2) = mg le a1 b1 ++ mg le a2 b2 := by
  induction a1 generalizing b1 with
  | nil =>
    induction b1 with
    | nil => simp [mg_nil]
    | cons y b1 ih =>
      cases a2 with
      | nil => simp [mg_nil]
      | cons x a2 =>
        have e := h1 x (by simp) y (by simp)
        have ih := ih (fun x hx z hz => h1 x hx z (by simp [hz]))
        simp only [List.nil_append, List.cons_append, mg_nil] at ih ⊢
        rw [mg_cons, if_neg (by simp [e]), ih]
  | cons x a1 iha =>
    induction b1 with
    | nil =>
      cases b2 with
      | nil => simp [mg_nil']
      | cons y b2 =>
        have e := h2 x (by simp) y (by simp)
        have ih := iha [] (fun x _ z hz => by simp at hz) (fun x hx z hz => h2 x (by simp [hx]) z hz)
        simp only [List.nil_append, List.cons_append, mg_nil'] at ih ⊢
        rw [mg_cons, if_pos e, ih]
    | cons y b1 ihb =>
      simp only [List.cons_append]
      rw [mg_cons, mg_cons]
      by_cases e : le x y = true
      · rw [if_pos e, if_pos e]
        have ih := iha (y :: b1) h1 (fun x hx z hz => h2 x (by simp [hx]) z hz)
        simp only [List.cons_append] at ih
        rw [ih]; rfl
      · rw [if_neg e, if_neg e]
        have ih := ihb (fun x hx z hz => h1 x hx z (by simp [hz]))
        simp only [List.cons_append] at ih
        rw [ih]; rfl
theorem mg_one (x : α) (b1 b2 : List α) (h1 : ∀ y ∈ b1, le x y = false) (h2 : ∀ y ∈ b2, le x y = true) : mg le [x] (b1 ++ b2) = b1 ++ x :: b2 := by
  have := mg_split le [] [x] b1 b2 (by simpa using h1) (by simp)
  simp only [List.nil_append, mg_nil] at this
  rw [this]
  cases b2 with
  | nil => simp [mg_nil']
  | cons y b2 => rw [mg_cons, if_pos (h2 y (by simp)), mg_nil]
theorem mg_last (y : α) (a1 a2 : List α) (h1 : ∀ x ∈ a1, le x y = true) (h2 : ∀ x ∈ a2, le x y = false) : mg le (a1 ++ a2) [y] = a1 ++ y :: a2 := by
  have := mg_split le a1 a2 [] [y] (by simp) (by simpa using h1)
  simp only [List.nil_append, mg_nil'] at this
  rw [this]
  cases a2 with
  | nil => simp [mg_nil]
  | cons x a2 => rw [mg_cons, if_neg (by simp [h2 x (by simp)]), mg_nil']
variable (htr : ∀ a b c, le a b = true → le b c = true → le a c = true) (hto : ∀ a b, le a b = true ∨ le b a = true)
theorem mg_mem (a b : List α) (x : α) : x ∈ mg le a b ↔ x ∈ a ∨ x ∈ b := by simp [mg, List.mem_merge]
theorem mg_perm (a b : List α) : (mg le a b).Perm (a ++ b) := by simpa [mg] using List.merge_perm_append (le := le) (xs := a) (ys := b)
include htr hto in
theorem mg_up (a b : List α) (ha : Up le a) (hb : Up le b) : Up le (mg le a b) := by
  induction a generalizing b with
  | nil => simpa [mg_nil] using hb
  | cons x a iha =>
    induction b with
    | nil => simpa [mg_nil'] using ha
    | cons y b ihb =>
      rw [mg_cons]
      obtain ⟨hx, ha'⟩ := List.pairwise_cons.1 ha
      obtain ⟨hy, hb'⟩ := List.pairwise_cons.1 hb
      by_cases e : le x y = true
      · rw [if_pos e]
        refine List.pairwise_cons.2 ⟨fun z hz => ?_, iha (y :: b) ha' hb⟩
        rcases (mg_mem le _ _ _).1 hz with h | h
        · exact hx z h
        · rcases List.mem_cons.1 h with rfl | h
          · exact e
          · exact htr _ _ _ e (hy z h)
      · rw [if_neg e]
        have e2 : le y x = true := (hto x y).resolve_left e
        refine List.pairwise_cons.2 ⟨fun z hz => ?_, ihb hb'⟩
        rcases (mg_mem le _ _ _).1 hz with h | h
        · rcases List.mem_cons.1 h with rfl | h
          · exact e2
          · exact htr _ _ _ e2 (hx z h)
        · exact hy z h
include htr hto in
theorem mg_assoc (a b c : List α) (ha : Up le a) (hb : Up le b) (hc : Up le c) : mg le (mg le a b) c = mg le a (mg le b c) := by
  induction a generalizing b c with
  | nil => simp [mg_nil]
  | cons x a iha =>
    induction b generalizing c with
    | nil => simp [mg_nil, mg_nil']
    | cons y b ihb =>
      induction c with
      | nil => simp [mg_nil']
      | cons z c ihc =>
        obtain ⟨hx, ha'⟩ := List.pairwise_cons.1 ha
        obtain ⟨hy, hb'⟩ := List.pairwise_cons.1 hb
        obtain ⟨hz, hc'⟩ := List.pairwise_cons.1 hc
        by_cases e : le x y = true
        · by_cases f : le y z = true
          · have g : le x z = true := htr _ _ _ e f
            have ih := iha (y :: b) (z :: c) ha' hb hc
            rw [mg_cons le x y, if_pos e, mg_cons le y z, if_pos f, mg_cons, if_pos g, mg_cons, if_pos e, ih, mg_cons le y z, if_pos f]
          · by_cases g : le x z = true
            · have ih := iha (y :: b) (z :: c) ha' hb hc
              rw [mg_cons le x y, if_pos e, mg_cons le y z, if_neg f, mg_cons, if_pos g, mg_cons, if_pos g, ih, mg_cons le y z, if_neg f]
            · have ih := ihc hc'
              rw [mg_cons le x y, if_pos e] at ih
              rw [mg_cons le x y, if_pos e, mg_cons le y z, if_neg f, mg_cons, if_neg g, mg_cons, if_neg g, ih]
        · by_cases f : le y z = true
          · have ih := ihb (z :: c) hb' hc
            rw [mg_cons le x y, if_neg e, mg_cons le y z, if_pos f, mg_cons, if_pos f, mg_cons, if_neg e, ih]
          · have g : ¬ le x z = true := fun g => f (htr _ _ _ ((hto x y).resolve_left e) g)
            have ih := ihc hc'
            rw [mg_cons le x y, if_neg e] at ih
            rw [mg_cons le x y, if_neg e, mg_cons le y z, if_neg f, mg_cons, if_neg f, mg_cons, if_neg g, ih]
theorem snoc_ind {P : List α → Prop} (h0 : P []) (h1 : ∀ l x, P l → P (l ++ [x])) (l : List α) : P l := by
  have : ∀ n, ∀ l : List α, l.length = n → P l := by
    intro n
    induction n with
    | zero => intro l hl; rw [List.eq_nil_of_length_eq_zero hl]; exact h0
    | succ n ih =>
      intro l hl
      have hne : l ≠ [] := by intro h; rw [h] at hl; simp at hl
      rw [← List.dropLast_concat_getLast hne]
      exact h1 _ _ (ih _ (by simp [hl]))
  exact this _ l rfl
/-- the stable sort -/
def srt (l : List α) : List α := l.foldl (fun acc x => mg le acc [x]) []
theorem srt_nil : srt le [] = [] := rfl
theorem srt_snoc (l : List α) (x : α) : srt le (l ++ [x]) = mg le (srt le l) [x] := by simp [srt, List.foldl_append]
theorem srt_one (x : α) : srt le [x] = [x] := by simp [srt, mg_nil]
theorem srt_len (l : List α) : (srt le l).length = l.length := by
  refine snoc_ind (P := fun l => (srt le l).length = l.length) rfl (fun l x ih => ?_) l
  rw [srt_snoc, mg_len, ih]; simp
theorem srt_perm (l : List α) : (srt le l).Perm l := by
  refine snoc_ind (P := fun l => (srt le l).Perm l) (List.Perm.refl _) (fun l x ih => ?_) l
  rw [srt_snoc]; exact (mg_perm le _ _).trans (ih.append_right _)
include htr hto in
theorem srt_up (l : List α) : Up le (srt le l) := by
  refine snoc_ind (P := fun l => Up le (srt le l)) List.Pairwise.nil (fun l x ih => ?_) l
  rw [srt_snoc]; exact mg_up le htr hto _ _ ih (List.pairwise_singleton _ _)
include htr hto in
theorem srt_append (a b : List α) : srt le (a ++ b) = mg le (srt le a) (srt le b) := by
  refine snoc_ind (P := fun b => srt le (a ++ b) = mg le (srt le a) (srt le b)) (by simp [srt_nil, mg_nil']) (fun b x ih => ?_) b
  · rw [← List.append_assoc, srt_snoc, srt_snoc, ih]
    exact mg_assoc le htr hto _ _ _ (srt_up le htr hto a) (srt_up le htr hto b) (List.pairwise_singleton _ _)

/-- where a merge is parted -/
theorem mg_part (htr : ∀ a b c, le a b = true → le b c = true → le a c = true) (A B : List α) (hA : Up le A) (hB : Up le B) (s t : Nat) (hs : s ≤ A.length) (ht : t ≤ B.length)
    (h1 : ∀ (h : 0 < s) (h' : t < B.length), le (A[s - 1]'(by omega)) B[t] = true) (h2 : ∀ (h : s < A.length) (h' : 0 < t), le A[s] (B[t - 1]'(by omega)) = false) :
    mg le A B = mg le (A.take s) (B.take t) ++ mg le (A.drop s) (B.drop t) := by
  have e := mg_split le (A.take s) (A.drop s) (B.take t) (B.drop t) ?_ ?_
  · rwa [List.take_append_drop, List.take_append_drop] at e
  · intro x hx y hy
    obtain ⟨i, hi, rfl⟩ := List.mem_iff_getElem.1 hx
    obtain ⟨j, hj, rfl⟩ := List.mem_iff_getElem.1 hy
    simp only [List.length_drop] at hi
    simp only [List.length_take] at hj
    rw [List.getElem_drop, List.getElem_take]
    have h3 := h2 (by omega) (by omega)
    cases h4 : le (A[s + i]'(by omega)) (B[j]'(by omega)) with
    | false => rfl
    | true =>
      have a1 : le (A[s]'(by omega)) (A[s + i]'(by omega)) = true ∨ i = 0 := by
        by_cases hi0 : i = 0
        · exact .inr hi0
        · exact .inl (List.pairwise_iff_getElem.1 hA s (s + i) (by omega) (by omega) (by omega))
      have b1 : le (B[j]'(by omega)) (B[t - 1]'(by omega)) = true ∨ j = t - 1 := by
        by_cases hj0 : j = t - 1
        · exact .inr hj0
        · exact .inl (List.pairwise_iff_getElem.1 hB j (t - 1) (by omega) (by omega) (by omega))
      have h5 : le (A[s]'(by omega)) (B[j]'(by omega)) = true := by
        rcases a1 with a1 | rfl
        · exact htr _ _ _ a1 h4
        · simpa using h4
      have h6 : le (A[s]'(by omega)) (B[t - 1]'(by omega)) = true := by
        rcases b1 with b1 | b1
        · exact htr _ _ _ h5 b1
        · simpa only [b1] using h5
      rw [h6] at h3; cases h3
  · intro x hx y hy
    obtain ⟨i, hi, rfl⟩ := List.mem_iff_getElem.1 hx
    obtain ⟨j, hj, rfl⟩ := List.mem_iff_getElem.1 hy
    simp only [List.length_take] at hi
    simp only [List.length_drop] at hj
    rw [List.getElem_drop, List.getElem_take]
    have h3 := h1 (by omega) (by omega)
    have h5 : le (A[i]'(by omega)) (B[t]'(by omega)) = true := by
      by_cases h : i = s - 1
      · simpa only [h] using h3
      · exact htr _ _ _ (List.pairwise_iff_getElem.1 hA i (s - 1) (by omega) (by omega) (by omega)) h3
    by_cases h : j = 0
    · subst h; simpa using h5
    · exact htr _ _ _ h5 (List.pairwise_iff_getElem.1 hB t (t + j) (by omega) (by omega) (by omega))
/-- blocks of a size, each sorted -/
def chop (k : Nat) (l : List α) : List α := if h : 0 < k ∧ k ≤ l.length then srt le (l.take k) ++ chop k (l.drop k) else srt le l
termination_by l.length
decreasing_by simp only [List.length_drop]; omega
theorem chop_yes (k : Nat) (l : List α) (h0 : 0 < k) (h : k ≤ l.length) : chop le k l = srt le (l.take k) ++ chop le k (l.drop k) := by
  rw [chop, dif_pos ⟨h0, h⟩]
theorem chop_no (k : Nat) (l : List α) (h : l.length < k) : chop le k l = srt le l := by rw [chop, dif_neg (by omega)]
theorem chop_all (k : Nat) (l : List α) (h : l.length ≤ k) : chop le k l = srt le l := by
  by_cases h2 : l.length < k
  · exact chop_no le k l h2
  · by_cases h3 : k = 0
    · rw [chop, dif_neg (by omega)]
    · rw [chop_yes le k l (by omega) (by omega), chop_no le k _ (by simp only [List.length_drop]; omega), List.take_of_length_le (by omega), List.drop_eq_nil_of_le (by omega), srt_nil, List.append_nil]
theorem chop_len (k : Nat) (l : List α) : (chop le k l).length = l.length := by
  induction l using chop.induct k with
  | case1 l h ih => rw [chop_yes le k l h.1 h.2, List.length_append, srt_len, ih, List.length_take, List.length_drop]; omega
  | case2 l h => rw [chop, dif_neg h, srt_len]
include htr hto in
/-- two blocks become one -/
theorem chop_two (k : Nat) (l : List α) (h0 : 0 < k) (h : 2 * k ≤ l.length) :
    ∃ A B, A.length = k ∧ B.length = k ∧ Up le A ∧ Up le B ∧ chop le k l = A ++ B ++ chop le k (l.drop (2 * k)) ∧ chop le (2 * k) l = mg le A B ++ chop le (2 * k) (l.drop (2 * k)) := by
  refine ⟨srt le (l.take k), srt le ((l.drop k).take k), ?_, ?_, srt_up le htr hto _, srt_up le htr hto _, ?_, ?_⟩
  · rw [srt_len, List.length_take]; omega
  · rw [srt_len, List.length_take, List.length_drop]; omega
  · rw [chop_yes le k l h0 (by omega), chop_yes le k (l.drop k) h0 (by simp only [List.length_drop]; omega), List.drop_drop, List.append_assoc, show k + k = 2 * k from by omega]
  · rw [chop_yes le (2 * k) l (by omega) h, ← srt_append le htr hto]
    congr 2
    rw [show 2 * k = k + k from by omega, List.take_add]
include htr hto in
theorem chop_end (k : Nat) (l : List α) (h0 : 0 < k) (h : k < l.length) (h2 : l.length < 2 * k) :
    ∃ A B, A.length = k ∧ B.length = l.length - k ∧ Up le A ∧ Up le B ∧ chop le k l = A ++ B ∧ chop le (2 * k) l = mg le A B := by
  refine ⟨srt le (l.take k), srt le (l.drop k), ?_, ?_, srt_up le htr hto _, srt_up le htr hto _, ?_, ?_⟩
  · rw [srt_len, List.length_take]; omega
  · rw [srt_len, List.length_drop]
  · rw [chop_yes le k l h0 (by omega), chop_no le k (l.drop k) (by simp only [List.length_drop]; omega)]
  · rw [chop_no le (2 * k) l h2, ← srt_append le htr hto, List.take_append_drop]
theorem chop_rest (k : Nat) (l : List α) (h : l.length ≤ k) : chop le k l = chop le (2 * k) l := by rw [chop_all le k l h, chop_all le (2 * k) l (by omega)]
/-- one more, put in from the right -/
theorem srt_ins (l out : List α) (x : α) (htr : ∀ a b c, le a b = true → le b c = true → le a c = true) (hto : ∀ a b, le a b = true ∨ le b a = true) (ho : out = srt le l) (k : Nat) (hk : k ≤ out.length)
    (h1 : ∀ h : 0 < k, le (out[k - 1]'(by omega)) x = true) (h2 : ∀ j (h : j < out.length), k ≤ j → le out[j] x = false) : srt le (l ++ [x]) = out.take k ++ x :: out.drop k := by
  rw [srt_snoc, ← ho]
  have hu : Up le out := by rw [ho]; exact srt_up le htr hto l
  have e := mg_last le x (out.take k) (out.drop k) ?_ ?_
  · rwa [List.take_append_drop] at e
  · intro z hz
    obtain ⟨i, hi, rfl⟩ := List.mem_iff_getElem.1 hz
    simp only [List.length_take] at hi
    rw [List.getElem_take]
    have h3 := h1 (by omega)
    by_cases h : i = k - 1
    · simpa only [h] using h3
    · exact htr _ _ _ (List.pairwise_iff_getElem.1 hu i (k - 1) (by omega) (by omega) (by omega)) h3
  · intro z hz
    obtain ⟨i, hi, rfl⟩ := List.mem_iff_getElem.1 hz
    simp only [List.length_drop] at hi
    rw [List.getElem_drop]
    exact h2 _ (by omega) (by omega)
/-- two that change places -/
def sw (l : List α) (i j : Nat) (hi : i < l.length) (hj : j < l.length) : List α := (l.set i l[j]).set j l[i]
theorem sw_len (l : List α) (i j : Nat) (hi : i < l.length) (hj : j < l.length) : (sw l i j hi hj).length = l.length := by simp [sw]
theorem sw_is (P M Q : List α) (x y : α) (i j : Nat) (hi : i = P.length) (hj : j = P.length + 1 + M.length) (h1 : i < (P ++ x :: (M ++ y :: Q)).length) (h2 : j < (P ++ x :: (M ++ y :: Q)).length) :
    sw (P ++ x :: (M ++ y :: Q)) i j h1 h2 = P ++ y :: (M ++ x :: Q) := by
  subst hi hj
  have e1 : (P ++ x :: (M ++ y :: Q))[P.length + 1 + M.length] = y := by
    rw [List.getElem_append_right (by omega)]
    simp [show P.length + 1 + M.length - P.length = M.length + 1 from by omega]
  have e2 : (P ++ x :: (M ++ y :: Q))[P.length] = x := by simp
  unfold sw
  rw [e1, e2]
  rw [List.set_append_right _ _ (by omega)]
  simp only [Nat.sub_self, List.set_cons_zero]
  rw [List.set_append_right _ _ (by omega), show P.length + 1 + M.length - P.length = M.length + 1 from by omega]
  simp
theorem sw_comm (l : List α) (i j : Nat) (hi : i < l.length) (hj : j < l.length) (hne : i ≠ j) : sw l i j hi hj = sw l j i hj hi := by
  unfold sw
  exact (List.set_comm _ _ hne)
/-- a range that changes places with another, k steps in -/
def swr (P X M Y Q : List α) (k : Nat) : List α := P ++ (Y.take k ++ (X.drop k ++ (M ++ (X.take k ++ (Y.drop k ++ Q)))))
theorem swr_zero (P X M Y Q : List α) : swr P X M Y Q 0 = P ++ (X ++ (M ++ (Y ++ Q))) := by simp [swr]
theorem swr_all (P X M Y Q : List α) (h : X.length = Y.length) : swr P X M Y Q X.length = P ++ (Y ++ (M ++ (X ++ Q))) := by
  simp [swr, h, List.take_of_length_le (Nat.le_of_eq h)]
theorem swr_len (P X M Y Q : List α) (k : Nat) : (swr P X M Y Q k).length = P.length + X.length + M.length + Y.length + Q.length := by
  simp only [swr, List.length_append, List.length_take, List.length_drop]; omega
theorem swr_step (P X M Y Q : List α) (k : Nat) (h : X.length = Y.length) (hk : k < X.length) (i j : Nat) (hi : i = P.length + k) (hj : j = P.length + X.length + M.length + k) (h1 : i < (swr P X M Y Q k).length) (h2 : j < (swr P X M Y Q k).length) :
    sw (swr P X M Y Q k) i j h1 h2 = swr P X M Y Q (k + 1) := by
  have hk2 : k < Y.length := by omega
  have e : swr P X M Y Q k = (P ++ Y.take k) ++ X[k] :: ((X.drop (k + 1) ++ (M ++ X.take k)) ++ Y[k] :: (Y.drop (k + 1) ++ Q)) := by
    unfold swr
    rw [List.drop_eq_getElem_cons hk, List.drop_eq_getElem_cons hk2]
    simp only [List.append_assoc, List.cons_append, List.nil_append]
  have f : swr P X M Y Q (k + 1) = (P ++ Y.take k) ++ Y[k] :: ((X.drop (k + 1) ++ (M ++ X.take k)) ++ X[k] :: (Y.drop (k + 1) ++ Q)) := by
    unfold swr
    rw [List.take_succ_eq_append_getElem hk, List.take_succ_eq_append_getElem hk2]
    simp only [List.append_assoc, List.cons_append, List.nil_append]
  rw [f]
  have g := sw_is (P ++ Y.take k) (X.drop (k + 1) ++ (M ++ X.take k)) (Y.drop (k + 1) ++ Q) X[k] Y[k] i j (by simp; omega) (by simp; omega) (by rw [← e]; exact h1) (by rw [← e]; exact h2)
  rw [← g]
  simp only [e]
/-- one that goes up through others -/
def mvu (P B Q : List α) (x : α) (k : Nat) : List α := P ++ (B.take k ++ x :: (B.drop k ++ Q))
theorem mvu_len (P B Q : List α) (x : α) (k : Nat) : (mvu P B Q x k).length = P.length + B.length + 1 + Q.length := by
  simp only [mvu, List.length_append, List.length_take, List.length_drop, List.length_cons]; omega
theorem mvu_step (P B Q : List α) (x : α) (k : Nat) (hk : k < B.length) (i j : Nat) (hi : i = P.length + k) (hj : j = P.length + k + 1) (h1 : i < (mvu P B Q x k).length) (h2 : j < (mvu P B Q x k).length) :
    sw (mvu P B Q x k) i j h1 h2 = mvu P B Q x (k + 1) := by
  have e : mvu P B Q x k = (P ++ B.take k) ++ x :: ([] ++ B[k] :: (B.drop (k + 1) ++ Q)) := by
    unfold mvu
    rw [List.drop_eq_getElem_cons hk]
    simp only [List.append_assoc, List.cons_append, List.nil_append]
  have f : mvu P B Q x (k + 1) = (P ++ B.take k) ++ B[k] :: ([] ++ x :: (B.drop (k + 1) ++ Q)) := by
    unfold mvu
    rw [List.take_succ_eq_append_getElem hk]
    simp only [List.append_assoc, List.cons_append, List.nil_append]
  rw [f]
  have g := sw_is (P ++ B.take k) [] (B.drop (k + 1) ++ Q) x B[k] i j (by simp; omega) (by simp; omega) (by rw [← e]; exact h1) (by rw [← e]; exact h2)
  rw [← g]
  simp only [e]
theorem mvd_step (P B Q : List α) (x : α) (k : Nat) (hk : k < B.length) (i j : Nat) (hi : i = P.length + k + 1) (hj : j = P.length + k) (h1 : i < (mvu P B Q x (k + 1)).length) (h2 : j < (mvu P B Q x (k + 1)).length) :
    sw (mvu P B Q x (k + 1)) i j h1 h2 = mvu P B Q x k := by
  have e : mvu P B Q x k = (P ++ B.take k) ++ x :: ([] ++ B[k] :: (B.drop (k + 1) ++ Q)) := by
    unfold mvu
    rw [List.drop_eq_getElem_cons hk]
    simp only [List.append_assoc, List.cons_append, List.nil_append]
  have f : mvu P B Q x (k + 1) = (P ++ B.take k) ++ B[k] :: ([] ++ x :: (B.drop (k + 1) ++ Q)) := by
    unfold mvu
    rw [List.take_succ_eq_append_getElem hk]
    simp only [List.append_assoc, List.cons_append, List.nil_append]
  rw [sw_comm _ _ _ _ _ (by omega), e]
  have g := sw_is (P ++ B.take k) [] (B.drop (k + 1) ++ Q) B[k] x j i (by simp; omega) (by simp; omega) (by rw [← f]; exact h2) (by rw [← f]; exact h1)
  rw [← g]
  simp only [f]
end Go.Proofs.Ytadghaiengonoaa.Sta
