/- Lemmas for DeadlineBytes (Sta Th To Ts Tr). No statement of the seat is proved here. -/
import Derived.WalkLawsBesides
import Derived.BigQuiet
import Derived.Deep.QuietTactic
import Derived.RegionTactic
import Derived.BigRegion
import Derived.Deep.RegionWith
import Derived.Deep.RegionLaw
import Derived.Deep.RegionHeld3
import Derived.Deep.DeepCutAuto
import Derived.IntWalk
import Derived.WalkSpells
import Derived.Laws.NewBlocks
import Derived.Lib.QuietBelow
import Derived.Test.YtedlplkomfiahaaT1
namespace Go.Proofs.Ytedlplkomfiahaa.Sta
set_option linter.unusedVariables false
set_option linter.unusedSimpArgs false
set_option linter.unusedSectionVars false
variable {α : Type} (le : α → α → Bool)
abbrev Up (l : List α) : Prop := l.Pairwise fun a b => le a b = true
def mg (a b : List α) : List α := List.merge a b le
theorem mg_nil (b : List α) : mg le [] b = b := by simp [mg]
theorem mg_nil' (a : List α) : mg le a [] = a := by simp [mg]
theorem mg_cons (x y : α) (a b : List α) : mg le (x :: a) (y :: b) = if le x y = true then x :: mg le a (y :: b) else y :: mg le (x :: a) b := by
  simp [mg, List.cons_merge_cons]
theorem mg_len (a b : List α) : (mg le a b).length = a.length + b.length := by simp [mg, List.length_merge]
/-- a merge in two parts -/
theorem mg_split (a1 a2 b1 b2 : List α) (h1 : ∀ x ∈ a2, ∀ y ∈ b1, le x y = false) (h2 : ∀ x ∈ a1, ∀ y ∈ b2, le x y = true) :
    mg le (a1 ++ a2) (b1 ++ b2) = mg le a1 b1 ++ mg le a2 b2 := by
  induction a1 generalizing b1 with
  | nil =>
    induction b1 with
    | nil => simp [mg_nil]
    | cons y b1 ih =>
      cases a2 with
      | nil => simp [mg_nil]
      | cons x a2 =>
        have e := h1 x (by simp) y (by simp)
        have ih := ih (fun x hx z hz => h1 x hx z (by simp [hz]))
        simp only [List.nil_append, List.cons_append, mg_nil] at ih ⊢
        rw [mg_cons, if_neg (by simp [e]), ih]
  | cons x a1 iha =>
    induction b1 with
    | nil =>
      cases b2 with
      | nil => simp [mg_nil']
      | cons y b2 =>
        have e := h2 x (by simp) y (by simp)
        have ih := iha [] (fun x _ z hz => by simp at hz) (fun x hx z hz => h2 x (by simp [hx]) z hz)
        simp only [List.nil_append, List.cons_append, mg_nil'] at ih ⊢
        rw [mg_cons, if_pos e, ih]
    | cons y b1 ihb =>
      simp only [List.cons_append]
      rw [mg_cons, mg_cons]
      by_cases e : le x y = true
      · rw [if_pos e, if_pos e]
        have ih := iha (y :: b1) h1 (fun x hx z hz => h2 x (by simp [hx]) z hz)
        simp only [List.cons_append] at ih
        rw [ih]; rfl
      · rw [if_neg e, if_neg e]
        have ih := ihb (fun x hx z hz => h1 x hx z (by simp [hz]))
        simp only [List.cons_append] at ih
        rw [ih]; rfl
theorem mg_one (x : α) (b1 b2 : List α) (h1 : ∀ y ∈ b1, le x y = false) (h2 : ∀ y ∈ b2, le x y = true) : mg le [x] (b1 ++ b2) = b1 ++ x :: b2 := by
  have := mg_split le [] [x] b1 b2 (by simpa using h1) (by simp)
  simp only [List.nil_append, mg_nil] at this
  rw [this]
  cases b2 with
  | nil => simp [mg_nil']
  | cons y b2 => rw [mg_cons, if_pos (h2 y (by simp)), mg_nil]
theorem mg_last (y : α) (a1 a2 : List α) (h1 : ∀ x ∈ a1, le x y = true) (h2 : ∀ x ∈ a2, le x y = false) : mg le (a1 ++ a2) [y] = a1 ++ y :: a2 := by
  have := mg_split le a1 a2 [] [y] (by simp) (by simpa using h1)
  simp only [List.nil_append, mg_nil'] at this
  rw [this]
  cases a2 with
  | nil => simp [mg_nil]
  | cons x a2 => rw [mg_cons, if_neg (by simp [h2 x (by simp)]), mg_nil']
variable (htr : ∀ a b c, le a b = true → le b c = true → le a c = true) (hto : ∀ a b, le a b = true ∨ le b a = true)
theorem mg_mem (a b : List α) (x : α) : x ∈ mg le a b ↔ x ∈ a ∨ x ∈ b := by simp [mg, List.mem_merge]
theorem mg_perm (a b : List α) : (mg le a b).Perm (a ++ b) := by simpa [mg] using List.merge_perm_append (le := le) (xs := a) (ys := b)
include htr hto in
theorem mg_up (a b : List α) (ha : Up le a) (hb : Up le b) : Up le (mg le a b) := by
  induction a generalizing b with
  | nil => simpa [mg_nil] using hb
  | cons x a iha =>
    induction b with
    | nil => simpa [mg_nil'] using ha
    | cons y b ihb =>
      rw [mg_cons]
      obtain ⟨hx, ha'⟩ := List.pairwise_cons.1 ha
      obtain ⟨hy, hb'⟩ := List.pairwise_cons.1 hb
      by_cases e : le x y = true
      · rw [if_pos e]
        refine List.pairwise_cons.2 ⟨fun z hz => ?_, iha (y :: b) ha' hb⟩
        rcases (mg_mem le _ _ _).1 hz with h | h
        · exact hx z h
        · rcases List.mem_cons.1 h with rfl | h
          · exact e
          · exact htr _ _ _ e (hy z h)
      · rw [if_neg e]
        have e2 : le y x = true := (hto x y).resolve_left e
        refine List.pairwise_cons.2 ⟨fun z hz => ?_, ihb hb'⟩
        rcases (mg_mem le _ _ _).1 hz with h | h
        · rcases List.mem_cons.1 h with rfl | h
          · exact e2
          · exact htr _ _ _ e2 (hx z h)
        · exact hy z h
include htr hto in
theorem mg_assoc (a b c : List α) (ha : Up le a) (hb : Up le b) (hc : Up le c) : mg le (mg le a b) c = mg le a (mg le b c) := by
  induction a generalizing b c with
  | nil => simp [mg_nil]
  | cons x a iha =>
    induction b generalizing c with
    | nil => simp [mg_nil, mg_nil']
    | cons y b ihb =>
      induction c with
      | nil => simp [mg_nil']
      | cons z c ihc =>
        obtain ⟨hx, ha'⟩ := List.pairwise_cons.1 ha
        obtain ⟨hy, hb'⟩ := List.pairwise_cons.1 hb
        obtain ⟨hz, hc'⟩ := List.pairwise_cons.1 hc
        by_cases e : le x y = true
        · by_cases f : le y z = true
          · have g : le x z = true := htr _ _ _ e f
            have ih := iha (y :: b) (z :: c) ha' hb hc
            rw [mg_cons le x y, if_pos e, mg_cons le y z, if_pos f, mg_cons, if_pos g, mg_cons, if_pos e, ih, mg_cons le y z, if_pos f]
          · by_cases g : le x z = true
            · have ih := iha (y :: b) (z :: c) ha' hb hc
              rw [mg_cons le x y, if_pos e, mg_cons le y z, if_neg f, mg_cons, if_pos g, mg_cons, if_pos g, ih, mg_cons le y z, if_neg f]
            · have ih := ihc hc'
              rw [mg_cons le x y, if_pos e] at ih
              rw [mg_cons le x y, if_pos e, mg_cons le y z, if_neg f, mg_cons, if_neg g, mg_cons, if_neg g, ih]
        · by_cases f : le y z = true
          · have ih := ihb (z :: c) hb' hc
            rw [mg_cons le x y, if_neg e, mg_cons le y z, if_pos f, mg_cons, if_pos f, mg_cons, if_neg e, ih]
          · have g : ¬ le x z = true := fun g => f (htr _ _ _ ((hto x y).resolve_left e) g)
            have ih := ihc hc'
            rw [mg_cons le x y, if_neg e] at ih
            rw [mg_cons le x y, if_neg e, mg_cons le y z, if_neg f, mg_cons, if_neg f, mg_cons, if_neg g, ih]
theorem snoc_ind {P : List α → Prop} (h0 : P []) (h1 : ∀ l x, P l → P (l ++ [x])) (l : List α) : P l := by
  have : ∀ n, ∀ l : List α, l.length = n → P l := by
    intro n
    induction n with
    | zero => intro l hl; rw [List.eq_nil_of_length_eq_zero hl]; exact h0
    | succ n ih =>
      intro l hl
      have hne : l ≠ [] := by intro h; rw [h] at hl; simp at hl
      rw [← List.dropLast_concat_getLast hne]
      exact h1 _ _ (ih _ (by simp [hl]))
  exact this _ l rfl
/-- the stable sort -/
def srt (l : List α) : List α := l.foldl (fun acc x => mg le acc [x]) []
theorem srt_nil : srt le [] = [] := rfl
theorem srt_snoc (l : List α) (x : α) : srt le (l ++ [x]) = mg le (srt le l) [x] := by simp [srt, List.foldl_append]
theorem srt_one (x : α) : srt le [x] = [x] := by simp [srt, mg_nil]
theorem srt_len (l : List α) : (srt le l).length = l.length := by
  refine snoc_ind (P := fun l => (srt le l).length = l.length) rfl (fun l x ih => ?_) l
  rw [srt_snoc, mg_len, ih]; simp
theorem srt_perm (l : List α) : (srt le l).Perm l := by
  refine snoc_ind (P := fun l => (srt le l).Perm l) (List.Perm.refl _) (fun l x ih => ?_) l
  rw [srt_snoc]; exact (mg_perm le _ _).trans (ih.append_right _)
include htr hto in
theorem srt_up (l : List α) : Up le (srt le l) := by
  refine snoc_ind (P := fun l => Up le (srt le l)) List.Pairwise.nil (fun l x ih => ?_) l
  rw [srt_snoc]; exact mg_up le htr hto _ _ ih (List.pairwise_singleton _ _)
include htr hto in
theorem srt_append (a b : List α) : srt le (a ++ b) = mg le (srt le a) (srt le b) := by
  refine snoc_ind (P := fun b => srt le (a ++ b) = mg le (srt le a) (srt le b)) (by simp [srt_nil, mg_nil']) (fun b x ih => ?_) b
  · rw [← List.append_assoc, srt_snoc, srt_snoc, ih]
    exact mg_assoc le htr hto _ _ _ (srt_up le htr hto a) (srt_up le htr hto b) (List.pairwise_singleton _ _)
/-- where a merge is parted -/
theorem mg_part (htr : ∀ a b c, le a b = true → le b c = true → le a c = true) (A B : List α) (hA : Up le A) (hB : Up le B) (s t : Nat) (hs : s ≤ A.length) (ht : t ≤ B.length)
    (h1 : ∀ (h : 0 < s) (h' : t < B.length), le (A[s - 1]'(by omega)) B[t] = true) (h2 : ∀ (h : s < A.length) (h' : 0 < t), le A[s] (B[t - 1]'(by omega)) = false) :
    mg le A B = mg le (A.take s) (B.take t) ++ mg le (A.drop s) (B.drop t) := by
  have e := mg_split le (A.take s) (A.drop s) (B.take t) (B.drop t) ?_ ?_
  · rwa [List.take_append_drop, List.take_append_drop] at e
  · intro x hx y hy
    obtain ⟨i, hi, rfl⟩ := List.mem_iff_getElem.1 hx
    obtain ⟨j, hj, rfl⟩ := List.mem_iff_getElem.1 hy
    simp only [List.length_drop] at hi
    simp only [List.length_take] at hj
    rw [List.getElem_drop, List.getElem_take]
    have h3 := h2 (by omega) (by omega)
    cases h4 : le (A[s + i]'(by omega)) (B[j]'(by omega)) with
    | false => rfl
    | true =>
      have a1 : le (A[s]'(by omega)) (A[s + i]'(by omega)) = true ∨ i = 0 := by
        by_cases hi0 : i = 0
        · exact .inr hi0
        · exact .inl (List.pairwise_iff_getElem.1 hA s (s + i) (by omega) (by omega) (by omega))
      have b1 : le (B[j]'(by omega)) (B[t - 1]'(by omega)) = true ∨ j = t - 1 := by
        by_cases hj0 : j = t - 1
        · exact .inr hj0
        · exact .inl (List.pairwise_iff_getElem.1 hB j (t - 1) (by omega) (by omega) (by omega))
      have h5 : le (A[s]'(by omega)) (B[j]'(by omega)) = true := by
        rcases a1 with a1 | rfl
        · exact htr _ _ _ a1 h4
        · simpa using h4
      have h6 : le (A[s]'(by omega)) (B[t - 1]'(by omega)) = true := by
        rcases b1 with b1 | b1
        · exact htr _ _ _ h5 b1
        · simpa only [b1] using h5
      rw [h6] at h3; cases h3
  · intro x hx y hy
    obtain ⟨i, hi, rfl⟩ := List.mem_iff_getElem.1 hx
    obtain ⟨j, hj, rfl⟩ := List.mem_iff_getElem.1 hy
    simp only [List.length_take] at hi
    simp only [List.length_drop] at hj
    rw [List.getElem_drop, List.getElem_take]
    have h3 := h1 (by omega) (by omega)
    have h5 : le (A[i]'(by omega)) (B[t]'(by omega)) = true := by
      by_cases h : i = s - 1
      · simpa only [h] using h3
      · exact htr _ _ _ (List.pairwise_iff_getElem.1 hA i (s - 1) (by omega) (by omega) (by omega)) h3
    by_cases h : j = 0
    · subst h; simpa using h5
    · exact htr _ _ _ h5 (List.pairwise_iff_getElem.1 hB t (t + j) (by omega) (by omega) (by omega))
/-- blocks of a size, each sorted -/
def chop (k : Nat) (l : List α) : List α := if h : 0 < k ∧ k ≤ l.length then srt le (l.take k) ++ chop k (l.drop k) else srt le l
termination_by l.length
decreasing_by simp only [List.length_drop]; omega
theorem chop_yes (k : Nat) (l : List α) (h0 : 0 < k) (h : k ≤ l.length) : chop le k l = srt le (l.take k) ++ chop le k (l.drop k) := by
  rw [chop, dif_pos ⟨h0, h⟩]
theorem chop_no (k : Nat) (l : List α) (h : l.length < k) : chop le k l = srt le l := by rw [chop, dif_neg (by omega)]
theorem chop_all (k : Nat) (l : List α) (h : l.length ≤ k) : chop le k l = srt le l := by
  by_cases h2 : l.length < k
  · exact chop_no le k l h2
  · by_cases h3 : k = 0
    · rw [chop, dif_neg (by omega)]
    · rw [chop_yes le k l (by omega) (by omega), chop_no le k _ (by simp only [List.length_drop]; omega), List.take_of_length_le (by omega), List.drop_eq_nil_of_le (by omega), srt_nil, List.append_nil]
include htr hto in
/-- two blocks become one -/
theorem chop_two (k : Nat) (l : List α) (h0 : 0 < k) (h : 2 * k ≤ l.length) :
    ∃ A B, A.length = k ∧ B.length = k ∧ Up le A ∧ Up le B ∧ chop le k l = A ++ B ++ chop le k (l.drop (2 * k)) ∧ chop le (2 * k) l = mg le A B ++ chop le (2 * k) (l.drop (2 * k)) := by
  refine ⟨srt le (l.take k), srt le ((l.drop k).take k), ?_, ?_, srt_up le htr hto _, srt_up le htr hto _, ?_, ?_⟩
  · rw [srt_len, List.length_take]; omega
  · rw [srt_len, List.length_take, List.length_drop]; omega
  · rw [chop_yes le k l h0 (by omega), chop_yes le k (l.drop k) h0 (by simp only [List.length_drop]; omega), List.drop_drop, List.append_assoc, show k + k = 2 * k from by omega]
  · rw [chop_yes le (2 * k) l (by omega) h, ← srt_append le htr hto]
    congr 2
    rw [show 2 * k = k + k from by omega, List.take_add]
include htr hto in
theorem chop_end (k : Nat) (l : List α) (h0 : 0 < k) (h : k < l.length) (h2 : l.length < 2 * k) :
    ∃ A B, A.length = k ∧ B.length = l.length - k ∧ Up le A ∧ Up le B ∧ chop le k l = A ++ B ∧ chop le (2 * k) l = mg le A B := by
  refine ⟨srt le (l.take k), srt le (l.drop k), ?_, ?_, srt_up le htr hto _, srt_up le htr hto _, ?_, ?_⟩
  · rw [srt_len, List.length_take]; omega
  · rw [srt_len, List.length_drop]
  · rw [chop_yes le k l h0 (by omega), chop_no le k (l.drop k) (by simp only [List.length_drop]; omega)]
  · rw [chop_no le (2 * k) l h2, ← srt_append le htr hto, List.take_append_drop]
theorem chop_rest (k : Nat) (l : List α) (h : l.length ≤ k) : chop le k l = chop le (2 * k) l := by rw [chop_all le k l h, chop_all le (2 * k) l (by omega)]
/-- one more, put in from the right -/
theorem srt_ins (l out : List α) (x : α) (htr : ∀ a b c, le a b = true → le b c = true → le a c = true) (hto : ∀ a b, le a b = true ∨ le b a = true) (ho : out = srt le l) (k : Nat) (hk : k ≤ out.length)
    (h1 : ∀ h : 0 < k, le (out[k - 1]'(by omega)) x = true) (h2 : ∀ j (h : j < out.length), k ≤ j → le out[j] x = false) : srt le (l ++ [x]) = out.take k ++ x :: out.drop k := by
  rw [srt_snoc, ← ho]
  have hu : Up le out := by rw [ho]; exact srt_up le htr hto l
  have e := mg_last le x (out.take k) (out.drop k) ?_ ?_
  · rwa [List.take_append_drop] at e
  · intro z hz
    obtain ⟨i, hi, rfl⟩ := List.mem_iff_getElem.1 hz
    simp only [List.length_take] at hi
    rw [List.getElem_take]
    have h3 := h1 (by omega)
    by_cases h : i = k - 1
    · simpa only [h] using h3
    · exact htr _ _ _ (List.pairwise_iff_getElem.1 hu i (k - 1) (by omega) (by omega) (by omega)) h3
  · intro z hz
    obtain ⟨i, hi, rfl⟩ := List.mem_iff_getElem.1 hz
    simp only [List.length_drop] at hi
    rw [List.getElem_drop]
    exact h2 _ (by omega) (by omega)
/-- two that change places -/
def sw (l : List α) (i j : Nat) (hi : i < l.length) (hj : j < l.length) : List α := (l.set i l[j]).set j l[i]
theorem sw_is (P M Q : List α) (x y : α) (i j : Nat) (hi : i = P.length) (hj : j = P.length + 1 + M.length) (h1 : i < (P ++ x :: (M ++ y :: Q)).length) (h2 : j < (P ++ x :: (M ++ y :: Q)).length) :
    sw (P ++ x :: (M ++ y :: Q)) i j h1 h2 = P ++ y :: (M ++ x :: Q) := by
  subst hi hj
  have e1 : (P ++ x :: (M ++ y :: Q))[P.length + 1 + M.length] = y := by
    rw [List.getElem_append_right (by omega)]
    simp [show P.length + 1 + M.length - P.length = M.length + 1 from by omega]
  have e2 : (P ++ x :: (M ++ y :: Q))[P.length] = x := by simp
  unfold sw
  rw [e1, e2]
  rw [List.set_append_right _ _ (by omega)]
  simp only [Nat.sub_self, List.set_cons_zero]
  rw [List.set_append_right _ _ (by omega), show P.length + 1 + M.length - P.length = M.length + 1 from by omega]
  simp
theorem sw_comm (l : List α) (i j : Nat) (hi : i < l.length) (hj : j < l.length) (hne : i ≠ j) : sw l i j hi hj = sw l j i hj hi := by
  unfold sw
  exact (List.set_comm _ _ hne)
/-- a range that changes places with another, k steps in -/
def swr (P X M Y Q : List α) (k : Nat) : List α := P ++ (Y.take k ++ (X.drop k ++ (M ++ (X.take k ++ (Y.drop k ++ Q)))))
theorem swr_zero (P X M Y Q : List α) : swr P X M Y Q 0 = P ++ (X ++ (M ++ (Y ++ Q))) := by simp [swr]
theorem swr_all (P X M Y Q : List α) (h : X.length = Y.length) : swr P X M Y Q X.length = P ++ (Y ++ (M ++ (X ++ Q))) := by
  simp [swr, h, List.take_of_length_le (Nat.le_of_eq h)]
theorem swr_len (P X M Y Q : List α) (k : Nat) : (swr P X M Y Q k).length = P.length + X.length + M.length + Y.length + Q.length := by
  simp only [swr, List.length_append, List.length_take, List.length_drop]; omega
theorem swr_step (P X M Y Q : List α) (k : Nat) (h : X.length = Y.length) (hk : k < X.length) (i j : Nat) (hi : i = P.length + k) (hj : j = P.length + X.length + M.length + k) (h1 : i < (swr P X M Y Q k).length) (h2 : j < (swr P X M Y Q k).length) :
    sw (swr P X M Y Q k) i j h1 h2 = swr P X M Y Q (k + 1) := by
  have hk2 : k < Y.length := by omega
  have e : swr P X M Y Q k = (P ++ Y.take k) ++ X[k] :: ((X.drop (k + 1) ++ (M ++ X.take k)) ++ Y[k] :: (Y.drop (k + 1) ++ Q)) := by
    unfold swr
    rw [List.drop_eq_getElem_cons hk, List.drop_eq_getElem_cons hk2]
    simp only [List.append_assoc, List.cons_append, List.nil_append]
  have f : swr P X M Y Q (k + 1) = (P ++ Y.take k) ++ Y[k] :: ((X.drop (k + 1) ++ (M ++ X.take k)) ++ X[k] :: (Y.drop (k + 1) ++ Q)) := by
    unfold swr
    rw [List.take_succ_eq_append_getElem hk, List.take_succ_eq_append_getElem hk2]
    simp only [List.append_assoc, List.cons_append, List.nil_append]
  rw [f]
  have g := sw_is (P ++ Y.take k) (X.drop (k + 1) ++ (M ++ X.take k)) (Y.drop (k + 1) ++ Q) X[k] Y[k] i j (by simp; omega) (by simp; omega) (by rw [← e]; exact h1) (by rw [← e]; exact h2)
  rw [← g]
  simp only [e]
/-- one that goes up through others -/
def mvu (P B Q : List α) (x : α) (k : Nat) : List α := P ++ (B.take k ++ x :: (B.drop k ++ Q))
theorem mvu_len (P B Q : List α) (x : α) (k : Nat) : (mvu P B Q x k).length = P.length + B.length + 1 + Q.length := by
  simp only [mvu, List.length_append, List.length_take, List.length_drop, List.length_cons]; omega
theorem mvu_step (P B Q : List α) (x : α) (k : Nat) (hk : k < B.length) (i j : Nat) (hi : i = P.length + k) (hj : j = P.length + k + 1) (h1 : i < (mvu P B Q x k).length) (h2 : j < (mvu P B Q x k).length) :
    sw (mvu P B Q x k) i j h1 h2 = mvu P B Q x (k + 1) := by
  have e : mvu P B Q x k = (P ++ B.take k) ++ x :: ([] ++ B[k] :: (B.drop (k + 1) ++ Q)) := by
    unfold mvu
    rw [List.drop_eq_getElem_cons hk]
    simp only [List.append_assoc, List.cons_append, List.nil_append]
  have f : mvu P B Q x (k + 1) = (P ++ B.take k) ++ B[k] :: ([] ++ x :: (B.drop (k + 1) ++ Q)) := by
    unfold mvu
    rw [List.take_succ_eq_append_getElem hk]
    simp only [List.append_assoc, List.cons_append, List.nil_append]
  rw [f]
  have g := sw_is (P ++ B.take k) [] (B.drop (k + 1) ++ Q) x B[k] i j (by simp; omega) (by simp; omega) (by rw [← e]; exact h1) (by rw [← e]; exact h2)
  rw [← g]
  simp only [e]
theorem mvd_step (P B Q : List α) (x : α) (k : Nat) (hk : k < B.length) (i j : Nat) (hi : i = P.length + k + 1) (hj : j = P.length + k) (h1 : i < (mvu P B Q x (k + 1)).length) (h2 : j < (mvu P B Q x (k + 1)).length) :
    sw (mvu P B Q x (k + 1)) i j h1 h2 = mvu P B Q x k := by
  have e : mvu P B Q x k = (P ++ B.take k) ++ x :: ([] ++ B[k] :: (B.drop (k + 1) ++ Q)) := by
    unfold mvu
    rw [List.drop_eq_getElem_cons hk]
    simp only [List.append_assoc, List.cons_append, List.nil_append]
  have f : mvu P B Q x (k + 1) = (P ++ B.take k) ++ B[k] :: ([] ++ x :: (B.drop (k + 1) ++ Q)) := by
    unfold mvu
    rw [List.take_succ_eq_append_getElem hk]
    simp only [List.append_assoc, List.cons_append, List.nil_append]
  rw [sw_comm _ _ _ _ _ (by omega), e]
  have g := sw_is (P ++ B.take k) [] (B.drop (k + 1) ++ Q) B[k] x j i (by simp; omega) (by simp; omega) (by rw [← f]; exact h2) (by rw [← f]; exact h1)
  rw [← g]
  simp only [f]
end Go.Proofs.Ytedlplkomfiahaa.Sta
namespace Go.Proofs.Ytedlplkomfiahaa
set_option linter.unusedVariables false
set_option linter.unusedSimpArgs false
set_option linter.unusedSectionVars false
open Go Go.RowKit
structure Th where
  id : Int
  gen : Int
  due : Int
deriving DecidableEq
def thCells (t : Th) : List Value := [.int .u64 t.id, .int .u64 t.gen, .int .i64 t.due]
def thVal (t : Th) : Value := .agg #[.int .u64 t.id, .int .u64 t.gen, .int .i64 t.due]
theorem th_len (t : Th) : (thCells t).length = 3 := rfl
abbrev thFlat (l : List Th) : List Value := (l.map thCells).flatten
theorem thFlat_len (l : List Th) : (thFlat l).length = l.length * 3 := by
  induction l with
  | nil => rfl
  | cons t l ih => simp only [thFlat, List.map_cons, List.flatten_cons, List.length_append, th_len] at ih ⊢; rw [ih, List.length_cons]; omega
theorem thFlat_get (l : List Th) (i : Nat) (hi : i < l.length) (j : Nat) (hj : j < 3) : (thFlat l)[i * 3 + j]? = some ((thCells l[i])[j]'hj) := by
  induction l generalizing i with
  | nil => simp at hi
  | cons t l ih =>
    simp only [thFlat, List.map_cons, List.flatten_cons] at ih ⊢
    cases i with
    | zero => rw [List.getElem?_append_left (by rw [th_len]; omega), Nat.zero_mul, Nat.zero_add, List.getElem?_eq_getElem (by rw [th_len]; omega)]; rfl
    | succ i =>
      rw [List.getElem?_append_right (by rw [th_len]; omega), th_len, show (i + 1) * 3 + j - 3 = i * 3 + j from by omega, ih i (by simpa using hi)]
      rfl
theorem thFlat_set (l : List Th) (i : Nat) (hi : i < l.length) (t : Th) : (((thFlat l).set (i * 3) (.int .u64 t.id)).set (i * 3 + 1) (.int .u64 t.gen)).set (i * 3 + 2) (.int .i64 t.due) = thFlat (l.set i t) := by
  induction l generalizing i with
  | nil => simp at hi
  | cons u l ih =>
    cases i with
    | zero => rfl
    | succ i =>
      have ih := ih i (by simpa using hi)
      simp only [thFlat, List.map_cons, List.flatten_cons, List.set_cons_succ] at ih ⊢
      rw [← ih]
      have e : ∀ (a b : List Value) (k : Nat) (v : Value), a.length = 3 → (a ++ b).set (k + 3) v = a ++ b.set k v := fun a b k v h => by
        rw [List.set_append_right _ _ (by omega), h]; simp
      rw [show (i + 1) * 3 = i * 3 + 3 from by omega, show i * 3 + 3 + 1 = (i * 3 + 1) + 3 from by omega, show i * 3 + 3 + 2 = (i * 3 + 2) + 3 from by omega, e _ _ _ _ (th_len u), e _ _ _ _ (th_len u), e _ _ _ _ (th_len u)]
/-- the order: a stands no later than b -/
def thLt (a b : Th) : Bool := decide (a.due < b.due) || (decide (a.due = b.due) && decide (a.id < b.id))
def thLe (a b : Th) : Bool := !thLt b a
theorem thLe_iff (a b : Th) : thLe a b = true ↔ a.due < b.due ∨ (a.due = b.due ∧ a.id ≤ b.id) := by
  simp only [thLe, thLt, Bool.not_eq_true', Bool.or_eq_false_iff, Bool.and_eq_false_iff, decide_eq_false_iff_not]; omega
theorem thLe_no (a b : Th) : thLe a b = false ↔ thLt b a = true := by simp [thLe]
theorem thLt_iff (a b : Th) : thLt a b = true ↔ a.due < b.due ∨ (a.due = b.due ∧ a.id < b.id) := by simp [thLt]
theorem thLe_trans (a b c : Th) (h1 : thLe a b = true) (h2 : thLe b c = true) : thLe a c = true := by
  rw [thLe_iff] at h1 h2 ⊢; omega
theorem thLe_total (a b : Th) : thLe a b = true ∨ thLe b a = true := by
  rw [thLe_iff, thLe_iff]; omega
abbrev thUp (l : List Th) : Prop := Sta.Up thLe l
/-- a row of things of one's own that is being sorted -/
structure SR (E : TypeId) (W0 W : World) (base g n cap : Nat) (D : List Th) : Prop where
  own : W.ownsRow base E 3 (.slice (some ⟨g, 0, none⟩) n cap) n (thFlat D)
  gr : W0.grownBy W (some g)
  len : D.length = n
theorem SR.cells {E : TypeId} {W0 W : World} {base g n cap : Nat} {D : List Th} (h : SR E W0 W base g n cap D) (i : Nat) (hi : i < D.length) :
    W.cell? ⟨g, i * 3, none⟩ = some (.int .u64 D[i].id) ∧ W.cell? ⟨g, i * 3 + 1, none⟩ = some (.int .u64 D[i].gen) ∧ W.cell? ⟨g, i * 3 + 2, none⟩ = some (.int .i64 D[i].due) := by
  have hn := h.len
  refine ⟨?_, ?_, ?_⟩
  · rw [h.own.cellAt (i * 3) (by omega)]; exact thFlat_get D i hi 0 (by decide)
  · rw [h.own.cellAt (i * 3 + 1) (by omega)]; exact thFlat_get D i hi 1 (by decide)
  · rw [h.own.cellAt (i * 3 + 2) (by omega)]; exact thFlat_get D i hi 2 (by decide)
theorem SR.free {E : TypeId} {W0 W : World} {base g n cap : Nat} {D : List Th} (h : SR E W0 W base g n cap D) (j : Nat) : W.frozen? ⟨g, j, none⟩ = false := h.own.frozenAt j
theorem SR.lt {E : TypeId} {W0 W : World} {base g n cap : Nat} {D : List Th} (h : SR E W0 W base g n cap D) : g < W.heap.size := (h.own.lt g rfl).2
theorem SR.below {E : TypeId} {W0 W W' : World} {base g n cap : Nat} {D : List Th} (h : SR E W0 W base g n cap D) (hb : Below W.heap.size W W') : SR E W0 W' base g n cap D :=
  ⟨own_below h.own hb, h.gr.trans ⟨hb.os, hb.tape, hb.output, hb.size, fun i hi _ => hb.block i hi⟩, h.len⟩
theorem SR.put {E : TypeId} {W0 W : World} {base g n cap : Nat} {D : List Th} (h : SR E W0 W base g n cap D) (i : Nat) (hi : i < D.length) (t : Th) :
    SR E W0 (((W.setCell ⟨g, i * 3, none⟩ (.int .u64 t.id)).setCell ⟨g, i * 3 + 1, none⟩ (.int .u64 t.gen)).setCell ⟨g, i * 3 + 2, none⟩ (.int .i64 t.due)) base g n cap (D.set i t) := by
  refine ⟨?_, ?_, by simp [h.len]⟩
  · have := (((h.own.stored (i * 3) (.int .u64 t.id)).1.stored (i * 3 + 1) (.int .u64 t.gen)).1.stored (i * 3 + 2) (.int .i64 t.due)).1
    rwa [thFlat_set D i hi t] at this
  · exact h.gr.trans (grown_trans (grown_set _ _ _ _) (grown_trans (grown_set _ _ _ _) (grown_set _ _ _ _)))
end Go.Proofs.Ytedlplkomfiahaa
namespace Go.Proofs.Ytedlplkomfiahaa
set_option linter.unusedVariables false
set_option linter.unusedSimpArgs false
set_option linter.unusedSectionVars false
open Go Go.RowKit
theorem cmp64_any (x y : Int) (W : World) : Calls Try.prog 97 #[.int .i64 x, .int .i64 y] W fun e W' => e = .returned (.int .i64 (if x < y then -1 else if y < x then 1 else 0)) ∧ W = W' := by
  have hn : ∀ z W, Calls Try.prog 102 #[.int .i64 z] W fun e W' => e = .returned (.bool false) ∧ W = W' := fun z W => by
    go_enter Try.func102, Try.ntmps102
    go_wp2_with fail
    go_ret
    exact ⟨rfl, rfl⟩
  have Hn := Lib.hid hn
  clear hn
  by_cases h1 : x < y
  · go_enter Try.func97, Try.ntmps97
    go_wp2_with (go_at_call 102; refine (Hn.out _ _).mono ?_; rintro e w1 ⟨rfl, rfl⟩)
    go_ret
    exact ⟨rfl, rfl⟩
  · by_cases h2 : y < x
    · go_enter Try.func97, Try.ntmps97
      go_wp2_with (go_at_call 102; refine (Hn.out _ _).mono ?_; rintro e w1 ⟨rfl, rfl⟩)
      go_ret
      exact ⟨rfl, rfl⟩
    · go_enter Try.func97, Try.ntmps97
      go_wp2_with (go_at_call 102; refine (Hn.out _ _).mono ?_; rintro e w1 ⟨rfl, rfl⟩)
      go_ret
      exact ⟨rfl, rfl⟩
theorem cmpu64_any (x y : Int) (W : World) : Calls Try.prog 98 #[.int .u64 x, .int .u64 y] W fun e W' => e = .returned (.int .i64 (if x < y then -1 else if y < x then 1 else 0)) ∧ W = W' := by
  have hn : ∀ z W, Calls Try.prog 103 #[.int .u64 z] W fun e W' => e = .returned (.bool false) ∧ W = W' := fun z W => by
    go_enter Try.func103, Try.ntmps103
    go_wp2_with fail
    go_ret
    exact ⟨rfl, rfl⟩
  have Hn := Lib.hid hn
  clear hn
  by_cases h1 : x < y
  · go_enter Try.func98, Try.ntmps98
    go_wp2_with (go_at_call 103; refine (Hn.out _ _).mono ?_; rintro e w1 ⟨rfl, rfl⟩)
    go_ret
    exact ⟨rfl, rfl⟩
  · by_cases h2 : y < x
    · go_enter Try.func98, Try.ntmps98
      go_wp2_with (go_at_call 103; refine (Hn.out _ _).mono ?_; rintro e w1 ⟨rfl, rfl⟩)
      go_ret
      exact ⟨rfl, rfl⟩
    · go_enter Try.func98, Try.ntmps98
      go_wp2_with (go_at_call 103; refine (Hn.out _ _).mono ?_; rintro e w1 ⟨rfl, rfl⟩)
      go_ret
      exact ⟨rfl, rfl⟩
theorem or2_any (x y : Int) (W : World) (b : Nat) (h0 : W.cell? ⟨b, 0, none⟩ = some (.int .i64 x)) (h1 : W.cell? ⟨b, 1, none⟩ = some (.int .i64 y)) :
    Calls Try.prog 96 #[.slice (some ⟨b, 0, none⟩) 2 2] W fun e W' => e = .returned (.int .i64 (if x ≠ 0 then x else y)) ∧ W = W' := by
  go_enter Try.func96, Try.ntmps96
  go_wp2_with fail
  go_loopw [8] (fun u wr => ∃ k : Nat, u = .int .i64 (k : Nat) ∧ k ≤ 2 ∧ (1 ≤ k → x = 0) ∧ (2 ≤ k → y = 0) ∧ W = wr) (fun u _ => 2 - (intOf u).toNat)
  case atStart => exact ⟨0, rfl, by omega, by simp, by simp, rfl⟩
  case round =>
    obtain ⟨k, rfl, hk, k1, k2, hw⟩ := hrel
    subst hw
    have hk3 : k = 0 ∨ k = 1 ∨ k = 2 := by omega
    rcases hk3 with rfl | rfl | rfl
    · by_cases hx : x = 0
      · subst hx
        go_wp2_with fail
        go_roundw
        case rel => exact ⟨1, rfl, by omega, by simp, by simp, by first | rfl | trivial⟩
        case measure => simp [intOf]
      · have hx2 : (x != 0) = true := by simpa using hx
        go_wp2_with fail
        go_ret
        exact ⟨by simp [hx], rfl⟩
    · have hx := k1 (by omega)
      subst hx
      by_cases hy : y = 0
      · subst hy
        go_wp2_with fail
        go_roundw
        case rel => exact ⟨2, rfl, by omega, by simp, by simp, by first | rfl | trivial⟩
        case measure => simp [intOf]
      · have hx2 : (y != 0) = true := by simpa using hy
        go_wp2_with fail
        go_ret
        exact ⟨by simp, rfl⟩
    · have hx := k1 (by omega)
      have hy := k2 (by omega)
      subst hx hy
      go_wp2_with fail
      go_ret
      exact ⟨by simp, rfl⟩
def orderN (x y : Th) : Int := if (if x.due < y.due then (-1 : Int) else if y.due < x.due then 1 else 0) ≠ 0 then (if x.due < y.due then (-1 : Int) else if y.due < x.due then 1 else 0) else (if x.id < y.id then (-1 : Int) else if y.id < x.id then 1 else 0)
theorem orderN_lt (x y : Th) : orderN x y < 0 ↔ thLt x y = true := by
  rw [thLt_iff]
  unfold orderN
  by_cases h1 : x.due < y.due
  · simp [h1]
  · by_cases h2 : y.due < x.due
    · simp [h1, h2]; omega
    · have h3 : x.due = y.due := by omega
      by_cases h4 : x.id < y.id
      · simp [h3, h4]
      · by_cases h5 : y.id < x.id
        · simp [h3, h4, h5]
        · simp [h3, h4, h5]
set_option maxRecDepth 100000 in
set_option maxHeartbeats 4000000 in
theorem order_any (x y : Th) (W : World) : Calls Try.prog 80 #[thVal x, thVal y] W fun e W' => e = .returned (.int .i64 (orderN x y)) ∧ Below W.heap.size W W' := by
  have Hc := Lib.hid (fun W => cmp64_any x.due y.due W)
  have Hu := Lib.hid (fun W => cmpu64_any x.id y.id W)
  obtain ⟨c, hc⟩ : ∃ c, c = (if x.due < y.due then (-1 : Int) else if y.due < x.due then 1 else 0) := ⟨_, rfl⟩
  obtain ⟨u, hu⟩ : ∃ u, u = (if x.id < y.id then (-1 : Int) else if y.id < x.id then 1 else 0) := ⟨_, rfl⟩
  have ho : orderN x y = if c ≠ 0 then c else u := by rw [hc, hu]; rfl
  rw [ho]
  rw [← hc] at Hc
  rw [← hu] at Hu
  have Hor := Lib.hid (fun W b h0 h1 => or2_any c u W b h0 h1)
  obtain ⟨r, hr⟩ : ∃ r, r = if c ≠ 0 then c else u := ⟨_, rfl⟩
  rw [← hr] at Hor ⊢
  clear hc hu ho hr
  obtain ⟨xi, xg, xd⟩ := x
  obtain ⟨yi, yg, yd⟩ := y
  dsimp only [thVal] at *
  obtain ⟨W1, hW1⟩ : ∃ W1, W1 = W.alloc (.cells #[.int .u64 xi, .int .u64 xg, .int .i64 xd] 32) := ⟨_, rfl⟩
  have hB1 : Below W.heap.size W W1 := by rw [hW1]; exact below_new _ _
  have e1 : W1.heap.size = W.heap.size + 1 := by rw [hW1]; exact World.size_alloc _ _
  have k1 : W1.heap[W.heap.size]? = some (.cells #[.int .u64 xi, .int .u64 xg, .int .i64 xd] 32 (0, 0)) := by rw [hW1]; exact heap_alloc_new _ _
  obtain ⟨W2, hW2⟩ : ∃ W2, W2 = W1.alloc (.cells #[.int .u64 yi, .int .u64 yg, .int .i64 yd] 32) := ⟨_, rfl⟩
  have hB2 : Below W1.heap.size W1 W2 := by rw [hW2]; exact below_new _ _
  have m2 : W2.heap[W.heap.size + 1]? = some (.cells #[.int .u64 yi, .int .u64 yg, .int .i64 yd] 32 (0, 0)) := by rw [hW2, ← e1]; exact heap_alloc_new _ _
  have k2 := (hB2.block _ (Array.getElem?_eq_some_iff.1 k1).1).trans k1
  have hBw := below_on hB1 hB2 (Nat.le_refl _)
  go_enter Try.func80, Try.ntmps80
  go_upto_region 1 with fail
  rw [← hW1, ← hW2]
  clear hW1 hW2 hB1 hB2 e1 k1
  have hS : ∀ W', Below W2.heap.size W2 W' → (W'.cell? ⟨W.heap.size, 2, none⟩ = some (.int .i64 xd) ∧ W'.cell? ⟨W.heap.size + 1, 2, none⟩ = some (.int .i64 yd) ∧ W'.cell? ⟨W.heap.size, 0, none⟩ = some (.int .u64 xi) ∧ W'.cell? ⟨W.heap.size + 1, 0, none⟩ = some (.int .u64 yi)) := fun W' hb => by
    have a := (hb.block _ (Array.getElem?_eq_some_iff.1 k2).1).trans k2
    have b := (hb.block _ (Array.getElem?_eq_some_iff.1 m2).1).trans m2
    exact ⟨block_cell a 2, block_cell b 2, block_cell a 0, block_cell b 0⟩
  have HS := Lib.hid hS
  have hd : Below W2.heap.size W2 W2.drew := (Below.refl _ _).drew
  clear hS k2 m2
  refine wp_region_held_drew (S := fun W' => (W'.cell? ⟨W.heap.size, 2, none⟩ = some (.int .i64 xd) ∧ W'.cell? ⟨W.heap.size + 1, 2, none⟩ = some (.int .i64 yd) ∧ W'.cell? ⟨W.heap.size, 0, none⟩ = some (.int .u64 xi) ∧ W'.cell? ⟨W.heap.size + 1, 0, none⟩ = some (.int .u64 yi))) (by kernel_rfl) (HS.out _ hd) (fun hHeld => ?_)
  refine wpAnyH_take (i := 0) (v := ?_) rfl (by kernel_rfl) (by kernel_rfl) (by kernel_rfl) (fun _ _ _ h => h) (Or.inl ⟨by rfl, ?_⟩) (by assumption) ?_
  rotate_left
  · intro w8 hSw; obtain ⟨g1, g2, g3, g4⟩ := hSw; go_simp; (try with_reducible rfl)
  simp only [Act.put, List.getElem_toArray, List.getElem_cons_zero, List.getElem_cons_succ, List.setIfInBounds_toArray, List.set_cons_zero, List.set_cons_succ]
  refine wpAnyH_take (i := 1) (v := ?_) rfl (by kernel_rfl) (by kernel_rfl) (by kernel_rfl) (fun _ _ _ h => h) (Or.inl ⟨by rfl, ?_⟩) (by assumption) ?_
  rotate_left
  · intro w8 hSw; obtain ⟨g1, g2, g3, g4⟩ := hSw; go_simp; (try with_reducible rfl)
  simp only [Act.put, List.getElem_toArray, List.getElem_cons_zero, List.getElem_cons_succ, List.setIfInBounds_toArray, List.set_cons_zero, List.set_cons_succ]
  refine wpAnyH_take (i := 2) (v := ?_) rfl (by kernel_rfl) (by kernel_rfl) (by kernel_rfl) (fun _ _ _ h => h) (Or.inl ⟨by rfl, ?_⟩) (by assumption) ?_
  rotate_left
  · intro w8 hSw; obtain ⟨g1, g2, g3, g4⟩ := hSw; go_simp; (try with_reducible rfl)
  simp only [Act.put, List.getElem_toArray, List.getElem_cons_zero, List.getElem_cons_succ, List.setIfInBounds_toArray, List.set_cons_zero, List.set_cons_succ]
  refine wpAnyH_take (i := 3) (v := ?_) rfl (by kernel_rfl) (by kernel_rfl) (by kernel_rfl) (fun _ _ _ h => h) (Or.inl ⟨by rfl, ?_⟩) (by assumption) ?_
  rotate_left
  · intro w8 hSw; obtain ⟨g1, g2, g3, g4⟩ := hSw; go_simp; (try with_reducible rfl)
  simp only [Act.put, List.getElem_toArray, List.getElem_cons_zero, List.getElem_cons_succ, List.setIfInBounds_toArray, List.set_cons_zero, List.set_cons_succ]
  refine wpAnyH_take (i := 5) (v := ?_) rfl (by kernel_rfl) (by kernel_rfl) (by kernel_rfl) (fun _ _ _ h => h) (Or.inl ⟨by rfl, ?_⟩) (by assumption) ?_
  rotate_left
  · intro w8 hSw; obtain ⟨g1, g2, g3, g4⟩ := hSw; go_simp; (try with_reducible rfl)
  simp only [Act.put, List.getElem_toArray, List.getElem_cons_zero, List.getElem_cons_succ, List.setIfInBounds_toArray, List.set_cons_zero, List.set_cons_succ]
  refine wpAnyH_take (i := 6) (v := ?_) rfl (by kernel_rfl) (by kernel_rfl) (by kernel_rfl) (fun _ _ _ h => h) (Or.inl ⟨by rfl, ?_⟩) (by assumption) ?_
  rotate_left
  · intro w8 hSw; obtain ⟨g1, g2, g3, g4⟩ := hSw; go_simp; (try with_reducible rfl)
  simp only [Act.put, List.getElem_toArray, List.getElem_cons_zero, List.getElem_cons_succ, List.setIfInBounds_toArray, List.set_cons_zero, List.set_cons_succ]
  refine wpAnyH_take (i := 7) (v := ?_) rfl (by kernel_rfl) (by kernel_rfl) (by kernel_rfl) (fun _ _ _ h => h) (Or.inl ⟨by rfl, ?_⟩) (by assumption) ?_
  rotate_left
  · intro w8 hSw; obtain ⟨g1, g2, g3, g4⟩ := hSw; go_simp; (try with_reducible rfl)
  simp only [Act.put, List.getElem_toArray, List.getElem_cons_zero, List.getElem_cons_succ, List.setIfInBounds_toArray, List.set_cons_zero, List.set_cons_succ]
  refine wpAnyH_take (i := 8) (v := ?_) rfl (by kernel_rfl) (by kernel_rfl) (by kernel_rfl) (fun _ _ _ h => h) (Or.inl ⟨by rfl, ?_⟩) (by assumption) ?_
  rotate_left
  · intro w8 hSw; obtain ⟨g1, g2, g3, g4⟩ := hSw; go_simp; (try with_reducible rfl)
  simp only [Act.put, List.getElem_toArray, List.getElem_cons_zero, List.getElem_cons_succ, List.setIfInBounds_toArray, List.set_cons_zero, List.set_cons_succ]
  refine wpAnyH_ready (rs := [4]) (by kernel_rfl) (by simp) ?_
  refine AllReadyH.cons rfl (fun K hK => ?_) AllReadyH.nil
  go_simp
  go_at_call 97
  refine (Hc.out _).mono ?_
  rintro e w5 ⟨rfl, rfl⟩
  refine hK.out _ _ (HS.out _ hd) (fun hHeld => ?_)
  clear hK K
  try simp only [Act.put, List.getElem_toArray, List.getElem_cons_zero, List.getElem_cons_succ, List.setIfInBounds_toArray, List.set_cons_zero, List.set_cons_succ]
  refine wpAnyH_ready (rs := [9]) (by kernel_rfl) (by simp) ?_
  refine AllReadyH.cons rfl (fun K hK => ?_) AllReadyH.nil
  go_simp
  go_at_call 98
  refine (Hu.out _).mono ?_
  rintro e w6 ⟨rfl, rfl⟩
  refine hK.out _ _ (HS.out _ hd) (fun hHeld => ?_)
  clear hK K
  try simp only [Act.put, List.getElem_toArray, List.getElem_cons_zero, List.getElem_cons_succ, List.setIfInBounds_toArray, List.set_cons_zero, List.set_cons_succ]
  refine wpAnyH_ready (rs := [10]) (by kernel_rfl) (by simp) ?_
  refine AllReadyH.cons rfl (fun K hK => ?_) AllReadyH.nil
  go_simp
  obtain ⟨W5, hW5⟩ : ∃ W5, W5 = (W2.alloc (.cells #[.int .i64 c, .int .i64 u] 3)).drew := ⟨_, rfl⟩
  have hB5 : Below W2.heap.size W2 W5 := by rw [hW5]; exact (below_new _ _).drew
  have k5 : W5.heap[W2.heap.size]? = some (.cells #[.int .i64 c, .int .i64 u] 3 (0, 0)) := by rw [hW5]; exact heap_alloc_new W2 _
  rw [← hW5]
  clear hW5
  refine hK.out _ _ (HS.out _ hB5) (fun hHeld => ?_)
  clear hK K
  try simp only [Act.put, List.getElem_toArray, List.getElem_cons_zero, List.getElem_cons_succ, List.setIfInBounds_toArray, List.set_cons_zero, List.set_cons_succ]
  have q0 : W5.cell? ⟨W2.heap.size, 0, none⟩ = some (.int .i64 c) := block_cell k5 0
  have q1 : W5.cell? ⟨W2.heap.size, 1, none⟩ = some (.int .i64 u) := block_cell k5 1
  refine wpAnyH_ready (rs := [11]) (by kernel_rfl) (by simp) ?_
  refine AllReadyH.cons rfl (fun K hK => ?_) AllReadyH.nil
  go_simp
  go_at_call 96
  refine (Hor.out W5 _ q0 q1).mono ?_
  rintro e w6 ⟨rfl, rfl⟩
  refine hK.out _ _ (HS.out _ hB5) (fun hHeld => ?_)
  clear hK K
  try simp only [Act.put, List.getElem_toArray, List.getElem_cons_zero, List.getElem_cons_succ, List.setIfInBounds_toArray, List.set_cons_zero, List.set_cons_succ]
  refine wpAnyH_take (i := 12) (v := ?_) rfl (by kernel_rfl) (by kernel_rfl) (by kernel_rfl) (fun _ _ _ h => h) (Or.inl ⟨by rfl, ?_⟩) (by assumption) ?_
  rotate_left
  · intro w8 hSw; obtain ⟨g1, g2, g3, g4⟩ := hSw; go_simp; (try with_reducible rfl)
  simp only [Act.put, List.getElem_toArray, List.getElem_cons_zero, List.getElem_cons_succ, List.setIfInBounds_toArray, List.set_cons_zero, List.set_cons_succ]
  refine wpAnyH_done (by kernel_rfl) ?_ _
  go_wp2_with fail
  go_ret
  exact ⟨rfl, below_on hBw hB5 (Nat.le_refl _)⟩
end Go.Proofs.Ytedlplkomfiahaa
namespace Go.Proofs.Ytedlplkomfiahaa
set_option linter.unusedVariables false
set_option linter.unusedSimpArgs false
set_option linter.unusedSectionVars false
open Go Go.RowKit
theorem w_add (a k i n : Nat) (hi : i = a + k) (h : i ≤ n) (hn : n ≤ 4611686018427387904) : wrap64 ((a : Int) + (k : Int)) = (i : Int) := by
  subst hi
  rw [IntWalk.wrap64_in ((a : Int) + (k : Int)) (by omega)]; omega
theorem w_sub (a k i n : Nat) (hi : a = i + k) (h : a ≤ n) (hn : n ≤ 4611686018427387904) : wrap64 ((a : Int) - (k : Int)) = (i : Int) := by
  subst hi
  rw [IntWalk.wrap64_in (((i + k : Nat) : Int) - (k : Int)) (by omega)]; omega
theorem w_one (k n : Nat) (h : k < n) (hn : n ≤ 4611686018427387904) : wrap64 ((k : Int) + 1) = ((k + 1 : Nat) : Int) := by
  rw [IntWalk.wrap64_in ((k : Int) + 1) (by omega)]; omega
theorem i_lt {i n m : Nat} (h : i < m) (e : m = n) : (0 : Int) ≤ (i : Int) ∧ (i : Int) < (n : Int) := by omega
theorem th_apart (i j : Nat) (h : i ≠ j) : ¬ i = j ∧ ¬ j = i ∧ ¬ i * 3 = j * 3 ∧ ¬ j * 3 = i * 3 ∧ ¬ i * 3 + 1 = j * 3 ∧ ¬ j * 3 = i * 3 + 1 ∧ ¬ i * 3 + 2 = j * 3 ∧ ¬ j * 3 = i * 3 + 2 ∧ ¬ i * 3 = j * 3 + 1 ∧ ¬ j * 3 + 1 = i * 3 ∧ ¬ i * 3 = j * 3 + 2 ∧ ¬ j * 3 + 2 = i * 3 := by omega
theorem swr_nums (p x m y q n a b N k i j : Nat) (hlen : p + (x + (m + (y + q))) = n) (xy : x = y) (ha : a = p) (hb : b = p + x + m) (hN : N = x) (hk : k < N) (hi : i = a + k) (hj : j = b + k) :
    i < p + x + m + y + q ∧ j < p + x + m + y + q ∧ i ≠ j ∧ k < x ∧ i = p + k ∧ j = p + x + m + k ∧ k < n := by omega
abbrev thT : TypeId := 32
theorem SR.sw {E : TypeId} {W0 W : World} {base g n cap : Nat} {D : List Th} (h : SR E W0 W base g n cap D) (i j : Nat) (hi : i < D.length) (hj : j < D.length) :
    SR E W0 ((((((W.setCell ⟨g, i * 3, none⟩ (.int .u64 D[j].id)).setCell ⟨g, i * 3 + 1, none⟩ (.int .u64 D[j].gen)).setCell ⟨g, i * 3 + 2, none⟩ (.int .i64 D[j].due)).setCell ⟨g, j * 3, none⟩ (.int .u64 D[i].id)).setCell ⟨g, j * 3 + 1, none⟩ (.int .u64 D[i].gen)).setCell ⟨g, j * 3 + 2, none⟩ (.int .i64 D[i].due)) base g n cap (Sta.sw D i j hi hj) := by
  have h1 := h.put i hi D[j]
  have h2 := h1.put j (by simpa using hj) D[i]
  exact h2
theorem SR.drew {E : TypeId} {W0 W : World} {base g n cap : Nat} {D : List Th} (h : SR E W0 W base g n cap D) : SR E W0 W.drew base g n cap D := ⟨h.own.drew, h.gr.trans ⟨rfl, rfl, rfl, Nat.le_refl _, fun _ _ _ => rfl⟩, h.len⟩
set_option maxRecDepth 100000 in
set_option maxHeartbeats 4000000 in
theorem swapRange_any (P X M Y Q : List Th) (a b N : Nat) (fv : Value) (W0 W : World) (base g n cap : Nat) (hXY : X.length = Y.length) (hn : n ≤ 4611686018427387904) (ha : a = P.length) (hb : b = P.length + X.length + M.length) (hN : N = X.length)
    (h : SR thT W0 W base g n cap (P ++ (X ++ (M ++ (Y ++ Q))))) :
    Calls Try.prog 107 #[.slice (some ⟨g, 0, none⟩) n cap, .int .i64 (a : Nat), .int .i64 (b : Nat), .int .i64 (N : Nat), fv] W fun e W' => e = .returned (.tuple #[]) ∧ SR thT W0 W' base g n cap (P ++ (Y ++ (M ++ (X ++ Q)))) := by
  have hlen := h.len
  have hz := Sta.swr_zero P X M Y Q
  have hal := Sta.swr_all P X M Y Q hXY
  simp only [List.length_append] at hlen
  have Hxy := Lib.hid hXY
  have Ha := Lib.hid ha
  have Hb := Lib.hid hb
  have HN := Lib.hid hN
  have Hlen := Lib.hid hlen
  have Hz := Lib.hid hz
  have Hal := Lib.hid hal
  have H := Lib.hid h
  clear hXY ha hb hN hlen hz hal h
  go_enter Try.func107, Try.ntmps107
  go_wp2_with fail
  go_loopw [10] (fun u wr => ∃ k : Nat, u = .int .i64 (k : Nat) ∧ k ≤ N ∧ SR thT W0 wr base g n cap (Sta.swr P X M Y Q k)) (fun u _ => N - (intOf u).toNat)
  case atStart => exact ⟨0, rfl, by omega, by rw [Hz.out]; exact H.out⟩
  case round =>
    obtain ⟨k, rfl, hk, hr⟩ := hrel
    by_cases hlt : k < N
    · obtain ⟨i, hi⟩ : ∃ i, i = a + k := ⟨_, rfl⟩
      obtain ⟨j, hj⟩ : ∃ j, j = b + k := ⟨_, rfl⟩
      have hL := Sta.swr_len P X M Y Q k
      obtain ⟨m1, m2, hij, m3, m4, m5, m6⟩ := swr_nums _ _ _ _ _ n a b N k i j Hlen.out Hxy.out Ha.out Hb.out HN.out hlt hi hj
      obtain ⟨D, hD⟩ : ∃ D, D = Sta.swr P X M Y Q k := ⟨_, rfl⟩
      rw [← hL] at m1 m2
      have hst := Sta.swr_step P X M Y Q k Hxy.out m3 i j m4 m5 m1 m2
      have hi1 : i < D.length := by rw [hD]; exact m1
      have hj1 : j < D.length := by rw [hD]; exact m2
      simp only [← hD] at hr hst
      have hDn := hr.len
      obtain ⟨i0, i1, i2⟩ := hr.cells i hi1
      obtain ⟨j0, j1, j2⟩ := hr.cells j hj1
      have hsw := (hr.sw i j hi1 hj1).drew
      rw [hst] at hsw
      have fi0 := hr.free (i * 3)
      have fi1 := hr.free (i * 3 + 1)
      have fi2 := hr.free (i * 3 + 2)
      have fj0 := hr.free (j * 3)
      have fj1 := hr.free (j * 3 + 1)
      have fj2 := hr.free (j * 3 + 2)
      obtain ⟨x, hx⟩ : ∃ x, x = D[i] := ⟨_, rfl⟩
      obtain ⟨y, hy⟩ : ∃ y, y = D[j] := ⟨_, rfl⟩
      rw [← hx] at i0 i1 i2 hsw
      rw [← hy] at j0 j1 j2 hsw
      have w1 := w_add a k i n hi (by rw [← hDn]; exact Nat.le_of_lt hi1) hn
      have w2 := w_add b k j n hj (by rw [← hDn]; exact Nat.le_of_lt hj1) hn
      obtain ⟨c1, c2⟩ := i_lt hi1 hDn
      obtain ⟨c3, c4⟩ := i_lt hj1 hDn
      have zg := hr.lt
      obtain ⟨n1, n2, n3, n4, n5, n6, n7, n8, n9, n10, n11, n12⟩ := th_apart i j hij
      have Hsw := Lib.hid hsw
      have Hw := Lib.hid (w_one k n m6 hn)
      clear hst hD hL hDn hi hj hx hy hr hsw hi1 hj1 hij m1 m2 m3 m4 m5 m6
      go_wp2_with fail
      go_region
      go_wp2_with fail
      go_roundw
      case rel => exact ⟨k + 1, by rw [Hw.out], by omega, Hsw.out⟩
      case measure => rw [Hw.out]; simp only [intOf, Int.toNat_natCast]; omega
    · have hkk : k = N := by omega
      subst hkk
      have e := Hal.out
      rw [← HN.out] at e
      rw [e] at hr
      go_wp2_with fail
      refine bodyPost_end (results_none rfl _ _ _) rfl ?_
      exact ⟨rfl, hr⟩
end Go.Proofs.Ytedlplkomfiahaa
namespace Go.Proofs.Ytedlplkomfiahaa
set_option linter.unusedVariables false
set_option linter.unusedSimpArgs false
set_option linter.unusedSectionVars false
open Go Go.RowKit
theorem rot_nums (p x y q n m i j : Nat) (hs : p + (x + (y + q)) = n) (hm : m = p + x) (hi : i = x) (hj : j = y) : m ≤ n ∧ m = p + i ∧ i ≤ n ∧ j ≤ n ∧ m + j ≤ n := by omega
/-- how far a rotation has come -/
structure Rot (P A B Q : List Th) (m i j : Nat) (P' X Y Q' : List Th) : Prop where
  eq : P ++ (B ++ (A ++ Q)) = P' ++ (Y ++ (X ++ Q'))
  mm : m = P'.length + X.length
  ii : i = X.length
  jj : j = Y.length
  i0 : 0 < i
  j0 : 0 < j
theorem Rot.left {P A B Q P' X Y Q' : List Th} {m i j : Nat} (h : Rot P A B Q m i j P' X Y Q') (hij : j < i) : Rot P A B Q m (i - j) j (P' ++ Y) (X.drop j) (X.take j) Q' := by
  obtain ⟨h1, h2, h3, h4, h5, h6⟩ := h
  refine ⟨?_, ?_, ?_, ?_, by omega, h6⟩
  · rw [h1, List.append_assoc, ← List.append_assoc (X.take j), List.take_append_drop]
  · rw [List.length_append, List.length_drop]; omega
  · rw [List.length_drop]; omega
  · rw [List.length_take]; omega
theorem Rot.right {P A B Q P' X Y Q' : List Th} {m i j : Nat} (h : Rot P A B Q m i j P' X Y Q') (hij : i < j) : Rot P A B Q m i (j - i) P' (Y.drop (j - i)) (Y.take (j - i)) (X ++ Q') := by
  obtain ⟨h1, h2, h3, h4, h5, h6⟩ := h
  refine ⟨?_, ?_, ?_, ?_, h5, by omega⟩
  · rw [h1, ← List.append_assoc (Y.take (j - i)), List.take_append_drop]
  · rw [List.length_drop]; omega
  · rw [List.length_drop]; omega
  · rw [List.length_take]; omega
set_option maxRecDepth 100000 in
set_option maxHeartbeats 4000000 in
theorem rotate_any (P A B Q : List Th) (a m b : Nat) (fv : Value) (W0 W : World) (base g n cap : Nat) (hn : n ≤ 4611686018427387904) (ha : a = P.length) (hm : m = P.length + A.length) (hb : b = P.length + A.length + B.length) (hA : 0 < A.length) (hB : 0 < B.length)
    (h : SR thT W0 W base g n cap (P ++ (A ++ (B ++ Q)))) :
    Calls Try.prog 106 #[.slice (some ⟨g, 0, none⟩) n cap, .int .i64 (a : Nat), .int .i64 (m : Nat), .int .i64 (b : Nat), fv] W fun e W' => e = .returned (.tuple #[]) ∧ SR thT W0 W' base g n cap (P ++ (B ++ (A ++ Q))) := by
  have hlen := h.len
  simp only [List.length_append] at hlen
  obtain ⟨i0, hi0⟩ : ∃ i, i = A.length := ⟨_, rfl⟩
  obtain ⟨j0, hj0⟩ : ∃ j, j = B.length := ⟨_, rfl⟩
  have hR : Rot P A B Q m i0 j0 P A B Q := ⟨rfl, hm, hi0, hj0, by omega, by omega⟩
  have w1 := w_sub m a i0 n (by omega) (by omega) hn
  have w2 := w_sub b m j0 n (by omega) (by omega) hn
  have HR := Lib.hid hR
  have H := Lib.hid h
  have HW1 := Lib.hid w1
  have HW2 := Lib.hid w2
  clear hi0 hj0 hR h ha hm hb hA hB hlen
  go_enter Try.func106, Try.ntmps106
  go_wp2_with fail
  clear w1 w2
  go_loopw [10, 11] (fun u v wr => ∃ (i j : Nat) (P' X Y Q' : List Th), u = .int .i64 (i : Nat) ∧ v = .int .i64 (j : Nat) ∧ Hid (Rot P A B Q m i j P' X Y Q') ∧ SR thT W0 wr base g n cap (P' ++ (X ++ (Y ++ Q')))) (fun u v _ => (intOf u).toNat + (intOf v).toNat)
  case atStart => exact ⟨i0, j0, P, A, B, Q, by first | rfl | rw [HW1.out], by first | rfl | rw [HW2.out], HR, H.out⟩
  case round =>
    obtain ⟨i, j, P', X, Y, Q', rfl, rfl, hR, hr⟩ := hrel
    have hlen := hr.len
    simp only [List.length_append] at hlen
    obtain ⟨m1, m2, m3, m4, m5⟩ := rot_nums _ _ _ _ n m i j hlen hR.out.mm hR.out.ii hR.out.jj
    obtain ⟨p, hp⟩ : ∃ p, p = P'.length := ⟨_, rfl⟩
    rw [← hp] at m2
    have Hn := Lib.hid hlen
    have Hp := Lib.hid hp
    clear hlen hp
    have w1 := w_sub m i p n m2 m1 hn
    have M2 := Lib.hid m2
    clear m2
    by_cases h1 : i = j
    · subst h1
      have hst := swapRange_any P' X [] Y Q' p m i fv W0 wr base g n cap (by rw [← hR.out.ii, ← hR.out.jj]) hn Hp.out (by rw [hR.out.mm]; simp) hR.out.ii (by simpa using hr)
      have Hst := Lib.hid hst
      have c1 : (i != i) = false := by simp
      clear hst hr m1 m3 m4 m5 HR H
      go_wp2_with fail
      refine Hst.out.mono ?_
      rintro e W2 ⟨rfl, hr2⟩
      go_wp2_with fail
      refine bodyPost_end (results_none rfl _ _ _) rfl ?_
      rw [hR.out.eq]
      exact ⟨rfl, by simpa using hr2⟩
    · have c1 : ((i : Int) != (j : Int)) = true := by simp; omega
      by_cases h2 : j < i
      · have c2 : (j : Int) < (i : Int) := by omega
        have w2 := w_sub i j (i - j) n (by omega) m3 hn
        have hst := swapRange_any P' (X.take j) (X.drop j) Y Q' p m j fv W0 wr base g n cap (by rw [List.length_take, ← hR.out.ii, ← hR.out.jj]; omega) hn Hp.out (by rw [hR.out.mm, List.length_take, List.length_drop]; omega) (by rw [List.length_take, ← hR.out.ii]; omega) (by rw [← List.append_assoc (X.take j), List.take_append_drop]; exact hr)
        have Hst := Lib.hid hst
        have HR2 := Lib.hid (hR.out.left h2)
        have Hj := Lib.hid hR.out.j0
        have H2 := Lib.hid h2
        clear hst hr m1 m3 m4 m5 HR H h1 h2
        go_wp2_with fail
        refine Hst.out.mono ?_
        rintro e W2 ⟨rfl, hr2⟩
        go_wp2_with fail
        go_roundw
        case rel => exact ⟨i - j, j, P' ++ Y, X.drop j, X.take j, Q', by rw [w2], rfl, HR2, by rw [List.append_assoc]; exact hr2⟩
        case measure =>
          rw [w2]
          simp only [intOf, Int.toNat_natCast]
          have := Hj.out
          have := H2.out
          omega
      · have h2' : i < j := by omega
        have c2 : ¬ (j : Int) < (i : Int) := by omega
        have w2 := w_sub j i (j - i) n (by omega) m4 hn
        obtain ⟨mj, hmj⟩ : ∃ mj, mj = m + j := ⟨_, rfl⟩
        obtain ⟨pj, hpj⟩ : ∃ pj, pj = p + j := ⟨_, rfl⟩
        have w3 := w_add m j mj n hmj (by rw [hmj]; exact m5) hn
        have w4 := w_sub mj i pj n (by rw [hmj, hpj, M2.out]; omega) (by rw [hmj]; exact m5) hn
        have hst := swapRange_any P' X (Y.take (j - i)) (Y.drop (j - i)) Q' p pj i fv W0 wr base g n cap (by rw [List.length_drop, ← hR.out.ii, ← hR.out.jj]; omega) hn Hp.out (by rw [← Hp.out, hpj, List.length_take, ← hR.out.jj, ← hR.out.ii]; omega) hR.out.ii (by rw [← List.append_assoc (Y.take (j - i)), List.take_append_drop]; exact hr)
        have Hst := Lib.hid hst
        have HR2 := Lib.hid (hR.out.right h2')
        have Hi := Lib.hid hR.out.i0
        have H2 := Lib.hid h2'
        clear hst hr m1 m3 m4 m5 HR H h1 h2 h2' hmj hpj
        go_wp2_with fail
        refine Hst.out.mono ?_
        rintro e W2 ⟨rfl, hr2⟩
        go_wp2_with fail
        go_roundw
        case rel => exact ⟨i, j - i, P', Y.drop (j - i), Y.take (j - i), X ++ Q', rfl, by rw [w2], HR2, hr2⟩
        case measure =>
          rw [w2]
          simp only [intOf, Int.toNat_natCast]
          have := Hi.out
          have := H2.out
          omega
end Go.Proofs.Ytedlplkomfiahaa
