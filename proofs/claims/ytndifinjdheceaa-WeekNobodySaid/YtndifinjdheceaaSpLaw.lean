/- Plain laws on rows of spans, with no function in sight (for seats that have not all of span's functions). No statement of a seat is proved here. -/
import Derived.Test.YtndifinjdheceaaSpanR
namespace Go.Proofs.Ytndifinjdheceaa
set_option linter.unusedVariables false
set_option linter.unusedSimpArgs false
set_option linter.unusedSectionVars false
open Go Go.RowKit

/-- what a span has between two instants -/
def Sp.part (s : Sp) (f t : Int) : Sp := ⟨if s.a < f then f else s.a, if t < s.b then t else s.b⟩
def Sp.full (s : Sp) : Bool := decide (s.a < s.b)
/-- the parts that are not empty -/
def parts (l : List Sp) (f t : Int) : List Sp := (l.map fun s => s.part f t).filter Sp.full
/-- the row between two instants -/
def cutL (l : List Sp) (f t : Int) : List Sp := if rowErr l = 0 then parts l f t else []
/-- ends it after t? -/
def aft (t : Int) (s : Sp) : Bool := decide (t < s.b)
def nextI (l : List Sp) (t : Int) : Nat := l.findIdx (aft t)
def nextR (l : List Sp) (t : Int) : Sp := l.getD (nextI l t) ⟨0, 0⟩
def nextF (l : List Sp) (t : Int) : Bool := decide (nextI l t < l.length)
def closedL (l : List Sp) (t : Int) : Bool := nextF l t && decide ((nextR l t).a ≤ t)
def hasL (l : List Sp) (t : Int) : Bool := l.any fun s => decide (s.a ≤ t) && decide (t < s.b)
theorem find_at (l : List Sp) (p : Sp → Bool) (i : Nat) (hi : i < l.length) : (l.drop i).findIdx p = if p l[i] then 0 else (l.drop (i + 1)).findIdx p + 1 := by
  rw [List.drop_eq_getElem_cons hi, List.findIdx_cons]
  cases p l[i] <;> rfl
theorem has_at (l : List Sp) (t : Int) (i : Nat) (hi : i < l.length) : hasL (l.drop i) t = ((decide (l[i].a ≤ t) && decide (t < l[i].b)) || hasL (l.drop (i + 1)) t) := by
  rw [List.drop_eq_getElem_cons hi]; rfl
theorem right_lt {s : Sp} (h : s.right = true) : s.a < s.b ∧ 0 ≤ s.a ∧ s.b ≤ 1125899906842624 := by
  unfold Sp.right at h
  simp only [Bool.and_eq_true, decide_eq_true_eq] at h
  exact ⟨h.1.2, h.1.1, h.2⟩
theorem row_chain {l : List Sp} (h : rowErr l = 0) : chain 0 l = true ∧ l.length ≤ 32 := by
  unfold rowErr at h
  split at h
  · cases h
  · split at h
    · rename_i h1 h2; exact ⟨h2, by omega⟩
    · cases h
/-- what a function tells of each span, added up -/
def sumL (g : Int → Int → Int) : List Sp → Int → Int
  | [], n => n
  | s :: l, n => sumL g l (IntKind.i64.wrap (n + g s.a s.b))
theorem sumL_at (g : Int → Int → Int) (l : List Sp) (i : Nat) (hi : i < l.length) (n : Int) : sumL g (l.drop i) n = sumL g (l.drop (i + 1)) (IntKind.i64.wrap (n + g l[i].a l[i].b)) := by
  rw [List.drop_eq_getElem_cons hi]; rfl
theorem cut_len (l : List Sp) (f t : Int) : (cutL l f t).length ≤ l.length := by
  unfold cutL
  split
  · unfold parts
    exact Nat.le_trans (List.length_filter_le _ _) (by simp)
  · simp
/-- Within: the reference's steps -/
def withinK : List Sp → Int → Int
  | [], n => n
  | s :: l, n => withinK l (IntKind.i64.wrap (IntKind.i64.wrap (n + s.b) - s.a))
theorem withinK_at (l : List Sp) (i : Nat) (hi : i < l.length) (n : Int) : withinK (l.drop i) n = withinK (l.drop (i + 1)) ((fun (s : Sp) => IntKind.i64.wrap (IntKind.i64.wrap (n + s.b) - s.a)) l[i]) := by
  rw [List.drop_eq_getElem_cons hi]; rfl
/-- how long spans are together -/
def lenL : List Sp → Int
  | [] => 0
  | s :: l => (s.b - s.a) + lenL l
theorem lenL_append (l m : List Sp) : lenL (l ++ m) = lenL l + lenL m := by
  induction l with
  | nil => simp [lenL]
  | cons s l ih => simp only [List.cons_append, lenL, ih]; omega
theorem lenL_nonneg (l : List Sp) (h : ∀ s ∈ l, s.a ≤ s.b) : 0 ≤ lenL l := by
  induction l with
  | nil => simp [lenL]
  | cons s l ih =>
    have h1 := h s (by simp)
    have h2 := ih (fun s hs => h s (by simp [hs]))
    simp only [lenL]; omega
theorem sumL_len (l : List Sp) : ∀ n, 0 ≤ n → (∀ s ∈ l, s.a ≤ s.b) → n + lenL l ≤ 4611686018427387904 → sumL (fun x y => IntKind.i64.wrap (y - x)) l n = n + lenL l := by
  induction l with
  | nil => intro n _ _ _; simp [sumL, lenL]
  | cons s l ih =>
    intro n h0 h1 h2
    have h3 := h1 s (by simp)
    have h4 := lenL_nonneg l (fun s hs => h1 s (by simp [hs]))
    simp only [lenL] at h2
    unfold sumL
    have e1 : IntKind.i64.wrap (s.b - s.a) = s.b - s.a := IntWalk.i64_in _ (by omega)
    simp only [e1]
    have e2 : IntKind.i64.wrap (n + (s.b - s.a)) = n + (s.b - s.a) := IntWalk.i64_in _ (by omega)
    rw [e2, ih _ (by omega) (fun s hs => h1 s (by simp [hs])) (by omega)]
    simp only [lenL]; omega
theorem chain_after (l : List Sp) : ∀ e, chain e l = true → ∀ x ∈ l, e ≤ x.a ∧ x.a < x.b := by
  induction l with
  | nil => intro e _ x hx; cases hx
  | cons s l ih =>
    intro e h x hx
    unfold chain at h
    simp only [Bool.and_eq_true, decide_eq_true_eq] at h
    obtain ⟨⟨h1, h2⟩, h3⟩ := h
    have h4 := right_lt h1
    rcases List.mem_cons.1 hx with rfl | hx
    · exact ⟨h2, h4.1⟩
    · have := ih s.b h3 x hx
      exact ⟨by omega, this.2⟩
theorem parts_cons (s : Sp) (l : List Sp) (f t : Int) : parts (s :: l) f t = (if (s.part f t).full then [s.part f t] else []) ++ parts l f t := by
  unfold parts
  simp only [List.map_cons, List.filter_cons]
  split <;> simp
theorem parts_le (l : List Sp) (f t : Int) : ∀ s ∈ parts l f t, s.a ≤ s.b := by
  intro s hs
  unfold parts at hs
  have := (List.mem_filter.1 hs).2
  unfold Sp.full at this
  simp only [decide_eq_true_eq] at this
  omega
theorem parts_shift (l : List Sp) (f f' t : Int) (h : ∀ x ∈ l, f ≤ x.a ∧ f' ≤ x.a) : parts l f t = parts l f' t := by
  induction l with
  | nil => rfl
  | cons s l ih =>
    have h1 := h s (by simp)
    have e : s.part f t = s.part f' t := by unfold Sp.part; rw [if_neg (show ¬ s.a < f by omega), if_neg (show ¬ s.a < f' by omega)]
    rw [parts_cons, parts_cons, e, ih (fun x hx => h x (by simp [hx]))]
theorem parts_none (l : List Sp) (f t : Int) (h : ∀ x ∈ l, t ≤ x.a ∨ x.b ≤ f) : parts l f t = [] := by
  induction l with
  | nil => rfl
  | cons s l ih =>
    have h1 := h s (by simp)
    have e : (s.part f t).full = false := by
      unfold Sp.part Sp.full
      simp only [decide_eq_false_iff_not]
      split <;> split <;> omega
    rw [parts_cons, e, ih (fun x hx => h x (by simp [hx]))]; rfl
def dist (x y : Int) : Int := IntKind.i64.wrap (y - x)
/-- the second that has n ahead -/
def nthL : List Sp → Int → Int × Bool
  | [], _ => (0, false)
  | s :: l, n => if n < s.b - s.a then (s.a + n, true) else nthL l (n - (s.b - s.a))
theorem nthL_at (l : List Sp) (i : Nat) (hi : i < l.length) (n : Int) : nthL (l.drop i) n = if n < l[i].b - l[i].a then (l[i].a + n, true) else nthL (l.drop (i + 1)) (n - (l[i].b - l[i].a)) := by
  rw [List.drop_eq_getElem_cons hi]; rfl
theorem row_right {l : List Sp} (h0 : rowErr l = 0) (i : Nat) (hi : i < l.length) : l[i].a < l[i].b ∧ 0 ≤ l[i].a ∧ l[i].b ≤ 1125899906842624 := by
  obtain ⟨hch, -⟩ := row_chain h0
  have key : ∀ (l : List Sp) (e : Int), chain e l = true → ∀ x ∈ l, x.right = true := by
    intro l
    induction l with
    | nil => intro e _ x hx; cases hx
    | cons s l ih =>
      intro e h x hx
      unfold chain at h
      simp only [Bool.and_eq_true, decide_eq_true_eq] at h
      rcases List.mem_cons.1 hx with rfl | hx
      · exact h.1.1
      · exact ih s.b h.2 x hx
  exact right_lt (key l 0 hch _ (List.getElem_mem hi))
def nthV (l : List Sp) (n : Int) : Int × Bool := if n < 0 then (0, false) else nthL l n
/-- how long a span's part is -/
def plen (s : Sp) (f t : Int) : Int := if (if s.a < f then f else s.a) < (if t < s.b then t else s.b) then (if t < s.b then t else s.b) - (if s.a < f then f else s.a) else 0
theorem plen_cons (s : Sp) (l : List Sp) (f t : Int) : lenL (parts (s :: l) f t) = plen s f t + lenL (parts l f t) := by
  rw [parts_cons, lenL_append]
  congr 1
  unfold Sp.full Sp.part plen
  simp only [decide_eq_true_eq]
  generalize (if s.a < f then f else s.a) = A
  generalize (if t < s.b then t else s.b) = B
  by_cases h : A < B
  · rw [if_pos h, if_pos h]; simp [lenL]
  · rw [if_neg h, if_neg h]; rfl
theorem plen_le (s : Sp) (f t : Int) (h : s.a < s.b) : 0 ≤ plen s f t ∧ plen s f t ≤ s.b - s.a := by
  unfold plen
  have h1 : s.a ≤ (if s.a < f then f else s.a) := by split <;> omega
  have h2 : (if t < s.b then t else s.b) ≤ s.b := by split <;> omega
  generalize (if s.a < f then f else s.a) = A at *
  generalize (if t < s.b then t else s.b) = B at *
  split <;> omega
theorem plen_all (s : Sp) (f t : Int) (h : s.a < s.b) (h1 : f ≤ s.a) (h2 : s.b ≤ t) : plen s f t = s.b - s.a := by
  unfold plen
  rw [if_neg (show ¬ s.a < f by omega), if_neg (show ¬ t < s.b by omega), if_pos h]
theorem plen_none (s : Sp) (f t : Int) (h : t ≤ s.a ∨ s.b ≤ f) : plen s f t = 0 := by
  unfold plen
  have h1 : s.a ≤ (if s.a < f then f else s.a) ∧ f ≤ (if s.a < f then f else s.a) := by constructor <;> split <;> omega
  have h2 : (if t < s.b then t else s.b) ≤ s.b ∧ (if t < s.b then t else s.b) ≤ t := by constructor <;> split <;> omega
  generalize (if s.a < f then f else s.a) = A at *
  generalize (if t < s.b then t else s.b) = B at *
  rw [if_neg (by omega)]
theorem plen_two (s : Sp) (x : Int) (h : s.a < s.b) (h0 : 0 ≤ s.a) (h1 : s.b ≤ 1125899906842624) (x0 : 0 ≤ x) (x1 : x ≤ 1125899906842624) : plen s 0 x + plen s x 1125899906842624 = s.b - s.a := by
  by_cases hx : s.b ≤ x
  · rw [plen_all s 0 x h h0 hx, plen_none s x _ (.inr hx)]; omega
  · by_cases hy : x ≤ s.a
    · rw [plen_none s 0 x (.inl hy), plen_all s x _ h hy h1]; omega
    · have e1 : plen s 0 x = x - s.a := by
        unfold plen
        rw [if_neg (show ¬ s.a < 0 by omega), if_pos (show x < s.b by omega), if_pos (by omega)]
      have e2 : plen s x 1125899906842624 = s.b - x := by
        unfold plen
        rw [if_pos (show s.a < x by omega), if_neg (show ¬ (1125899906842624 : Int) < s.b by omega), if_pos (by omega)]
      rw [e1, e2]; omega
/-- of all spans: may stand in a row -/
def Rights (l : List Sp) : Prop := ∀ s ∈ l, s.a < s.b ∧ 0 ≤ s.a ∧ s.b ≤ 1125899906842624
theorem rights_row {l : List Sp} (h0 : rowErr l = 0) : Rights l := by
  intro s hs
  obtain ⟨i, hi, rfl⟩ := List.getElem_of_mem hs
  exact row_right h0 i hi
theorem lenL_le (l : List Sp) : ∀ e, chain e l = true → lenL l ≤ 1125899906842624 - e ∨ l = [] := by
  induction l with
  | nil => intro e _; exact .inr rfl
  | cons s l ih =>
    intro e h
    unfold chain at h
    simp only [Bool.and_eq_true, decide_eq_true_eq] at h
    obtain ⟨⟨h1, h2⟩, h3⟩ := h
    obtain ⟨h4, h5, h6⟩ := right_lt h1
    left
    rcases ih s.b h3 with h | rfl
    · simp only [lenL]; omega
    · simp only [lenL]; omega
theorem parts_lenL (l : List Sp) (f t : Int) (hr : Rights l) : lenL (parts l f t) ≤ lenL l := by
  induction l with
  | nil => simp [parts, lenL]
  | cons s l ih =>
    have h1 := ih (fun x hx => hr x (by simp [hx]))
    have h2 := plen_le s f t (hr s (by simp)).1
    rw [plen_cons]; simp only [lenL]; omega
theorem lenL_H {l : List Sp} (h0 : rowErr l = 0) : 0 ≤ lenL l ∧ lenL l ≤ 1125899906842624 := by
  obtain ⟨hch, -⟩ := row_chain h0
  have hr := rights_row h0
  refine ⟨lenL_nonneg l (fun s hs => by have := (hr s hs).1; omega), ?_⟩
  rcases lenL_le l 0 hch with h | rfl
  · omega
  · simp [lenL]
/-- what Within answers of a row -/
theorem within_row {l : List Sp} (h0 : rowErr l = 0) (f t : Int) : sumL dist (cutL l f t) 0 = lenL (parts l f t) := by
  have h1 := lenL_H h0
  have h2 := parts_lenL l f t (rights_row h0)
  unfold cutL
  rw [if_pos h0]
  have := sumL_len (parts l f t) 0 (by omega) (parts_le l f t) (by omega)
  unfold dist
  rw [this]; omega
theorem parts_whole (l : List Sp) (hr : Rights l) : lenL (parts l 0 1125899906842624) = lenL l := by
  induction l with
  | nil => rfl
  | cons s l ih =>
    have h1 := hr s (by simp)
    rw [plen_cons, plen_all s _ _ h1.1 h1.2.1 h1.2.2, ih (fun x hx => hr x (by simp [hx]))]; rfl
theorem parts_two (l : List Sp) (hr : Rights l) (x : Int) (x0 : 0 ≤ x) (x1 : x ≤ 1125899906842624) : lenL (parts l 0 x) + lenL (parts l x 1125899906842624) = lenL l := by
  induction l with
  | nil => rfl
  | cons s l ih =>
    have h1 := hr s (by simp)
    have h2 := ih (fun x hx => hr x (by simp [hx]))
    have h3 := plen_two s x h1.1 h1.2.1 h1.2.2 x0 x1
    rw [plen_cons, plen_cons]; simp only [lenL]; omega
theorem parts_past (l : List Sp) (e f t : Int) (hc : chain e l = true) (h : t ≤ e) : lenL (parts l f t) = 0 := by
  rw [parts_none l f t (fun x hx => .inl (by have := chain_after l e hc x hx; omega))]; rfl
theorem nth_ok (l : List Sp) : ∀ n, Rights l → 0 ≤ n → (nthL l n).2 = decide (n < lenL l) := by
  induction l with
  | nil =>
    intro n _ h
    have : ¬ n < 0 := by omega
    show false = decide (n < 0)
    simp [this]
  | cons s l ih =>
    intro n hr hn
    have h1 := hr s (by simp)
    have hr2 : Rights l := fun x hx => hr x (by simp [hx])
    have h2 := lenL_nonneg l (fun x hx => by have := (hr2 x hx).1; omega)
    unfold nthL
    by_cases h : n < s.b - s.a
    · rw [if_pos h]
      have : n < lenL (s :: l) := by simp only [lenL]; omega
      simp [this]
    · rw [if_neg h, ih _ hr2 (by omega)]
      simp only [lenL]
      congr 1
      apply propext; constructor <;> intro h <;> omega
theorem nth_in (l : List Sp) : ∀ e n, chain e l = true → 0 ≤ e → 0 ≤ n → (nthL l n).2 = true → hasL l (nthL l n).1 = true ∧ e ≤ (nthL l n).1 ∧ lenL (parts l 0 (nthL l n).1) = n := by
  induction l with
  | nil => intro e n _ _ _ h; cases h
  | cons s l ih =>
    intro e n hc he hn h
    have hc2 := hc
    unfold chain at hc2
    simp only [Bool.and_eq_true, decide_eq_true_eq] at hc2
    obtain ⟨⟨h1, h2⟩, h3⟩ := hc2
    obtain ⟨h4, h5, h6⟩ := right_lt h1
    unfold nthL at h ⊢
    by_cases hl : n < s.b - s.a
    · rw [if_pos hl]
      simp only
      refine ⟨?_, by omega, ?_⟩
      · unfold hasL
        rw [List.any_cons]
        have e1 : decide (s.a ≤ s.a + n) = true := by simp; omega
        have e2 : decide (s.a + n < s.b) = true := by simp; omega
        rw [e1, e2]; rfl
      · rw [plen_cons, parts_past l s.b 0 _ h3 (by omega)]
        unfold plen
        rw [if_neg (show ¬ s.a < 0 by omega), if_pos (show s.a + n < s.b by omega)]
        split <;> omega
    · rw [if_neg hl] at h ⊢
      obtain ⟨a1, a2, a3⟩ := ih s.b _ h3 (by omega) (by omega) h
      refine ⟨?_, by omega, ?_⟩
      · unfold hasL at a1 ⊢
        rw [List.any_cons, a1]; simp
      · rw [plen_cons, a3, plen_all s 0 _ h4 (by omega) a2]; omega
theorem one_sec (l : List Sp) (x : Int) : ∀ e, chain e l = true → lenL (parts l x (x + 1)) = if hasL l x then 1 else 0 := by
  induction l with
  | nil => intro e _; rfl
  | cons s l ih =>
    intro e hc
    have hc2 := hc
    unfold chain at hc2
    simp only [Bool.and_eq_true, decide_eq_true_eq] at hc2
    obtain ⟨⟨h1, h2⟩, h3⟩ := hc2
    obtain ⟨h4, h5, h6⟩ := right_lt h1
    rw [plen_cons]
    by_cases hin : s.a ≤ x ∧ x < s.b
    · rw [parts_past l s.b x _ h3 (by omega)]
      have e1 : hasL (s :: l) x = true := by unfold hasL; rw [List.any_cons]; simp [hin.1, hin.2]
      rw [e1, if_pos rfl]
      unfold plen
      have g1 : (if s.a < x then x else s.a) = x := by split <;> omega
      have g2 : (if x + 1 < s.b then x + 1 else s.b) = x + 1 := by split <;> omega
      rw [g1, g2, if_pos (by omega)]; omega
    · have e1 : hasL (s :: l) x = hasL l x := by
        unfold hasL; rw [List.any_cons]
        have : (decide (s.a ≤ x) && decide (x < s.b)) = false := by
          by_cases g : s.a ≤ x
          · have : ¬ x < s.b := fun h => hin ⟨g, h⟩
            simp [this]
          · simp [g]
        rw [this]; rfl
      rw [e1, plen_none s x (x + 1) (by omega), ih s.b h3]; omega
end Go.Proofs.Ytndifinjdheceaa
