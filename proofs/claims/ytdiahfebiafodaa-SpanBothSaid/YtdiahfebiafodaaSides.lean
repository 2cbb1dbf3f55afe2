/- SpanSides' plain law; span.Has's contract. No statement of the seat is proved here. -/
import Derived.Test.YtdiahfebiafodaaSpanT
namespace Go.Proofs.Ytdiahfebiafodaa
set_option linter.unusedVariables false
set_option linter.unusedSimpArgs false
set_option linter.unusedSectionVars false
open Go Go.RowKit Go.Shelf

/-- how long a span's part is -/
def plen (s : Sp) (f t : Int) : Int := if (if s.a < f then f else s.a) < (if t < s.b then t else s.b) then (if t < s.b then t else s.b) - (if s.a < f then f else s.a) else 0
theorem plen_cons (s : Sp) (l : List Sp) (f t : Int) : lenL (parts (s :: l) f t) = plen s f t + lenL (parts l f t) := by
  rw [parts_cons, lenL_append]
  congr 1
  unfold Sp.full Sp.part plen
  simp only [decide_eq_true_eq]
  generalize (if s.a < f then f else s.a) = A
  generalize (if t < s.b then t else s.b) = B
  by_cases h : A < B
  · rw [if_pos h, if_pos h]; simp [lenL]
  · rw [if_neg h, if_neg h]; rfl
theorem plen_le (s : Sp) (f t : Int) (h : s.a < s.b) : 0 ≤ plen s f t ∧ plen s f t ≤ s.b - s.a := by
  unfold plen
  have h1 : s.a ≤ (if s.a < f then f else s.a) := by split <;> omega
  have h2 : (if t < s.b then t else s.b) ≤ s.b := by split <;> omega
  generalize (if s.a < f then f else s.a) = A at *
  generalize (if t < s.b then t else s.b) = B at *
  split <;> omega
theorem plen_all (s : Sp) (f t : Int) (h : s.a < s.b) (h1 : f ≤ s.a) (h2 : s.b ≤ t) : plen s f t = s.b - s.a := by
  unfold plen
  rw [if_neg (show ¬ s.a < f by omega), if_neg (show ¬ t < s.b by omega), if_pos h]
theorem plen_none (s : Sp) (f t : Int) (h : t ≤ s.a ∨ s.b ≤ f) : plen s f t = 0 := by
  unfold plen
  have h1 : s.a ≤ (if s.a < f then f else s.a) ∧ f ≤ (if s.a < f then f else s.a) := by constructor <;> split <;> omega
  have h2 : (if t < s.b then t else s.b) ≤ s.b ∧ (if t < s.b then t else s.b) ≤ t := by constructor <;> split <;> omega
  generalize (if s.a < f then f else s.a) = A at *
  generalize (if t < s.b then t else s.b) = B at *
  rw [if_neg (by omega)]
theorem plen_two (s : Sp) (x : Int) (h : s.a < s.b) (h0 : 0 ≤ s.a) (h1 : s.b ≤ 1125899906842624) (x0 : 0 ≤ x) (x1 : x ≤ 1125899906842624) : plen s 0 x + plen s x 1125899906842624 = s.b - s.a := by
  by_cases hx : s.b ≤ x
  · rw [plen_all s 0 x h h0 hx, plen_none s x _ (.inr hx)]; omega
  · by_cases hy : x ≤ s.a
    · rw [plen_none s 0 x (.inl hy), plen_all s x _ h hy h1]; omega
    · have e1 : plen s 0 x = x - s.a := by
        unfold plen
        rw [if_neg (show ¬ s.a < 0 by omega), if_pos (show x < s.b by omega), if_pos (by omega)]
      have e2 : plen s x 1125899906842624 = s.b - x := by
        unfold plen
        rw [if_pos (show s.a < x by omega), if_neg (show ¬ (1125899906842624 : Int) < s.b by omega), if_pos (by omega)]
      rw [e1, e2]; omega

/-- of all spans: may stand in a row -/
def Rights (l : List Sp) : Prop := ∀ s ∈ l, s.a < s.b ∧ 0 ≤ s.a ∧ s.b ≤ 1125899906842624
theorem rights_row {l : List Sp} (h0 : rowErr l = 0) : Rights l := by
  intro s hs
  obtain ⟨i, hi, rfl⟩ := List.getElem_of_mem hs
  exact row_right h0 i hi
theorem lenL_le (l : List Sp) : ∀ e, chain e l = true → lenL l ≤ 1125899906842624 - e ∨ l = [] := by
  induction l with
  | nil => intro e _; exact .inr rfl
  | cons s l ih =>
    intro e h
    unfold chain at h
    simp only [Bool.and_eq_true, decide_eq_true_eq] at h
    obtain ⟨⟨h1, h2⟩, h3⟩ := h
    obtain ⟨h4, h5, h6⟩ := right_lt h1
    left
    rcases ih s.b h3 with h | rfl
    · simp only [lenL]; omega
    · simp only [lenL]; omega
theorem parts_lenL (l : List Sp) (f t : Int) (hr : Rights l) : lenL (parts l f t) ≤ lenL l := by
  induction l with
  | nil => simp [parts, lenL]
  | cons s l ih =>
    have h1 := ih (fun x hx => hr x (by simp [hx]))
    have h2 := plen_le s f t (hr s (by simp)).1
    rw [plen_cons]; simp only [lenL]; omega
theorem lenL_H {l : List Sp} (h0 : rowErr l = 0) : 0 ≤ lenL l ∧ lenL l ≤ 1125899906842624 := by
  obtain ⟨hch, -⟩ := row_chain h0
  have hr := rights_row h0
  refine ⟨lenL_nonneg l (fun s hs => by have := (hr s hs).1; omega), ?_⟩
  rcases lenL_le l 0 hch with h | rfl
  · omega
  · simp [lenL]
/-- what Within answers of a row -/
theorem within_row {l : List Sp} (h0 : rowErr l = 0) (f t : Int) : sumL dist (cutL l f t) 0 = lenL (parts l f t) := by
  have h1 := lenL_H h0
  have h2 := parts_lenL l f t (rights_row h0)
  unfold cutL
  rw [if_pos h0]
  have := sumL_len (parts l f t) 0 (by omega) (parts_le l f t) (by omega)
  unfold dist
  rw [this]; omega
theorem parts_whole (l : List Sp) (hr : Rights l) : lenL (parts l 0 1125899906842624) = lenL l := by
  induction l with
  | nil => rfl
  | cons s l ih =>
    have h1 := hr s (by simp)
    rw [plen_cons, plen_all s _ _ h1.1 h1.2.1 h1.2.2, ih (fun x hx => hr x (by simp [hx]))]; rfl
theorem parts_two (l : List Sp) (hr : Rights l) (x : Int) (x0 : 0 ≤ x) (x1 : x ≤ 1125899906842624) : lenL (parts l 0 x) + lenL (parts l x 1125899906842624) = lenL l := by
  induction l with
  | nil => rfl
  | cons s l ih =>
    have h1 := hr s (by simp)
    have h2 := ih (fun x hx => hr x (by simp [hx]))
    have h3 := plen_two s x h1.1 h1.2.1 h1.2.2 x0 x1
    rw [plen_cons, plen_cons]; simp only [lenL]; omega
theorem parts_past (l : List Sp) (e f t : Int) (hc : chain e l = true) (h : t ≤ e) : lenL (parts l f t) = 0 := by
  rw [parts_none l f t (fun x hx => .inl (by have := chain_after l e hc x hx; omega))]; rfl
theorem nth_ok (l : List Sp) : ∀ n, Rights l → 0 ≤ n → (nthL l n).2 = decide (n < lenL l) := by
  induction l with
  | nil =>
    intro n _ h
    have : ¬ n < 0 := by omega
    show false = decide (n < 0)
    simp [this]
  | cons s l ih =>
    intro n hr hn
    have h1 := hr s (by simp)
    have hr2 : Rights l := fun x hx => hr x (by simp [hx])
    have h2 := lenL_nonneg l (fun x hx => by have := (hr2 x hx).1; omega)
    unfold nthL
    by_cases h : n < s.b - s.a
    · rw [if_pos h]
      have : n < lenL (s :: l) := by simp only [lenL]; omega
      simp [this]
    · rw [if_neg h, ih _ hr2 (by omega)]
      simp only [lenL]
      congr 1
      apply propext; constructor <;> intro h <;> omega
theorem nth_in (l : List Sp) : ∀ e n, chain e l = true → 0 ≤ e → 0 ≤ n → (nthL l n).2 = true → hasL l (nthL l n).1 = true ∧ e ≤ (nthL l n).1 ∧ lenL (parts l 0 (nthL l n).1) = n := by
  induction l with
  | nil => intro e n _ _ _ h; cases h
  | cons s l ih =>
    intro e n hc he hn h
    have hc2 := hc
    unfold chain at hc2
    simp only [Bool.and_eq_true, decide_eq_true_eq] at hc2
    obtain ⟨⟨h1, h2⟩, h3⟩ := hc2
    obtain ⟨h4, h5, h6⟩ := right_lt h1
    unfold nthL at h ⊢
    by_cases hl : n < s.b - s.a
    · rw [if_pos hl]
      simp only
      refine ⟨?_, by omega, ?_⟩
      · unfold hasL
        rw [List.any_cons]
        have e1 : decide (s.a ≤ s.a + n) = true := by simp; omega
        have e2 : decide (s.a + n < s.b) = true := by simp; omega
        rw [e1, e2]; rfl
      · rw [plen_cons, parts_past l s.b 0 _ h3 (by omega)]
        unfold plen
        rw [if_neg (show ¬ s.a < 0 by omega), if_pos (show s.a + n < s.b by omega)]
        split <;> omega
    · rw [if_neg hl] at h ⊢
      obtain ⟨a1, a2, a3⟩ := ih s.b _ h3 (by omega) (by omega) h
      refine ⟨?_, by omega, ?_⟩
      · unfold hasL at a1 ⊢
        rw [List.any_cons, a1]; simp
      · rw [plen_cons, a3, plen_all s 0 _ h4 (by omega) a2]; omega
theorem one_sec (l : List Sp) (x : Int) : ∀ e, chain e l = true → lenL (parts l x (x + 1)) = if hasL l x then 1 else 0 := by
  induction l with
  | nil => intro e _; rfl
  | cons s l ih =>
    intro e hc
    have hc2 := hc
    unfold chain at hc2
    simp only [Bool.and_eq_true, decide_eq_true_eq] at hc2
    obtain ⟨⟨h1, h2⟩, h3⟩ := hc2
    obtain ⟨h4, h5, h6⟩ := right_lt h1
    rw [plen_cons]
    by_cases hin : s.a ≤ x ∧ x < s.b
    · rw [parts_past l s.b x _ h3 (by omega)]
      have e1 : hasL (s :: l) x = true := by unfold hasL; rw [List.any_cons]; simp [hin.1, hin.2]
      rw [e1, if_pos rfl]
      unfold plen
      have g1 : (if s.a < x then x else s.a) = x := by split <;> omega
      have g2 : (if x + 1 < s.b then x + 1 else s.b) = x + 1 := by split <;> omega
      rw [g1, g2, if_pos (by omega)]; omega
    · have e1 : hasL (s :: l) x = hasL l x := by
        unfold hasL; rw [List.any_cons]
        have : (decide (s.a ≤ x) && decide (x < s.b)) = false := by
          by_cases g : s.a ≤ x
          · have : ¬ x < s.b := fun h => hin ⟨g, h⟩
            simp [this]
          · simp [g]
        rw [this]; rfl
      rw [e1, plen_none s x (x + 1) (by omega), ih s.b h3]; omega

/-! span.Has -/
def inside (t : Int) (s : Sp) : Bool := decide (s.a ≤ t) && decide (t < s.b)
theorem has1_any (t : Int) (B : Nat) (s : Sp) (W : World) (hc : W.cell? ⟨B, 0, .none⟩ = some (.int .i64 t)) :
    Calls Try.prog 54 #[spVal s, .pointer (some ⟨B, 0, .none⟩)] W fun e W' => e = .returned (.bool (inside t s)) ∧ Below W.heap.size W W' := by
  obtain ⟨x, y⟩ := s
  unfold spVal
  have hB := cell?_lt hc
  have hne : B ≠ W.heap.size := fun h => by rw [h] at hB; exact Nat.lt_irrefl _ hB
  have ha : inside t ⟨x, y⟩ = (decide (x ≤ t) && decide (t < y)) := rfl
  rw [ha]
  by_cases h1 : x ≤ t
  · go_enter Try.func54, Try.ntmps54
    go_wp2
    go_ret
    exact ⟨by simp [h1], below_new _ _⟩
  · go_enter Try.func54, Try.ntmps54
    go_wp2
    go_ret
    exact ⟨by simp [h1]; try omega, below_new _ _⟩

theorem containsB_any (k B : Nat) (p : Sp → Bool) (eg : ∀ args w, (callFunc k args).run Try.prog w = .ok (.enter k args) w) (ao : Option Addr) (cap : Nat) (l : List Sp) (w : World) (hs : Sps w ao cap l)
    (hp : ∀ W s, Below w.heap.size w W → Calls Try.prog k #[spVal s, .pointer (some ⟨B, 0, .none⟩)] W fun e W' => e = .returned (.bool (p s)) ∧ Below W.heap.size W W') :
    Calls Try.prog 50 #[.slice ao l.length cap, .func (.func k) #[] #[.pointer (some ⟨B, 0, .none⟩)]] w fun e w' => e = .returned (.bool (l.any p)) ∧ Below w.heap.size w w' := by
  have hi := index_any k B p eg ao cap l w hs hp
  by_cases h : l.any p = true
  · have h2 : l.findIdx p < l.length := by
      rw [List.findIdx_lt_length]
      obtain ⟨x, hx, hb⟩ := List.any_eq_true.1 h
      exact ⟨x, hx, hb⟩
    have e1 : firstI l p = (l.findIdx p : Int) := by unfold firstI; rw [if_pos h2]
    rw [e1] at hi
    rw [h]
    go_enter Try.func50, Try.ntmps50
    go_wp2_with fail
    refine hi.mono ?_
    rintro e w2 ⟨rfl, hb2⟩
    go_wp2_with fail
    go_ret
    exact ⟨by first | rfl | simp, hb2⟩
  · have hf : l.any p = false := by simpa using h
    have h2 : ¬ l.findIdx p < l.length := by
      rw [List.findIdx_lt_length]
      rintro ⟨x, hx, hb⟩
      exact h (List.any_eq_true.2 ⟨x, hx, hb⟩)
    have e1 : firstI l p = -1 := by unfold firstI; rw [if_neg h2]
    rw [e1] at hi
    rw [hf]
    go_enter Try.func50, Try.ntmps50
    go_wp2_with fail
    refine hi.mono ?_
    rintro e w2 ⟨rfl, hb2⟩
    go_wp2_with fail
    go_ret
    exact ⟨by first | rfl | simp, hb2⟩

theorem spHas_any (ao : Option Addr) (cap : Nat) (l : List Sp) (t : Int) (w : World) (h0 : rowErr l = 0) (hs : Sps w ao cap l) :
    Calls Try.prog 31 #[.slice ao l.length cap, .int .i64 t] w fun e w' => e = .returned (.bool (hasL l t)) ∧ Below w.heap.size w w' := by
  have hs1 := hs.below (below_new w (.cells #[.int .i64 t] 2))
  have hrow := row_any ao cap l _ hs1
  rw [h0] at hrow
  have hc0 : (w.alloc (.cells #[.int .i64 t] 2)).cell? ⟨w.heap.size, 0, none⟩ = some (.int .i64 t) := by rw [cell?_new]; rfl
  have hcn := fun w2 (hb : Below (w.alloc (.cells #[.int .i64 t] 2)).heap.size (w.alloc (.cells #[.int .i64 t] 2)) w2) =>
    containsB_any 54 w.heap.size (inside t) (enters_of Try.func54 (by kernel_rfl) rfl) ao cap l w2 (hs1.below hb)
      (fun W s hW => has1_any t _ s W ((hW.cell (p := ⟨w.heap.size, 0, none⟩) (Nat.lt_of_lt_of_le (cell?_lt hc0) hb.size)).trans ((hb.cell (cell?_lt hc0)).trans hc0)))
  have e : l.any (inside t) = hasL l t := rfl
  rw [e] at hcn
  generalize hasL l t = c at hcn ⊢
  go_enter Try.func31, Try.ntmps31
  go_wp2_with fail
  refine hrow.mono ?_
  rintro e w2 ⟨rfl, hb2⟩
  go_wp2_with fail
  refine (hcn w2 hb2).mono ?_
  rintro e w3 ⟨rfl, hb3⟩
  go_wp2_with fail
  go_ret
  exact ⟨by first | rfl | simp, below_on (below_on (below_new _ _) hb2 (Nat.le_refl _)) hb3 (Nat.le_refl _)⟩
end Go.Proofs.Ytdiahfebiafodaa
