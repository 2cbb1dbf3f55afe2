/- A row of separated spans is known by its seconds. No statement of the seat is proved here. -/
import Derived.Test.YtdiahfebiafodaaJoins
namespace Go.Proofs.Ytdiahfebiafodaa
set_option linter.unusedVariables false
set_option linter.unusedSimpArgs false
set_option linter.unusedSectionVars false
open Go Go.RowKit Go.Shelf

theorem has_cons (s : Sp) (l : List Sp) (t : Int) : hasL (s :: l) t = ((decide (s.a ≤ t) && decide (t < s.b)) || hasL l t) := rfl
theorem has_iff (l : List Sp) (t : Int) : hasL l t = true ↔ ∃ s ∈ l, s.a ≤ t ∧ t < s.b := by
  unfold hasL
  rw [List.any_eq_true]
  constructor
  · rintro ⟨s, hs, h⟩
    simp only [Bool.and_eq_true, decide_eq_true_eq] at h
    exact ⟨s, hs, h⟩
  · rintro ⟨s, hs, h⟩
    exact ⟨s, hs, by simp [h.1, h.2]⟩
theorem good_tail {s : Sp} {l : List Sp} (h : Good (s :: l)) : Good l := ⟨fun o ho => h.right o (by simp [ho]), (List.pairwise_cons.1 h.apart).2⟩
theorem good_head {s : Sp} {l : List Sp} (h : Good (s :: l)) : s.a < s.b ∧ ∀ x ∈ l, s.b < x.a := ⟨(right_lt (h.right s (by simp))).1, (List.pairwise_cons.1 h.apart).1⟩
/-- two separated rows with the same seconds are the same -/
theorem good_eq : ∀ (l m : List Sp), Good l → Good m → (∀ t, hasL l t = hasL m t) → l = m := by
  intro l
  induction l with
  | nil =>
    intro m _ hm h
    cases m with
    | nil => rfl
    | cons u m =>
      have h1 := good_head hm
      have h2 : hasL (u :: m) u.a = true := (has_iff _ _).2 ⟨u, by simp, Int.le_refl _, h1.1⟩
      rw [← h u.a] at h2
      cases h2
  | cons s l ih =>
    intro m hl hm h
    cases m with
    | nil =>
      have h1 := good_head hl
      have h2 : hasL (s :: l) s.a = true := (has_iff _ _).2 ⟨s, by simp, Int.le_refl _, h1.1⟩
      rw [h s.a] at h2
      cases h2
    | cons u m =>
      obtain ⟨s1, s2⟩ := good_head hl
      obtain ⟨u1, u2⟩ := good_head hm
      have hr := fun x hx => (right_lt ((good_tail hl).right x hx)).1
      have hq := fun x hx => (right_lt ((good_tail hm).right x hx)).1
      -- the first seconds
      have ha : s.a = u.a := by
        have g1 : hasL (u :: m) s.a = true := by rw [← h]; exact (has_iff _ _).2 ⟨s, by simp, Int.le_refl _, s1⟩
        have g2 : hasL (s :: l) u.a = true := by rw [h]; exact (has_iff _ _).2 ⟨u, by simp, Int.le_refl _, u1⟩
        obtain ⟨x, hx, x1, x2⟩ := (has_iff _ _).1 g1
        obtain ⟨y, hy, y1, y2⟩ := (has_iff _ _).1 g2
        have k1 : u.a ≤ s.a := by
          rcases List.mem_cons.1 hx with rfl | hx
          · exact x1
          · have := u2 x hx; omega
        have k2 : s.a ≤ u.a := by
          rcases List.mem_cons.1 hy with rfl | hy
          · exact y1
          · have := s2 y hy; omega
        omega
      -- where they end
      have hb : s.b = u.b := by
        have g1 : hasL (s :: l) s.b = false := by
          apply Bool.eq_false_iff.2
          intro hh
          obtain ⟨x, hx, x1, x2⟩ := (has_iff _ _).1 hh
          rcases List.mem_cons.1 hx with rfl | hx
          · omega
          · have := s2 x hx; omega
        have g2 : hasL (u :: m) u.b = false := by
          apply Bool.eq_false_iff.2
          intro hh
          obtain ⟨x, hx, x1, x2⟩ := (has_iff _ _).1 hh
          rcases List.mem_cons.1 hx with rfl | hx
          · omega
          · have := u2 x hx; omega
        by_cases k1 : s.b < u.b
        · have : hasL (u :: m) s.b = true := (has_iff _ _).2 ⟨u, by simp, by omega, k1⟩
          rw [← h, g1] at this; cases this
        · by_cases k2 : u.b < s.b
          · have : hasL (s :: l) u.b = true := (has_iff _ _).2 ⟨s, by simp, by omega, k2⟩
            rw [h, g2] at this; cases this
          · omega
      have hsu : s = u := by cases s; cases u; simp only at ha hb; rw [ha, hb]
      subst hsu
      rw [ih m (good_tail hl) (good_tail hm) (fun t => by
        have ht := h t
        rw [has_cons, has_cons] at ht
        by_cases hin : s.a ≤ t ∧ t < s.b
        · have e1 : hasL l t = false := by
            apply Bool.eq_false_iff.2
            intro hh
            obtain ⟨x, hx, x1, x2⟩ := (has_iff _ _).1 hh
            have := s2 x hx; omega
          have e2 : hasL m t = false := by
            apply Bool.eq_false_iff.2
            intro hh
            obtain ⟨x, hx, x1, x2⟩ := (has_iff _ _).1 hh
            have := u2 x hx; omega
          rw [e1, e2]
        · have e : (decide (s.a ≤ t) && decide (t < s.b)) = false := by
            by_cases g : s.a ≤ t
            · have : ¬ t < s.b := fun k => hin ⟨g, k⟩
              simp [this]
            · simp [g]
          rw [e] at ht
          simpa using ht)]
/-- a row that Join answers, by its seconds -/
theorem join_good {l L : List Sp} (hb : l.any bad = false) (hJ : JoinIs l L) : Good L ∧ ∀ t, hasL L t = hasL l t := by
  obtain ⟨l', h1, h2, rfl⟩ := hJ.2 hb
  have hr := bad_none hb
  have key := fun t => fold_good t l' [] h2 (fun s hs => hr s (h1.mem_iff.1 hs)) ⟨fun o ho => (by cases ho), List.Pairwise.nil⟩ (fun s _ o ho => (by cases ho))
  refine ⟨(key 0).1, fun t => ?_⟩
  rw [(key t).2]
  have e : hasL l' t = hasL l t := by
    rw [Bool.eq_iff_iff, has_iff, has_iff]
    constructor
    · rintro ⟨x, hx, h⟩; exact ⟨x, h1.mem_iff.1 hx, h⟩
    · rintro ⟨x, hx, h⟩; exact ⟨x, h1.mem_iff.2 hx, h⟩
  rw [e]; simp [hasL]

/-! the reference's way -/
/-- what has been joined: up to where it reaches, all spans that begin there -/
structure Upto (l out : List Sp) (e : Int) : Prop where
  good : Good out
  ends : ∀ o ∈ out, o.b ≤ e
  done : ∀ s ∈ l, s.a ≤ e → s.b ≤ e
  has : ∀ t, hasL out t = true ↔ ∃ s ∈ l, s.a ≤ e ∧ s.a ≤ t ∧ t < s.b
theorem upto_nil (l : List Sp) (h : ∀ s ∈ l, s.right = true) : Upto l [] (-1) :=
  ⟨⟨fun o ho => (by cases ho), List.Pairwise.nil⟩, fun o ho => (by cases ho), fun s hs ha => (by have := right_lt (h s hs); omega), fun t => ⟨fun h => (by cases h), fun ⟨s, hs, h1, h2⟩ => (by have := right_lt (h s hs); omega)⟩⟩
/-- one more: it begins behind, nothing begins before it that is not done; all that begins in it ends in it; each of its seconds is some span's -/
theorem Upto.step {l out : List Sp} {e : Int} {s : Sp} (h : Upto l out e) (hs : s.right = true) (h1 : e < s.a) (h2 : ∀ x ∈ l, e < x.a → s.a ≤ x.a) (h3 : ∀ x ∈ l, s.a ≤ x.a → x.a ≤ s.b → x.b ≤ s.b)
    (h4 : ∀ t, s.a ≤ t → t < s.b → ∃ x ∈ l, s.a ≤ x.a ∧ x.a ≤ s.b ∧ x.a ≤ t ∧ t < x.b) : Upto l (out ++ [s]) s.b := by
  have hl := right_lt hs
  refine ⟨⟨fun o ho => ?_, List.pairwise_append.2 ⟨h.good.apart, by simp, fun u hu v hv => ?_⟩⟩, fun o ho => ?_, fun x hx hxa => ?_, fun t => ?_⟩
  · rcases List.mem_append.1 ho with ho | ho
    · exact h.good.right o ho
    · simp only [List.mem_singleton] at ho; subst ho; exact hs
  · simp only [List.mem_singleton] at hv
    subst hv
    have := h.ends u hu
    omega
  · rcases List.mem_append.1 ho with ho | ho
    · have := h.ends o ho; omega
    · simp only [List.mem_singleton] at ho; subst ho; exact Int.le_refl _
  · by_cases g : x.a ≤ e
    · have := h.done x hx g; omega
    · exact h3 x hx (h2 x hx (by omega)) hxa
  · have happ : hasL (out ++ [s]) t = (hasL out t || (decide (s.a ≤ t) && decide (t < s.b))) := by simp [hasL]
    rw [happ, Bool.or_eq_true, h.has t]
    simp only [Bool.and_eq_true, decide_eq_true_eq]
    constructor
    · rintro (⟨x, hx, a1, a2, a3⟩ | ⟨a1, a2⟩)
      · exact ⟨x, hx, by omega, a2, a3⟩
      · obtain ⟨x, hx, b1, b2, b3, b4⟩ := h4 t a1 a2
        exact ⟨x, hx, b2, b3, b4⟩
    · rintro ⟨x, hx, a1, a2, a3⟩
      by_cases g : x.a ≤ e
      · exact .inl ⟨x, hx, g, a2, a3⟩
      · have k1 := h2 x hx (by omega)
        have k2 := h3 x hx k1 a1
        exact .inr ⟨by omega, by omega⟩
/-- all done: it is what Join answers -/
theorem Upto.all {l out L : List Sp} {e : Int} (h : Upto l out e) (ha : ∀ s ∈ l, s.a ≤ e) (hb : l.any bad = false) (hJ : JoinIs l L) : out = L := by
  obtain ⟨g, k⟩ := join_good hb hJ
  refine good_eq out L h.good g (fun t => ?_)
  rw [k t, Bool.eq_iff_iff, h.has t, has_iff]
  constructor
  · rintro ⟨s, hs, _, h1, h2⟩; exact ⟨s, hs, h1, h2⟩
  · rintro ⟨s, hs, h1, h2⟩; exact ⟨s, hs, ha s hs, h1, h2⟩
end Go.Proofs.Ytdiahfebiafodaa
