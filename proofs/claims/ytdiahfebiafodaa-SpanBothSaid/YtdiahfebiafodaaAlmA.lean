/- AlmanacAll's plain law and walk. No statement of the seat is proved here. -/
import Derived.Test.YtdiahfebiafodaaAlmZ
namespace Go.Proofs.Ytdiahfebiafodaa
set_option linter.unusedVariables false
set_option linter.unusedSimpArgs false
set_option linter.unusedSectionVars false
open Go Go.RowKit Go.Shelf

/-- how long spans are together -/
def lenL : List Sp → Int
  | [] => 0
  | s :: l => (s.b - s.a) + lenL l
theorem lenL_append (l m : List Sp) : lenL (l ++ m) = lenL l + lenL m := by
  induction l with
  | nil => simp [lenL]
  | cons s l ih => simp only [List.cons_append, lenL, ih]; omega
theorem lenL_nonneg (l : List Sp) (h : ∀ s ∈ l, s.a ≤ s.b) : 0 ≤ lenL l := by
  induction l with
  | nil => simp [lenL]
  | cons s l ih =>
    have h1 := h s (by simp)
    have h2 := ih (fun s hs => h s (by simp [hs]))
    simp only [lenL]; omega
theorem sumL_len (l : List Sp) : ∀ n, 0 ≤ n → (∀ s ∈ l, s.a ≤ s.b) → n + lenL l ≤ 4611686018427387904 → sumL (fun x y => IntKind.i64.wrap (y - x)) l n = n + lenL l := by
  induction l with
  | nil => intro n _ _ _; simp [sumL, lenL]
  | cons s l ih =>
    intro n h0 h1 h2
    have h3 := h1 s (by simp)
    have h4 := lenL_nonneg l (fun s hs => h1 s (by simp [hs]))
    simp only [lenL] at h2
    unfold sumL
    have e1 : IntKind.i64.wrap (s.b - s.a) = s.b - s.a := IntWalk.i64_in _ (by omega)
    simp only [e1]
    have e2 : IntKind.i64.wrap (n + (s.b - s.a)) = n + (s.b - s.a) := IntWalk.i64_in _ (by omega)
    rw [e2, ih _ (by omega) (fun s hs => h1 s (by simp [hs])) (by omega)]
    simp only [lenL]; omega
theorem chain_after (l : List Sp) : ∀ e, chain e l = true → ∀ x ∈ l, e ≤ x.a ∧ x.a < x.b := by
  induction l with
  | nil => intro e _ x hx; cases hx
  | cons s l ih =>
    intro e h x hx
    unfold chain at h
    simp only [Bool.and_eq_true, decide_eq_true_eq] at h
    obtain ⟨⟨h1, h2⟩, h3⟩ := h
    have h4 := right_lt h1
    rcases List.mem_cons.1 hx with rfl | hx
    · exact ⟨h2, h4.1⟩
    · have := ih s.b h3 x hx
      exact ⟨by omega, this.2⟩
theorem parts_cons (s : Sp) (l : List Sp) (f t : Int) : parts (s :: l) f t = (if (s.part f t).full then [s.part f t] else []) ++ parts l f t := by
  unfold parts
  simp only [List.map_cons, List.filter_cons]
  split <;> simp
theorem parts_le (l : List Sp) (f t : Int) : ∀ s ∈ parts l f t, s.a ≤ s.b := by
  intro s hs
  unfold parts at hs
  have := (List.mem_filter.1 hs).2
  unfold Sp.full at this
  simp only [decide_eq_true_eq] at this
  omega
theorem parts_shift (l : List Sp) (f f' t : Int) (h : ∀ x ∈ l, f ≤ x.a ∧ f' ≤ x.a) : parts l f t = parts l f' t := by
  induction l with
  | nil => rfl
  | cons s l ih =>
    have h1 := h s (by simp)
    have e : s.part f t = s.part f' t := by unfold Sp.part; rw [if_neg (show ¬ s.a < f by omega), if_neg (show ¬ s.a < f' by omega)]
    rw [parts_cons, parts_cons, e, ih (fun x hx => h x (by simp [hx]))]
theorem parts_none (l : List Sp) (f t : Int) (h : ∀ x ∈ l, t ≤ x.a ∨ x.b ≤ f) : parts l f t = [] := by
  induction l with
  | nil => rfl
  | cons s l ih =>
    have h1 := h s (by simp)
    have e : (s.part f t).full = false := by
      unfold Sp.part Sp.full
      simp only [decide_eq_false_iff_not]
      split <;> split <;> omega
    rw [parts_cons, e, ih (fun x hx => h x (by simp [hx]))]; rfl
/-- what is free and what is lost is all -/
theorem all_len (l : List Sp) (t : Int) : ∀ e f, chain e l = true → f ≤ t → lenL (parts l f t) + lenL (refF l f t) = t - f := by
  induction l with
  | nil =>
    intro e f _ h
    unfold refF
    by_cases hf : f < t
    · rw [if_pos hf]; simp [parts, lenL]
    · rw [if_neg hf]; simp [parts, lenL]; omega
  | cons s l ih =>
    intro e f hc hft
    have hc2 := hc
    unfold chain at hc2
    simp only [Bool.and_eq_true, decide_eq_true_eq] at hc2
    obtain ⟨⟨h1, h2⟩, h3⟩ := hc2
    obtain ⟨h4, -, -⟩ := right_lt h1
    have hal := chain_after l s.b h3
    rw [parts_cons]
    by_cases hsb : s.b ≤ f
    · have e1 : (s.part f t).full = false := by
        unfold Sp.part Sp.full
        simp only [decide_eq_false_iff_not]
        split <;> split <;> omega
      rw [e1, refF_skip s l f t h4 hsb]
      simpa using ih s.b f h3 hft
    · rw [refF, if_pos (show f < s.b by omega)]
      have hp : lenL (if (s.part f t).full then [s.part f t] else []) = (if (if s.a < f then f else s.a) < (if t < s.b then t else s.b) then (if t < s.b then t else s.b) - (if s.a < f then f else s.a) else 0) := by
        unfold Sp.full Sp.part
        simp only [decide_eq_true_eq]
        generalize (if s.a < f then f else s.a) = A
        generalize (if t < s.b then t else s.b) = B
        by_cases h : A < B
        · rw [if_pos h, if_pos h]; simp [lenL]
        · rw [if_neg h, if_neg h]; rfl
      have hh : lenL (if f < s.a ∧ f < t then [(⟨f, if t < s.a then t else s.a⟩ : Sp)] else []) = (if f < s.a ∧ f < t then (if t < s.a then t else s.a) - f else 0) := by
        by_cases h : f < s.a ∧ f < t
        · rw [if_pos h, if_pos h]; simp [lenL]
        · rw [if_neg h, if_neg h]; rfl
      rw [lenL_append, lenL_append, hp, hh]
      by_cases hbt : s.b ≤ t
      · have e3 : parts l f t = parts l s.b t := parts_shift l f s.b t (fun x hx => by have := hal x hx; exact ⟨by omega, this.1⟩)
        have hi := ih s.b s.b h3 hbt
        rw [e3, if_neg (show ¬ t < s.b by omega)]
        by_cases hfa : f < s.a
        · rw [if_neg (show ¬ s.a < f by omega), if_pos h4, if_pos (⟨hfa, by omega⟩ : f < s.a ∧ f < t), if_neg (show ¬ t < s.a by omega)]; omega
        · rw [if_neg (show ¬ (f < s.a ∧ f < t) by omega)]
          by_cases hs : s.a < f
          · rw [if_pos hs, if_pos (show f < s.b by omega)]; omega
          · rw [if_neg hs, if_pos h4]; omega
      · have e3 : parts l f t = [] := parts_none l f t (fun x hx => by have := hal x hx; exact .inl (by omega))
        rw [e3, refF_done l s.b t (by omega), if_pos (show t < s.b by omega)]
        simp only [lenL]
        by_cases hfa : f < s.a
        · rw [if_neg (show ¬ s.a < f by omega)]
          by_cases hat : s.a < t
          · rw [if_pos hat, if_pos (⟨hfa, by omega⟩ : f < s.a ∧ f < t), if_neg (show ¬ t < s.a by omega)]; omega
          · rw [if_neg hat]
            by_cases hlt : f < t
            · rw [if_pos (⟨hfa, hlt⟩ : f < s.a ∧ f < t)]
              by_cases hta : t < s.a
              · rw [if_pos hta]; omega
              · rw [if_neg hta]; omega
            · rw [if_neg (show ¬ (f < s.a ∧ f < t) by omega)]; omega
        · rw [if_neg (show ¬ (f < s.a ∧ f < t) by omega)]
          by_cases hs : s.a < f
          · rw [if_pos hs]
            by_cases hlt : f < t
            · rw [if_pos hlt]; omega
            · rw [if_neg hlt]; omega
          · rw [if_neg hs]
            by_cases hlt : s.a < t
            · rw [if_pos hlt]; omega
            · rw [if_neg hlt]; omega
/-- each free span: where it lies -/
theorem free_at (l : List Sp) (t : Int) : ∀ e f, chain e l = true → ∀ o ∈ refF l f t, f ≤ o.a ∧ o.a < o.b ∧ o.b ≤ t ∧ ∀ x ∈ l, x.b ≤ o.a ∨ o.b ≤ x.a := by
  induction l with
  | nil =>
    intro e f _ o ho
    unfold refF at ho
    split at ho
    · rename_i h
      simp only [List.mem_singleton] at ho
      subst ho
      exact ⟨Int.le_refl _, h, Int.le_refl _, fun x hx => by cases hx⟩
    · cases ho
  | cons s l ih =>
    intro e f hc o ho
    have hc2 := hc
    unfold chain at hc2
    simp only [Bool.and_eq_true, decide_eq_true_eq] at hc2
    obtain ⟨⟨h1, h2⟩, h3⟩ := hc2
    obtain ⟨h4, -, -⟩ := right_lt h1
    have hal := chain_after l s.b h3
    rw [refF] at ho
    rcases List.mem_append.1 ho with ho | ho
    · split at ho
      · rename_i h
        simp only [List.mem_singleton] at ho
        subst ho
        refine ⟨Int.le_refl _, ?_, ?_, ?_⟩
        · simp only; split <;> omega
        · simp only; split <;> omega
        · intro x hx
          right
          have hb : (if t < s.a then t else s.a) ≤ s.a := by split <;> omega
          rcases List.mem_cons.1 hx with rfl | hx
          · exact hb
          · have := hal x hx
            simp only; omega
      · cases ho
    · obtain ⟨a1, a2, a3, a4⟩ := ih s.b _ h3 o ho
      have hf : f ≤ (if f < s.b then s.b else f) ∧ s.b ≤ (if f < s.b then s.b else f) := by constructor <;> split <;> omega
      refine ⟨by omega, a2, a3, fun x hx => ?_⟩
      rcases List.mem_cons.1 hx with rfl | hx
      · left; omega
      · exact a4 x hx
theorem has_none (l : List Sp) (p a b : Int) (h : ∀ x ∈ l, x.b ≤ a ∨ b ≤ x.a) (h1 : a ≤ p) (h2 : p < b) : hasL l p = false := by
  unfold hasL
  rw [List.any_eq_false]
  intro x hx
  have := h x hx
  simp only [Bool.and_eq_true, decide_eq_true_eq]
  omega

theorem dist_any (x y : Int) (W : World) : Calls Try.prog 25 #[.int .i64 x, .int .i64 y] W fun e W' => e = .returned (.int .i64 (IntKind.i64.wrap (y - x))) ∧ Below W.heap.size W W' := by
  go_enter Try.func25, Try.ntmps25
  go_wp2
  go_ret
  exact ⟨by first | rfl | (simp only [IntWalk.i64_left]; rfl), Below.refl _ _⟩

set_option maxRecDepth 10000 in
set_option maxHeartbeats 1000000 in
theorem almanacAll_walk (ao : Option Addr) (cap : Nat) (l : List Sp) (f t : Int) (w : World) (hs : Sps w ao cap l) (hok : SpOk l) (f0 : -9223372036854775808 ≤ f) (f1 : f ≤ 9223372036854775807) (t0 : -9223372036854775808 ≤ t) (t1 : t ≤ 9223372036854775807) :
    Calls Try.prog 5 #[.slice ao l.length cap, .int .i64 f, .int .i64 t] w fun e w' => e = .returned (.bool true) ∧ Below w.heap.size w w' := by
  have hm := hs.max
  have hle := hs.le
  unfold maxLen at hm
  by_cases hl : 100 < l.length
  · go_enter Try.func5, Try.ntmps5
    go_wp2_with fail
    refine (lives9_any _).mono ?_
    rintro e w1 ⟨rfl, hb1⟩
    go_wp2_with fail
    go_ret
    exact ⟨rfl, hb1⟩
  have hrow := refRow_any ao cap l w hs
  by_cases h0 : rowErr l = 0
  · rw [h0] at hrow
    by_cases hf : f < 0
    · go_enter Try.func5, Try.ntmps5
      go_wp2_with fail
      refine hrow.mono ?_
      rintro e w1 ⟨rfl, hb1⟩
      go_wp2_with fail
      refine (lives9_any _).mono ?_
      rintro e w2 ⟨rfl, hb2⟩
      go_wp2_with fail
      go_ret
      exact ⟨rfl, below_on hb1 hb2 (Nat.le_refl _)⟩
    by_cases ht : 1125899906842624 < t
    · go_enter Try.func5, Try.ntmps5
      go_wp2_with fail
      refine hrow.mono ?_
      rintro e w1 ⟨rfl, hb1⟩
      go_wp2_with fail
      refine (lives9_any _).mono ?_
      rintro e w2 ⟨rfl, hb2⟩
      go_wp2_with fail
      go_ret
      exact ⟨rfl, below_on hb1 hb2 (Nat.le_refl _)⟩
    by_cases hft : t < f
    · go_enter Try.func5, Try.ntmps5
      go_wp2_with fail
      refine hrow.mono ?_
      rintro e w1 ⟨rfl, hb1⟩
      go_wp2_with fail
      refine (lives9_any _).mono ?_
      rintro e w2 ⟨rfl, hb2⟩
      go_wp2_with fail
      go_ret
      exact ⟨rfl, below_on hb1 hb2 (Nat.le_refl _)⟩
    obtain ⟨hch, hlen⟩ := row_chain h0
    have hlof : lo0 f = f := by unfold lo0; rw [if_neg hf]
    have hhit : hi0 t = t := by unfold hi0; rw [if_neg ht]
    have hall := all_len l t 0 f hch (by omega)
    have hfa := free_at l t 0 f hch
    have hmle : ∀ o ∈ refF l f t, o.a ≤ o.b := fun o ho => by have := (hfa o ho).2.1; omega
    have hml := refF_len l f t
    have hsum : sumL (fun x y => IntKind.i64.wrap (y - x)) (cutL l f t) 0 = lenL (parts l f t) := by
      unfold cutL
      rw [if_pos h0, sumL_len _ 0 (by omega) (parts_le l f t) (by have := lenL_nonneg _ hmle; omega)]; omega
    have hp0 := lenL_nonneg _ (parts_le l f t)
    have hclo : ∀ o ∈ refF l f t, ∀ p, o.a ≤ p → p < o.b → closedL l p = false := by
      intro o ho p p1 p2
      rw [closed_has l p 0 hch]
      exact has_none l p o.a o.b (hfa o ho).2.2.2 p1 p2
    have hwi : ∀ o ∈ refF l f t, withinK (cutL l o.a o.b) 0 = 0 := by
      intro o ho
      unfold cutL
      rw [if_pos h0, parts_none l o.a o.b (fun x hx => by have := (hfa o ho).2.2.2 x hx; omega)]; rfl
    have hfree := fun w' pa (h : Alm w' (.pointer pa) l) => free_any pa f t l w' h0 h
    unfold freeL at hfree
    rw [hlof, hhit] at hfree
    have hlost := fun w' v (hv : Alm w' v l) => lost_any 25 #[] (fun x y => IntKind.i64.wrap (y - x)) (enters_of Try.func25 (by kernel_rfl) rfl) v l f t w' (by omega) hv (fun W x y _ => by simpa using dist_any x y W)
    rw [hsum] at hlost
    have hnew := fun w' (h : Sps w' ao cap l) => new_any ao cap l w' h
    have hcl := fun v p w' (h : Alm w' v l) => closed_any v l p w' (by omega) h
    have hwt := fun a b w' (h : Sps w' ao cap l) => refWithin_any ao cap l a b w' (by omega) h
    have hbd : ∀ o ∈ refF l f t, 0 ≤ o.a ∧ o.a < o.b ∧ o.b ≤ 1125899906842624 := fun o ho => by have := hfa o ho; omega
    obtain ⟨m, hm2⟩ : ∃ m, m = refF l f t := ⟨_, rfl⟩
    obtain ⟨n0, hn0⟩ : ∃ n, n = lenL (parts l f t) := ⟨_, rfl⟩
    rw [← hm2] at hall hmle hml hclo hwi hfree hbd
    rw [← hn0] at hall hlost hp0
    have Hall := Lib.hid hall
    clear hm2 hn0 hfa hsum hch hlof hhit hall
    go_enter Try.func5, Try.ntmps5
    go_wp2_with fail
    refine hrow.mono ?_
    rintro e w1 ⟨rfl, hb1⟩
    have hs1 := hs.below hb1
    go_wp2_with fail
    refine (hnew w1 hs1).mono ?_
    rintro e w2 ⟨⟨v, rfl, hv, -⟩, hb2⟩
    obtain ⟨hA, g, rfl⟩ := hv h0
    have hs2 := hs1.below hb2
    have B2 := below_on hb1 hb2 (Nat.le_refl _)
    rw [h0]
    clear hv h0 hrow hnew
    go_wp2_with fail
    refine (hfree w2 _ hA).mono ?_
    rintro e w3 ⟨⟨ao3, cap3, rfl, hs3⟩, hb3⟩
    have hsl := hs2.below hb3
    have hA3 := hA.below hb3
    have B3 := below_on B2 hb3 (Nat.le_refl _)
    go_wp2_with fail
    refine (hlost w3 _ hA3).mono ?_
    rintro e w4 ⟨rfl, hb4⟩
    have hsl4 := hsl.below hb4
    have hA4 := hA3.below hb4
    have hs4 := hs3.below hb4
    have B4 := below_on B3 hb4 (Nat.le_refl _)
    clear hfree hlost hs hs1 hs2 hs3 hsl hA hA3
    go_wp2_with fail
    go_loopw [11, 56] (fun v u wr => ∃ (i : Nat) (n : Int), v = .int .i64 n ∧ u = .int .i64 i ∧ i ≤ m.length ∧ 0 ≤ n ∧ Hid (n + lenL (m.drop i) = t - f) ∧ Below w4.heap.size w4 wr) (fun v u _ => m.length - (intOf u).toNat)
    case atStart => exact ⟨0, n0, rfl, rfl, Nat.zero_le _, hp0, Hall, Below.refl _ _⟩
    case round =>
      obtain ⟨i, n, rfl, rfl, hi, hn, hri, hb⟩ := hrel
      by_cases hlt : i < m.length
      · obtain ⟨b, off, rfl, c0, c1⟩ := (hs4.below hb).get i hlt
        have hmem : m[i] ∈ m := List.getElem_mem hlt
        have hdr : m.drop i = m[i] :: m.drop (i + 1) := List.drop_eq_getElem_cons hlt
        have hln := hri.out
        have hrest := lenL_nonneg (m.drop (i + 1)) (fun o ho => hmle o (List.mem_of_mem_drop ho))
        obtain ⟨s, hsd⟩ : ∃ s, s = m[i] := ⟨_, rfl⟩
        rw [hdr, ← hsd, lenL] at hln
        rw [← hsd] at c0 c1 hmem
        have hbds := hbd s hmem
        have hca := hclo s hmem s.a (Int.le_refl _) hbds.2.1
        have hcb := hclo s hmem (s.b - 1) (by omega) (by omega)
        have hws := hwi s hmem
        clear hmem hdr hsd
        obtain ⟨x, y⟩ := s
        simp only at c0 c1 hln hbds hca hcb hws
        have hc1 := fun w' (h : Alm w' (.pointer (some ⟨g, 0, none⟩)) l) => hcl _ x w' h
        have hc2 := fun w' (h : Alm w' (.pointer (some ⟨g, 0, none⟩)) l) => hcl _ (y - 1) w' h
        have hw1 := fun w' (h : Sps w' ao cap l) => hwt x y w' h
        rw [hca] at hc1
        rw [hcb] at hc2
        rw [hws] at hw1
        have e1 : IntKind.i64.wrap (y - 1) = y - 1 := IntWalk.i64_in _ (by omega)
        have e2 : IntKind.i64.wrap (y - x) = y - x := IntWalk.i64_in _ (by omega)
        have e3 : IntKind.i64.wrap (n + (y - x)) = n + (y - x) := IntWalk.i64_in _ (by omega)
        have hA5 := (hA4.below hb).below (below_new wr (.cells #[.int .i64 x, .int .i64 y] 30))
        have hs5 := (hsl4.below hb).below (below_new wr (.cells #[.int .i64 x, .int .i64 y] 30))
        have B5 := below_on hb (below_new wr (.cells #[.int .i64 x, .int .i64 y] 30)) (Nat.le_refl _)
        have k0 : (wr.alloc (.cells #[.int .i64 x, .int .i64 y] 30)).cell? ⟨wr.heap.size, 0, none⟩ = some (.int .i64 x) := by rw [cell?_new]; rfl
        have k1 : (wr.alloc (.cells #[.int .i64 x, .int .i64 y] 30)).cell? ⟨wr.heap.size, 1, none⟩ = some (.int .i64 y) := by rw [cell?_new]; rfl
        have Hln := Lib.hid hln
        clear hca hcb hws hcl hwt hclo hwi hbd hln hri
        go_wp2_with fail
        refine (hc1 _ hA5).mono ?_
        rintro e w5 ⟨rfl, hb5⟩
        have k0 := (hb5.cell (cell?_lt k0)).trans k0
        have k1 := (hb5.cell (cell?_lt k1)).trans k1
        go_wp2_with fail
        refine (hc2 _ (hA5.below hb5)).mono ?_
        rintro e w6 ⟨rfl, hb6⟩
        have k0 := (hb6.cell (cell?_lt k0)).trans k0
        have k1 := (hb6.cell (cell?_lt k1)).trans k1
        go_wp2_with fail
        refine (hw1 _ ((hs5.below hb5).below hb6)).mono ?_
        rintro e w7 ⟨rfl, hb7⟩
        have k0 := (hb7.cell (cell?_lt k0)).trans k0
        have k1 := (hb7.cell (cell?_lt k1)).trans k1
        go_wp2_with fail
        go_roundw
        case rel => exact ⟨i + 1, n + (y - x), rfl, by simp, by omega, by omega, (by show n + (y - x) + lenL (m.drop (i + 1)) = t - f; rw [← Hln.out]; omega), below_on (below_on (below_on B5 hb5 (Nat.le_refl _)) hb6 (Nat.le_refl _)) hb7 (Nat.le_refl _)⟩
        case measure => simp [intOf]; omega
      · have hi' : i = m.length := by omega
        subst hi'
        have hnt : n = t - f := by have := hri.out; rw [List.drop_length] at this; simpa [lenL] using this
        have e1 : IntKind.i64.wrap (t - f) = t - f := IntWalk.i64_in _ (by omega)
        go_wp2_with fail
        refine (lives9_any _).mono ?_
        rintro e w9 ⟨rfl, hb9⟩
        go_wp2_with fail
        go_ret
        exact ⟨rfl, below_on (below_on B4 hb (Nat.le_refl _)) hb9 (Nat.le_refl _)⟩
  · obtain ⟨er, her⟩ : ∃ er, er = rowErr l := ⟨_, rfl⟩
    rw [← her] at hrow h0
    have h1 : (((er : Nat) : Int) != 0) = true := by simp; omega
    clear her
    go_enter Try.func5, Try.ntmps5
    go_wp2_with fail
    refine hrow.mono ?_
    rintro e w1 ⟨rfl, hb1⟩
    go_wp2_with fail
    refine (lives9_any _).mono ?_
    rintro e w2 ⟨rfl, hb2⟩
    go_wp2_with fail
    go_ret
    exact ⟨rfl, below_on hb1 hb2 (Nat.le_refl _)⟩
end Go.Proofs.Ytdiahfebiafodaa
