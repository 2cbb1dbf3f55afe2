/- Contract of the reference's Free. No statement of the seat is proved here. -/
import Derived.Test.YtdiahfebiafodaaAlmX
namespace Go.Proofs.Ytdiahfebiafodaa
set_option linter.unusedVariables false
set_option linter.unusedSimpArgs false
set_option linter.unusedSectionVars false
open Go Go.RowKit Go.Shelf

theorem chain_right (l : List Sp) : ∀ e, chain e l = true → ∀ i (hi : i < l.length), l[i].a < l[i].b := by
  induction l with
  | nil => intro e _ i hi; simp at hi
  | cons s l ih =>
    intro e h i hi
    unfold chain at h
    simp only [Bool.and_eq_true, decide_eq_true_eq] at h
    obtain ⟨⟨h1, h2⟩, h3⟩ := h
    cases i with
    | zero => exact (right_lt h1).1
    | succ i => exact ih s.b h3 i (by simpa using hi)
theorem refF_at (l : List Sp) (i : Nat) (hi : i < l.length) (f t : Int) : refF (l.drop i) f t = (if f < l[i].a ∧ f < t then [⟨f, if t < l[i].a then t else l[i].a⟩] else []) ++ refF (l.drop (i + 1)) (if f < l[i].b then l[i].b else f) t := by
  rw [List.drop_eq_getElem_cons hi]; rfl

set_option maxHeartbeats 2000000 in
theorem refFree_any (ao : Option Addr) (cap : Nat) (l : List Sp) (f t : Int) (w : World) (h0 : rowErr l = 0) (hs : Sps w ao cap l) :
    Calls Try.prog 23 #[.slice ao l.length cap, .int .i64 f, .int .i64 t] w fun e w' => (∃ ao' cap', e = .returned (.slice ao' (freeL l f t).length cap') ∧ Sps w' ao' cap' (freeL l f t)) ∧ Below w.heap.size w w' := by
  obtain ⟨hch, hlen⟩ := row_chain h0
  have hrt := chain_right l 0 hch
  obtain ⟨L, hL⟩ : ∃ L, L = freeL l f t := ⟨_, rfl⟩
  rw [← hL]
  obtain ⟨lo, hlo⟩ : ∃ lo, lo = lo0 f := ⟨_, rfl⟩
  obtain ⟨hi, hhi⟩ : ∃ hi, hi = hi0 t := ⟨_, rfl⟩
  unfold freeL at hL
  rw [← hlo, ← hhi] at hL
  have HL := Lib.hid hL
  have Hlo := Lib.hid hlo
  have Hhi := Lib.hid hhi
  clear hL hlo hhi hch h0
  go_enter Try.func23, Try.ntmps23
  go_upto_if 11 with fail
  go_cut [1] (fun v wx => v = .int .i64 lo ∧ wx = w)
  case first =>
    by_cases hf : f < 0
    · go_wp2_with fail
      go_meet
      exact ⟨by rw [Hlo.out]; unfold lo0; rw [if_pos hf], rfl⟩
    · go_wp2_with fail
      go_meet
      exact ⟨by rw [Hlo.out]; unfold lo0; rw [if_neg (by omega)], rfl⟩
  case rest =>
    obtain ⟨rfl, rfl⟩ := hcut
    go_upto_if 13 with fail
    go_cut [2] (fun v wx => v = .int .i64 hi ∧ wx = wc)
    case first =>
      by_cases hf : 1125899906842624 < t
      · go_wp2_with fail
        go_meet
        exact ⟨by rw [Hhi.out]; unfold hi0; rw [if_pos hf], rfl⟩
      · go_wp2_with fail
        go_meet
        exact ⟨by rw [Hhi.out]; unfold hi0; rw [if_neg (by omega)], rfl⟩
    case rest =>
      obtain ⟨rfl, rfl⟩ := hcut
      go_wp2_with fail
      go_loopw [1, 7, 8] (fun v o u wr => ∃ (i : Nat) (fx : Int) (out : List Sp), v = .int .i64 fx ∧ u = .int .i64 i ∧ i ≤ l.length ∧ out.length ≤ i ∧ Hid (L = out ++ refF (l.drop i) fx hi) ∧ wr.ownsRow wc.heap.size 30 2 o out.length (out.map spCells).flatten ∧ Below wc.heap.size wc wr)
        (fun v o u _ => l.length - (intOf u).toNat)
      case atStart => exact ⟨0, lo, [], rfl, rfl, Nat.zero_le _, Nat.le_refl _, HL, own_nil _ _ _ _, Below.refl _ _⟩
      case round =>
        obtain ⟨i, fx, out, rfl, rfl, hi1, ho, hri, hown, hb⟩ := hrel
        obtain ⟨oa, oc, rfl⟩ := own_slice hown
        have hz := hb.size
        by_cases hlt : i < l.length
        · have hxy := hrt i hlt
          obtain ⟨b, off, rfl, c0, c1⟩ := (hs.below hb).get i hlt
          obtain ⟨b', off', e', -, c1w⟩ := hs.get i hlt
          simp only [Option.some.injEq, Addr.mk.injEq] at e'
          obtain ⟨rfl, rfl, -⟩ := e'
          have Hst := Lib.hid (refF_at l i hlt fx hi)
          obtain ⟨s, hsd⟩ : ∃ s, s = l[i] := ⟨_, rfl⟩
          rw [← hsd] at c0 c1 c1w Hst hxy
          clear hsd
          obtain ⟨x, y⟩ := s
          simp only at c0 c1 c1w Hst hxy
          have hk1 := fun w' (h : Below wc.heap.size wc w') => (h.cell (cell?_lt c1w)).trans c1w
          clear c1w
          have hbs := hb
          by_cases hfx : fx < x
          · by_cases hft : fx < hi
            · by_cases hix : hi < x
              · have hfy : fx < y := by omega
                have hEq : Hid (refF (l.drop i) fx hi = [⟨fx, hi⟩] ++ refF (l.drop (i + 1)) y hi) := by show refF (l.drop i) fx hi = _; rw [Hst.out, if_pos ⟨hfx, hft⟩, if_pos hix, if_pos hfy]
                clear Hst
                go_wp2_with (at_builtin; refine wpl_append_one rfl (.tmp 41) (.tmp 45) 22 rfl wc.heap.size 30 infoSp Try.underlying22 rfl (by decide) _ out.length (out.map spCells) rfl (hown.alloc _) _ 1 (spCells ⟨fx, hi⟩) rfl rfl (news_at _ rfl) (sp_one _) ?_ ?_ ?_ ?_; omega; (unfold maxLen; omega); (simp; omega); intro g c3 w3 hown3 hg3 hlie; have hc3 := (below_app (hbs.alloc hbs.size _) hg3 (hown.alloc _) (Nat.le_refl _) (by simp; omega)); have k1 := (hk1 w3 hc3))
                go_roundw
                case rel =>
                  refine ⟨i + 1, y, out ++ [⟨fx, hi⟩], rfl, by simp, by omega, by simp; omega, ?_, by simpa using hown3, hc3⟩
                  show L = _
                  rw [hri.out, hEq.out]; simp
                case measure => simp [intOf]; omega
              · have hfy : fx < y := by omega
                have hEq : Hid (refF (l.drop i) fx hi = [⟨fx, x⟩] ++ refF (l.drop (i + 1)) y hi) := by show refF (l.drop i) fx hi = _; rw [Hst.out, if_pos ⟨hfx, hft⟩, if_neg hix, if_pos hfy]
                clear Hst
                go_wp2_with (at_builtin; refine wpl_append_one rfl (.tmp 41) (.tmp 45) 22 rfl wc.heap.size 30 infoSp Try.underlying22 rfl (by decide) _ out.length (out.map spCells) rfl (hown.alloc _) _ 1 (spCells ⟨fx, x⟩) rfl rfl (news_at _ rfl) (sp_one _) ?_ ?_ ?_ ?_; omega; (unfold maxLen; omega); (simp; omega); intro g c3 w3 hown3 hg3 hlie; have hc3 := (below_app (hbs.alloc hbs.size _) hg3 (hown.alloc _) (Nat.le_refl _) (by simp; omega)); have k1 := (hk1 w3 hc3))
                go_roundw
                case rel =>
                  refine ⟨i + 1, y, out ++ [⟨fx, x⟩], rfl, by simp, by omega, by simp; omega, ?_, by simpa using hown3, hc3⟩
                  show L = _
                  rw [hri.out, hEq.out]; simp
                case measure => simp [intOf]; omega
            · have hfy : fx < y := by omega
              have hEq : Hid (refF (l.drop i) fx hi = refF (l.drop (i + 1)) y hi) := by show refF (l.drop i) fx hi = _; rw [Hst.out, if_neg (by omega), if_pos hfy]; rfl
              clear Hst
              have k1 := c1
              go_wp2_with fail
              go_roundw
              case rel => exact ⟨i + 1, y, out, rfl, by simp, by omega, by omega, (by show L = _; rw [hri.out, hEq.out]), hown, hb⟩
              case measure => simp [intOf]; omega
          · by_cases hfy : fx < y
            · have hEq : Hid (refF (l.drop i) fx hi = refF (l.drop (i + 1)) y hi) := by show refF (l.drop i) fx hi = _; rw [Hst.out, if_neg (by omega), if_pos hfy]; rfl
              clear Hst
              have k1 := c1
              go_wp2_with fail
              go_roundw
              case rel => exact ⟨i + 1, y, out, rfl, by simp, by omega, by omega, (by show L = _; rw [hri.out, hEq.out]), hown, hb⟩
              case measure => simp [intOf]; omega
            · have hEq : Hid (refF (l.drop i) fx hi = refF (l.drop (i + 1)) fx hi) := by show refF (l.drop i) fx hi = _; rw [Hst.out, if_neg (by omega), if_neg hfy]; rfl
              clear Hst
              have k1 := c1
              go_wp2_with fail
              go_roundw
              case rel => exact ⟨i + 1, fx, out, rfl, by simp, by omega, by omega, (by show L = _; rw [hri.out, hEq.out]), hown, hb⟩
              case measure => simp [intOf]; omega
        · have hi' : i = l.length := by omega
          subst hi'
          rw [List.drop_length] at hri
          by_cases hft : fx < hi
          · have he : L = out ++ [⟨fx, hi⟩] := by rw [hri.out, refF, if_pos hft]
            go_wp2_with (at_builtin; refine wpl_append_one rfl (.tmp 62) (.tmp 66) 22 rfl wc.heap.size 30 infoSp Try.underlying22 rfl (by decide) _ out.length (out.map spCells) rfl (hown.alloc _) _ 1 (spCells ⟨fx, hi⟩) rfl rfl (news_at _ rfl) (sp_one _) ?_ ?_ ?_ ?_; omega; (unfold maxLen; omega); (simp; omega); intro g c3 w3 hown3 hg3 hlie; have hc3 := (below_app (hb.alloc hb.size _) hg3 (hown.alloc _) (Nat.le_refl _) (by simp; omega)))
            go_ret
            refine ⟨⟨some ⟨g, 0, none⟩, c3, ?_, ?_⟩, hc3⟩
            rotate_left
            · rw [he]
              refine Sps.of_own (base := wc.heap.size) (e := 30) (ao := some ⟨g, 0, none⟩) ?_
              simpa using hown3
            · rw [he]; simp
          · have he : L = out := by rw [hri.out, refF, if_neg hft]; simp
            go_wp2_with fail
            go_ret
            exact ⟨⟨oa, oc, by first | rfl | (rw [he]; rfl), by first | exact Sps.of_own hown | (rw [he]; exact Sps.of_own hown)⟩, hb⟩
end Go.Proofs.Ytdiahfebiafodaa
