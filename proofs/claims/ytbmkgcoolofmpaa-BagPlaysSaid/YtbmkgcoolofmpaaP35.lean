/- Lemmas for BagPlays (BagPlays). No statement of the seat is proved here. -/
import Derived.Test.YtbmkgcoolofmpaaP34
namespace Go.Proofs.Ytbmkgcoolofmpaa
set_option linter.unusedVariables false
set_option linter.unusedSimpArgs false
set_option linter.unusedSectionVars false
open Go Go.RowKit Go.Maps Go.Shelf
/-- both bags, the document's in its box -/
def BSt (Wb : World) (b room p : Nat) (W : World) : Prop := ∃ F A aA cA X lo lc, Pr Wb W F b room A aA cA X lo lc ∧ (∀ a ∈ A, KeyOk a) ∧ W.heap[p]? = some (.cells #[.int .i64 (room : Nat), .slice aA A.length cA, .slice lo X.length lc] rbT (0, 0)) ∧ ¬ F p ∧ Wb.heap.size ≤ p
theorem rbT_u8 : rbT ≠ u8T := by decide
theorem rbT_rm : rbT ≠ rmT := by decide
theorem bst_start {Wb W1 W2 : World} {F : Nat → Prop} {b room p : Nat} (h : Bg Wb.heap.size W1 F b room (fun _ => false) []) (hb : Below Wb.heap.size Wb W2) (h12 : Below W1.heap.size W1 W2) (hp : W1.heap.size ≤ p) (hx : W2.heap[p]? = some (.cells #[.int .i64 (room : Nat), .slice none 0 0, .slice none 0 0] rbT (0, 0))) (hbp : Wb.heap.size ≤ p) : BSt Wb b room p W2 := by
  refine ⟨F, [], none, 0, [], none, 0, ⟨⟨[], ?_, rfl⟩, hb, Iz.nil _ _, ⟨rfl, by simp, (Bs.nil W2 : Sl _ 1 _ _ _ _) |> fun h => ⟨rfl, Nat.le_refl _, h.max, fun _ => rfl, fun j u hu => by simp at hu⟩, fun b off s e => by cases e⟩, by simp⟩, by simp, hx, fun hF => ?_, hbp⟩
  · have e : inL [] = (fun _ => false) := by funext j; simp [inL]
    rw [e]; exact h.below h12
  · exact absurd (h.elem _ hF).1 (Nat.not_lt.2 hp)
theorem BSt.below {Wb W W' : World} {b room p : Nat} (h : BSt Wb b room p W) (hb : Below W.heap.size W W') : BSt Wb b room p W' := by
  obtain ⟨F, A, aA, cA, X, lo, lc, hpr, hA, hx, hF, hW⟩ := h
  exact ⟨F, A, aA, cA, X, lo, lc, hpr.below hb, hA, bx_below hb hx, hF, hW⟩
theorem BSt.low {Wb W : World} {b room p : Nat} (h : BSt Wb b room p W) : Below Wb.heap.size Wb W := by
  obtain ⟨F, A, aA, cA, X, lo, lc, hpr, hA, hx, hF, hW⟩ := h
  exact hpr.low
theorem opok_of {Wb : World} {o : BOp} (h : BOpOk Wb o) (hl : o.ls.length ≤ 40 ∧ LightM o.m) : OpOk Wb o := ⟨⟨h.1, hl.2.2.1, hl.2.2.2.1, h.2.1⟩, h.2.2.1, h.2.2.2, Nat.le_trans hl.1 (by decide)⟩
set_option maxRecDepth 100000 in
set_option maxHeartbeats 8000000 in
theorem bagPlays_walk (x : Int) (ao : Option Addr) (cap : Nat) (l : List BOp) (W : World) (hlo : -9223372036854775808 ≤ x) (hhi : x ≤ 9223372036854775807) (hs : BOps W ao cap l) (hok : ∀ a ∈ l, BOpOk W a) :
    Calls Try.prog 3 #[.int .i64 x, .slice ao l.length cap] W fun e W' => e = .returned (.bool true) ∧ Below W.heap.size W W' := by
  have Hlt := Lib.hid (light36_o W ao cap l hs (fun o ho => (hok o ho).1))
  have Hs := Lib.hid hs
  have Hok := Lib.hid hok
  have hmx : l.length ≤ maxLen := Nat.le_trans hs.le hs.max
  have Hmx := Lib.hid hmx
  clear hs hok hmx hlo hhi
  go_enter Try.func3, Try.ntmps3
  go_wp2_with fail
  refine (show Calls _ _ _ _ _ from Hlt.out).mono ?_
  rintro e W1 ⟨rfl, hb1⟩
  have HB1 := Lib.hid hb1
  clear Hlt hb1
  by_cases hL : LightB l
  rotate_left
  · rw [decide_eq_false hL]
    go_wp2_with fail
    refine (show Calls _ _ _ _ _ from lives36_any _).mono ?_
    rintro e W2 ⟨rfl, hb2⟩
    go_wp2_with fail
    go_ret
    exact ⟨rfl, below_on HB1.out hb2 (Nat.le_refl _)⟩
  rw [decide_eq_true hL]
  have HL := Lib.hid hL
  clear hL
  by_cases hr : 0 ≤ x ∧ x ≤ 512
  rotate_left
  · go_wp2_with fail
    refine (show Calls _ _ _ _ _ from bnew_no _ x hr).mono ?_
    rintro e W2 ⟨rfl, hW2⟩
    subst W2
    by_cases h0 : x < 0
    · clear hr
      go_wp2_with fail
      refine (show Calls _ _ _ _ _ from lives36_any _).mono ?_
      rintro e W2 ⟨rfl, hb2⟩
      go_wp2_with fail
      go_ret
      exact ⟨rfl, below_on HB1.out hb2 (Nat.le_refl _)⟩
    · have h5 : x > 512 := by omega
      clear hr
      go_wp2_with fail
      refine (show Calls _ _ _ _ _ from lives36_any _).mono ?_
      rintro e W2 ⟨rfl, hb2⟩
      go_wp2_with fail
      go_ret
      exact ⟨rfl, below_on HB1.out hb2 (Nat.le_refl _)⟩
  obtain ⟨r, rfl⟩ : ∃ r : Nat, x = r := ⟨x.toNat, by omega⟩
  have hr5 : r ≤ 512 := by omega
  have n1 : ¬ (r : Int) < 0 := by omega
  have n2 : ¬ (r : Int) > 512 := by omega
  clear hr
  go_wp2_with fail
  refine (show Calls _ _ _ _ _ from bnew_o W.heap.size _ r hr5 HB1.out.size).mono ?_
  rintro e W2 ⟨b, F, rfl, hbg, hb2, hFn⟩
  have HBg := Lib.hid hbg
  have HB2 := Lib.hid (below_on HB1.out hb2 (Nat.le_refl _))
  clear hbg hb2 hFn
  go_upto_region 8 with fail
  clear n1 n2 hr5
  go_upto_region 9 with (first
    | (refine wpl_alB rfl rfl ?_
       intro p6 V2 hp6 hb2 hx6 hz6
       have hp6' := Lib.hid (Nat.le_of_eq hp6.symm)
       clear hp6 hz6)
    | (refine wpl_stB rfl rfl rfl rfl ⟨rfl, rfl, rfl⟩ hx6 ?_
       intro V3 hx63 hg6 hz6
       clear hz6))
  have hB3 : Below W2.heap.size W2 V3 := below_grown hb2 hg6 hp6'.out hb2.size
  have HSt : Hid (BSt W b r p6 V3) := bst_start HBg.out (below_on HB2.out hB3 (Nat.le_refl _)) hB3 hp6'.out hx63 (Nat.le_trans HB2.out.size hp6'.out)
  have HB3 : Hid (Below W.heap.size W V3) := below_on HB2.out hB3 (Nat.le_refl _)
  clear hB3 hb2 hg6 hx63 hx6 hp6' HBg
  go_wp2_with fail
  go_loopw [34] (fun u wr => ∃ i : Nat, u = .int .i64 (i : Nat) ∧ i ≤ l.length ∧ Hid (BSt W b r p6 wr)) (fun u _ => l.length - (intOf u).toNat)
  case atStart => exact ⟨0, rfl, Nat.zero_le _, HSt⟩
  case round =>
    obtain ⟨i, rfl, hi, Hinv⟩ := hrel
    by_cases hlt : i < l.length
    · obtain ⟨F, A, aA, cA, X, lo, lc, hpr, hA, hx6, hF6, hW6⟩ := Hinv.out
      obtain ⟨g, o, rfl, hgl, l10⟩ := (Hs.out.below hpr.low).load i hlt
      obtain ⟨i0, i1, w1⟩ := li_nums hlt Hmx.out
      have hop := opok_of (Hok.out _ (List.getElem_mem hlt)) (HL.out.1 _ (List.getElem_mem hlt))
      obtain ⟨op, ho⟩ : ∃ op, op = l[i] := ⟨_, rfl⟩
      rw [← ho] at l10 hop
      have Hop := Lib.hid hop
      have Hlt := Lib.hid hlt
      have Hpr := Lib.hid (And.intro hpr (And.intro hA (And.intro hx6 (And.intro hF6 hW6))))
      clear ho hop hlt hgl hpr hA hx6 hF6 hW6 Hinv
      go_upto_region 12 with (first
        | ((with_reducible show wpList _ _ _ (⟨_, Op.load 39 _, _, _, _, _⟩ :: _) _ _); refine wpl_ldT rfl rfl rfl (by assumption) ?_)
        | (refine wpl_alO rfl rfl ?_
           intro p8 V2 hp8 hb2 hx8 hz8
           have hp8' := Lib.hid (Nat.le_of_eq hp8.symm)
           clear hp8 hz8)
        | (refine wpl_stO rfl rfl rfl rfl hx8 rfl ?_
           intro V3 hx83 hg8 hz8
           clear hz8))
      have hB3 : Below wr.heap.size wr V3 := below_grown hb2 hg8 hp8'.out hb2.size
      have hpr3 := Hpr.out.1.below hB3
      have h6 := bx_below hB3 Hpr.out.2.2.1
      have Hdo := do_any W V3 F b r A aA cA X lo lc op Hop.out hpr3 Hpr.out.2.1
      unfold rV at Hdo
      have Hdo := Lib.hid Hdo
      have H6 := Lib.hid (And.intro h6 (And.intro Hpr.out.2.2.2.1 Hpr.out.2.2.2.2))
      have L6 := ldRb h6
      have L8 := ld_obox hx83
      clear hB3 hpr3 h6 hb2 hg8 hx8 hx83 l10 Hpr hp8' Hop
      go_wp2_with ((with_reducible show wpList _ _ _ (⟨_, Op.load _ _, _, _, _, _⟩ :: _) _ _); refine wpl_ldT rfl rfl rfl (by assumption) ?_)
      refine (show Calls _ _ _ _ _ from Hdo.out).mono ?_
      rintro e V4 ⟨A', aA', cA', X', lo', lc', F', rfl, hpr4, hA4, hG4, hF4⟩
      unfold rV
      have h64 := (hG4.block p6 (bx_lt H6.out.1) H6.out.2.1).trans H6.out.1
      have hn6 : ¬ F' p6 := fun hf => by
        rcases hF4 _ hf with hf | hf
        · exact H6.out.2.1 hf
        · exact absurd (bx_lt H6.out.1) (Nat.not_lt.2 hf)
      have Hpr4 := Lib.hid (And.intro hpr4 (And.intro hA4 (And.intro h64 (And.intro hn6 H6.out.2.2))))
      clear hpr4 hA4 hG4 hF4 h64 hn6 H6 L6 L8 Hdo
      go_upto_region 13 with (first
        | (refine wpl_alB rfl rfl ?_
           intro p9 V5 hp9 hb5 hx9 hz9
           have hp9' := Lib.hid (Nat.le_of_eq hp9.symm)
           clear hp9 hz9)
        | (refine wpl_stB rfl rfl rfl rfl ⟨rfl, rfl, rfl⟩ hx9 ?_
           intro V7 hx97 hg9 hz9
           clear hz9))
      have hB7 : Below V4.heap.size V4 V7 := below_grown hb5 hg9 hp9'.out hb5.size
      have hx6 := bx_below hB7 Hpr4.out.2.2.1
      have L9 := ldRb hx97
      have HB7 := Lib.hid hB7
      clear hB7 hb5 hg9 hx9 hx97 hp9'
      go_upto_region 14 with (first
        | ((with_reducible show wpList _ _ _ (⟨_, Op.load 30 _, _, _, _, _⟩ :: _) _ _); refine wpl_ldT rfl rfl rfl (by assumption) ?_)
        | (refine wpl_stB rfl rfl rfl rfl ⟨rfl, rfl, rfl⟩ hx6 ?_
           intro V8 hx68 hg68 hz68
           clear hz68))
      have hpr8 : Pr W V8 F' b r A' aA' cA' X' lo' lc' := (Hpr4.out.1.below HB7.out).beside (Gr.one (F := fun i => i = p6) hg68 (fun i hi => (Option.some.inj hi).symm)) (fun i hf hi => by subst hi; exact Hpr4.out.2.2.2.1 hf) (fun i hi => by subst hi; exact Hpr4.out.2.2.2.2) (fun i hi => by subst hi; rw [elem?_of hx6]; exact fun e => rbT_u8 (Option.some.inj e)) (fun i hi => by subst hi; rw [elem?_of hx6]; exact fun e => rbT_rm (Option.some.inj e))
      have Hlk := like_o W V8 F' b r A' aA' cA' X' lo' lc' hpr8
      unfold rV at Hlk
      have L6 := ldRb hx68
      have HSt8 : Hid (BSt W b r p6 V8) := ⟨F', A', aA', cA', X', lo', lc', hpr8, Hpr4.out.2.1, hx68, Hpr4.out.2.2.2⟩
      have Hlk := Lib.hid Hlk
      clear hpr8 hx68 hg68 hx6 L9 HB7 Hpr4
      go_wp2_with ((with_reducible show wpList _ _ _ (⟨_, Op.load _ _, _, _, _, _⟩ :: _) _ _); refine wpl_ldT rfl rfl rfl (by assumption) ?_)
      refine (show Calls _ _ _ _ _ from Hlk.out).mono ?_
      rintro e V9 ⟨rfl, hb9⟩
      have HSt9 := Lib.hid (HSt8.out.below hb9)
      clear hb9 L6 HSt8 Hlk
      go_wp2_with fail
      go_roundw
      case rel => exact ⟨i + 1, by first | (rw [w1]; simp) | simp, Hlt.out, HSt9⟩
      case measure => first | exact meas_w Hlt.out w1 | exact meas_p Hlt.out
    · have HBW := Lib.hid Hinv.out.low
      have e : i = l.length := by omega
      subst e
      clear hlt hi Hinv
      go_wp2_with fail
      refine (show Calls _ _ _ _ _ from lives36_any _).mono ?_
      rintro e V2 ⟨rfl, hb2⟩
      go_wp2_with fail
      go_ret
      exact ⟨rfl, below_on HBW.out hb2 (Nat.le_refl _)⟩
end Go.Proofs.Ytbmkgcoolofmpaa
