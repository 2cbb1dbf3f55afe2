/- Lemmas for BagOnce (BagOnce). No statement of the seat is proved here. -/
import Derived.Test.YtbmkgcoolofmpaaO23
namespace Go.Proofs.Ytbmkgcoolofmpaa
set_option linter.unusedVariables false
set_option linter.unusedSimpArgs false
set_option linter.unusedSectionVars false
open Go Go.RowKit Go.Maps Go.Shelf
set_option maxRecDepth 100000 in
set_option maxHeartbeats 8000000 in
theorem bagOnce_walk (ao : Option Addr) (cap : Nat) (l : List BOp) (W : World) (hs : BOps W ao cap l) (hok : ∀ a ∈ l, BOpOk W a) :
    Calls Try.prog 5 #[.slice ao l.length cap] W fun e W' => e = .returned (.bool true) ∧ Below W.heap.size W W' := by
  have Hlt := Lib.hid (light36_o W ao cap l hs (fun o ho => (hok o ho).1))
  have Hs := Lib.hid hs
  have Hok := Lib.hid hok
  have hmx : l.length ≤ maxLen := Nat.le_trans hs.le hs.max
  have Hmx := Lib.hid hmx
  clear hs hok hmx
  go_enter Try.func5, Try.ntmps5
  go_wp2_with fail
  refine (show Calls _ _ _ _ _ from Hlt.out).mono ?_
  rintro e W1 ⟨rfl, hb1⟩
  have HB1 := Lib.hid hb1
  clear Hlt hb1
  by_cases hL : LightB l
  rotate_left
  · rw [decide_eq_false hL]
    go_wp2_with fail
    refine (show Calls _ _ _ _ _ from lives36_any _).mono ?_
    rintro e W2 ⟨rfl, hb2⟩
    go_wp2_with fail
    go_ret
    exact ⟨rfl, below_on HB1.out hb2 (Nat.le_refl _)⟩
  rw [decide_eq_true hL]
  have HL := Lib.hid hL
  clear hL
  go_wp2_with fail
  refine (show Calls _ _ _ _ _ from bnew_o W.heap.size _ 512 (by decide) HB1.out.size).mono ?_
  rintro e W2 ⟨b, F, rfl, hbg, hb2, hFn⟩
  have HO0 : Hid (OSt W b none 0 [] none 0 [] 0 W2) := once_start hbg (below_on HB1.out hb2 (Nat.le_refl _))
  clear hbg hb2 hFn HB1
  go_wp2_with fail
  go_loopw [4, 5, 22] (fun vi va u wr => ∃ (i : Nat) (ai : Option Addr) (ci : Nat) (I : List Mp) (aA : Option Addr) (cA : Nat) (A : List Int), vi = .slice ai I.length ci ∧ va = .slice aA A.length cA ∧ u = .int .i64 (i : Nat) ∧ i ≤ l.length ∧ Hid (OSt W b ai ci I aA cA A i wr)) (fun _ _ u _ => l.length - (intOf u).toNat)
  case atStart => exact ⟨0, none, 0, [], none, 0, [], rfl, rfl, rfl, Nat.zero_le _, HO0⟩
  case round =>
    obtain ⟨i, ai, ci, I, aA, cA, A, rfl, rfl, rfl, hi, Hinv⟩ := hrel
    by_cases hlt : i < l.length
    rotate_left
    · have e : i = l.length := by omega
      subst e
      have HBW := Lib.hid Hinv.out.low
      clear hlt hi Hinv
      go_wp2_with fail
      refine (show Calls _ _ _ _ _ from lives36_any _).mono ?_
      rintro e V2 ⟨rfl, hb2⟩
      go_wp2_with fail
      go_ret
      exact ⟨rfl, below_on HBW.out hb2 (Nat.le_refl _)⟩
    obtain ⟨g, o, rfl, hgl, l10⟩ := (Hs.out.below Hinv.out.low).load i hlt
    obtain ⟨i0, i1, wo⟩ := li_nums hlt Hmx.out
    have hop := opok_of (Hok.out _ (List.getElem_mem hlt)) (HL.out.1 _ (List.getElem_mem hlt))
    obtain ⟨op, ho⟩ : ∃ op, op = l[i] := ⟨_, rfl⟩
    rw [← ho] at l10 hop
    have Hop := Lib.hid hop
    have Hlt := Lib.hid hlt
    have Hn80 := Lib.hid (Nat.le_trans (Nat.le_of_lt hlt) HL.out.2)
    clear ho hop hlt hgl hi
    go_upto_region 9 with (first
      | ((with_reducible show wpList _ _ _ (⟨_, Op.load 39 _, _, _, _, _⟩ :: _) _ _); refine wpl_ldT rfl rfl rfl (by assumption) ?_)
      | (refine wpl_alO rfl rfl ?_
         intro p7 V2 hp7 hb2 hx7 hz7
         have hp7' := Lib.hid (Nat.le_of_eq hp7.symm)
         clear hp7 hz7)
      | (refine wpl_stO rfl rfl rfl rfl hx7 rfl ?_
         intro V hx73 hg7 hz7
         clear hz7))
    have HI := Lib.hid (Hinv.out.below (below_grown hb2 hg7 hp7'.out hb2.size))
    have Hp7 := Lib.hid (Nat.le_trans Hinv.out.low.size hp7'.out)
    have HX7 := Lib.hid hx73
    have HN := Lib.hid wo
    have ob := OpBox.of hx73
    have k0 := ob.kind
    have k1 := ob.k
    have k2 := ob.dst
    have k18 := ob.ls
    have kl := ob.lt
    clear hb2 hg7 hp7' hx7 hx73 l10 Hinv ob wo i0 i1
    go_upto_region 12 with fail
    by_cases h1 : op.kind = 1
    · obtain ⟨F, ll, hbg, ham, hnc⟩ := HI.out.bag
      have hcl := btake_any hbg op.k
      obtain ⟨ok, hokd⟩ : ∃ ok, ok = inR ll op.k := ⟨_, rfl⟩
      rw [← hokd] at hcl
      have HB0 := Lib.hid (And.intro hbg (And.intro ham (And.intro hnc hokd)))
      have Hcl := Lib.hid hcl
      clear hbg ham hnc hokd hcl
      go_wp2_with fail
      refine (show Calls _ _ _ _ _ from Hcl.out).mono ?_
      rintro e U0 ⟨⟨y, rfl, hy, hyt⟩, F1, hbg1, hG1, hF1⟩
      have hylen := take_lens HB0.out.2.1 HI.out.arg hy
      have hown1 := own_beside HB0.out.1 HI.out.own hG1
      have hlow1 : Below W.heap.size W U0 := HI.out.low.trans (hG1.above HI.out.low.size (fun i hi => (HB0.out.1.elem i hi).2.1))
      have HU0 := Lib.hid (And.intro hbg1 (And.intro hown1 (And.intro hlow1 hyt)))
      have HY := Lib.hid (And.intro hy hylen)
      clear hbg1 hG1 hF1 hown1 hlow1 hyt hy hylen Hcl h1 k0 k1 k2 k18 kl
      go_upto_region 14 with (first
        | (refine wpl_alM rfl (.inl rfl) rfl ?_
           intro p8 U1 hp8 hb1 hx8 hz8
           have hp8' := Lib.hid (Nat.le_of_eq hp8.symm)
           clear hp8 hz8)
        | (refine wpl_stM rfl (.inl rfl) rfl rfl rfl hx8 rfl ?_
           intro U2 hx82 hg8 hz8
           clear hz8))
      have hB2 : Below U0.heap.size U0 U2 := below_grown hb1 hg8 hp8'.out hb1.size
      have HX8 := Lib.hid hx82
      have HU2 := Lib.hid (And.intro (HU0.out.1.below hB2) (And.intro (own_gr HU0.out.2.1 (Gr.below hB2) (fun _ _ h => h)) (And.intro (below_on HU0.out.2.2.1 hB2 (Nat.le_refl _)) (HU0.out.2.2.2.below hB2))))
      have HYA : Hid (MpAt U2 y) := ((HU0.out.2.2.2.below hb1).box hx8 (.inl rfl) hg8).at
      clear hB2 hb1 hg8 hx8 hx82 hp8' HU0
      go_wp2_with fail
      go_loopw [10, 50] (fun at_ u ws => ∃ (j : Nat) (a : Int), at_ = .int .i64 a ∧ u = .int .i64 (j : Nat) ∧ j ≤ I.length ∧ Hid (Found I y.v j a) ∧ Hid (Below U2.heap.size U2 ws)) (fun _ u _ => I.length - (intOf u).toNat)
      case atStart => exact ⟨0, -1, rfl, rfl, Nat.zero_le _, Lib.hid (Found.start I y.v), Lib.hid (Below.refl _ _)⟩
      case round =>
        rename World => wq
        obtain ⟨j, a, rfl, rfl, hj, Hfd, Hc⟩ := hrel
        by_cases hlj : j < I.length
        · obtain ⟨j0, j1, w1⟩ := li_nums hlj (Nat.le_trans HI.out.few (Nat.le_trans Hn80.out (by unfold maxLen; omega)))
          obtain ⟨g2, o2, rfl, hgl, -, hld⟩ := (MgRow.of_ownG (own_gr HU2.out.2.1 (Gr.below Hc.out) (fun _ _ h => h))).load j hlj mgT (.inl rfl)
          have hma := HI.out.arg _ (List.getElem_mem hlj)
          obtain ⟨x, hx⟩ : ∃ x, x = I[j] := ⟨_, rfl⟩
          have hmiss : x.v ≠ y.v → Found I y.v (j + 1) a := fun he => Hfd.out.miss hlj (by rw [← hx]; exact he)
          have hhit : x.v = y.v → Found I y.v (j + 1) (j : Int) := fun he => Found.hit hlj (by rw [← hx]; exact he)
          rw [← hx] at hld hma
          have hsm := same2_o x y wq.drew (hma.at_.below (below_on HU2.out.2.2.1 Hc.out.drew (Nat.le_refl _))) (HYA.out.below Hc.out.drew) (Nat.le_trans hma.el (by decide)) (Nat.le_trans hma.ml (by decide)) HY.out.2.1 HY.out.2.2
          have Hld := Lib.hid hld
          have Hgl := Lib.hid hgl
          have Hlj := Lib.hid hlj
          have HX8w := Lib.hid (bx_below Hc.out HX8.out)
          clear hld hgl hma hx hlj hj
          by_cases he : x.v = y.v
          · have HF2 := Lib.hid (hhit he)
            clear hmiss hhit
            go_upto_region 18 with fail
            rw [decide_eq_true he] at hsm
            have Hsm := Lib.hid hsm
            clear hsm he
            refine wp_region_held_drew (S := fun V => V.heap[p8]? = wq.heap[p8]? ∧ V.heap[g2]? = wq.heap[g2]?) (by kernel_rfl) ⟨rfl, rfl⟩ (fun hHeld => ?_)
            refine wpAnyH_take (i := 0) (v := ?_) rfl (by kernel_rfl) (by kernel_rfl) (by kernel_rfl) (fun _ _ _ h => h) (Or.inl ⟨by rfl, ?_⟩) (by assumption) ?_
            rotate_left
            · intro w8 hSw; clear hSw; go_simp; (try with_reducible rfl)
            simp only [Act.put, List.getElem_toArray, List.getElem_cons_zero, List.getElem_cons_succ, List.setIfInBounds_toArray, List.set_cons_zero, List.set_cons_succ]
            refine wpAnyH_take (i := 1) (v := ?_) rfl (by kernel_rfl) (by kernel_rfl) (by kernel_rfl) (fun _ _ _ h => h) (Or.inl ⟨by rfl, ?_⟩) (by assumption) ?_
            rotate_left
            · intro w8 hSw; clear hSw; go_simp; (try with_reducible rfl)
            simp only [Act.put, List.getElem_toArray, List.getElem_cons_zero, List.getElem_cons_succ, List.setIfInBounds_toArray, List.set_cons_zero, List.set_cons_succ]
            refine wpAnyH_take (i := 2) (v := ?_) rfl (by kernel_rfl) (by kernel_rfl) (by kernel_rfl) (fun _ _ _ h => h) (Or.inl ⟨by rfl, ?_⟩) (by assumption) ?_
            rotate_left
            · intro w8 hSw; clear hSw; go_simp; (try with_reducible rfl)
            simp only [Act.put, List.getElem_toArray, List.getElem_cons_zero, List.getElem_cons_succ, List.setIfInBounds_toArray, List.set_cons_zero, List.set_cons_succ]
            refine wpAnyH_take (i := 3) (v := .agg (mC x)) rfl (by kernel_rfl) (by kernel_rfl) (by kernel_rfl) (fun _ _ _ h => h) (Or.inl ⟨by rfl, ?_⟩) (by assumption) ?_
            · intro w8 hSw; exact ld_takeT rfl (Hld.out w8 hSw.2) rfl
            simp only [Act.put, List.getElem_toArray, List.getElem_cons_zero, List.getElem_cons_succ, List.setIfInBounds_toArray, List.set_cons_zero, List.set_cons_succ]
            refine wpAnyH_take (i := 4) (v := .agg (mC y)) rfl (by kernel_rfl) (by kernel_rfl) (by kernel_rfl) (fun _ _ _ h => h) (Or.inl ⟨by rfl, ?_⟩) (by assumption) ?_
            · intro w8 hSw; exact ld_takeT rfl (ld_mbox mgT mgT (.inl rfl) (hSw.1.trans HX8w.out)) rfl
            simp only [Act.put, List.getElem_toArray, List.getElem_cons_zero, List.getElem_cons_succ, List.setIfInBounds_toArray, List.set_cons_zero, List.set_cons_succ]
            refine wpAnyH_ready (rs := [5]) (by kernel_rfl) (by simp) ?_
            refine AllReadyH.cons rfl (fun K hK => ?_) AllReadyH.nil
            go_simp
            go_at_call 20
            refine ((show Calls _ _ _ _ _ from Hsm.out)).mono ?_
            rintro e V9 ⟨rfl, hb9⟩
            refine hK.out _ _ ⟨hb9.block p8 (bx_lt HX8w.out), hb9.block g2 Hgl.out⟩ (fun hHeld => ?_)
            clear hK K
            try simp only [Act.put, List.getElem_toArray, List.getElem_cons_zero, List.getElem_cons_succ, List.setIfInBounds_toArray, List.set_cons_zero, List.set_cons_succ]
            refine wpAnyH_done (by kernel_rfl) ?_ _
            have HC9 := Lib.hid (below_on Hc.out.drew hb9 (Nat.le_refl _))
            clear hb9
            go_wp2_with fail
            go_roundw
            case rel => exact ⟨j + 1, _, rfl, by first | (rw [w1]; simp) | simp, Hlj.out, HF2, HC9⟩
            case measure => first | exact meas_w Hlj.out w1 | exact meas_p Hlj.out
          · have HF2 := Lib.hid (hmiss he)
            clear hmiss hhit
            go_upto_region 18 with fail
            rw [decide_eq_false he] at hsm
            have Hsm := Lib.hid hsm
            clear hsm he
            refine wp_region_held_drew (S := fun V => V.heap[p8]? = wq.heap[p8]? ∧ V.heap[g2]? = wq.heap[g2]?) (by kernel_rfl) ⟨rfl, rfl⟩ (fun hHeld => ?_)
            refine wpAnyH_take (i := 0) (v := ?_) rfl (by kernel_rfl) (by kernel_rfl) (by kernel_rfl) (fun _ _ _ h => h) (Or.inl ⟨by rfl, ?_⟩) (by assumption) ?_
            rotate_left
            · intro w8 hSw; clear hSw; go_simp; (try with_reducible rfl)
            simp only [Act.put, List.getElem_toArray, List.getElem_cons_zero, List.getElem_cons_succ, List.setIfInBounds_toArray, List.set_cons_zero, List.set_cons_succ]
            refine wpAnyH_take (i := 1) (v := ?_) rfl (by kernel_rfl) (by kernel_rfl) (by kernel_rfl) (fun _ _ _ h => h) (Or.inl ⟨by rfl, ?_⟩) (by assumption) ?_
            rotate_left
            · intro w8 hSw; clear hSw; go_simp; (try with_reducible rfl)
            simp only [Act.put, List.getElem_toArray, List.getElem_cons_zero, List.getElem_cons_succ, List.setIfInBounds_toArray, List.set_cons_zero, List.set_cons_succ]
            refine wpAnyH_take (i := 2) (v := ?_) rfl (by kernel_rfl) (by kernel_rfl) (by kernel_rfl) (fun _ _ _ h => h) (Or.inl ⟨by rfl, ?_⟩) (by assumption) ?_
            rotate_left
            · intro w8 hSw; clear hSw; go_simp; (try with_reducible rfl)
            simp only [Act.put, List.getElem_toArray, List.getElem_cons_zero, List.getElem_cons_succ, List.setIfInBounds_toArray, List.set_cons_zero, List.set_cons_succ]
            refine wpAnyH_take (i := 3) (v := .agg (mC x)) rfl (by kernel_rfl) (by kernel_rfl) (by kernel_rfl) (fun _ _ _ h => h) (Or.inl ⟨by rfl, ?_⟩) (by assumption) ?_
            · intro w8 hSw; exact ld_takeT rfl (Hld.out w8 hSw.2) rfl
            simp only [Act.put, List.getElem_toArray, List.getElem_cons_zero, List.getElem_cons_succ, List.setIfInBounds_toArray, List.set_cons_zero, List.set_cons_succ]
            refine wpAnyH_take (i := 4) (v := .agg (mC y)) rfl (by kernel_rfl) (by kernel_rfl) (by kernel_rfl) (fun _ _ _ h => h) (Or.inl ⟨by rfl, ?_⟩) (by assumption) ?_
            · intro w8 hSw; exact ld_takeT rfl (ld_mbox mgT mgT (.inl rfl) (hSw.1.trans HX8w.out)) rfl
            simp only [Act.put, List.getElem_toArray, List.getElem_cons_zero, List.getElem_cons_succ, List.setIfInBounds_toArray, List.set_cons_zero, List.set_cons_succ]
            refine wpAnyH_ready (rs := [5]) (by kernel_rfl) (by simp) ?_
            refine AllReadyH.cons rfl (fun K hK => ?_) AllReadyH.nil
            go_simp
            go_at_call 20
            refine ((show Calls _ _ _ _ _ from Hsm.out)).mono ?_
            rintro e V9 ⟨rfl, hb9⟩
            refine hK.out _ _ ⟨hb9.block p8 (bx_lt HX8w.out), hb9.block g2 Hgl.out⟩ (fun hHeld => ?_)
            clear hK K
            try simp only [Act.put, List.getElem_toArray, List.getElem_cons_zero, List.getElem_cons_succ, List.setIfInBounds_toArray, List.set_cons_zero, List.set_cons_succ]
            refine wpAnyH_done (by kernel_rfl) ?_ _
            have HC9 := Lib.hid (below_on Hc.out.drew hb9 (Nat.le_refl _))
            clear hb9
            go_wp2_with fail
            go_roundw
            case rel => exact ⟨j + 1, _, rfl, by first | (rw [w1]; simp) | simp, Hlj.out, HF2, HC9⟩
            case measure => first | exact meas_w Hlj.out w1 | exact meas_p Hlj.out
        · have e : j = I.length := Nat.le_antisymm hj (Nat.le_of_not_lt hlj)
          subst e
          clear hlj hj
          cases ok
          · have hno := take_not HB0.out.2.2.2.symm
            have hO := HI.out
            have HO : Hid (OSt W b ai ci I aA cA A (i + 1) wq) := by
              refine ⟨⟨F1, ll, ?_, HB0.out.2.1, HB0.out.2.2.1⟩, below_on HU2.out.2.2.1 Hc.out (Nat.le_refl _), hO.iz, own_gr HU2.out.2.1 (Gr.below Hc.out) (fun _ _ h => h), hO.arg, Nat.le_succ_of_le hO.few⟩
              have := HU2.out.1.below Hc.out
              rw [hno] at this
              exact this
            clear hno hO Hfd Hc HU2 HX8 HYA HY HI HB0
            go_upto_region 32 with fail
            obtain ⟨F, ll, hbg, -, hnc⟩ := HO.out.bag
            have HBg := Lib.hid hbg
            have Hnc := Lib.hid hnc
            have H5 := Lib.hid hbg.few
            have hlen := blen_o hbg
            clear hbg hnc
            go_wp2_with fail
            refine (show Calls _ _ _ _ _ from hlen).mono ?_
            rintro e V1 ⟨rfl, hv⟩
            subst V1
            clear hlen
            go_wp2_with fail
            go_loopw [99] (fun u ws => ∃ k : Nat, u = .int .i64 (k : Nat) ∧ k ≤ ll.length ∧ Hid (Below wq.heap.size wq ws)) (fun u _ => ll.length - (intOf u).toNat)
            case atStart => exact ⟨0, rfl, Nat.zero_le _, Lib.hid (Below.refl _ _)⟩
            case round =>
              obtain ⟨k, rfl, hk, Hc⟩ := hrel
              by_cases hlt : k < ll.length
              · obtain ⟨j0, j1, w1⟩ := rw_nums hlt (Nat.le_trans H5.out.1 H5.out.2)
                have hlk := blook_yes (HBg.out.below Hc.out) k hlt
                have hcr := Hnc.out _ (List.getElem_mem hlt)
                obtain ⟨x, hx⟩ : ∃ x, x = ll[k] := ⟨_, rfl⟩
                rw [← hx] at hlk hcr
                have Hlk := Lib.hid hlk
                have Hcr := Lib.hid hcr
                have Hkl := Lib.hid hlt
                clear hlk hcr hx hlt hk
                go_wp2_with fail
                refine (show Calls _ _ _ _ _ from Hlk.out).mono ?_
                rintro e U1 ⟨⟨y, rfl, hyv, -⟩, hu1⟩
                have hcr2 : inL A y.frm = inL A y.dst := by
                  have e1 := congrArg Ms.frm hyv
                  have e2 := congrArg Ms.dst hyv
                  have := Hcr.out
                  rw [← e1, ← e2] at this
                  exact this
                obtain ⟨c, hc⟩ : ∃ c, c = inL A y.frm := ⟨_, rfl⟩
                rw [← hc] at hcr2
                have HCR := Lib.hid (And.intro hc hcr2)
                have HU1 := Lib.hid hu1
                clear hyv hu1 hc hcr2 Hlk Hcr
                go_upto_region 36 with (first
                  | (refine wpl_alM rfl (.inl rfl) rfl ?_
                     intro p13 U2 hp13 hv2 hx13 hz13
                     have hp13' := Lib.hid (Nat.le_of_eq hp13.symm)
                     clear hp13 hz13)
                  | (refine wpl_stM rfl (.inl rfl) rfl rfl rfl hx13 rfl ?_
                     intro U3 hx133 hg13 hz13
                     clear hz13))
                have HU3 := Lib.hid (below_on Hc.out (below_on HU1.out (below_grown hv2 hg13 hp13'.out hv2.size) (Nat.le_refl _)) (Nat.le_refl _))
                have Hf := Lib.hid (has_o U3.drew aA cA A y.frm (HO.out.iz.below (below_on HO.out.low HU3.out.drew (Nat.le_refl _))))
                have Hd := Lib.hid (has_o U3.drew aA cA A y.dst (HO.out.iz.below (below_on HO.out.low HU3.out.drew (Nat.le_refl _))))
                rw [show decide (y.frm ∈ A) = inL A y.frm from rfl, ← HCR.out.1] at Hf
                rw [show decide (y.dst ∈ A) = inL A y.dst from rfl, ← HCR.out.2] at Hd
                have HX13 := Lib.hid hx133
                clear hx133 hg13 hx13 hv2 hp13' HU1 HCR
                refine wp_region_held_drew (S := fun V => V = U3.drew) (by kernel_rfl) rfl (fun hHeld => ?_)
                refine wpAnyH_take (i := 0) (v := ?_) rfl (by kernel_rfl) (by kernel_rfl) (by kernel_rfl) (fun _ _ _ h => h) (Or.inl ⟨by rfl, ?_⟩) (by assumption) ?_
                rotate_left
                · intro w8 hSw; clear hSw; go_simp; (try with_reducible rfl)
                simp only [Act.put, List.getElem_toArray, List.getElem_cons_zero, List.getElem_cons_succ, List.setIfInBounds_toArray, List.set_cons_zero, List.set_cons_succ]
                refine wpAnyH_take (i := 1) (v := ?_) rfl (by kernel_rfl) (by kernel_rfl) (by kernel_rfl) (fun _ _ _ h => h) (Or.inl ⟨by rfl, ?_⟩) (by assumption) ?_
                rotate_left
                · intro w8 hSw; clear hSw; go_simp; (try with_reducible rfl)
                simp only [Act.put, List.getElem_toArray, List.getElem_cons_zero, List.getElem_cons_succ, List.setIfInBounds_toArray, List.set_cons_zero, List.set_cons_succ]
                refine wpAnyH_take (i := 2) (v := ?_) rfl (by kernel_rfl) (by kernel_rfl) (by kernel_rfl) (fun _ _ _ h => h) (Or.inl ⟨by rfl, ?_⟩) (by assumption) ?_
                rotate_left
                · intro w8 hSw; clear hSw; go_simp; (try with_reducible rfl)
                simp only [Act.put, List.getElem_toArray, List.getElem_cons_zero, List.getElem_cons_succ, List.setIfInBounds_toArray, List.set_cons_zero, List.set_cons_succ]
                refine wpAnyH_take (i := 3) (v := ?_) rfl (by kernel_rfl) (by kernel_rfl) (by kernel_rfl) (fun _ _ _ h => h) (Or.inl ⟨by rfl, ?_⟩) (by assumption) ?_
                rotate_left
                · intro w8 hSw; clear hSw; go_simp; (try with_reducible rfl)
                simp only [Act.put, List.getElem_toArray, List.getElem_cons_zero, List.getElem_cons_succ, List.setIfInBounds_toArray, List.set_cons_zero, List.set_cons_succ]
                refine wpAnyH_take (i := 4) (v := ?_) rfl (by kernel_rfl) (by kernel_rfl) (by kernel_rfl) (fun _ _ _ h => h) (Or.inl ⟨by rfl, ?_⟩) (by assumption) ?_
                rotate_left
                · intro w8 hSw; clear hSw; go_simp; (try with_reducible rfl)
                simp only [Act.put, List.getElem_toArray, List.getElem_cons_zero, List.getElem_cons_succ, List.setIfInBounds_toArray, List.set_cons_zero, List.set_cons_succ]
                refine wpAnyH_take (i := 7) (v := ?_) rfl (by kernel_rfl) (by kernel_rfl) (by kernel_rfl) (fun _ _ _ h => h) (Or.inl ⟨by rfl, ?_⟩) (by assumption) ?_
                rotate_left
                · intro w8 hSw; clear hSw; go_simp; (try with_reducible rfl)
                simp only [Act.put, List.getElem_toArray, List.getElem_cons_zero, List.getElem_cons_succ, List.setIfInBounds_toArray, List.set_cons_zero, List.set_cons_succ]
                refine wpAnyH_take (i := 8) (v := ?_) rfl (by kernel_rfl) (by kernel_rfl) (by kernel_rfl) (fun _ _ _ h => h) (Or.inl ⟨by rfl, ?_⟩) (by assumption) ?_
                rotate_left
                · intro w8 hSw; clear hSw; go_simp; (try with_reducible rfl)
                simp only [Act.put, List.getElem_toArray, List.getElem_cons_zero, List.getElem_cons_succ, List.setIfInBounds_toArray, List.set_cons_zero, List.set_cons_succ]
                refine wpAnyH_take (i := 5) (v := .int .i64 y.frm) rfl (by kernel_rfl) (by kernel_rfl) (by kernel_rfl) (fun _ _ _ h => h) (Or.inl ⟨by rfl, ?_⟩) (by assumption) ?_
                · intro w8 hSw; exact ld_takeT rfl (ldI (by rw [hSw]; exact block_cell HX13.out 1)) rfl
                simp only [Act.put, List.getElem_toArray, List.getElem_cons_zero, List.getElem_cons_succ, List.setIfInBounds_toArray, List.set_cons_zero, List.set_cons_succ]
                refine wpAnyH_take (i := 9) (v := .int .i64 y.dst) rfl (by kernel_rfl) (by kernel_rfl) (by kernel_rfl) (fun _ _ _ h => h) (Or.inl ⟨by rfl, ?_⟩) (by assumption) ?_
                · intro w8 hSw; exact ld_takeT rfl (ldI (by rw [hSw]; exact block_cell HX13.out 2)) rfl
                simp only [Act.put, List.getElem_toArray, List.getElem_cons_zero, List.getElem_cons_succ, List.setIfInBounds_toArray, List.set_cons_zero, List.set_cons_succ]
                refine wpAnyH_ready (rs := [6]) (by kernel_rfl) (by simp) ?_
                refine AllReadyH.cons rfl (fun K hK => ?_) AllReadyH.nil
                go_simp
                go_at_call 21
                refine (Hf.out).mono ?_
                rintro e V2 ⟨rfl, hv⟩; subst V2
                refine hK.out _ _ rfl (fun hHeld => ?_)
                clear hK K
                try simp only [Act.put, List.getElem_toArray, List.getElem_cons_zero, List.getElem_cons_succ, List.setIfInBounds_toArray, List.set_cons_zero, List.set_cons_succ]
                refine wpAnyH_ready (rs := [10]) (by kernel_rfl) (by simp) ?_
                refine AllReadyH.cons rfl (fun K hK => ?_) AllReadyH.nil
                go_simp
                go_at_call 21
                refine (Hd.out).mono ?_
                rintro e V2 ⟨rfl, hv⟩; subst V2
                refine hK.out _ _ rfl (fun hHeld => ?_)
                clear hK K
                try simp only [Act.put, List.getElem_toArray, List.getElem_cons_zero, List.getElem_cons_succ, List.setIfInBounds_toArray, List.set_cons_zero, List.set_cons_succ]
                refine wpAnyH_take (i := 11) (v := .bool false) rfl (by kernel_rfl) (by kernel_rfl) (by kernel_rfl) (fun _ _ _ h => h) (Or.inl ⟨by rfl, ?_⟩) (by assumption) ?_
                · intro w8 hSw; exact bin_take rfl rfl (neq_self c w8) rfl rfl
                simp only [Act.put, List.getElem_toArray, List.getElem_cons_zero, List.getElem_cons_succ, List.setIfInBounds_toArray, List.set_cons_zero, List.set_cons_succ]
                refine wpAnyH_take (i := 12) (v := ?_) rfl (by kernel_rfl) (by kernel_rfl) (by kernel_rfl) (fun _ _ _ h => h) (Or.inl ⟨by rfl, ?_⟩) (by assumption) ?_
                rotate_left
                · intro w8 hSw; clear hSw; go_simp; (try with_reducible rfl)
                simp only [Act.put, List.getElem_toArray, List.getElem_cons_zero, List.getElem_cons_succ, List.setIfInBounds_toArray, List.set_cons_zero, List.set_cons_succ]
                refine wpAnyH_done (by kernel_rfl) ?_ _
                go_wp2_with fail
                go_roundw
                case rel => exact ⟨k + 1, by first | (rw [w1]; simp) | simp, Hkl.out, Lib.hid HU3.out.drew⟩
                case measure => first | exact meas_w Hkl.out w1 | exact meas_p Hkl.out
              · have HO2 := Lib.hid (HO.out.below Hc.out)
                have wo := HN.out
                have e : k = ll.length := Nat.le_antisymm hk (Nat.le_of_not_lt hlt)
                subst e
                clear hlt hk Hc
                go_wp2_with fail
                go_roundw
                case rel => exact ⟨i + 1, _, _, _, _, _, _, rfl, rfl, by first | (rw [wo]; simp) | simp, Hlt.out, HO2⟩
                case measure => first | exact meas_w Hlt.out wo | exact meas_p Hlt.out
          · have hin : inR ll op.k = true := HB0.out.2.2.2.symm
            obtain ⟨n, rfl, hn, hnv⟩ := Hfd.out.there (by rw [HY.out.1]; exact take_in HB0.out.2.1 hin)
            obtain ⟨m1, m2, m3, m4, m5, m6, m7, m8, m9⟩ := once_out hn HI.out.few Hn80.out
            obtain ⟨aL, cL, hrL, hsL⟩ := (MgRow.of_ownG HU2.out.2.1).hiG n m8
            obtain ⟨aR, cR, hrR, hsR⟩ := (MgRow.of_ownG HU2.out.2.1).loG (n + 1) m9
            have Hadd := Lib.hid (add_one n m1)
            have HRL := Lib.hid hrL
            have HRR : Hid (∀ V, (Instr.sliceAt 58 (.slice ai I.length ci) (some (.int .i64 ((n : Int) + 1))) none none).run Try.prog V = .ok (.slice aR (I.length - (n + 1)) cR) V) := fun V => by have := hrR V; simpa using this
            have HS := Lib.hid (And.intro (hsL.below Hc.out) (hsR.below Hc.out))
            have HQ := Lib.hid (And.intro m3 (And.intro m4 (And.intro m5 (And.intro m6 m7))))
            have HA2 := Lib.hid (And.intro (among_take HB0.out.2.1 hin hn (hnv.trans HY.out.1)) (HB0.out.2.2.1.sub (takeL_sub ll op.k)))
            have HW := Lib.hid (And.intro (HU2.out.1.below Hc.out) (below_on HU2.out.2.2.1 Hc.out (Nat.le_refl _)))
            have hO := HI.out
            have HI2 := Lib.hid (And.intro hO.iz hO.arg)
            have m8' := m8
            clear hin hn hnv m1 m3 m4 m5 m6 m7 m8 m9 hrL hsL hrR hsR Hfd Hc HU2 HX8 HYA HY HI HB0 hO
            go_upto_region 24 with fail
            refine wp_region_held_drew (S := fun V => True) (by kernel_rfl) trivial (fun hHeld => ?_)
            obtain ⟨U3, hU3⟩ : ∃ U3, U3 = wq.drew := ⟨_, rfl⟩
            have hB3 : Below wq.heap.size wq U3 := by rw [hU3]; exact (Below.refl _ wq).drew
            rw [← hU3]
            clear hU3
            refine wpAnyH_take (i := 1) (v := ?_) rfl (by kernel_rfl) (by kernel_rfl) (by kernel_rfl) (fun _ _ _ h => h) (Or.inl ⟨by rfl, ?_⟩) (by assumption) ?_
            rotate_left
            · intro w8 hSw; clear hSw; go_simp; (try with_reducible rfl)
            simp only [Act.put, List.getElem_toArray, List.getElem_cons_zero, List.getElem_cons_succ, List.setIfInBounds_toArray, List.set_cons_zero, List.set_cons_succ]
            refine wpAnyH_take (i := 2) (v := ?_) rfl (by kernel_rfl) (by kernel_rfl) (by kernel_rfl) (fun _ _ _ h => h) (Or.inl ⟨by rfl, ?_⟩) (by assumption) ?_
            rotate_left
            · intro w8 hSw; clear hSw; go_simp; (try with_reducible rfl)
            simp only [Act.put, List.getElem_toArray, List.getElem_cons_zero, List.getElem_cons_succ, List.setIfInBounds_toArray, List.set_cons_zero, List.set_cons_succ]
            refine wpAnyH_take (i := 3) (v := .slice aL n cL) rfl (by kernel_rfl) (by kernel_rfl) (by kernel_rfl) (fun _ _ _ h => h) (Or.inl ⟨by rfl, ?_⟩) (by assumption) ?_
            · intro w8 hSw; exact sl_hi rfl (HRL.out w8) rfl rfl
            simp only [Act.put, List.getElem_toArray, List.getElem_cons_zero, List.getElem_cons_succ, List.setIfInBounds_toArray, List.set_cons_zero, List.set_cons_succ]
            refine wpAnyH_take (i := 5) (v := ?_) rfl (by kernel_rfl) (by kernel_rfl) (by kernel_rfl) (fun _ _ _ h => h) (Or.inl ⟨by rfl, ?_⟩) (by assumption) ?_
            rotate_left
            · intro w8 hSw; clear hSw; go_simp; (try with_reducible rfl)
            simp only [Act.put, List.getElem_toArray, List.getElem_cons_zero, List.getElem_cons_succ, List.setIfInBounds_toArray, List.set_cons_zero, List.set_cons_succ]
            refine wpAnyH_take (i := 6) (v := ?_) rfl (by kernel_rfl) (by kernel_rfl) (by kernel_rfl) (fun _ _ _ h => h) (Or.inl ⟨by rfl, ?_⟩) (by assumption) ?_
            rotate_left
            · intro w8 hSw; clear hSw; go_simp; (try with_reducible rfl)
            simp only [Act.put, List.getElem_toArray, List.getElem_cons_zero, List.getElem_cons_succ, List.setIfInBounds_toArray, List.set_cons_zero, List.set_cons_succ]
            refine wpAnyH_take (i := 7) (v := .int .i64 ((n : Int) + 1)) rfl (by kernel_rfl) (by kernel_rfl) (by kernel_rfl) (fun _ _ _ h => h) (Or.inl ⟨by rfl, ?_⟩) (by assumption) ?_
            · intro w8 hSw; exact bin_take rfl rfl (Hadd.out w8) rfl rfl
            simp only [Act.put, List.getElem_toArray, List.getElem_cons_zero, List.getElem_cons_succ, List.setIfInBounds_toArray, List.set_cons_zero, List.set_cons_succ]
            refine wpAnyH_take (i := 8) (v := .slice aR (I.length - (n + 1)) cR) rfl (by kernel_rfl) (by kernel_rfl) (by kernel_rfl) (fun _ _ _ h => h) (Or.inl ⟨by rfl, ?_⟩) (by assumption) ?_
            · intro w8 hSw; exact sl_lo rfl (HRR.out w8) rfl rfl
            simp only [Act.put, List.getElem_toArray, List.getElem_cons_zero, List.getElem_cons_succ, List.setIfInBounds_toArray, List.set_cons_zero, List.set_cons_succ]
            refine wpAnyH_ready (rs := [0]) (by kernel_rfl) (by simp) ?_
            refine AllReadyH.cons rfl (fun K hK => ?_) AllReadyH.nil
            go_simp
            have own0 := own_empty U3 wq.heap.size mgT 15 hB3.size
            have hB4 := below_on hB3 (below_new U3 (.cells #[] mgT)) (Nat.le_refl _)
            obtain ⟨U4, hU4⟩ : ∃ U4, U4 = U3.alloc (.cells #[] mgT) := ⟨_, rfl⟩
            obtain ⟨g0, hg0⟩ : ∃ g, g = U3.heap.size := ⟨_, rfl⟩
            rw [← hU4] at own0 hB4 ⊢
            rw [← hg0] at own0 ⊢
            clear hU4 hg0
            refine hK.out _ _ trivial (fun hHeld => ?_)
            clear hK K
            try simp only [Act.put, List.getElem_toArray, List.getElem_cons_zero, List.getElem_cons_succ, List.setIfInBounds_toArray, List.set_cons_zero, List.set_cons_succ]
            refine wpAnyH_ready (rs := [4]) (by kernel_rfl) (by simp) ?_
            refine AllReadyH.cons rfl (fun K hK => ?_) AllReadyH.nil
            rw [if_pos (by rfl)]
            refine wpo_append_lie (.tmp 67) (.tmp 70) 58 rfl wq.heap.size mgT infoMg Try.underlying58 rfl (by decide) _ 0 [] rfl own0 _ _ _ _ rfl (HS.out.1.below hB4) (mRows_one _) HQ.out.2.2.1 HQ.out.2.2.2.1 hB4.size fun a2 c2 U5 own2 hgr hat => ?_
            rw [Nat.zero_add, List.nil_append] at own2
            rw [Nat.zero_add]
            have hB5 := below_app hB4 hgr own0 (Nat.le_refl _) hB4.size
            clear hgr hat own0
            refine hK.out _ _ trivial (fun hHeld => ?_)
            clear hK K
            try simp only [Act.put, List.getElem_toArray, List.getElem_cons_zero, List.getElem_cons_succ, List.setIfInBounds_toArray, List.set_cons_zero, List.set_cons_succ]
            refine wpAnyH_ready (rs := [9]) (by kernel_rfl) (by simp) ?_
            refine AllReadyH.cons rfl (fun K hK => ?_) AllReadyH.nil
            rw [if_pos (by rfl)]
            refine wpo_append_lie (.tmp 71) (.tmp 75) 58 rfl wq.heap.size mgT infoMg Try.underlying58 rfl (by decide) _ n _ rfl own2 _ _ _ _ rfl (HS.out.2.below hB5) (mRows_one _) HQ.out.1 HQ.out.2.1 hB5.size fun a3 c3 U6 own3 hgr hat => ?_
            have hB6 := below_app hB5 hgr own2 (Nat.le_refl _) hB5.size
            obtain ⟨I2, hI2⟩ : ∃ I2, I2 = I.take n ++ I.drop (n + 1) := ⟨_, rfl⟩
            have hI2l : n + (I.length - (n + 1)) = I2.length := by
              rw [hI2, List.length_append, List.length_take, List.length_drop, Nat.min_eq_left m8']
            rw [hI2l] at own3 ⊢
            rw [← mFlat_two, ← hI2] at own3
            have HO : Hid (OSt W b a3 c3 I2 aA cA A (i + 1) U6) := by
              refine ⟨⟨F1, takeL ll op.k, HW.out.1.below hB6, hI2 ▸ HA2.out.1, HA2.out.2⟩, below_on HW.out.2 hB6 (Nat.le_refl _), HI2.out.1, own_base own3 HW.out.2.size, ?_, ?_⟩
              · rw [hI2]
                intro x hx
                rcases List.mem_append.1 hx with hx | hx
                · exact HI2.out.2 x (List.mem_of_mem_take hx)
                · exact HI2.out.2 x (List.mem_of_mem_drop hx)
              · rw [← hI2l]; exact HQ.out.2.2.2.2
            clear hgr hat own2 own3 hB3 hB4 hB5 hB6 hI2 hI2l m8' HRL HRR HS HQ HA2 HW HI2 Hadd
            refine hK.out _ _ trivial (fun hHeld => ?_)
            clear hK K
            try simp only [Act.put, List.getElem_toArray, List.getElem_cons_zero, List.getElem_cons_succ, List.setIfInBounds_toArray, List.set_cons_zero, List.set_cons_succ]
            refine wpAnyH_take (i := 10) (v := ?_) rfl (by kernel_rfl) (by kernel_rfl) (by kernel_rfl) (fun _ _ _ h => h) (Or.inl ⟨by rfl, ?_⟩) (by assumption) ?_
            rotate_left
            · intro w8 hSw; clear hSw; go_simp; (try with_reducible rfl)
            simp only [Act.put, List.getElem_toArray, List.getElem_cons_zero, List.getElem_cons_succ, List.setIfInBounds_toArray, List.set_cons_zero, List.set_cons_succ]
            refine wpAnyH_done (by kernel_rfl) ?_ _
            go_upto_region 32 with fail
            obtain ⟨F, ll, hbg, -, hnc⟩ := HO.out.bag
            have HBg := Lib.hid hbg
            have Hnc := Lib.hid hnc
            have H5 := Lib.hid hbg.few
            have hlen := blen_o hbg
            clear hbg hnc
            go_wp2_with fail
            refine (show Calls _ _ _ _ _ from hlen).mono ?_
            rintro e V1 ⟨rfl, hv⟩
            subst V1
            clear hlen
            go_wp2_with fail
            go_loopw [99] (fun u ws => ∃ k : Nat, u = .int .i64 (k : Nat) ∧ k ≤ ll.length ∧ Hid (Below U6.heap.size U6 ws)) (fun u _ => ll.length - (intOf u).toNat)
            case atStart => exact ⟨0, rfl, Nat.zero_le _, Lib.hid (Below.refl _ _)⟩
            case round =>
              obtain ⟨k, rfl, hk, Hc⟩ := hrel
              by_cases hlt : k < ll.length
              · obtain ⟨j0, j1, w1⟩ := rw_nums hlt (Nat.le_trans H5.out.1 H5.out.2)
                have hlk := blook_yes (HBg.out.below Hc.out) k hlt
                have hcr := Hnc.out _ (List.getElem_mem hlt)
                obtain ⟨x, hx⟩ : ∃ x, x = ll[k] := ⟨_, rfl⟩
                rw [← hx] at hlk hcr
                have Hlk := Lib.hid hlk
                have Hcr := Lib.hid hcr
                have Hkl := Lib.hid hlt
                clear hlk hcr hx hlt hk
                go_wp2_with fail
                refine (show Calls _ _ _ _ _ from Hlk.out).mono ?_
                rintro e U1 ⟨⟨y, rfl, hyv, -⟩, hu1⟩
                have hcr2 : inL A y.frm = inL A y.dst := by
                  have e1 := congrArg Ms.frm hyv
                  have e2 := congrArg Ms.dst hyv
                  have := Hcr.out
                  rw [← e1, ← e2] at this
                  exact this
                obtain ⟨c, hc⟩ : ∃ c, c = inL A y.frm := ⟨_, rfl⟩
                rw [← hc] at hcr2
                have HCR := Lib.hid (And.intro hc hcr2)
                have HU1 := Lib.hid hu1
                clear hyv hu1 hc hcr2 Hlk Hcr
                go_upto_region 36 with (first
                  | (refine wpl_alM rfl (.inl rfl) rfl ?_
                     intro p13 U2 hp13 hv2 hx13 hz13
                     have hp13' := Lib.hid (Nat.le_of_eq hp13.symm)
                     clear hp13 hz13)
                  | (refine wpl_stM rfl (.inl rfl) rfl rfl rfl hx13 rfl ?_
                     intro U3 hx133 hg13 hz13
                     clear hz13))
                have HU3 := Lib.hid (below_on Hc.out (below_on HU1.out (below_grown hv2 hg13 hp13'.out hv2.size) (Nat.le_refl _)) (Nat.le_refl _))
                have Hf := Lib.hid (has_o U3.drew aA cA A y.frm (HO.out.iz.below (below_on HO.out.low HU3.out.drew (Nat.le_refl _))))
                have Hd := Lib.hid (has_o U3.drew aA cA A y.dst (HO.out.iz.below (below_on HO.out.low HU3.out.drew (Nat.le_refl _))))
                rw [show decide (y.frm ∈ A) = inL A y.frm from rfl, ← HCR.out.1] at Hf
                rw [show decide (y.dst ∈ A) = inL A y.dst from rfl, ← HCR.out.2] at Hd
                have HX13 := Lib.hid hx133
                clear hx133 hg13 hx13 hv2 hp13' HU1 HCR
                refine wp_region_held_drew (S := fun V => V = U3.drew) (by kernel_rfl) rfl (fun hHeld => ?_)
                refine wpAnyH_take (i := 0) (v := ?_) rfl (by kernel_rfl) (by kernel_rfl) (by kernel_rfl) (fun _ _ _ h => h) (Or.inl ⟨by rfl, ?_⟩) (by assumption) ?_
                rotate_left
                · intro w8 hSw; clear hSw; go_simp; (try with_reducible rfl)
                simp only [Act.put, List.getElem_toArray, List.getElem_cons_zero, List.getElem_cons_succ, List.setIfInBounds_toArray, List.set_cons_zero, List.set_cons_succ]
                refine wpAnyH_take (i := 1) (v := ?_) rfl (by kernel_rfl) (by kernel_rfl) (by kernel_rfl) (fun _ _ _ h => h) (Or.inl ⟨by rfl, ?_⟩) (by assumption) ?_
                rotate_left
                · intro w8 hSw; clear hSw; go_simp; (try with_reducible rfl)
                simp only [Act.put, List.getElem_toArray, List.getElem_cons_zero, List.getElem_cons_succ, List.setIfInBounds_toArray, List.set_cons_zero, List.set_cons_succ]
                refine wpAnyH_take (i := 2) (v := ?_) rfl (by kernel_rfl) (by kernel_rfl) (by kernel_rfl) (fun _ _ _ h => h) (Or.inl ⟨by rfl, ?_⟩) (by assumption) ?_
                rotate_left
                · intro w8 hSw; clear hSw; go_simp; (try with_reducible rfl)
                simp only [Act.put, List.getElem_toArray, List.getElem_cons_zero, List.getElem_cons_succ, List.setIfInBounds_toArray, List.set_cons_zero, List.set_cons_succ]
                refine wpAnyH_take (i := 3) (v := ?_) rfl (by kernel_rfl) (by kernel_rfl) (by kernel_rfl) (fun _ _ _ h => h) (Or.inl ⟨by rfl, ?_⟩) (by assumption) ?_
                rotate_left
                · intro w8 hSw; clear hSw; go_simp; (try with_reducible rfl)
                simp only [Act.put, List.getElem_toArray, List.getElem_cons_zero, List.getElem_cons_succ, List.setIfInBounds_toArray, List.set_cons_zero, List.set_cons_succ]
                refine wpAnyH_take (i := 4) (v := ?_) rfl (by kernel_rfl) (by kernel_rfl) (by kernel_rfl) (fun _ _ _ h => h) (Or.inl ⟨by rfl, ?_⟩) (by assumption) ?_
                rotate_left
                · intro w8 hSw; clear hSw; go_simp; (try with_reducible rfl)
                simp only [Act.put, List.getElem_toArray, List.getElem_cons_zero, List.getElem_cons_succ, List.setIfInBounds_toArray, List.set_cons_zero, List.set_cons_succ]
                refine wpAnyH_take (i := 7) (v := ?_) rfl (by kernel_rfl) (by kernel_rfl) (by kernel_rfl) (fun _ _ _ h => h) (Or.inl ⟨by rfl, ?_⟩) (by assumption) ?_
                rotate_left
                · intro w8 hSw; clear hSw; go_simp; (try with_reducible rfl)
                simp only [Act.put, List.getElem_toArray, List.getElem_cons_zero, List.getElem_cons_succ, List.setIfInBounds_toArray, List.set_cons_zero, List.set_cons_succ]
                refine wpAnyH_take (i := 8) (v := ?_) rfl (by kernel_rfl) (by kernel_rfl) (by kernel_rfl) (fun _ _ _ h => h) (Or.inl ⟨by rfl, ?_⟩) (by assumption) ?_
                rotate_left
                · intro w8 hSw; clear hSw; go_simp; (try with_reducible rfl)
                simp only [Act.put, List.getElem_toArray, List.getElem_cons_zero, List.getElem_cons_succ, List.setIfInBounds_toArray, List.set_cons_zero, List.set_cons_succ]
                refine wpAnyH_take (i := 5) (v := .int .i64 y.frm) rfl (by kernel_rfl) (by kernel_rfl) (by kernel_rfl) (fun _ _ _ h => h) (Or.inl ⟨by rfl, ?_⟩) (by assumption) ?_
                · intro w8 hSw; exact ld_takeT rfl (ldI (by rw [hSw]; exact block_cell HX13.out 1)) rfl
                simp only [Act.put, List.getElem_toArray, List.getElem_cons_zero, List.getElem_cons_succ, List.setIfInBounds_toArray, List.set_cons_zero, List.set_cons_succ]
                refine wpAnyH_take (i := 9) (v := .int .i64 y.dst) rfl (by kernel_rfl) (by kernel_rfl) (by kernel_rfl) (fun _ _ _ h => h) (Or.inl ⟨by rfl, ?_⟩) (by assumption) ?_
                · intro w8 hSw; exact ld_takeT rfl (ldI (by rw [hSw]; exact block_cell HX13.out 2)) rfl
                simp only [Act.put, List.getElem_toArray, List.getElem_cons_zero, List.getElem_cons_succ, List.setIfInBounds_toArray, List.set_cons_zero, List.set_cons_succ]
                refine wpAnyH_ready (rs := [6]) (by kernel_rfl) (by simp) ?_
                refine AllReadyH.cons rfl (fun K hK => ?_) AllReadyH.nil
                go_simp
                go_at_call 21
                refine (Hf.out).mono ?_
                rintro e V2 ⟨rfl, hv⟩; subst V2
                refine hK.out _ _ rfl (fun hHeld => ?_)
                clear hK K
                try simp only [Act.put, List.getElem_toArray, List.getElem_cons_zero, List.getElem_cons_succ, List.setIfInBounds_toArray, List.set_cons_zero, List.set_cons_succ]
                refine wpAnyH_ready (rs := [10]) (by kernel_rfl) (by simp) ?_
                refine AllReadyH.cons rfl (fun K hK => ?_) AllReadyH.nil
                go_simp
                go_at_call 21
                refine (Hd.out).mono ?_
                rintro e V2 ⟨rfl, hv⟩; subst V2
                refine hK.out _ _ rfl (fun hHeld => ?_)
                clear hK K
                try simp only [Act.put, List.getElem_toArray, List.getElem_cons_zero, List.getElem_cons_succ, List.setIfInBounds_toArray, List.set_cons_zero, List.set_cons_succ]
                refine wpAnyH_take (i := 11) (v := .bool false) rfl (by kernel_rfl) (by kernel_rfl) (by kernel_rfl) (fun _ _ _ h => h) (Or.inl ⟨by rfl, ?_⟩) (by assumption) ?_
                · intro w8 hSw; exact bin_take rfl rfl (neq_self c w8) rfl rfl
                simp only [Act.put, List.getElem_toArray, List.getElem_cons_zero, List.getElem_cons_succ, List.setIfInBounds_toArray, List.set_cons_zero, List.set_cons_succ]
                refine wpAnyH_take (i := 12) (v := ?_) rfl (by kernel_rfl) (by kernel_rfl) (by kernel_rfl) (fun _ _ _ h => h) (Or.inl ⟨by rfl, ?_⟩) (by assumption) ?_
                rotate_left
                · intro w8 hSw; clear hSw; go_simp; (try with_reducible rfl)
                simp only [Act.put, List.getElem_toArray, List.getElem_cons_zero, List.getElem_cons_succ, List.setIfInBounds_toArray, List.set_cons_zero, List.set_cons_succ]
                refine wpAnyH_done (by kernel_rfl) ?_ _
                go_wp2_with fail
                go_roundw
                case rel => exact ⟨k + 1, by first | (rw [w1]; simp) | simp, Hkl.out, Lib.hid HU3.out.drew⟩
                case measure => first | exact meas_w Hkl.out w1 | exact meas_p Hkl.out
              · have HO2 := Lib.hid (HO.out.below Hc.out)
                have wo := HN.out
                have e : k = ll.length := Nat.le_antisymm hk (Nat.le_of_not_lt hlt)
                subst e
                clear hlt hk Hc
                go_wp2_with fail
                go_roundw
                case rel => exact ⟨i + 1, _, _, _, _, _, _, rfl, rfl, by first | (rw [wo]; simp) | simp, Hlt.out, HO2⟩
                case measure => first | exact meas_w Hlt.out wo | exact meas_p Hlt.out
    by_cases h2 : op.kind = 2
    · clear h1
      obtain ⟨F, ll, hbg, ham, hnc⟩ := HI.out.bag
      have hcl := bmove_any hbg op.k op.dst
      have HE := Lib.hid (fun W' (hx : Bgx W.heap.size V F b 512 (inL A) (moveLk ll op.k op.dst) W') => (HI.out.call hbg hx HI.out.iz (ham.perm ((once_move ll op.k op.dst).map Lt.m)) (hnc.sub (fun x hx => (once_move ll op.k op.dst).subset hx))).more)
      clear hbg ham hnc
      go_wp2_with fail
      refine (show Calls _ _ _ _ _ from hcl).mono ?_
      rintro e U0 ⟨rfl, hx0⟩
      have HO : Hid (OSt W b ai ci I aA cA A (i + 1) U0) := HE.out _ hx0
      clear hx0 hcl HE HI k0 k1 k2 k18 kl h2
      obtain ⟨F, ll, hbg, -, hnc⟩ := HO.out.bag
      have HBg := Lib.hid hbg
      have Hnc := Lib.hid hnc
      have H5 := Lib.hid hbg.few
      have hlen := blen_o hbg
      clear hbg hnc
      go_wp2_with fail
      refine (show Calls _ _ _ _ _ from hlen).mono ?_
      rintro e V1 ⟨rfl, hv⟩
      subst V1
      clear hlen
      go_wp2_with fail
      go_loopw [99] (fun u ws => ∃ k : Nat, u = .int .i64 (k : Nat) ∧ k ≤ ll.length ∧ Hid (Below U0.heap.size U0 ws)) (fun u _ => ll.length - (intOf u).toNat)
      case atStart => exact ⟨0, rfl, Nat.zero_le _, Lib.hid (Below.refl _ _)⟩
      case round =>
        obtain ⟨k, rfl, hk, Hc⟩ := hrel
        by_cases hlt : k < ll.length
        · obtain ⟨j0, j1, w1⟩ := rw_nums hlt (Nat.le_trans H5.out.1 H5.out.2)
          have hlk := blook_yes (HBg.out.below Hc.out) k hlt
          have hcr := Hnc.out _ (List.getElem_mem hlt)
          obtain ⟨x, hx⟩ : ∃ x, x = ll[k] := ⟨_, rfl⟩
          rw [← hx] at hlk hcr
          have Hlk := Lib.hid hlk
          have Hcr := Lib.hid hcr
          have Hkl := Lib.hid hlt
          clear hlk hcr hx hlt hk
          go_wp2_with fail
          refine (show Calls _ _ _ _ _ from Hlk.out).mono ?_
          rintro e U1 ⟨⟨y, rfl, hyv, -⟩, hu1⟩
          have hcr2 : inL A y.frm = inL A y.dst := by
            have e1 := congrArg Ms.frm hyv
            have e2 := congrArg Ms.dst hyv
            have := Hcr.out
            rw [← e1, ← e2] at this
            exact this
          obtain ⟨c, hc⟩ : ∃ c, c = inL A y.frm := ⟨_, rfl⟩
          rw [← hc] at hcr2
          have HCR := Lib.hid (And.intro hc hcr2)
          have HU1 := Lib.hid hu1
          clear hyv hu1 hc hcr2 Hlk Hcr
          go_upto_region 36 with (first
            | (refine wpl_alM rfl (.inl rfl) rfl ?_
               intro p13 U2 hp13 hv2 hx13 hz13
               have hp13' := Lib.hid (Nat.le_of_eq hp13.symm)
               clear hp13 hz13)
            | (refine wpl_stM rfl (.inl rfl) rfl rfl rfl hx13 rfl ?_
               intro U3 hx133 hg13 hz13
               clear hz13))
          have HU3 := Lib.hid (below_on Hc.out (below_on HU1.out (below_grown hv2 hg13 hp13'.out hv2.size) (Nat.le_refl _)) (Nat.le_refl _))
          have Hf := Lib.hid (has_o U3.drew aA cA A y.frm (HO.out.iz.below (below_on HO.out.low HU3.out.drew (Nat.le_refl _))))
          have Hd := Lib.hid (has_o U3.drew aA cA A y.dst (HO.out.iz.below (below_on HO.out.low HU3.out.drew (Nat.le_refl _))))
          rw [show decide (y.frm ∈ A) = inL A y.frm from rfl, ← HCR.out.1] at Hf
          rw [show decide (y.dst ∈ A) = inL A y.dst from rfl, ← HCR.out.2] at Hd
          have HX13 := Lib.hid hx133
          clear hx133 hg13 hx13 hv2 hp13' HU1 HCR
          refine wp_region_held_drew (S := fun V => V = U3.drew) (by kernel_rfl) rfl (fun hHeld => ?_)
          refine wpAnyH_take (i := 0) (v := ?_) rfl (by kernel_rfl) (by kernel_rfl) (by kernel_rfl) (fun _ _ _ h => h) (Or.inl ⟨by rfl, ?_⟩) (by assumption) ?_
          rotate_left
          · intro w8 hSw; clear hSw; go_simp; (try with_reducible rfl)
          simp only [Act.put, List.getElem_toArray, List.getElem_cons_zero, List.getElem_cons_succ, List.setIfInBounds_toArray, List.set_cons_zero, List.set_cons_succ]
          refine wpAnyH_take (i := 1) (v := ?_) rfl (by kernel_rfl) (by kernel_rfl) (by kernel_rfl) (fun _ _ _ h => h) (Or.inl ⟨by rfl, ?_⟩) (by assumption) ?_
          rotate_left
          · intro w8 hSw; clear hSw; go_simp; (try with_reducible rfl)
          simp only [Act.put, List.getElem_toArray, List.getElem_cons_zero, List.getElem_cons_succ, List.setIfInBounds_toArray, List.set_cons_zero, List.set_cons_succ]
          refine wpAnyH_take (i := 2) (v := ?_) rfl (by kernel_rfl) (by kernel_rfl) (by kernel_rfl) (fun _ _ _ h => h) (Or.inl ⟨by rfl, ?_⟩) (by assumption) ?_
          rotate_left
          · intro w8 hSw; clear hSw; go_simp; (try with_reducible rfl)
          simp only [Act.put, List.getElem_toArray, List.getElem_cons_zero, List.getElem_cons_succ, List.setIfInBounds_toArray, List.set_cons_zero, List.set_cons_succ]
          refine wpAnyH_take (i := 3) (v := ?_) rfl (by kernel_rfl) (by kernel_rfl) (by kernel_rfl) (fun _ _ _ h => h) (Or.inl ⟨by rfl, ?_⟩) (by assumption) ?_
          rotate_left
          · intro w8 hSw; clear hSw; go_simp; (try with_reducible rfl)
          simp only [Act.put, List.getElem_toArray, List.getElem_cons_zero, List.getElem_cons_succ, List.setIfInBounds_toArray, List.set_cons_zero, List.set_cons_succ]
          refine wpAnyH_take (i := 4) (v := ?_) rfl (by kernel_rfl) (by kernel_rfl) (by kernel_rfl) (fun _ _ _ h => h) (Or.inl ⟨by rfl, ?_⟩) (by assumption) ?_
          rotate_left
          · intro w8 hSw; clear hSw; go_simp; (try with_reducible rfl)
          simp only [Act.put, List.getElem_toArray, List.getElem_cons_zero, List.getElem_cons_succ, List.setIfInBounds_toArray, List.set_cons_zero, List.set_cons_succ]
          refine wpAnyH_take (i := 7) (v := ?_) rfl (by kernel_rfl) (by kernel_rfl) (by kernel_rfl) (fun _ _ _ h => h) (Or.inl ⟨by rfl, ?_⟩) (by assumption) ?_
          rotate_left
          · intro w8 hSw; clear hSw; go_simp; (try with_reducible rfl)
          simp only [Act.put, List.getElem_toArray, List.getElem_cons_zero, List.getElem_cons_succ, List.setIfInBounds_toArray, List.set_cons_zero, List.set_cons_succ]
          refine wpAnyH_take (i := 8) (v := ?_) rfl (by kernel_rfl) (by kernel_rfl) (by kernel_rfl) (fun _ _ _ h => h) (Or.inl ⟨by rfl, ?_⟩) (by assumption) ?_
          rotate_left
          · intro w8 hSw; clear hSw; go_simp; (try with_reducible rfl)
          simp only [Act.put, List.getElem_toArray, List.getElem_cons_zero, List.getElem_cons_succ, List.setIfInBounds_toArray, List.set_cons_zero, List.set_cons_succ]
          refine wpAnyH_take (i := 5) (v := .int .i64 y.frm) rfl (by kernel_rfl) (by kernel_rfl) (by kernel_rfl) (fun _ _ _ h => h) (Or.inl ⟨by rfl, ?_⟩) (by assumption) ?_
          · intro w8 hSw; exact ld_takeT rfl (ldI (by rw [hSw]; exact block_cell HX13.out 1)) rfl
          simp only [Act.put, List.getElem_toArray, List.getElem_cons_zero, List.getElem_cons_succ, List.setIfInBounds_toArray, List.set_cons_zero, List.set_cons_succ]
          refine wpAnyH_take (i := 9) (v := .int .i64 y.dst) rfl (by kernel_rfl) (by kernel_rfl) (by kernel_rfl) (fun _ _ _ h => h) (Or.inl ⟨by rfl, ?_⟩) (by assumption) ?_
          · intro w8 hSw; exact ld_takeT rfl (ldI (by rw [hSw]; exact block_cell HX13.out 2)) rfl
          simp only [Act.put, List.getElem_toArray, List.getElem_cons_zero, List.getElem_cons_succ, List.setIfInBounds_toArray, List.set_cons_zero, List.set_cons_succ]
          refine wpAnyH_ready (rs := [6]) (by kernel_rfl) (by simp) ?_
          refine AllReadyH.cons rfl (fun K hK => ?_) AllReadyH.nil
          go_simp
          go_at_call 21
          refine (Hf.out).mono ?_
          rintro e V2 ⟨rfl, hv⟩; subst V2
          refine hK.out _ _ rfl (fun hHeld => ?_)
          clear hK K
          try simp only [Act.put, List.getElem_toArray, List.getElem_cons_zero, List.getElem_cons_succ, List.setIfInBounds_toArray, List.set_cons_zero, List.set_cons_succ]
          refine wpAnyH_ready (rs := [10]) (by kernel_rfl) (by simp) ?_
          refine AllReadyH.cons rfl (fun K hK => ?_) AllReadyH.nil
          go_simp
          go_at_call 21
          refine (Hd.out).mono ?_
          rintro e V2 ⟨rfl, hv⟩; subst V2
          refine hK.out _ _ rfl (fun hHeld => ?_)
          clear hK K
          try simp only [Act.put, List.getElem_toArray, List.getElem_cons_zero, List.getElem_cons_succ, List.setIfInBounds_toArray, List.set_cons_zero, List.set_cons_succ]
          refine wpAnyH_take (i := 11) (v := .bool false) rfl (by kernel_rfl) (by kernel_rfl) (by kernel_rfl) (fun _ _ _ h => h) (Or.inl ⟨by rfl, ?_⟩) (by assumption) ?_
          · intro w8 hSw; exact bin_take rfl rfl (neq_self c w8) rfl rfl
          simp only [Act.put, List.getElem_toArray, List.getElem_cons_zero, List.getElem_cons_succ, List.setIfInBounds_toArray, List.set_cons_zero, List.set_cons_succ]
          refine wpAnyH_take (i := 12) (v := ?_) rfl (by kernel_rfl) (by kernel_rfl) (by kernel_rfl) (fun _ _ _ h => h) (Or.inl ⟨by rfl, ?_⟩) (by assumption) ?_
          rotate_left
          · intro w8 hSw; clear hSw; go_simp; (try with_reducible rfl)
          simp only [Act.put, List.getElem_toArray, List.getElem_cons_zero, List.getElem_cons_succ, List.setIfInBounds_toArray, List.set_cons_zero, List.set_cons_succ]
          refine wpAnyH_done (by kernel_rfl) ?_ _
          go_wp2_with fail
          go_roundw
          case rel => exact ⟨k + 1, by first | (rw [w1]; simp) | simp, Hkl.out, Lib.hid HU3.out.drew⟩
          case measure => first | exact meas_w Hkl.out w1 | exact meas_p Hkl.out
        · have HO2 := Lib.hid (HO.out.below Hc.out)
          have wo := HN.out
          have e : k = ll.length := Nat.le_antisymm hk (Nat.le_of_not_lt hlt)
          subst e
          clear hlt hk Hc
          go_wp2_with fail
          go_roundw
          case rel => exact ⟨i + 1, _, _, _, _, _, _, rfl, rfl, by first | (rw [wo]; simp) | simp, Hlt.out, HO2⟩
          case measure => first | exact meas_w Hlt.out wo | exact meas_p Hlt.out
    by_cases h3 : op.kind = 3
    · clear h1 h2
      obtain ⟨F, ll, hbg, ham, hnc⟩ := HI.out.bag
      have hF0 := hbg.elem
      have hcl := bwall_o hbg HI.out.low.size op.ls op.la op.lcap (fun V' hg => Hop.out.ls.below (HI.out.low.trans (hg.above HI.out.low.size (fun i hi => (hF0 i hi).2.1)))) Hop.out.keys Hop.out.few
      have HE := Lib.hid (fun W' (hx : Bgx W.heap.size V F b 512 (inL op.ls) (keepL (inL op.ls) ll) W') => (HI.out.call hbg hx Hop.out.ls (among_wall ham (inL op.ls)) (NoCr.wall (inL op.ls) ll)).more)
      have HX : Hid (∀ W', Bgx W.heap.size V F b 512 (inL op.ls) (keepL (inL op.ls) ll) W' → W'.heap[p7]? = some (.cells (oC op) boT (0, 0))) := (fun W' ⟨F', h1, h2, h3⟩ => (h2.block p7 (bx_lt HX7.out) (hbg.off (E := boT) (by decide) (by decide) (elem?_of HX7.out))).trans HX7.out : ∀ W', Bgx W.heap.size V F b 512 (inL op.ls) (keepL (inL op.ls) ll) W' → W'.heap[p7]? = some (.cells (oC op) boT (0, 0)))
      clear hbg ham hnc hF0
      go_wp2_with fail
      refine (show Calls _ _ _ _ _ from hcl).mono ?_
      rintro e U0 ⟨rfl, hx0⟩
      have HO : Hid (OSt W b ai ci I op.la op.lcap op.ls (i + 1) U0) := HE.out _ hx0
      have ob := OpBox.of (HX.out _ hx0)
      have z18 := ob.ls
      have zl := ob.lt
      clear hx0 hcl HE HI HX k0 k1 k2 k18 kl ob h3
      go_upto_region 32 with fail
      clear z18 zl
      obtain ⟨F, ll, hbg, -, hnc⟩ := HO.out.bag
      have HBg := Lib.hid hbg
      have Hnc := Lib.hid hnc
      have H5 := Lib.hid hbg.few
      have hlen := blen_o hbg
      clear hbg hnc
      go_wp2_with fail
      refine (show Calls _ _ _ _ _ from hlen).mono ?_
      rintro e V1 ⟨rfl, hv⟩
      subst V1
      clear hlen
      go_wp2_with fail
      go_loopw [99] (fun u ws => ∃ k : Nat, u = .int .i64 (k : Nat) ∧ k ≤ ll.length ∧ Hid (Below U0.heap.size U0 ws)) (fun u _ => ll.length - (intOf u).toNat)
      case atStart => exact ⟨0, rfl, Nat.zero_le _, Lib.hid (Below.refl _ _)⟩
      case round =>
        obtain ⟨k, rfl, hk, Hc⟩ := hrel
        by_cases hlt : k < ll.length
        · obtain ⟨j0, j1, w1⟩ := rw_nums hlt (Nat.le_trans H5.out.1 H5.out.2)
          have hlk := blook_yes (HBg.out.below Hc.out) k hlt
          have hcr := Hnc.out _ (List.getElem_mem hlt)
          obtain ⟨x, hx⟩ : ∃ x, x = ll[k] := ⟨_, rfl⟩
          rw [← hx] at hlk hcr
          have Hlk := Lib.hid hlk
          have Hcr := Lib.hid hcr
          have Hkl := Lib.hid hlt
          clear hlk hcr hx hlt hk
          go_wp2_with fail
          refine (show Calls _ _ _ _ _ from Hlk.out).mono ?_
          rintro e U1 ⟨⟨y, rfl, hyv, -⟩, hu1⟩
          have hcr2 : inL op.ls y.frm = inL op.ls y.dst := by
            have e1 := congrArg Ms.frm hyv
            have e2 := congrArg Ms.dst hyv
            have := Hcr.out
            rw [← e1, ← e2] at this
            exact this
          obtain ⟨c, hc⟩ : ∃ c, c = inL op.ls y.frm := ⟨_, rfl⟩
          rw [← hc] at hcr2
          have HCR := Lib.hid (And.intro hc hcr2)
          have HU1 := Lib.hid hu1
          clear hyv hu1 hc hcr2 Hlk Hcr
          go_upto_region 36 with (first
            | (refine wpl_alM rfl (.inl rfl) rfl ?_
               intro p13 U2 hp13 hv2 hx13 hz13
               have hp13' := Lib.hid (Nat.le_of_eq hp13.symm)
               clear hp13 hz13)
            | (refine wpl_stM rfl (.inl rfl) rfl rfl rfl hx13 rfl ?_
               intro U3 hx133 hg13 hz13
               clear hz13))
          have HU3 := Lib.hid (below_on Hc.out (below_on HU1.out (below_grown hv2 hg13 hp13'.out hv2.size) (Nat.le_refl _)) (Nat.le_refl _))
          have Hf := Lib.hid (has_o U3.drew op.la op.lcap op.ls y.frm (HO.out.iz.below (below_on HO.out.low HU3.out.drew (Nat.le_refl _))))
          have Hd := Lib.hid (has_o U3.drew op.la op.lcap op.ls y.dst (HO.out.iz.below (below_on HO.out.low HU3.out.drew (Nat.le_refl _))))
          rw [show decide (y.frm ∈ op.ls) = inL op.ls y.frm from rfl, ← HCR.out.1] at Hf
          rw [show decide (y.dst ∈ op.ls) = inL op.ls y.dst from rfl, ← HCR.out.2] at Hd
          have HX13 := Lib.hid hx133
          clear hx133 hg13 hx13 hv2 hp13' HU1 HCR
          refine wp_region_held_drew (S := fun V => V = U3.drew) (by kernel_rfl) rfl (fun hHeld => ?_)
          refine wpAnyH_take (i := 0) (v := ?_) rfl (by kernel_rfl) (by kernel_rfl) (by kernel_rfl) (fun _ _ _ h => h) (Or.inl ⟨by rfl, ?_⟩) (by assumption) ?_
          rotate_left
          · intro w8 hSw; clear hSw; go_simp; (try with_reducible rfl)
          simp only [Act.put, List.getElem_toArray, List.getElem_cons_zero, List.getElem_cons_succ, List.setIfInBounds_toArray, List.set_cons_zero, List.set_cons_succ]
          refine wpAnyH_take (i := 1) (v := ?_) rfl (by kernel_rfl) (by kernel_rfl) (by kernel_rfl) (fun _ _ _ h => h) (Or.inl ⟨by rfl, ?_⟩) (by assumption) ?_
          rotate_left
          · intro w8 hSw; clear hSw; go_simp; (try with_reducible rfl)
          simp only [Act.put, List.getElem_toArray, List.getElem_cons_zero, List.getElem_cons_succ, List.setIfInBounds_toArray, List.set_cons_zero, List.set_cons_succ]
          refine wpAnyH_take (i := 2) (v := ?_) rfl (by kernel_rfl) (by kernel_rfl) (by kernel_rfl) (fun _ _ _ h => h) (Or.inl ⟨by rfl, ?_⟩) (by assumption) ?_
          rotate_left
          · intro w8 hSw; clear hSw; go_simp; (try with_reducible rfl)
          simp only [Act.put, List.getElem_toArray, List.getElem_cons_zero, List.getElem_cons_succ, List.setIfInBounds_toArray, List.set_cons_zero, List.set_cons_succ]
          refine wpAnyH_take (i := 3) (v := ?_) rfl (by kernel_rfl) (by kernel_rfl) (by kernel_rfl) (fun _ _ _ h => h) (Or.inl ⟨by rfl, ?_⟩) (by assumption) ?_
          rotate_left
          · intro w8 hSw; clear hSw; go_simp; (try with_reducible rfl)
          simp only [Act.put, List.getElem_toArray, List.getElem_cons_zero, List.getElem_cons_succ, List.setIfInBounds_toArray, List.set_cons_zero, List.set_cons_succ]
          refine wpAnyH_take (i := 4) (v := ?_) rfl (by kernel_rfl) (by kernel_rfl) (by kernel_rfl) (fun _ _ _ h => h) (Or.inl ⟨by rfl, ?_⟩) (by assumption) ?_
          rotate_left
          · intro w8 hSw; clear hSw; go_simp; (try with_reducible rfl)
          simp only [Act.put, List.getElem_toArray, List.getElem_cons_zero, List.getElem_cons_succ, List.setIfInBounds_toArray, List.set_cons_zero, List.set_cons_succ]
          refine wpAnyH_take (i := 7) (v := ?_) rfl (by kernel_rfl) (by kernel_rfl) (by kernel_rfl) (fun _ _ _ h => h) (Or.inl ⟨by rfl, ?_⟩) (by assumption) ?_
          rotate_left
          · intro w8 hSw; clear hSw; go_simp; (try with_reducible rfl)
          simp only [Act.put, List.getElem_toArray, List.getElem_cons_zero, List.getElem_cons_succ, List.setIfInBounds_toArray, List.set_cons_zero, List.set_cons_succ]
          refine wpAnyH_take (i := 8) (v := ?_) rfl (by kernel_rfl) (by kernel_rfl) (by kernel_rfl) (fun _ _ _ h => h) (Or.inl ⟨by rfl, ?_⟩) (by assumption) ?_
          rotate_left
          · intro w8 hSw; clear hSw; go_simp; (try with_reducible rfl)
          simp only [Act.put, List.getElem_toArray, List.getElem_cons_zero, List.getElem_cons_succ, List.setIfInBounds_toArray, List.set_cons_zero, List.set_cons_succ]
          refine wpAnyH_take (i := 5) (v := .int .i64 y.frm) rfl (by kernel_rfl) (by kernel_rfl) (by kernel_rfl) (fun _ _ _ h => h) (Or.inl ⟨by rfl, ?_⟩) (by assumption) ?_
          · intro w8 hSw; exact ld_takeT rfl (ldI (by rw [hSw]; exact block_cell HX13.out 1)) rfl
          simp only [Act.put, List.getElem_toArray, List.getElem_cons_zero, List.getElem_cons_succ, List.setIfInBounds_toArray, List.set_cons_zero, List.set_cons_succ]
          refine wpAnyH_take (i := 9) (v := .int .i64 y.dst) rfl (by kernel_rfl) (by kernel_rfl) (by kernel_rfl) (fun _ _ _ h => h) (Or.inl ⟨by rfl, ?_⟩) (by assumption) ?_
          · intro w8 hSw; exact ld_takeT rfl (ldI (by rw [hSw]; exact block_cell HX13.out 2)) rfl
          simp only [Act.put, List.getElem_toArray, List.getElem_cons_zero, List.getElem_cons_succ, List.setIfInBounds_toArray, List.set_cons_zero, List.set_cons_succ]
          refine wpAnyH_ready (rs := [6]) (by kernel_rfl) (by simp) ?_
          refine AllReadyH.cons rfl (fun K hK => ?_) AllReadyH.nil
          go_simp
          go_at_call 21
          refine (Hf.out).mono ?_
          rintro e V2 ⟨rfl, hv⟩; subst V2
          refine hK.out _ _ rfl (fun hHeld => ?_)
          clear hK K
          try simp only [Act.put, List.getElem_toArray, List.getElem_cons_zero, List.getElem_cons_succ, List.setIfInBounds_toArray, List.set_cons_zero, List.set_cons_succ]
          refine wpAnyH_ready (rs := [10]) (by kernel_rfl) (by simp) ?_
          refine AllReadyH.cons rfl (fun K hK => ?_) AllReadyH.nil
          go_simp
          go_at_call 21
          refine (Hd.out).mono ?_
          rintro e V2 ⟨rfl, hv⟩; subst V2
          refine hK.out _ _ rfl (fun hHeld => ?_)
          clear hK K
          try simp only [Act.put, List.getElem_toArray, List.getElem_cons_zero, List.getElem_cons_succ, List.setIfInBounds_toArray, List.set_cons_zero, List.set_cons_succ]
          refine wpAnyH_take (i := 11) (v := .bool false) rfl (by kernel_rfl) (by kernel_rfl) (by kernel_rfl) (fun _ _ _ h => h) (Or.inl ⟨by rfl, ?_⟩) (by assumption) ?_
          · intro w8 hSw; exact bin_take rfl rfl (neq_self c w8) rfl rfl
          simp only [Act.put, List.getElem_toArray, List.getElem_cons_zero, List.getElem_cons_succ, List.setIfInBounds_toArray, List.set_cons_zero, List.set_cons_succ]
          refine wpAnyH_take (i := 12) (v := ?_) rfl (by kernel_rfl) (by kernel_rfl) (by kernel_rfl) (fun _ _ _ h => h) (Or.inl ⟨by rfl, ?_⟩) (by assumption) ?_
          rotate_left
          · intro w8 hSw; clear hSw; go_simp; (try with_reducible rfl)
          simp only [Act.put, List.getElem_toArray, List.getElem_cons_zero, List.getElem_cons_succ, List.setIfInBounds_toArray, List.set_cons_zero, List.set_cons_succ]
          refine wpAnyH_done (by kernel_rfl) ?_ _
          go_wp2_with fail
          go_roundw
          case rel => exact ⟨k + 1, by first | (rw [w1]; simp) | simp, Hkl.out, Lib.hid HU3.out.drew⟩
          case measure => first | exact meas_w Hkl.out w1 | exact meas_p Hkl.out
        · have HO2 := Lib.hid (HO.out.below Hc.out)
          have wo := HN.out
          have e : k = ll.length := Nat.le_antisymm hk (Nat.le_of_not_lt hlt)
          subst e
          clear hlt hk Hc
          go_wp2_with fail
          go_roundw
          case rel => exact ⟨i + 1, _, _, _, _, _, _, rfl, rfl, by first | (rw [wo]; simp) | simp, Hlt.out, HO2⟩
          case measure => first | exact meas_w Hlt.out wo | exact meas_p Hlt.out
    by_cases h4 : op.kind = 4
    · clear h1 h2 h3
      obtain ⟨F, ll, hbg, ham, hnc⟩ := HI.out.bag
      have hcl := bempty_o hbg
      have HE := Lib.hid (fun W' (hx : Bgx W.heap.size V F b 512 (inL A) [] W') => (HI.out.call hbg hx HI.out.iz (ham.less (R' := ll.map Lt.m) (List.Perm.refl _)) (fun x hx => by cases hx)).more)
      clear hbg ham hnc
      go_wp2_with fail
      refine (show Calls _ _ _ _ _ from hcl).mono ?_
      rintro e U0 ⟨rfl, hx0⟩
      have HO : Hid (OSt W b ai ci I aA cA A (i + 1) U0) := HE.out _ hx0
      clear hx0 hcl HE HI k0 k1 k2 k18 kl h4
      obtain ⟨F, ll, hbg, -, hnc⟩ := HO.out.bag
      have HBg := Lib.hid hbg
      have Hnc := Lib.hid hnc
      have H5 := Lib.hid hbg.few
      have hlen := blen_o hbg
      clear hbg hnc
      go_wp2_with fail
      refine (show Calls _ _ _ _ _ from hlen).mono ?_
      rintro e V1 ⟨rfl, hv⟩
      subst V1
      clear hlen
      go_wp2_with fail
      go_loopw [99] (fun u ws => ∃ k : Nat, u = .int .i64 (k : Nat) ∧ k ≤ ll.length ∧ Hid (Below U0.heap.size U0 ws)) (fun u _ => ll.length - (intOf u).toNat)
      case atStart => exact ⟨0, rfl, Nat.zero_le _, Lib.hid (Below.refl _ _)⟩
      case round =>
        obtain ⟨k, rfl, hk, Hc⟩ := hrel
        by_cases hlt : k < ll.length
        · obtain ⟨j0, j1, w1⟩ := rw_nums hlt (Nat.le_trans H5.out.1 H5.out.2)
          have hlk := blook_yes (HBg.out.below Hc.out) k hlt
          have hcr := Hnc.out _ (List.getElem_mem hlt)
          obtain ⟨x, hx⟩ : ∃ x, x = ll[k] := ⟨_, rfl⟩
          rw [← hx] at hlk hcr
          have Hlk := Lib.hid hlk
          have Hcr := Lib.hid hcr
          have Hkl := Lib.hid hlt
          clear hlk hcr hx hlt hk
          go_wp2_with fail
          refine (show Calls _ _ _ _ _ from Hlk.out).mono ?_
          rintro e U1 ⟨⟨y, rfl, hyv, -⟩, hu1⟩
          have hcr2 : inL A y.frm = inL A y.dst := by
            have e1 := congrArg Ms.frm hyv
            have e2 := congrArg Ms.dst hyv
            have := Hcr.out
            rw [← e1, ← e2] at this
            exact this
          obtain ⟨c, hc⟩ : ∃ c, c = inL A y.frm := ⟨_, rfl⟩
          rw [← hc] at hcr2
          have HCR := Lib.hid (And.intro hc hcr2)
          have HU1 := Lib.hid hu1
          clear hyv hu1 hc hcr2 Hlk Hcr
          go_upto_region 36 with (first
            | (refine wpl_alM rfl (.inl rfl) rfl ?_
               intro p13 U2 hp13 hv2 hx13 hz13
               have hp13' := Lib.hid (Nat.le_of_eq hp13.symm)
               clear hp13 hz13)
            | (refine wpl_stM rfl (.inl rfl) rfl rfl rfl hx13 rfl ?_
               intro U3 hx133 hg13 hz13
               clear hz13))
          have HU3 := Lib.hid (below_on Hc.out (below_on HU1.out (below_grown hv2 hg13 hp13'.out hv2.size) (Nat.le_refl _)) (Nat.le_refl _))
          have Hf := Lib.hid (has_o U3.drew aA cA A y.frm (HO.out.iz.below (below_on HO.out.low HU3.out.drew (Nat.le_refl _))))
          have Hd := Lib.hid (has_o U3.drew aA cA A y.dst (HO.out.iz.below (below_on HO.out.low HU3.out.drew (Nat.le_refl _))))
          rw [show decide (y.frm ∈ A) = inL A y.frm from rfl, ← HCR.out.1] at Hf
          rw [show decide (y.dst ∈ A) = inL A y.dst from rfl, ← HCR.out.2] at Hd
          have HX13 := Lib.hid hx133
          clear hx133 hg13 hx13 hv2 hp13' HU1 HCR
          refine wp_region_held_drew (S := fun V => V = U3.drew) (by kernel_rfl) rfl (fun hHeld => ?_)
          refine wpAnyH_take (i := 0) (v := ?_) rfl (by kernel_rfl) (by kernel_rfl) (by kernel_rfl) (fun _ _ _ h => h) (Or.inl ⟨by rfl, ?_⟩) (by assumption) ?_
          rotate_left
          · intro w8 hSw; clear hSw; go_simp; (try with_reducible rfl)
          simp only [Act.put, List.getElem_toArray, List.getElem_cons_zero, List.getElem_cons_succ, List.setIfInBounds_toArray, List.set_cons_zero, List.set_cons_succ]
          refine wpAnyH_take (i := 1) (v := ?_) rfl (by kernel_rfl) (by kernel_rfl) (by kernel_rfl) (fun _ _ _ h => h) (Or.inl ⟨by rfl, ?_⟩) (by assumption) ?_
          rotate_left
          · intro w8 hSw; clear hSw; go_simp; (try with_reducible rfl)
          simp only [Act.put, List.getElem_toArray, List.getElem_cons_zero, List.getElem_cons_succ, List.setIfInBounds_toArray, List.set_cons_zero, List.set_cons_succ]
          refine wpAnyH_take (i := 2) (v := ?_) rfl (by kernel_rfl) (by kernel_rfl) (by kernel_rfl) (fun _ _ _ h => h) (Or.inl ⟨by rfl, ?_⟩) (by assumption) ?_
          rotate_left
          · intro w8 hSw; clear hSw; go_simp; (try with_reducible rfl)
          simp only [Act.put, List.getElem_toArray, List.getElem_cons_zero, List.getElem_cons_succ, List.setIfInBounds_toArray, List.set_cons_zero, List.set_cons_succ]
          refine wpAnyH_take (i := 3) (v := ?_) rfl (by kernel_rfl) (by kernel_rfl) (by kernel_rfl) (fun _ _ _ h => h) (Or.inl ⟨by rfl, ?_⟩) (by assumption) ?_
          rotate_left
          · intro w8 hSw; clear hSw; go_simp; (try with_reducible rfl)
          simp only [Act.put, List.getElem_toArray, List.getElem_cons_zero, List.getElem_cons_succ, List.setIfInBounds_toArray, List.set_cons_zero, List.set_cons_succ]
          refine wpAnyH_take (i := 4) (v := ?_) rfl (by kernel_rfl) (by kernel_rfl) (by kernel_rfl) (fun _ _ _ h => h) (Or.inl ⟨by rfl, ?_⟩) (by assumption) ?_
          rotate_left
          · intro w8 hSw; clear hSw; go_simp; (try with_reducible rfl)
          simp only [Act.put, List.getElem_toArray, List.getElem_cons_zero, List.getElem_cons_succ, List.setIfInBounds_toArray, List.set_cons_zero, List.set_cons_succ]
          refine wpAnyH_take (i := 7) (v := ?_) rfl (by kernel_rfl) (by kernel_rfl) (by kernel_rfl) (fun _ _ _ h => h) (Or.inl ⟨by rfl, ?_⟩) (by assumption) ?_
          rotate_left
          · intro w8 hSw; clear hSw; go_simp; (try with_reducible rfl)
          simp only [Act.put, List.getElem_toArray, List.getElem_cons_zero, List.getElem_cons_succ, List.setIfInBounds_toArray, List.set_cons_zero, List.set_cons_succ]
          refine wpAnyH_take (i := 8) (v := ?_) rfl (by kernel_rfl) (by kernel_rfl) (by kernel_rfl) (fun _ _ _ h => h) (Or.inl ⟨by rfl, ?_⟩) (by assumption) ?_
          rotate_left
          · intro w8 hSw; clear hSw; go_simp; (try with_reducible rfl)
          simp only [Act.put, List.getElem_toArray, List.getElem_cons_zero, List.getElem_cons_succ, List.setIfInBounds_toArray, List.set_cons_zero, List.set_cons_succ]
          refine wpAnyH_take (i := 5) (v := .int .i64 y.frm) rfl (by kernel_rfl) (by kernel_rfl) (by kernel_rfl) (fun _ _ _ h => h) (Or.inl ⟨by rfl, ?_⟩) (by assumption) ?_
          · intro w8 hSw; exact ld_takeT rfl (ldI (by rw [hSw]; exact block_cell HX13.out 1)) rfl
          simp only [Act.put, List.getElem_toArray, List.getElem_cons_zero, List.getElem_cons_succ, List.setIfInBounds_toArray, List.set_cons_zero, List.set_cons_succ]
          refine wpAnyH_take (i := 9) (v := .int .i64 y.dst) rfl (by kernel_rfl) (by kernel_rfl) (by kernel_rfl) (fun _ _ _ h => h) (Or.inl ⟨by rfl, ?_⟩) (by assumption) ?_
          · intro w8 hSw; exact ld_takeT rfl (ldI (by rw [hSw]; exact block_cell HX13.out 2)) rfl
          simp only [Act.put, List.getElem_toArray, List.getElem_cons_zero, List.getElem_cons_succ, List.setIfInBounds_toArray, List.set_cons_zero, List.set_cons_succ]
          refine wpAnyH_ready (rs := [6]) (by kernel_rfl) (by simp) ?_
          refine AllReadyH.cons rfl (fun K hK => ?_) AllReadyH.nil
          go_simp
          go_at_call 21
          refine (Hf.out).mono ?_
          rintro e V2 ⟨rfl, hv⟩; subst V2
          refine hK.out _ _ rfl (fun hHeld => ?_)
          clear hK K
          try simp only [Act.put, List.getElem_toArray, List.getElem_cons_zero, List.getElem_cons_succ, List.setIfInBounds_toArray, List.set_cons_zero, List.set_cons_succ]
          refine wpAnyH_ready (rs := [10]) (by kernel_rfl) (by simp) ?_
          refine AllReadyH.cons rfl (fun K hK => ?_) AllReadyH.nil
          go_simp
          go_at_call 21
          refine (Hd.out).mono ?_
          rintro e V2 ⟨rfl, hv⟩; subst V2
          refine hK.out _ _ rfl (fun hHeld => ?_)
          clear hK K
          try simp only [Act.put, List.getElem_toArray, List.getElem_cons_zero, List.getElem_cons_succ, List.setIfInBounds_toArray, List.set_cons_zero, List.set_cons_succ]
          refine wpAnyH_take (i := 11) (v := .bool false) rfl (by kernel_rfl) (by kernel_rfl) (by kernel_rfl) (fun _ _ _ h => h) (Or.inl ⟨by rfl, ?_⟩) (by assumption) ?_
          · intro w8 hSw; exact bin_take rfl rfl (neq_self c w8) rfl rfl
          simp only [Act.put, List.getElem_toArray, List.getElem_cons_zero, List.getElem_cons_succ, List.setIfInBounds_toArray, List.set_cons_zero, List.set_cons_succ]
          refine wpAnyH_take (i := 12) (v := ?_) rfl (by kernel_rfl) (by kernel_rfl) (by kernel_rfl) (fun _ _ _ h => h) (Or.inl ⟨by rfl, ?_⟩) (by assumption) ?_
          rotate_left
          · intro w8 hSw; clear hSw; go_simp; (try with_reducible rfl)
          simp only [Act.put, List.getElem_toArray, List.getElem_cons_zero, List.getElem_cons_succ, List.setIfInBounds_toArray, List.set_cons_zero, List.set_cons_succ]
          refine wpAnyH_done (by kernel_rfl) ?_ _
          go_wp2_with fail
          go_roundw
          case rel => exact ⟨k + 1, by first | (rw [w1]; simp) | simp, Hkl.out, Lib.hid HU3.out.drew⟩
          case measure => first | exact meas_w Hkl.out w1 | exact meas_p Hkl.out
        · have HO2 := Lib.hid (HO.out.below Hc.out)
          have wo := HN.out
          have e : k = ll.length := Nat.le_antisymm hk (Nat.le_of_not_lt hlt)
          subst e
          clear hlt hk Hc
          go_wp2_with fail
          go_roundw
          case rel => exact ⟨i + 1, _, _, _, _, _, _, rfl, rfl, by first | (rw [wo]; simp) | simp, Hlt.out, HO2⟩
          case measure => first | exact meas_w Hlt.out wo | exact meas_p Hlt.out
    obtain ⟨F, ll, hbg, ham, hnc⟩ := HI.out.bag
    have hb1 := below_new V (.cells (mC op.m) mgT (0, 0))
    have own1 := own_msg1G V W.heap.size op.m HI.out.low.size
    obtain ⟨V1, hV1⟩ : ∃ V1, V1 = V.alloc (.cells (mC op.m) mgT) := ⟨_, rfl⟩
    obtain ⟨g1, hg1⟩ : ∃ g, g = V.heap.size := ⟨_, rfl⟩
    rw [← hV1] at hb1 own1
    rw [← hg1] at own1
    have hbg1 := hbg.below hb1
    have hcl := bput_o (Wb := W) hbg1 (below_on HI.out.low hb1 (Nat.le_refl _)) [op.m] (some ⟨g1, 0, none⟩) 1 (MgRow.of_ownG own1) (fun x hx => by simp only [List.mem_singleton] at hx; subst hx; exact Hop.out.msg) (by simp)
    rw [List.map_cons, List.map_nil, putsM_one] at hcl
    have Lm := (OpBox.of HX7.out).msg
    have HC := Lib.hid hcl
    have HV1 := Lib.hid hV1
    have HG1 := Lib.hid hg1
    have H1 := Lib.hid (And.intro hbg1 (And.intro (HI.out.below hb1) (And.intro ham hnc)))
    have HX1 := Lib.hid (bx_below hb1 HX7.out)
    clear hbg ham hnc hb1 own1 hV1 hg1 hbg1 hcl
    go_wp2_with (first
      | ((with_reducible show wpList _ _ _ (⟨_, Op.load 37 _, _, _, _, _⟩ :: _) _ _); refine wpl_ldT rfl rfl rfl (by assumption) ?_)
      | ((with_reducible show wpList _ _ _ (⟨_, Op.buildSlice _ _ _, _, _, _, _⟩ :: _) _ _); refine wpl_bs1V rfl rfl Try.underlying58 (bs1M op.m) rfl ?_; rw [← HV1.out, ← HG1.out]))
    refine (show Calls _ _ _ _ _ from HC.out).mono ?_
    rintro e U0 ⟨l', n, rfl, hmp, hn, hx0⟩
    have HU0 := Lib.hid (And.intro hn hx0)
    clear hn hx0 HC HV1 HG1 Lm HI k0 k1 k2 k18 kl
    by_cases hp : putOk 512 (inL A) (ll.map Lt.m).length op.m.v = true
    rotate_left
    · clear h1 h2 h3 h4
      rw [if_neg hp] at hmp
      have hln := congrArg List.length hmp
      rw [List.length_map, List.length_map] at hln
      have hn0 : n = 0 := by have := HU0.out.1; omega
      subst hn0
      have HO : Hid (OSt W b ai ci I aA cA A (i + 1) U0) := (H1.out.2.1.call H1.out.1 HU0.out.2 H1.out.2.1.iz (hmp ▸ H1.out.2.2.1) (NoCr.of_map (hmp ▸ H1.out.2.2.2.to_map))).more
      clear hp hmp hln HU0 H1 HX1
      go_upto_region 32 with fail
      obtain ⟨F, ll, hbg, -, hnc⟩ := HO.out.bag
      have HBg := Lib.hid hbg
      have Hnc := Lib.hid hnc
      have H5 := Lib.hid hbg.few
      have hlen := blen_o hbg
      clear hbg hnc
      go_wp2_with fail
      refine (show Calls _ _ _ _ _ from hlen).mono ?_
      rintro e V1 ⟨rfl, hv⟩
      subst V1
      clear hlen
      go_wp2_with fail
      go_loopw [99] (fun u ws => ∃ k : Nat, u = .int .i64 (k : Nat) ∧ k ≤ ll.length ∧ Hid (Below U0.heap.size U0 ws)) (fun u _ => ll.length - (intOf u).toNat)
      case atStart => exact ⟨0, rfl, Nat.zero_le _, Lib.hid (Below.refl _ _)⟩
      case round =>
        obtain ⟨k, rfl, hk, Hc⟩ := hrel
        by_cases hlt : k < ll.length
        · obtain ⟨j0, j1, w1⟩ := rw_nums hlt (Nat.le_trans H5.out.1 H5.out.2)
          have hlk := blook_yes (HBg.out.below Hc.out) k hlt
          have hcr := Hnc.out _ (List.getElem_mem hlt)
          obtain ⟨x, hx⟩ : ∃ x, x = ll[k] := ⟨_, rfl⟩
          rw [← hx] at hlk hcr
          have Hlk := Lib.hid hlk
          have Hcr := Lib.hid hcr
          have Hkl := Lib.hid hlt
          clear hlk hcr hx hlt hk
          go_wp2_with fail
          refine (show Calls _ _ _ _ _ from Hlk.out).mono ?_
          rintro e U1 ⟨⟨y, rfl, hyv, -⟩, hu1⟩
          have hcr2 : inL A y.frm = inL A y.dst := by
            have e1 := congrArg Ms.frm hyv
            have e2 := congrArg Ms.dst hyv
            have := Hcr.out
            rw [← e1, ← e2] at this
            exact this
          obtain ⟨c, hc⟩ : ∃ c, c = inL A y.frm := ⟨_, rfl⟩
          rw [← hc] at hcr2
          have HCR := Lib.hid (And.intro hc hcr2)
          have HU1 := Lib.hid hu1
          clear hyv hu1 hc hcr2 Hlk Hcr
          go_upto_region 36 with (first
            | (refine wpl_alM rfl (.inl rfl) rfl ?_
               intro p13 U2 hp13 hv2 hx13 hz13
               have hp13' := Lib.hid (Nat.le_of_eq hp13.symm)
               clear hp13 hz13)
            | (refine wpl_stM rfl (.inl rfl) rfl rfl rfl hx13 rfl ?_
               intro U3 hx133 hg13 hz13
               clear hz13))
          have HU3 := Lib.hid (below_on Hc.out (below_on HU1.out (below_grown hv2 hg13 hp13'.out hv2.size) (Nat.le_refl _)) (Nat.le_refl _))
          have Hf := Lib.hid (has_o U3.drew aA cA A y.frm (HO.out.iz.below (below_on HO.out.low HU3.out.drew (Nat.le_refl _))))
          have Hd := Lib.hid (has_o U3.drew aA cA A y.dst (HO.out.iz.below (below_on HO.out.low HU3.out.drew (Nat.le_refl _))))
          rw [show decide (y.frm ∈ A) = inL A y.frm from rfl, ← HCR.out.1] at Hf
          rw [show decide (y.dst ∈ A) = inL A y.dst from rfl, ← HCR.out.2] at Hd
          have HX13 := Lib.hid hx133
          clear hx133 hg13 hx13 hv2 hp13' HU1 HCR
          refine wp_region_held_drew (S := fun V => V = U3.drew) (by kernel_rfl) rfl (fun hHeld => ?_)
          refine wpAnyH_take (i := 0) (v := ?_) rfl (by kernel_rfl) (by kernel_rfl) (by kernel_rfl) (fun _ _ _ h => h) (Or.inl ⟨by rfl, ?_⟩) (by assumption) ?_
          rotate_left
          · intro w8 hSw; clear hSw; go_simp; (try with_reducible rfl)
          simp only [Act.put, List.getElem_toArray, List.getElem_cons_zero, List.getElem_cons_succ, List.setIfInBounds_toArray, List.set_cons_zero, List.set_cons_succ]
          refine wpAnyH_take (i := 1) (v := ?_) rfl (by kernel_rfl) (by kernel_rfl) (by kernel_rfl) (fun _ _ _ h => h) (Or.inl ⟨by rfl, ?_⟩) (by assumption) ?_
          rotate_left
          · intro w8 hSw; clear hSw; go_simp; (try with_reducible rfl)
          simp only [Act.put, List.getElem_toArray, List.getElem_cons_zero, List.getElem_cons_succ, List.setIfInBounds_toArray, List.set_cons_zero, List.set_cons_succ]
          refine wpAnyH_take (i := 2) (v := ?_) rfl (by kernel_rfl) (by kernel_rfl) (by kernel_rfl) (fun _ _ _ h => h) (Or.inl ⟨by rfl, ?_⟩) (by assumption) ?_
          rotate_left
          · intro w8 hSw; clear hSw; go_simp; (try with_reducible rfl)
          simp only [Act.put, List.getElem_toArray, List.getElem_cons_zero, List.getElem_cons_succ, List.setIfInBounds_toArray, List.set_cons_zero, List.set_cons_succ]
          refine wpAnyH_take (i := 3) (v := ?_) rfl (by kernel_rfl) (by kernel_rfl) (by kernel_rfl) (fun _ _ _ h => h) (Or.inl ⟨by rfl, ?_⟩) (by assumption) ?_
          rotate_left
          · intro w8 hSw; clear hSw; go_simp; (try with_reducible rfl)
          simp only [Act.put, List.getElem_toArray, List.getElem_cons_zero, List.getElem_cons_succ, List.setIfInBounds_toArray, List.set_cons_zero, List.set_cons_succ]
          refine wpAnyH_take (i := 4) (v := ?_) rfl (by kernel_rfl) (by kernel_rfl) (by kernel_rfl) (fun _ _ _ h => h) (Or.inl ⟨by rfl, ?_⟩) (by assumption) ?_
          rotate_left
          · intro w8 hSw; clear hSw; go_simp; (try with_reducible rfl)
          simp only [Act.put, List.getElem_toArray, List.getElem_cons_zero, List.getElem_cons_succ, List.setIfInBounds_toArray, List.set_cons_zero, List.set_cons_succ]
          refine wpAnyH_take (i := 7) (v := ?_) rfl (by kernel_rfl) (by kernel_rfl) (by kernel_rfl) (fun _ _ _ h => h) (Or.inl ⟨by rfl, ?_⟩) (by assumption) ?_
          rotate_left
          · intro w8 hSw; clear hSw; go_simp; (try with_reducible rfl)
          simp only [Act.put, List.getElem_toArray, List.getElem_cons_zero, List.getElem_cons_succ, List.setIfInBounds_toArray, List.set_cons_zero, List.set_cons_succ]
          refine wpAnyH_take (i := 8) (v := ?_) rfl (by kernel_rfl) (by kernel_rfl) (by kernel_rfl) (fun _ _ _ h => h) (Or.inl ⟨by rfl, ?_⟩) (by assumption) ?_
          rotate_left
          · intro w8 hSw; clear hSw; go_simp; (try with_reducible rfl)
          simp only [Act.put, List.getElem_toArray, List.getElem_cons_zero, List.getElem_cons_succ, List.setIfInBounds_toArray, List.set_cons_zero, List.set_cons_succ]
          refine wpAnyH_take (i := 5) (v := .int .i64 y.frm) rfl (by kernel_rfl) (by kernel_rfl) (by kernel_rfl) (fun _ _ _ h => h) (Or.inl ⟨by rfl, ?_⟩) (by assumption) ?_
          · intro w8 hSw; exact ld_takeT rfl (ldI (by rw [hSw]; exact block_cell HX13.out 1)) rfl
          simp only [Act.put, List.getElem_toArray, List.getElem_cons_zero, List.getElem_cons_succ, List.setIfInBounds_toArray, List.set_cons_zero, List.set_cons_succ]
          refine wpAnyH_take (i := 9) (v := .int .i64 y.dst) rfl (by kernel_rfl) (by kernel_rfl) (by kernel_rfl) (fun _ _ _ h => h) (Or.inl ⟨by rfl, ?_⟩) (by assumption) ?_
          · intro w8 hSw; exact ld_takeT rfl (ldI (by rw [hSw]; exact block_cell HX13.out 2)) rfl
          simp only [Act.put, List.getElem_toArray, List.getElem_cons_zero, List.getElem_cons_succ, List.setIfInBounds_toArray, List.set_cons_zero, List.set_cons_succ]
          refine wpAnyH_ready (rs := [6]) (by kernel_rfl) (by simp) ?_
          refine AllReadyH.cons rfl (fun K hK => ?_) AllReadyH.nil
          go_simp
          go_at_call 21
          refine (Hf.out).mono ?_
          rintro e V2 ⟨rfl, hv⟩; subst V2
          refine hK.out _ _ rfl (fun hHeld => ?_)
          clear hK K
          try simp only [Act.put, List.getElem_toArray, List.getElem_cons_zero, List.getElem_cons_succ, List.setIfInBounds_toArray, List.set_cons_zero, List.set_cons_succ]
          refine wpAnyH_ready (rs := [10]) (by kernel_rfl) (by simp) ?_
          refine AllReadyH.cons rfl (fun K hK => ?_) AllReadyH.nil
          go_simp
          go_at_call 21
          refine (Hd.out).mono ?_
          rintro e V2 ⟨rfl, hv⟩; subst V2
          refine hK.out _ _ rfl (fun hHeld => ?_)
          clear hK K
          try simp only [Act.put, List.getElem_toArray, List.getElem_cons_zero, List.getElem_cons_succ, List.setIfInBounds_toArray, List.set_cons_zero, List.set_cons_succ]
          refine wpAnyH_take (i := 11) (v := .bool false) rfl (by kernel_rfl) (by kernel_rfl) (by kernel_rfl) (fun _ _ _ h => h) (Or.inl ⟨by rfl, ?_⟩) (by assumption) ?_
          · intro w8 hSw; exact bin_take rfl rfl (neq_self c w8) rfl rfl
          simp only [Act.put, List.getElem_toArray, List.getElem_cons_zero, List.getElem_cons_succ, List.setIfInBounds_toArray, List.set_cons_zero, List.set_cons_succ]
          refine wpAnyH_take (i := 12) (v := ?_) rfl (by kernel_rfl) (by kernel_rfl) (by kernel_rfl) (fun _ _ _ h => h) (Or.inl ⟨by rfl, ?_⟩) (by assumption) ?_
          rotate_left
          · intro w8 hSw; clear hSw; go_simp; (try with_reducible rfl)
          simp only [Act.put, List.getElem_toArray, List.getElem_cons_zero, List.getElem_cons_succ, List.setIfInBounds_toArray, List.set_cons_zero, List.set_cons_succ]
          refine wpAnyH_done (by kernel_rfl) ?_ _
          go_wp2_with fail
          go_roundw
          case rel => exact ⟨k + 1, by first | (rw [w1]; simp) | simp, Hkl.out, Lib.hid HU3.out.drew⟩
          case measure => first | exact meas_w Hkl.out w1 | exact meas_p Hkl.out
        · have HO2 := Lib.hid (HO.out.below Hc.out)
          have wo := HN.out
          have e : k = ll.length := Nat.le_antisymm hk (Nat.le_of_not_lt hlt)
          subst e
          clear hlt hk Hc
          go_wp2_with fail
          go_roundw
          case rel => exact ⟨i + 1, _, _, _, _, _, _, rfl, rfl, by first | (rw [wo]; simp) | simp, Hlt.out, HO2⟩
          case measure => first | exact meas_w Hlt.out wo | exact meas_p Hlt.out
    clear h1 h2 h3 h4
    rw [if_pos hp] at hmp
    have hln := congrArg List.length hmp
    rw [List.length_append, List.length_map, List.length_map, List.length_singleton] at hln
    have hn1 : n = 1 := by have := HU0.out.1; omega
    subst hn1
    obtain ⟨F2, hbg2, hG2, hF2⟩ := HU0.out.2
    have hx2 := (hG2.block p7 (bx_lt HX1.out) (H1.out.1.off (E := boT) (by decide) (by decide) (elem?_of HX1.out))).trans HX1.out
    have own2 := own_beside H1.out.1 H1.out.2.1.own hG2
    have hlow2 : Below W.heap.size W U0 := H1.out.2.1.low.trans (hG2.above H1.out.2.1.low.size (fun i hi => (H1.out.1.elem i hi).2.1))
    have hb3 := below_new U0 (.cells (mC op.m) mgT (0, 0))
    have own3 := own_msg1G U0 W.heap.size op.m hlow2.size
    obtain ⟨U1, hU1⟩ : ∃ U1, U1 = U0.alloc (.cells (mC op.m) mgT) := ⟨_, rfl⟩
    obtain ⟨g2, hg2⟩ : ∃ g, g = U0.heap.size := ⟨_, rfl⟩
    rw [← hU1] at hb3 own3
    rw [← hg2] at own3
    have ownI := own_gr own2 (Gr.below hb3) (fun _ _ h => h)
    obtain ⟨q3, q4⟩ := once_nums H1.out.2.1.few Hn80.out
    have hlow3 := below_on hlow2 hb3 (Nat.le_refl _)
    have HB := Lib.hid (And.intro (hbg2.below hb3) (And.intro hmp hp))
    have HW := Lib.hid (And.intro own3 (And.intro ownI (And.intro hlow3 (And.intro q3 (And.intro q4 hlow3.size)))))
    have HU1 := Lib.hid hU1
    have HG2 := Lib.hid hg2
    have Lm := (OpBox.of hx2).msg
    have H2 := Lib.hid (And.intro H1.out.2.1.iz (And.intro H1.out.2.1.arg (And.intro H1.out.2.1.few H1.out.2.2)))
    clear hbg2 hG2 hF2 hx2 own2 hlow2 hb3 own3 hU1 hg2 ownI q3 q4 hlow3 hp hmp hln HU0 H1 HX1
    go_upto_region 32 with (first
      | ((with_reducible show wpList _ _ _ (⟨_, Op.load 37 _, _, _, _, _⟩ :: _) _ _); refine wpl_ldT rfl rfl rfl (by assumption) ?_)
      | ((with_reducible show wpList _ _ _ (⟨_, Op.buildSlice _ _ _, _, _, _, _⟩ :: _) _ _); refine wpl_bs1V rfl rfl Try.underlying58 (bs1M op.m) rfl ?_; rw [← HU1.out, ← HG2.out])
      | (at_builtin; refine wpl_append_lie rfl (.tmp 34) (.tmp 37) 58 rfl W.heap.size mgT infoMg Try.underlying58 rfl (by decide) _ I.length _ rfl HW.out.2.1 _ 1 1 _ rfl (Sl.of_own HW.out.1) (mRows_one _) HW.out.2.2.2.1 HW.out.2.2.2.2.1 HW.out.2.2.2.2.2 ?_; intro a4 c4 U4 own4 hgr4 hat4))
    obtain ⟨I2, hI2⟩ : ∃ I2, I2 = I ++ [op.m] := ⟨_, rfl⟩
    have hI2l : I.length + 1 = I2.length := by rw [hI2]; simp
    rw [hI2l] at own4 ⊢
    rw [← mFlat_two, ← hI2] at own4
    have HO : Hid (OSt W b a4 c4 I2 aA cA A (i + 1) U4) := by
      refine ⟨⟨F2, l', bag_app HB.out.1 HW.out.2.1 hgr4, ?_, NoCr.of_map ?_⟩, below_app HW.out.2.2.1 hgr4 HW.out.2.1 (Nat.le_refl _) HW.out.2.2.2.2.2, H2.out.1, own4, ?_, ?_⟩
      · rw [HB.out.2.1, hI2, List.map_append, List.map_cons, List.map_nil]; exact H2.out.2.2.2.1.put _
      · rw [HB.out.2.1]
        intro m hm
        rcases List.mem_append.1 hm with hm | hm
        · exact H2.out.2.2.2.2.to_map m hm
        · simp only [List.mem_singleton] at hm; subst hm; exact putOk_wall HB.out.2.2
      · rw [hI2]
        intro x hx
        rcases List.mem_append.1 hx with hx | hx
        · exact H2.out.2.1 x hx
        · simp only [List.mem_singleton] at hx; subst hx; exact Hop.out.msg
      · rw [← hI2l]; exact Nat.succ_le_succ H2.out.2.2.1
    clear own4 hgr4 hat4 hI2 hI2l HB HW HU1 HG2 Lm H2
    obtain ⟨F, ll, hbg, -, hnc⟩ := HO.out.bag
    have HBg := Lib.hid hbg
    have Hnc := Lib.hid hnc
    have H5 := Lib.hid hbg.few
    have hlen := blen_o hbg
    clear hbg hnc
    go_wp2_with fail
    refine (show Calls _ _ _ _ _ from hlen).mono ?_
    rintro e V1 ⟨rfl, hv⟩
    subst V1
    clear hlen
    go_wp2_with fail
    go_loopw [99] (fun u ws => ∃ k : Nat, u = .int .i64 (k : Nat) ∧ k ≤ ll.length ∧ Hid (Below U4.heap.size U4 ws)) (fun u _ => ll.length - (intOf u).toNat)
    case atStart => exact ⟨0, rfl, Nat.zero_le _, Lib.hid (Below.refl _ _)⟩
    case round =>
      obtain ⟨k, rfl, hk, Hc⟩ := hrel
      by_cases hlt : k < ll.length
      · obtain ⟨j0, j1, w1⟩ := rw_nums hlt (Nat.le_trans H5.out.1 H5.out.2)
        have hlk := blook_yes (HBg.out.below Hc.out) k hlt
        have hcr := Hnc.out _ (List.getElem_mem hlt)
        obtain ⟨x, hx⟩ : ∃ x, x = ll[k] := ⟨_, rfl⟩
        rw [← hx] at hlk hcr
        have Hlk := Lib.hid hlk
        have Hcr := Lib.hid hcr
        have Hkl := Lib.hid hlt
        clear hlk hcr hx hlt hk
        go_wp2_with fail
        refine (show Calls _ _ _ _ _ from Hlk.out).mono ?_
        rintro e U1 ⟨⟨y, rfl, hyv, -⟩, hu1⟩
        have hcr2 : inL A y.frm = inL A y.dst := by
          have e1 := congrArg Ms.frm hyv
          have e2 := congrArg Ms.dst hyv
          have := Hcr.out
          rw [← e1, ← e2] at this
          exact this
        obtain ⟨c, hc⟩ : ∃ c, c = inL A y.frm := ⟨_, rfl⟩
        rw [← hc] at hcr2
        have HCR := Lib.hid (And.intro hc hcr2)
        have HU1 := Lib.hid hu1
        clear hyv hu1 hc hcr2 Hlk Hcr
        go_upto_region 36 with (first
          | (refine wpl_alM rfl (.inl rfl) rfl ?_
             intro p13 U2 hp13 hv2 hx13 hz13
             have hp13' := Lib.hid (Nat.le_of_eq hp13.symm)
             clear hp13 hz13)
          | (refine wpl_stM rfl (.inl rfl) rfl rfl rfl hx13 rfl ?_
             intro U3 hx133 hg13 hz13
             clear hz13))
        have HU3 := Lib.hid (below_on Hc.out (below_on HU1.out (below_grown hv2 hg13 hp13'.out hv2.size) (Nat.le_refl _)) (Nat.le_refl _))
        have Hf := Lib.hid (has_o U3.drew aA cA A y.frm (HO.out.iz.below (below_on HO.out.low HU3.out.drew (Nat.le_refl _))))
        have Hd := Lib.hid (has_o U3.drew aA cA A y.dst (HO.out.iz.below (below_on HO.out.low HU3.out.drew (Nat.le_refl _))))
        rw [show decide (y.frm ∈ A) = inL A y.frm from rfl, ← HCR.out.1] at Hf
        rw [show decide (y.dst ∈ A) = inL A y.dst from rfl, ← HCR.out.2] at Hd
        have HX13 := Lib.hid hx133
        clear hx133 hg13 hx13 hv2 hp13' HU1 HCR
        refine wp_region_held_drew (S := fun V => V = U3.drew) (by kernel_rfl) rfl (fun hHeld => ?_)
        refine wpAnyH_take (i := 0) (v := ?_) rfl (by kernel_rfl) (by kernel_rfl) (by kernel_rfl) (fun _ _ _ h => h) (Or.inl ⟨by rfl, ?_⟩) (by assumption) ?_
        rotate_left
        · intro w8 hSw; clear hSw; go_simp; (try with_reducible rfl)
        simp only [Act.put, List.getElem_toArray, List.getElem_cons_zero, List.getElem_cons_succ, List.setIfInBounds_toArray, List.set_cons_zero, List.set_cons_succ]
        refine wpAnyH_take (i := 1) (v := ?_) rfl (by kernel_rfl) (by kernel_rfl) (by kernel_rfl) (fun _ _ _ h => h) (Or.inl ⟨by rfl, ?_⟩) (by assumption) ?_
        rotate_left
        · intro w8 hSw; clear hSw; go_simp; (try with_reducible rfl)
        simp only [Act.put, List.getElem_toArray, List.getElem_cons_zero, List.getElem_cons_succ, List.setIfInBounds_toArray, List.set_cons_zero, List.set_cons_succ]
        refine wpAnyH_take (i := 2) (v := ?_) rfl (by kernel_rfl) (by kernel_rfl) (by kernel_rfl) (fun _ _ _ h => h) (Or.inl ⟨by rfl, ?_⟩) (by assumption) ?_
        rotate_left
        · intro w8 hSw; clear hSw; go_simp; (try with_reducible rfl)
        simp only [Act.put, List.getElem_toArray, List.getElem_cons_zero, List.getElem_cons_succ, List.setIfInBounds_toArray, List.set_cons_zero, List.set_cons_succ]
        refine wpAnyH_take (i := 3) (v := ?_) rfl (by kernel_rfl) (by kernel_rfl) (by kernel_rfl) (fun _ _ _ h => h) (Or.inl ⟨by rfl, ?_⟩) (by assumption) ?_
        rotate_left
        · intro w8 hSw; clear hSw; go_simp; (try with_reducible rfl)
        simp only [Act.put, List.getElem_toArray, List.getElem_cons_zero, List.getElem_cons_succ, List.setIfInBounds_toArray, List.set_cons_zero, List.set_cons_succ]
        refine wpAnyH_take (i := 4) (v := ?_) rfl (by kernel_rfl) (by kernel_rfl) (by kernel_rfl) (fun _ _ _ h => h) (Or.inl ⟨by rfl, ?_⟩) (by assumption) ?_
        rotate_left
        · intro w8 hSw; clear hSw; go_simp; (try with_reducible rfl)
        simp only [Act.put, List.getElem_toArray, List.getElem_cons_zero, List.getElem_cons_succ, List.setIfInBounds_toArray, List.set_cons_zero, List.set_cons_succ]
        refine wpAnyH_take (i := 7) (v := ?_) rfl (by kernel_rfl) (by kernel_rfl) (by kernel_rfl) (fun _ _ _ h => h) (Or.inl ⟨by rfl, ?_⟩) (by assumption) ?_
        rotate_left
        · intro w8 hSw; clear hSw; go_simp; (try with_reducible rfl)
        simp only [Act.put, List.getElem_toArray, List.getElem_cons_zero, List.getElem_cons_succ, List.setIfInBounds_toArray, List.set_cons_zero, List.set_cons_succ]
        refine wpAnyH_take (i := 8) (v := ?_) rfl (by kernel_rfl) (by kernel_rfl) (by kernel_rfl) (fun _ _ _ h => h) (Or.inl ⟨by rfl, ?_⟩) (by assumption) ?_
        rotate_left
        · intro w8 hSw; clear hSw; go_simp; (try with_reducible rfl)
        simp only [Act.put, List.getElem_toArray, List.getElem_cons_zero, List.getElem_cons_succ, List.setIfInBounds_toArray, List.set_cons_zero, List.set_cons_succ]
        refine wpAnyH_take (i := 5) (v := .int .i64 y.frm) rfl (by kernel_rfl) (by kernel_rfl) (by kernel_rfl) (fun _ _ _ h => h) (Or.inl ⟨by rfl, ?_⟩) (by assumption) ?_
        · intro w8 hSw; exact ld_takeT rfl (ldI (by rw [hSw]; exact block_cell HX13.out 1)) rfl
        simp only [Act.put, List.getElem_toArray, List.getElem_cons_zero, List.getElem_cons_succ, List.setIfInBounds_toArray, List.set_cons_zero, List.set_cons_succ]
        refine wpAnyH_take (i := 9) (v := .int .i64 y.dst) rfl (by kernel_rfl) (by kernel_rfl) (by kernel_rfl) (fun _ _ _ h => h) (Or.inl ⟨by rfl, ?_⟩) (by assumption) ?_
        · intro w8 hSw; exact ld_takeT rfl (ldI (by rw [hSw]; exact block_cell HX13.out 2)) rfl
        simp only [Act.put, List.getElem_toArray, List.getElem_cons_zero, List.getElem_cons_succ, List.setIfInBounds_toArray, List.set_cons_zero, List.set_cons_succ]
        refine wpAnyH_ready (rs := [6]) (by kernel_rfl) (by simp) ?_
        refine AllReadyH.cons rfl (fun K hK => ?_) AllReadyH.nil
        go_simp
        go_at_call 21
        refine (Hf.out).mono ?_
        rintro e V2 ⟨rfl, hv⟩; subst V2
        refine hK.out _ _ rfl (fun hHeld => ?_)
        clear hK K
        try simp only [Act.put, List.getElem_toArray, List.getElem_cons_zero, List.getElem_cons_succ, List.setIfInBounds_toArray, List.set_cons_zero, List.set_cons_succ]
        refine wpAnyH_ready (rs := [10]) (by kernel_rfl) (by simp) ?_
        refine AllReadyH.cons rfl (fun K hK => ?_) AllReadyH.nil
        go_simp
        go_at_call 21
        refine (Hd.out).mono ?_
        rintro e V2 ⟨rfl, hv⟩; subst V2
        refine hK.out _ _ rfl (fun hHeld => ?_)
        clear hK K
        try simp only [Act.put, List.getElem_toArray, List.getElem_cons_zero, List.getElem_cons_succ, List.setIfInBounds_toArray, List.set_cons_zero, List.set_cons_succ]
        refine wpAnyH_take (i := 11) (v := .bool false) rfl (by kernel_rfl) (by kernel_rfl) (by kernel_rfl) (fun _ _ _ h => h) (Or.inl ⟨by rfl, ?_⟩) (by assumption) ?_
        · intro w8 hSw; exact bin_take rfl rfl (neq_self c w8) rfl rfl
        simp only [Act.put, List.getElem_toArray, List.getElem_cons_zero, List.getElem_cons_succ, List.setIfInBounds_toArray, List.set_cons_zero, List.set_cons_succ]
        refine wpAnyH_take (i := 12) (v := ?_) rfl (by kernel_rfl) (by kernel_rfl) (by kernel_rfl) (fun _ _ _ h => h) (Or.inl ⟨by rfl, ?_⟩) (by assumption) ?_
        rotate_left
        · intro w8 hSw; clear hSw; go_simp; (try with_reducible rfl)
        simp only [Act.put, List.getElem_toArray, List.getElem_cons_zero, List.getElem_cons_succ, List.setIfInBounds_toArray, List.set_cons_zero, List.set_cons_succ]
        refine wpAnyH_done (by kernel_rfl) ?_ _
        go_wp2_with fail
        go_roundw
        case rel => exact ⟨k + 1, by first | (rw [w1]; simp) | simp, Hkl.out, Lib.hid HU3.out.drew⟩
        case measure => first | exact meas_w Hkl.out w1 | exact meas_p Hkl.out
      · have HO2 := Lib.hid (HO.out.below Hc.out)
        have wo := HN.out
        have e : k = ll.length := Nat.le_antisymm hk (Nat.le_of_not_lt hlt)
        subst e
        clear hlt hk Hc
        go_wp2_with fail
        go_roundw
        case rel => exact ⟨i + 1, _, _, _, _, _, _, rfl, rfl, by first | (rw [wo]; simp) | simp, Hlt.out, HO2⟩
        case measure => first | exact meas_w Hlt.out wo | exact meas_p Hlt.out
end Go.Proofs.Ytbmkgcoolofmpaa
