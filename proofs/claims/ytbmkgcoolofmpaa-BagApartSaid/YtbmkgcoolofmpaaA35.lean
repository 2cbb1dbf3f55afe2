/- Lemmas for BagApart (BagApart). No statement of the seat is proved here. -/
import Derived.Test.YtbmkgcoolofmpaaA34
namespace Go.Proofs.Ytbmkgcoolofmpaa
set_option linter.unusedVariables false
set_option linter.unusedSimpArgs false
set_option linter.unusedSectionVars false
open Go Go.RowKit Go.Maps Go.Shelf
set_option maxRecDepth 100000 in
set_option maxHeartbeats 8000000 in
theorem bagApart_walk (ao : Option Addr) (cap : Nat) (l : List BOp) (o p : BOp) (W : World) (hs : BOps W ao cap l) (hok : ∀ a ∈ l, BOpOk W a) (ho : BOpOk W o) (hp : BOpOk W p) :
    Calls Try.prog 4 #[.slice ao l.length cap, .agg (oC o), .agg (oC p)] W fun e W' => e = .returned (.bool true) ∧ Below W.heap.size W W' := by
  obtain ⟨W1, hW1⟩ : ∃ W1, W1 = W.alloc (.cells (oC o) boT) := ⟨_, rfl⟩
  obtain ⟨W2, hW2⟩ : ∃ W2, W2 = W1.alloc (.cells (oC p) boT) := ⟨_, rfl⟩
  obtain ⟨b1, hb1⟩ : ∃ b, b = W.heap.size := ⟨_, rfl⟩
  obtain ⟨b2, hb2⟩ : ∃ b, b = W.heap.size + 1 := ⟨_, rfl⟩
  have z1 : W1.heap.size = W.heap.size + 1 := by rw [hW1]; simp
  have B1 : Below W.heap.size W W1 := by rw [hW1]; exact below_new _ _
  have B2 : Below W1.heap.size W1 W2 := by rw [hW2]; exact below_new _ _
  have hB2 := below_on B1 B2 (Nat.le_refl _)
  have t1 : W2.heap[b1]? = some (.cells (oC o) boT (0, 0)) := by
    rw [B2.block b1 (by omega), hW1, hb1]; exact heap_alloc_new _ _
  have t2 : W2.heap[b2]? = some (.cells (oC p) boT (0, 0)) := by
    rw [hW2, hb2, ← z1]; exact heap_alloc_new _ _
  have Hup : Hid (W.heap.size ≤ b1 ∧ W.heap.size ≤ b2) := ⟨by omega, by omega⟩
  have Hap : Hid (b1 ≠ b2) := (by omega : b1 ≠ b2)
  have HB2 := Lib.hid hB2
  have T1 := Lib.hid t1
  have T2 := Lib.hid t2
  clear z1 B1 B2 hB2 t1 t2
  have Hs := Lib.hid (hs.below HB2.out)
  have Hok := Lib.hid (fun a ha => (hok a ha).below HB2.out)
  have Ho := Lib.hid (ho.below HB2.out)
  have Hp := Lib.hid (hp.below HB2.out)
  have hmx : l.length ≤ maxLen := Nat.le_trans hs.le hs.max
  have Hmx := Lib.hid hmx
  have Hl1 := Lib.hid (fun V (hb : Below W2.heap.size W2 V) => light36_o V ao cap l (Hs.out.below hb) (fun o ho => ((Hok.out o ho).below hb).1))
  have Hl2 := Lib.hid (fun V (hb : Below W2.heap.size W2 V) (g : Nat) (hg : V.heap[g]? = some (.cells (oC o ++ oC p) boT (0, 0))) => light36_o V (some ⟨g, 0, none⟩) 2 [o, p] (bops2 hg) (fun x hx => by
    simp only [List.mem_cons, List.not_mem_nil, or_false] at hx
    rcases hx with rfl | rfl
    · exact (Ho.out.below hb).1
    · exact (Hp.out.below hb).1))
  clear hs hok ho hp hmx
  go_enter Try.func4, Try.ntmps4
  go_upto_region 1 with fail
  rw [← hW1, ← hW2, ← hb2, ← hb1]
  clear hW1 hW2 hb1 hb2
  go_wp2_with fail
  refine (show Calls _ _ _ _ _ from Hl1.out _ (Below.refl _ _)).mono ?_
  rintro e V1 ⟨rfl, hb1⟩
  have HB1 := Lib.hid hb1
  clear hb1
  by_cases hL : LightB l
  rotate_left
  · rw [decide_eq_false hL]
    go_wp2_with fail
    refine (show Calls _ _ _ _ _ from lives36_any _).mono ?_
    rintro e V2 ⟨rfl, hb2⟩
    go_wp2_with fail
    go_ret
    exact ⟨rfl, below_on HB2.out (below_on HB1.out hb2 (Nat.le_refl _)) (Nat.le_refl _)⟩
  rw [decide_eq_true hL]
  have HL := Lib.hid hL
  clear hL
  have L1 := ld_obox (bx_below HB1.out T1.out)
  have L2 := ld_obox (bx_below HB1.out T2.out)
  go_wp2_with (first
    | ((with_reducible show wpList _ _ _ (⟨_, Op.load _ _, _, _, _, _⟩ :: _) _ _); refine wpl_ldT rfl rfl rfl (by assumption) ?_)
    | ((with_reducible show wpList _ _ _ (⟨_, Op.buildSlice _ _ _, _, _, _, _⟩ :: _) _ _); refine wpl_bs2V rfl rfl Try.underlying22 (bs2O o p) rfl rfl ?_))
  have hbn := below_new V1 (.cells (oC o ++ oC p) boT (0, 0))
  have hxn : (V1.alloc (.cells (oC o ++ oC p) boT)).heap[V1.heap.size]? = some (.cells (oC o ++ oC p) boT (0, 0)) := heap_alloc_new _ _
  obtain ⟨V2, hV2⟩ : ∃ V2, V2 = V1.alloc (.cells (oC o ++ oC p) boT) := ⟨_, rfl⟩
  rw [← hV2] at hbn hxn ⊢
  have HB2n := Lib.hid (below_on HB1.out hbn (Nat.le_refl _))
  have Hl3 := Lib.hid (Hl2.out V2 HB2n.out _ hxn)
  clear hbn hxn hV2 L1 L2 Hl2 Hl1
  refine (show Calls _ _ _ _ _ from Hl3.out).mono ?_
  rintro e V3 ⟨rfl, hb3⟩
  have HB3 := Lib.hid (below_on HB2n.out hb3 (Nat.le_refl _))
  clear hb3 Hl3 HB1 HB2n
  by_cases hL : LightB [o, p]
  rotate_left
  · rw [decide_eq_false hL]
    go_wp2_with fail
    refine (show Calls _ _ _ _ _ from lives36_any _).mono ?_
    rintro e V2 ⟨rfl, hb2⟩
    go_wp2_with fail
    go_ret
    exact ⟨rfl, below_on HB2.out (below_on HB3.out hb2 (Nat.le_refl _)) (Nat.le_refl _)⟩
  rw [decide_eq_true hL]
  have HOo := Lib.hid (opok_of Ho.out (hL.1 o (by simp)))
  have HOp := Lib.hid (opok_of Hp.out (hL.1 p (by simp)))
  clear hL Ho Hp
  go_wp2_with fail
  refine (show Calls _ _ _ _ _ from bnew_o W2.heap.size _ 20 (by decide) HB3.out.size).mono ?_
  rintro e V4 ⟨b, F, rfl, hbg, hb4, hFn⟩
  have HBg := Lib.hid hbg
  have HB4 := Lib.hid (below_on HB3.out hb4 (Nat.le_refl _))
  clear hbg hb4 hFn HB3
  go_upto_region 4 with (first
    | (refine wpl_alB rfl rfl ?_
       intro p8 V5 hp8 hb5 hx8 hz8
       have hp8' := Lib.hid (Nat.le_of_eq hp8.symm)
       clear hp8 hz8)
    | (refine wpl_stB rfl rfl rfl rfl ⟨rfl, rfl, rfl⟩ hx8 ?_
       intro V6 hx86 hg8 hz8
       clear hz8))
  have hB6 : Below V4.heap.size V4 V6 := below_grown hb5 hg8 hp8'.out hb5.size
  have HSt : Hid (BSt W2 b 20 p8 V6) := bst_start HBg.out (below_on HB4.out hB6 (Nat.le_refl _)) hB6 hp8'.out hx86 (Nat.le_trans HB4.out.size hp8'.out)
  clear hB6 hb5 hg8 hx8 hx86 hp8' HBg HB4
  go_wp2_with fail
  go_loopw [38] (fun u wr => ∃ i : Nat, u = .int .i64 (i : Nat) ∧ i ≤ l.length ∧ Hid (BSt W2 b 20 p8 wr)) (fun u _ => l.length - (intOf u).toNat)
  case atStart => exact ⟨0, rfl, Nat.zero_le _, HSt⟩
  case round =>
    obtain ⟨i, rfl, hi, Hinv⟩ := hrel
    by_cases hlt : i < l.length
    · obtain ⟨F, A, aA, cA, X, lo, lc, hpr, hA, hx6, hF6, hW6⟩ := Hinv.out
      obtain ⟨g, o1, rfl, hgl, l10⟩ := (Hs.out.below hpr.low).load i hlt
      obtain ⟨i0, i1, w1⟩ := li_nums hlt Hmx.out
      have hop := opok_of (Hok.out _ (List.getElem_mem hlt)) (HL.out.1 _ (List.getElem_mem hlt))
      obtain ⟨op, ho⟩ : ∃ op, op = l[i] := ⟨_, rfl⟩
      rw [← ho] at l10 hop
      have Hop := Lib.hid hop
      have Hlt := Lib.hid hlt
      have Hpr := Lib.hid (And.intro hpr (And.intro hA (And.intro hx6 (And.intro hF6 hW6))))
      clear ho hop hlt hgl hpr hA hx6 hF6 hW6 Hinv
      go_upto_region 7 with (first
        | ((with_reducible show wpList _ _ _ (⟨_, Op.load 39 _, _, _, _, _⟩ :: _) _ _); refine wpl_ldT rfl rfl rfl (by assumption) ?_)
        | (refine wpl_alO rfl rfl ?_
           intro p9 V2 hp9 hb2 hx9 hz9
           have hp9' := Lib.hid (Nat.le_of_eq hp9.symm)
           clear hp9 hz9)
        | (refine wpl_stO rfl rfl rfl rfl hx9 rfl ?_
           intro V3 hx93 hg9 hz9
           clear hz9))
      have hB3 : Below wr.heap.size wr V3 := below_grown hb2 hg9 hp9'.out hb2.size
      have hpr3 := Hpr.out.1.below hB3
      have h6 := bx_below hB3 Hpr.out.2.2.1
      have Hdo := do_any W2 V3 F b 20 A aA cA X lo lc op Hop.out hpr3 Hpr.out.2.1
      unfold rV at Hdo
      have Hdo := Lib.hid Hdo
      have H6 := Lib.hid (And.intro h6 (And.intro Hpr.out.2.2.2.1 Hpr.out.2.2.2.2))
      have L6 := ldRb h6
      have L8 := ld_obox hx93
      clear hB3 hpr3 h6 hb2 hg9 hx9 hx93 l10 Hpr hp9' Hop
      go_wp2_with ((with_reducible show wpList _ _ _ (⟨_, Op.load _ _, _, _, _, _⟩ :: _) _ _); refine wpl_ldT rfl rfl rfl (by assumption) ?_)
      refine (show Calls _ _ _ _ _ from Hdo.out).mono ?_
      rintro e V4 ⟨A', aA', cA', X', lo', lc', F', rfl, hpr4, hA4, hG4, hF4⟩
      unfold rV
      have h64 := (hG4.block p8 (bx_lt H6.out.1) H6.out.2.1).trans H6.out.1
      have hn6 : ¬ F' p8 := fun hf => by
        rcases hF4 _ hf with hf | hf
        · exact H6.out.2.1 hf
        · exact absurd (bx_lt H6.out.1) (Nat.not_lt.2 hf)
      have Hpr4 := Lib.hid (And.intro hpr4 (And.intro hA4 (And.intro h64 (And.intro hn6 H6.out.2.2))))
      clear hpr4 hA4 hG4 hF4 hn6 H6 L6 L8 Hdo
      go_upto_region 8 with (refine wpl_stB rfl rfl rfl rfl ⟨rfl, rfl, rfl⟩ h64 ?_; intro V8 hx68 hg68 hz68; clear hz68)
      have HSt8 : Hid (BSt W2 b 20 p8 V8) := ⟨F', A', aA', cA', X', lo', lc', Hpr4.out.1.beside (Gr.one (F := fun i => i = p8) hg68 (fun i hi => (Option.some.inj hi).symm)) (fun i hf hi => by subst hi; exact Hpr4.out.2.2.2.1 hf) (fun i hi => by subst hi; exact Hpr4.out.2.2.2.2) (fun i hi => by subst hi; rw [elem?_of h64]; exact fun e => rbT_u8 (Option.some.inj e)) (fun i hi => by subst hi; rw [elem?_of h64]; exact fun e => rbT_rm (Option.some.inj e)), Hpr4.out.2.1, hx68, Hpr4.out.2.2.2⟩
      clear h64 hx68 hg68 Hpr4
      go_wp2_with fail
      go_roundw
      case rel => exact ⟨i + 1, by first | (rw [w1]; simp) | simp, Hlt.out, HSt8⟩
      case measure => first | exact meas_w Hlt.out w1 | exact meas_p Hlt.out
    · have e : i = l.length := by omega
      subst e
      clear hlt hi
      obtain ⟨F, A, aA, cA, X, lo, lc, hpr, hA, hx8, hF8, hW8⟩ := Hinv.out
      obtain ⟨ll, hbg, hlm⟩ := hpr.bag
      have Hcl := Lib.hid (bclone_o hbg)
      have Hpr := Lib.hid hpr
      have HBg := Lib.hid hbg
      have HA := Lib.hid hA
      have HX8 := Lib.hid (And.intro hx8 (And.intro hF8 (And.intro hW8 hlm)))
      clear hpr hbg hlm hA hx8 hF8 hW8 Hinv
      go_wp2_with fail
      refine (show Calls _ _ _ _ _ from Hcl.out).mono ?_
      rintro e V1 ⟨c, G, rfl, hbc, hb1, hGn⟩
      have hlt8 := bx_lt HX8.out.1
      have hpc : Pr W2 V1 G c 20 A aA cA X lo lc := ⟨⟨ll, hbc, HX8.out.2.2.2⟩, below_on Hpr.out.low hb1 (Nat.le_refl _), Hpr.out.iz, Hpr.out.row.below hb1, Hpr.out.arg⟩
      have hx1 := bx_below hb1 HX8.out.1
      have Hdo := do_any W2 V1 G c 20 A aA cA X lo lc o HOo.out hpc HA.out
      unfold rV at Hdo
      have Hdo := Lib.hid Hdo
      have L8 := ldRb hx1
      have L4 := ld_obox (bx_below hpc.low T1.out)
      have HFG : Hid (∀ i, F i → i < wr.heap.size) := fun i hi => (HBg.out.elem i hi).1
      have HGn : Hid (∀ i, G i → wr.heap.size ≤ i) := hGn
      have HPb := Lib.hid (Hpr.out.below hb1)
      have HBc := Lib.hid hbc
      have HX1 := Lib.hid (And.intro hx1 hlt8)
      have HS1 := Lib.hid hb1.size
      clear hpc hx1 hlt8 hb1 hGn hbc Hcl Hpr HBg
      go_wp2_with ((with_reducible show wpList _ _ _ (⟨_, Op.load _ _, _, _, _, _⟩ :: _) _ _); refine wpl_ldT rfl rfl rfl (by assumption) ?_)
      refine (show Calls _ _ _ _ _ from Hdo.out).mono ?_
      rintro e V2 ⟨A1, aA1, cA1, X1, lo1, lc1, G1, rfl, hpr1, hA1, hG2, hF2⟩
      unfold rV
      have hpb2 := HPb.out.apart HBc.out hG2 (fun i hi hg => absurd (HFG.out i hi) (Nat.not_lt.2 (HGn.out i hg)))
      have hx2 := (hG2.block p8 (bx_lt HX1.out.1) (fun hg => absurd HX1.out.2 (Nat.not_lt.2 (HGn.out _ hg)))).trans HX1.out.1
      have HG1 : Hid (∀ i, G1 i → wr.heap.size ≤ i) := fun i hi => (hF2 i hi).elim (HGn.out i) (fun h => Nat.le_trans HS1.out h)
      have HP2 := Lib.hid (And.intro hpb2 (And.intro hx2 (And.intro hpr1 (Nat.le_trans HS1.out hG2.size))))
      clear hpb2 hx2 hpr1 hA1 hG2 hF2 L8 L4 Hdo HPb HBc HX1 HGn
      go_upto_region 11 with (first
        | (refine wpl_alB rfl rfl ?_
           intro p12 V3 hp12 hb3 hx12 hz12
           have hp12' := Lib.hid (Nat.le_of_eq hp12.symm)
           clear hp12 hz12)
        | (refine wpl_stB rfl rfl rfl rfl ⟨rfl, rfl, rfl⟩ hx12 ?_
           intro V4 hx124 hg12 hz12
           clear hz12))
      have hB4 : Below V2.heap.size V2 V4 := below_grown hb3 hg12 hp12'.out hb3.size
      have hpb4 := HP2.out.1.below hB4
      have hp14 := HP2.out.2.2.1.below hB4
      have Hdo := do_any W2 V4 F b 20 A aA cA X lo lc p HOp.out hpb4 HA.out
      unfold rV at Hdo
      have Hdo := Lib.hid Hdo
      have L8 := ldRb (bx_below hB4 HP2.out.2.1)
      have L4 := ld_obox (bx_below hpb4.low T2.out)
      have HP4 := Lib.hid (And.intro hpb4 (And.intro hp14 (And.intro hx124 (Nat.le_trans HP2.out.2.2.2 hp12'.out))))
      clear hB4 hpb4 hp14 hb3 hg12 hx12 hx124 hp12' HP2
      go_wp2_with ((with_reducible show wpList _ _ _ (⟨_, Op.load _ _, _, _, _, _⟩ :: _) _ _); refine wpl_ldT rfl rfl rfl (by assumption) ?_)
      refine (show Calls _ _ _ _ _ from Hdo.out).mono ?_
      rintro e V5 ⟨A5, aA5, cA5, X5, lo5, lc5, F5, rfl, hpr5, hA5, hG5, hF5⟩
      unfold rV
      obtain ⟨l4, hbg4, -⟩ := HP4.out.1.bag
      have hp15 := HP4.out.2.1.apart hbg4 hG5 (fun i hi hf => absurd (HFG.out i hf) (Nat.not_lt.2 (HG1.out i hi)))
      have hx5 := (hG5.block p12 (bx_lt HP4.out.2.2.1) (fun hf => absurd (HFG.out _ hf) (Nat.not_lt.2 HP4.out.2.2.2))).trans HP4.out.2.2.1
      have HP5 := Lib.hid (And.intro hpr5 (And.intro hp15 hx5))
      clear hpr5 hp15 hx5 hbg4 hA5 hG5 hF5 L8 L4 Hdo HP4
      go_upto_region 12 with (first
        | (refine wpl_alB rfl rfl ?_
           intro p14 V6 hp14 hb6 hx14 hz14
           have hp14' := Lib.hid (Nat.le_of_eq hp14.symm)
           clear hp14 hz14)
        | (refine wpl_stB rfl rfl rfl rfl ⟨rfl, rfl, rfl⟩ hx14 ?_
           intro V7 hx147 hg14 hz14
           clear hz14))
      have hB7 : Below V5.heap.size V5 V7 := below_grown hb6 hg14 hp14'.out hb6.size
      have hpb7 := HP5.out.1.below hB7
      have hpc7 := HP5.out.2.1.below hB7
      have Hk1 := like_o W2 V7 G1 c 20 A1 aA1 cA1 X1 lo1 lc1 hpc7
      have Hk2 := fun (V : World) (hb : Below V7.heap.size V7 V) => like_o W2 V F5 b 20 A5 aA5 cA5 X5 lo5 lc5 (hpb7.below hb)
      unfold rV at Hk1 Hk2
      have Hk1 := Lib.hid Hk1
      have Hk2 := Lib.hid Hk2
      have L12 := ldRb (bx_below hB7 HP5.out.2.2)
      have L14 := fun (V : World) (hb : Below V7.heap.size V7 V) => ldRb (bx_below hb hx147)
      have HL14 := Lib.hid L14
      have HB7 := Lib.hid hpb7.low
      clear hB7 hpb7 hpc7 hb6 hg14 hx14 hx147 hp14' HP5 L14
      go_wp2_with ((with_reducible show wpList _ _ _ (⟨_, Op.load _ _, _, _, _, _⟩ :: _) _ _); refine wpl_ldT rfl rfl rfl (by assumption) ?_)
      refine (show Calls _ _ _ _ _ from Hk1.out).mono ?_
      rintro e V8 ⟨rfl, hb8⟩
      have L14 := HL14.out V8 hb8
      have Hk3 := Lib.hid (Hk2.out V8 hb8)
      have HB8 := Lib.hid (below_on HB7.out hb8 (Nat.le_refl _))
      clear hb8 L12 Hk1 Hk2 HL14
      go_wp2_with ((with_reducible show wpList _ _ _ (⟨_, Op.load _ _, _, _, _, _⟩ :: _) _ _); refine wpl_ldT rfl rfl rfl (by assumption) ?_)
      refine (show Calls _ _ _ _ _ from Hk3.out).mono ?_
      rintro e V9 ⟨rfl, hb9⟩
      have HB9 := Lib.hid (below_on HB8.out hb9 (Nat.le_refl _))
      clear hb9 L14 Hk3 HB8 HB7
      go_wp2_with fail
      obtain ⟨W10, hW10⟩ : ∃ W10, W10 = V9.alloc (.cells #[.int .i64 0, .map none, .slice none 0 0] bgT) := ⟨_, rfl⟩
      have hb10 : Below V9.heap.size V9 W10 := by rw [hW10]; exact below_new _ _
      have hz10 : BNone W10 (some ⟨V9.heap.size, 0, none⟩) := BNone.zero (by rw [hW10, block_cell (heap_alloc_new _ _) 1]; rfl)
      rw [← hW10]
      have HB10 := Lib.hid (below_on HB9.out hb10 (Nat.le_refl _))
      have HZ10 := Lib.hid hz10
      have hcl := nclone_o (BNone.nil W10)
      clear hW10 hb10 hz10 HB9
      refine (show Calls _ _ _ _ _ from hcl).mono ?_
      rintro e W11 ⟨c3, rfl, hz11, hb11⟩
      have HZ11 := Lib.hid (And.intro (HZ10.out.below hb11) hz11)
      have HB11 := Lib.hid (below_on HB10.out hb11 (Nat.le_refl _))
      clear hcl hz11 hb11 HZ10 HB10
      go_wp2_with ((with_reducible show wpList _ _ _ (⟨_, Op.buildSlice _ _ _, _, _, _, _⟩ :: _) _ _); refine wpl_bs3V rfl rfl Try.underlying49 (bs3P _ _ _) rfl rfl rfl ?_)
      obtain ⟨W12, hW12⟩ : ∃ W12, W12 = W11.alloc (.cells #[.pointer none, .pointer (some ⟨V9.heap.size, 0, none⟩), .pointer (some ⟨c3, 0, none⟩)] bpT) := ⟨_, rfl⟩
      have hb12 : Below W11.heap.size W11 W12 := by rw [hW12]; exact below_new _ _
      have hx12 : W12.heap[W11.heap.size]? = some (.cells #[.pointer none, .pointer (some ⟨V9.heap.size, 0, none⟩), .pointer (some ⟨c3, 0, none⟩)] bpT (0, 0)) := by rw [hW12]; exact heap_alloc_new _ _
      rw [← hW12]
      have HB12 := Lib.hid (below_on HB11.out hb12 (Nat.le_refl _))
      have H3 := Lib.hid (fun V (hb : Below W12.heap.size W12 V) i (hi : i < 3) => three_at hx12 (BNone.nil W12) (HZ11.out.1.below hb12) (HZ11.out.2.below hb12) hb i hi)
      clear hW12 hb12 hx12 HZ11 HB11
      obtain ⟨r, hr⟩ : ∃ r, r = W11.heap.size := ⟨_, rfl⟩
      rw [← hr] at H3 ⊢
      clear hr
      go_loopw [91] (fun u wr => ∃ i : Nat, u = .int .i64 (i : Nat) ∧ i ≤ 3 ∧ Hid (Below W12.heap.size W12 wr)) (fun u _ => 3 - (intOf u).toNat)
      case atStart => exact ⟨0, rfl, by omega, Lib.hid (Below.refl _ _)⟩
      case round =>
        obtain ⟨i, rfl, hi, Hinv⟩ := hrel
        by_cases hlt : i < 3
        · obtain ⟨q, hq, hnq⟩ := H3.out wr Hinv.out i hlt
          obtain ⟨i0, i1, w1⟩ := three_nums hlt
          have Hlt := Lib.hid hlt
          have Hq := Lib.hid hnq
          have hql := cell?_lt hq
          have hbw := below_on HB12.out Hinv.out (Nat.le_refl _)
          have ob := OpBox.of (bx_below hbw T1.out)
          have q1 := ob.k
          have ql := ob.lt
          clear hlt hnq hi
          go_upto_region 18 with fail
          go_wp2_with fail
          refine (show Calls _ _ _ _ _ from ntake_o Hq.out o.k).mono ?_
          rintro e U1 ⟨⟨y, rfl, -, -⟩, hu1⟩
          have HU1 := Lib.hid hu1
          clear hu1 ob q1 ql hq hql
          go_upto_region 19 with (first
            | (refine wpl_alM rfl (.inl rfl) rfl ?_
               intro p19 U2 hp19 hb2 hx19 hz19
               have hp19' := Lib.hid (Nat.le_of_eq hp19.symm)
               clear hp19 hz19)
            | (refine wpl_stM rfl (.inl rfl) rfl rfl rfl hx19 rfl ?_
               intro U3 hx193 hg19 hz19
               clear hz19))
          have HU3 := Lib.hid (below_on HU1.out (below_grown hb2 hg19 hp19'.out hb2.size) (Nat.le_refl _))
          have ob := OpBox.of (bx_below (below_on hbw HU3.out (Nat.le_refl _)) T1.out)
          have q1 := ob.k
          have ql := ob.lt
          clear hb2 hg19 hx19 hx193 hp19' HU1
          go_wp2_with fail
          refine (show Calls _ _ _ _ _ from nlook_o (Hq.out.below HU3.out) o.k).mono ?_
          rintro e U4 ⟨⟨y2, rfl, -, -⟩, hu4⟩
          have HU4 := Lib.hid (below_on HU3.out hu4 (Nat.le_refl _))
          clear hu4 ob q1 ql HU3
          go_upto_region 20 with (first
            | (refine wpl_alM rfl (.inl rfl) rfl ?_
               intro p21 U5 hp21 hb5 hx21 hz21
               have hp21' := Lib.hid (Nat.le_of_eq hp21.symm)
               clear hp21 hz21)
            | (refine wpl_stM rfl (.inl rfl) rfl rfl rfl hx21 rfl ?_
               intro U6 hx216 hg21 hz21
               clear hz21))
          have HU6 := Lib.hid (below_on HU4.out (below_grown hb5 hg21 hp21'.out hb5.size) (Nat.le_refl _))
          have ob := OpBox.of (bx_below (below_on hbw HU6.out (Nat.le_refl _)) T1.out)
          have Lm := ob.msg
          have ql := ob.lt
          clear hb5 hg21 hx21 hx216 hp21' HU4 ob
          go_wp2_with (first
            | ((with_reducible show wpList _ _ _ (⟨_, Op.load 37 _, _, _, _, _⟩ :: _) _ _); refine wpl_ldT rfl rfl rfl (by assumption) ?_)
            | ((with_reducible show wpList _ _ _ (⟨_, Op.buildSlice _ _ _, _, _, _, _⟩ :: _) _ _); refine wpl_bs1V rfl rfl Try.underlying58 (bs1M o.m) rfl ?_))
          have hb7 := below_new U6 (.cells (mC o.m) mgT (0, 0))
          obtain ⟨U7, hU7⟩ : ∃ U7, U7 = U6.alloc (.cells (mC o.m) mgT) := ⟨_, rfl⟩
          rw [← hU7] at hb7 ⊢
          have HU7 := Lib.hid (below_on HU6.out hb7 (Nat.le_refl _))
          have ob := OpBox.of (bx_below (below_on hbw HU7.out (Nat.le_refl _)) T1.out)
          have q1 := ob.k
          have q2 := ob.dst
          have q3 := ob.ls
          have ql := ob.lt
          have Hn := Lib.hid (Hq.out.below HU7.out)
          clear hb7 hU7 HU6 ob Lm
          refine (show Calls _ _ _ _ _ from nput_o Hn.out _).mono ?_
          rintro e U8 ⟨rfl, hu8⟩
          subst U8
          go_wp2_with fail
          refine (show Calls _ _ _ _ _ from nmove_o Hn.out _ _).mono ?_
          rintro e U8 ⟨rfl, hu8⟩
          subst U8
          go_wp2_with fail
          refine (show Calls _ _ _ _ _ from nwall_o Hn.out _).mono ?_
          rintro e U8 ⟨rfl, hu8⟩
          subst U8
          go_wp2_with fail
          refine (show Calls _ _ _ _ _ from nempty_o Hn.out).mono ?_
          rintro e U8 ⟨rfl, hu8⟩
          subst U8
          go_wp2_with fail
          refine (show Calls _ _ _ _ _ from nlen_o Hn.out).mono ?_
          rintro e U8 ⟨rfl, hu8⟩
          subst U8
          go_wp2_with fail
          refine (show Calls _ _ _ _ _ from napart_o Hn.out _).mono ?_
          rintro e U8 ⟨rfl, hu8⟩
          subst U8
          go_wp2_with fail
          have HE := Lib.hid (below_on Hinv.out HU7.out (Nat.le_refl _))
          clear q1 q2 q3 ql Hn hbw
          go_roundw
          case rel => exact ⟨i + 1, by first | (rw [w1]; simp) | simp, Hlt.out, HE⟩
          case measure => first | exact three_meas Hlt.out w1 | (simp [intOf]; have := Hlt.out; omega)
        · have e : i = 3 := by omega
          subst e
          clear hlt
          have hbw := Lib.hid (below_on HB12.out Hinv.out (Nat.le_refl _))
          clear hi Hinv
          go_wp2_with fail
          refine (show Calls _ _ _ _ _ from lives36_any _).mono ?_
          rintro e U2 ⟨rfl, hu2⟩
          go_wp2_with fail
          go_ret
          exact ⟨rfl, below_on HB2.out (below_on hbw.out hu2 (Nat.le_refl _)) (Nat.le_refl _)⟩
end Go.Proofs.Ytbmkgcoolofmpaa
