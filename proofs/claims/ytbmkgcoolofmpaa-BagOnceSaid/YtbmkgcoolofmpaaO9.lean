/- Lemmas for BagOnce (Ni2). No statement of the seat is proved here. -/
import Derived.Deep.RegionLaw
import Derived.Test.YtbmkgcoolofmpaaO8
namespace Go.Proofs.Ytbmkgcoolofmpaa
set_option linter.unusedVariables false
set_option linter.unusedSimpArgs false
set_option linter.unusedSectionVars false
open Go Go.RowKit Go.Shelf
set_option maxRecDepth 100000 in
set_option maxHeartbeats 8000000 in
theorem fill_7 (F D T : Int) {W0 W : World} {p q : Nat} {s0 : St} (hm : MsgA 37 W0 W q ⟨7, F, D, T, 0, 0, 0, 0, false, false, none, 0, [], 0, 0, none, 0, [], none, 0, []⟩) (hr : RdS 123 W0 W p s0) (hl : s0.1.length ≤ 70000000000000) (hqz : W0.heap.size ≤ q) (hqp : q ≠ p) :
    Calls Try.prog 50 #[.pointer (some ⟨q, 0, none⟩), .pointer (some ⟨p, 0, none⟩)] W (FillTold 123 37 W0 q p (gFields (mI 7 F D T) s0) W) := by
  have hk := KpM.refl p q W
  have c0 : W.cell? ⟨q, 0, none⟩ = some (.int .i64 7) := block_cell hm.blk 0
  have zq : q < W.heap.size := hm.lt
  go_enter Try.func50, Try.ntmps50
  obtain ⟨⟨xr, s1⟩, hs1⟩ : ∃ r, r = gN 1152921504606846976 s0 := ⟨_, rfl⟩
  have hb1 : xr ≤ 1152921504606846976 := by have := gN_le 1152921504606846976 s0; rw [← hs1] at this; exact this
  have hl1 : s1.1.length ≤ 70000000000000 := by have := gN_len 1152921504606846976 s0; rw [← hs1] at this; simp only at this; omega
  have hc := rds_num 1152921504606846976 (by decide) hr
  rw [← hs1] at hc
  have Hc1 := Lib.hid hc
  have Hs1 := Lib.hid hs1
  clear hc hs1
  go_wp2_with fail
  refine Hc1.out.mono ?_
  rintro e W1 ⟨rfl, hr1, hg1⟩
  simp only at hr1 ⊢
  have hm1 := hm.grown hg1 hr.elem (by decide) (by decide) (by decide) (by decide)
  have hk1 := hk.trans (KpM.rd hg1)
  clear hm hr hk hg1 Hc1
  have c7 : W1.cell? ⟨q, 7, none⟩ = some (.int .u64 0) := block_cell hm1.blk 7
  have f7 : W1.frozen? ⟨q, 7, none⟩ = false := block_free hm1.blk 7
  have hm2 := hm1.put (by decide) (by decide) (by decide) 7 (.int .u64 xr) ⟨7, F, D, T, 0, 0, 0, xr, false, false, none, 0, [], 0, 0, none, 0, [], none, 0, []⟩ rfl rfl
  have hr2 := hr1.store (i := 7) hqz hqp (.int .u64 xr)
  have hk2 := hk1.trans (KpM.set p q _ 7 (.int .u64 xr))
  clear hm1 hr1 hk1
  go_upto_region 7 with fail
  obtain ⟨W3, hW3⟩ : ∃ W3, W3 = (W1.setCell ⟨q, 7, none⟩ (.int .u64 xr)) := ⟨_, rfl⟩
  rw [← hW3] at hm2 hr2 hk2 ⊢
  clear hW3
  clear c7 f7
  clear c0 zq
  obtain ⟨⟨d, s4⟩, hs4⟩ : ∃ r, r = gT 65536 s1 := ⟨_, rfl⟩
  have hb4 : d.length ≤ 65536 := by have := gT_le 65536 s1; rw [← hs4] at this; exact this
  have hl4 : s4.1.length ≤ 70000000000000 := by have := gT_len 65536 s1; rw [← hs4] at this; simp only at this; omega
  have hc := rds_text 65536 (by decide) hr2 (by omega)
  rw [← hs4] at hc
  have Hc4 := Lib.hid hc
  have Hs4 := Lib.hid hs4
  clear hc hs4
  go_wp2_with fail
  refine Hc4.out.mono ?_
  rintro e W4 ⟨rfl, hr4, hg4⟩
  simp only at hr4 ⊢
  have hm4 := hm2.grown hg4 hr2.elem (by decide) (by decide) (by decide) (by decide)
  have hk4 := hk2.trans (KpM.rd hg4)
  clear hm2 hr2 hk2 hg4 Hc4
  obtain ⟨cd, V1, hcv, hbd, hB, hT⟩ := bytes_of d (by unfold maxLen; omega) W4
  have hm5 := hm4.below hB
  have hr5 := hr4.below hB
  have hk5 := hk4.trans (KpM.of_below hB)
  have hrd := snapRead_any _ cd d V1 hbd (by omega)
  obtain ⟨⟨⟨gi, gt, ml, dd⟩, okk⟩, hR⟩ : ∃ r, r = snR 6 d := ⟨_, rfl⟩
  rw [← hR] at hrd
  have Hrd := Lib.hid hrd
  have HR := Lib.hid hR
  clear hrd hR hB hT hbd hm4 hr4 hk4
  go_wp2_with fail
  refine Hrd.out.mono ?_
  rintro e V2 ⟨mo, mc, ao, ac, rfl, hit, hbt, hB2⟩
  simp only at hit hbt ⊢
  obtain ⟨V3, hV3⟩ : ∃ V3, V3 = V2.alloc (.cells #[.int .u64 gi, .int .u64 gt, .slice mo ml.length mc, .slice ao dd.length ac] 35) := ⟨_, rfl⟩
  have hB3 : Below V2.heap.size V2 V3 := by rw [hV3]; exact below_new _ _
  obtain ⟨gs, hgs⟩ : ∃ gs, gs = V2.heap.size := ⟨_, rfl⟩
  have ks : V3.heap[gs]? = some (.cells #[.int .u64 gi, .int .u64 gt, .slice mo ml.length mc, .slice ao dd.length ac] 35) := by rw [hV3, hgs]; exact heap_alloc_new _ _
  have hm6 := (hm5.below hB2).below hB3
  have hr6 := (hr5.below hB2).below hB3
  have hk6 := (hk5.trans (KpM.of_below hB2)).trans (KpM.of_below hB3)
  have hit3 := hit.below hB3
  have hbt3 := hbt.below hB3
  go_upto_region 8 with fail
  rw [← hV3, ← hgs]
  clear hcv Hrd hV3 hgs hB2 hB3 hit hbt hm5 hr5 hk5
  obtain ⟨q0, q1, q2, q3⟩ := (⟨block_cell ks 0, block_cell ks 1, block_cell ks 2, block_cell ks 3⟩ : V3.cell? ⟨gs, 0, none⟩ = some (.int .u64 gi) ∧ V3.cell? ⟨gs, 1, none⟩ = some (.int .u64 gt) ∧ V3.cell? ⟨gs, 2, none⟩ = some (.slice mo ml.length mc) ∧ V3.cell? ⟨gs, 3, none⟩ = some (.slice ao dd.length ac))
  have c11 : V3.cell? ⟨q, 11, none⟩ = some (.int .u64 0) := block_cell hm6.blk 11
  have f11 : V3.frozen? ⟨q, 11, none⟩ = false := block_free hm6.blk 11
  have c12 : V3.cell? ⟨q, 12, none⟩ = some (.int .u64 0) := block_cell hm6.blk 12
  have f12 : V3.frozen? ⟨q, 12, none⟩ = false := block_free hm6.blk 12
  have c13 : V3.cell? ⟨q, 13, none⟩ = some (.slice none 0 0) := block_cell hm6.blk 13
  have f13 : V3.frozen? ⟨q, 13, none⟩ = false := block_free hm6.blk 13
  have c14 : V3.cell? ⟨q, 14, none⟩ = some (.slice none 0 0) := block_cell hm6.blk 14
  have f14 : V3.frozen? ⟨q, 14, none⟩ = false := block_free hm6.blk 14
  have hm7 := hm6.snap (i := gi) (t := gt) (by decide) (by decide) (by decide) hit3 hbt3
  have hg4 : V3.grownBy ((((V3.setCell ⟨q, 11, none⟩ (.int .u64 gi)).setCell ⟨q, 12, none⟩ (.int .u64 gt)).setCell ⟨q, 13, none⟩ (.slice mo ml.length mc)).setCell ⟨q, 14, none⟩ (.slice ao dd.length ac)) (some q) := grown_trans (grown_set _ _ _ _) (grown_trans (grown_set _ _ _ _) (grown_trans (grown_set _ _ _ _) (grown_set _ _ _ _)))
  have hr7 := hr6.grown hg4 (fun k e => by cases e; exact ⟨hqz, hqp⟩)
  have hk7 := hk6.trans (KpM.of_grown hg4 fun k e => by cases e; exact .inr (.inl rfl))
  clear hm6 hr6 hk6 hg4
  go_upto_region 9 with fail
  obtain ⟨W8, hW8⟩ : ∃ W8, W8 = ((((V3.setCell ⟨q, 11, none⟩ (.int .u64 gi)).setCell ⟨q, 12, none⟩ (.int .u64 gt)).setCell ⟨q, 13, none⟩ (.slice mo ml.length mc)).setCell ⟨q, 14, none⟩ (.slice ao dd.length ac)) := ⟨_, rfl⟩
  rw [← hW8] at hm7 hr7 hk7 ⊢
  clear hW8
  clear q0 q1 q2 q3 c11 c12 c13 c14 f11 f12 f13 f14 ks hit3 hbt3
  simp only at hm7
  cases okk with
  | true =>
    have c0 : W8.cell? ⟨q, 0, none⟩ = some (.int .i64 7) := block_cell hm7.blk 0
    have zq : q < W8.heap.size := hm7.lt
    go_wp2_with fail
    refine bodyPost_end (results_none rfl _ _ _) rfl ?_
    have hfin : gFields (mI 7 F D T) s0 = ((⟨7, F, D, T, 0, 0, 0, xr, false, false, none, 0, [], gi, gt, mo, mc, ml, ao, ac, dd⟩ : Mp).v, s4) := by simp [gFields, mI, Mp.v, sn0, ← Hs1.out, ← Hs4.out, ← HR.out]
    rw [hfin]
    exact ⟨rfl, _, rfl, hm7, hr7, hk7⟩
  | false =>
    have hc := rds_fail hr7
    have Hc := Lib.hid hc
    clear hc
    go_wp2_with fail
    refine Hc.out.mono ?_
    rintro e W9 ⟨rfl, hr9, hg9⟩
    have hm9 := hm7.grown hg9 hr7.elem (by decide) (by decide) (by decide) (by decide)
    have hk9 := hk7.trans (KpM.rd hg9)
    clear hm7 hr7 hk7 hg9 Hc
    have c0 : W9.cell? ⟨q, 0, none⟩ = some (.int .i64 7) := block_cell hm9.blk 0
    have zq : q < W9.heap.size := hm9.lt
    go_wp2_with fail
    refine bodyPost_end (results_none rfl _ _ _) rfl ?_
    have hfin : gFields (mI 7 F D T) s0 = ((⟨7, F, D, T, 0, 0, 0, xr, false, false, none, 0, [], gi, gt, mo, mc, ml, ao, ac, dd⟩ : Mp).v, ([], true)) := by simp [gFields, mI, Mp.v, sn0, ← Hs1.out, ← Hs4.out, ← HR.out]
    rw [hfin]
    exact ⟨rfl, _, rfl, hm9, hr9, hk9⟩
set_option maxRecDepth 100000 in
set_option maxHeartbeats 8000000 in
theorem fill_5 (F D T : Int) {W0 W : World} {p q : Nat} {s0 : St} (hm : MsgA 37 W0 W q ⟨5, F, D, T, 0, 0, 0, 0, false, false, none, 0, [], 0, 0, none, 0, [], none, 0, []⟩) (hr : RdS 123 W0 W p s0) (hl : s0.1.length ≤ 70000000000000) (hqz : W0.heap.size ≤ q) (hqp : q ≠ p) :
    Calls Try.prog 50 #[.pointer (some ⟨q, 0, none⟩), .pointer (some ⟨p, 0, none⟩)] W (FillTold 123 37 W0 q p (gFields (mI 5 F D T) s0) W) := by
  have hk := KpM.refl p q W
  have c0 : W.cell? ⟨q, 0, none⟩ = some (.int .i64 5) := block_cell hm.blk 0
  have zq : q < W.heap.size := hm.lt
  go_enter Try.func50, Try.ntmps50
  obtain ⟨⟨xi, s1⟩, hs1⟩ : ∃ r, r = gN 576460752303423488 s0 := ⟨_, rfl⟩
  have hb1 : xi ≤ 576460752303423488 := by have := gN_le 576460752303423488 s0; rw [← hs1] at this; exact this
  have hl1 : s1.1.length ≤ 70000000000000 := by have := gN_len 576460752303423488 s0; rw [← hs1] at this; simp only at this; omega
  have hc := rds_num 576460752303423488 (by decide) hr
  rw [← hs1] at hc
  have Hc1 := Lib.hid hc
  have Hs1 := Lib.hid hs1
  clear hc hs1
  go_wp2_with fail
  refine Hc1.out.mono ?_
  rintro e W1 ⟨rfl, hr1, hg1⟩
  simp only at hr1 ⊢
  have hm1 := hm.grown hg1 hr.elem (by decide) (by decide) (by decide) (by decide)
  have hk1 := hk.trans (KpM.rd hg1)
  clear hm hr hk hg1 Hc1
  obtain ⟨⟨xl, s2⟩, hs2⟩ : ∃ r, r = gN 1152921504606846976 s1 := ⟨_, rfl⟩
  have hb2 : xl ≤ 1152921504606846976 := by have := gN_le 1152921504606846976 s1; rw [← hs2] at this; exact this
  have hl2 : s2.1.length ≤ 70000000000000 := by have := gN_len 1152921504606846976 s1; rw [← hs2] at this; simp only at this; omega
  have hc := rds_num 1152921504606846976 (by decide) hr1
  rw [← hs2] at hc
  have Hc2 := Lib.hid hc
  have Hs2 := Lib.hid hs2
  clear hc hs2
  go_wp2_with fail
  refine Hc2.out.mono ?_
  rintro e W2 ⟨rfl, hr2, hg2⟩
  simp only at hr2 ⊢
  have hm2 := hm1.grown hg2 hr1.elem (by decide) (by decide) (by decide) (by decide)
  have hk2 := hk1.trans (KpM.rd hg2)
  clear hm1 hr1 hk1 hg2 Hc2
  have c4 : W2.cell? ⟨q, 4, none⟩ = some (.int .u64 0) := block_cell hm2.blk 4
  have f4 : W2.frozen? ⟨q, 4, none⟩ = false := block_free hm2.blk 4
  have c5 : W2.cell? ⟨q, 5, none⟩ = some (.int .u64 0) := block_cell hm2.blk 5
  have f5 : W2.frozen? ⟨q, 5, none⟩ = false := block_free hm2.blk 5
  have hm3 := hm2.put (by decide) (by decide) (by decide) 4 (.int .u64 xi) ⟨5, F, D, T, xi, 0, 0, 0, false, false, none, 0, [], 0, 0, none, 0, [], none, 0, []⟩ rfl rfl
  have hr3 := hr2.store (i := 4) hqz hqp (.int .u64 xi)
  have hk3 := hk2.trans (KpM.set p q _ 4 (.int .u64 xi))
  clear hm2 hr2 hk2
  have hm4 := hm3.put (by decide) (by decide) (by decide) 5 (.int .u64 xl) ⟨5, F, D, T, xi, xl, 0, 0, false, false, none, 0, [], 0, 0, none, 0, [], none, 0, []⟩ rfl rfl
  have hr4 := hr3.store (i := 5) hqz hqp (.int .u64 xl)
  have hk4 := hk3.trans (KpM.set p q _ 5 (.int .u64 xl))
  clear hm3 hr3 hk3
  go_upto_region 15 with fail
  obtain ⟨W5, hW5⟩ : ∃ W5, W5 = ((W2.setCell ⟨q, 4, none⟩ (.int .u64 xi)).setCell ⟨q, 5, none⟩ (.int .u64 xl)) := ⟨_, rfl⟩
  rw [← hW5] at hm4 hr4 hk4 ⊢
  clear hW5
  clear c4 f4 c5 f5
  clear c0 zq
  have c0 : W5.cell? ⟨q, 0, none⟩ = some (.int .i64 5) := block_cell hm4.blk 0
  have zq : q < W5.heap.size := hm4.lt
  obtain ⟨⟨xc, s6⟩, hs6⟩ : ∃ r, r = gN 576460752303423488 s2 := ⟨_, rfl⟩
  have hb6 : xc ≤ 576460752303423488 := by have := gN_le 576460752303423488 s2; rw [← hs6] at this; exact this
  have hl6 : s6.1.length ≤ 70000000000000 := by have := gN_len 576460752303423488 s2; rw [← hs6] at this; simp only at this; omega
  have hc := rds_num 576460752303423488 (by decide) hr4
  rw [← hs6] at hc
  have Hc6 := Lib.hid hc
  have Hs6 := Lib.hid hs6
  clear hc hs6
  go_wp2_with fail
  refine Hc6.out.mono ?_
  rintro e W6 ⟨rfl, hr6, hg6⟩
  simp only at hr6 ⊢
  have hm6 := hm4.grown hg6 hr4.elem (by decide) (by decide) (by decide) (by decide)
  have hk6 := hk4.trans (KpM.rd hg6)
  clear hm4 hr4 hk4 hg6 Hc6
  obtain ⟨⟨xr, s7⟩, hs7⟩ : ∃ r, r = gN 1152921504606846976 s6 := ⟨_, rfl⟩
  have hb7 : xr ≤ 1152921504606846976 := by have := gN_le 1152921504606846976 s6; rw [← hs7] at this; exact this
  have hl7 : s7.1.length ≤ 70000000000000 := by have := gN_len 1152921504606846976 s6; rw [← hs7] at this; simp only at this; omega
  have hc := rds_num 1152921504606846976 (by decide) hr6
  rw [← hs7] at hc
  have Hc7 := Lib.hid hc
  have Hs7 := Lib.hid hs7
  clear hc hs7
  go_wp2_with fail
  refine Hc7.out.mono ?_
  rintro e W7 ⟨rfl, hr7, hg7⟩
  simp only at hr7 ⊢
  have hm7 := hm6.grown hg7 hr6.elem (by decide) (by decide) (by decide) (by decide)
  have hk7 := hk6.trans (KpM.rd hg7)
  clear hm6 hr6 hk6 hg7 Hc7
  clear c0 zq
  have c6 : W7.cell? ⟨q, 6, none⟩ = some (.int .u64 0) := block_cell hm7.blk 6
  have f6 : W7.frozen? ⟨q, 6, none⟩ = false := block_free hm7.blk 6
  have c7 : W7.cell? ⟨q, 7, none⟩ = some (.int .u64 0) := block_cell hm7.blk 7
  have f7 : W7.frozen? ⟨q, 7, none⟩ = false := block_free hm7.blk 7
  have hm8 := hm7.put (by decide) (by decide) (by decide) 6 (.int .u64 xc) ⟨5, F, D, T, xi, xl, xc, 0, false, false, none, 0, [], 0, 0, none, 0, [], none, 0, []⟩ rfl rfl
  have hr8 := hr7.store (i := 6) hqz hqp (.int .u64 xc)
  have hk8 := hk7.trans (KpM.set p q _ 6 (.int .u64 xc))
  clear hm7 hr7 hk7
  have hm9 := hm8.put (by decide) (by decide) (by decide) 7 (.int .u64 xr) ⟨5, F, D, T, xi, xl, xc, xr, false, false, none, 0, [], 0, 0, none, 0, [], none, 0, []⟩ rfl rfl
  have hr9 := hr8.store (i := 7) hqz hqp (.int .u64 xr)
  have hk9 := hk8.trans (KpM.set p q _ 7 (.int .u64 xr))
  clear hm8 hr8 hk8
  go_upto_region 22 with fail
  obtain ⟨W10, hW10⟩ : ∃ W10, W10 = ((W7.setCell ⟨q, 6, none⟩ (.int .u64 xc)).setCell ⟨q, 7, none⟩ (.int .u64 xr)) := ⟨_, rfl⟩
  rw [← hW10] at hm9 hr9 hk9 ⊢
  clear hW10
  clear c6 f6 c7 f7
  obtain ⟨⟨xn, s11⟩, hs11⟩ : ∃ r, r = gN 8 s7 := ⟨_, rfl⟩
  have hb11 : xn ≤ 8 := by have := gN_le 8 s7; rw [← hs11] at this; exact this
  have hl11 : s11.1.length ≤ 70000000000000 := by have := gN_len 8 s7; rw [← hs11] at this; simp only at this; omega
  have hc := rds_num 8 (by decide) hr9
  rw [← hs11] at hc
  have Hc11 := Lib.hid hc
  have Hs11 := Lib.hid hs11
  clear hc hs11
  go_wp2_with fail
  refine Hc11.out.mono ?_
  rintro e W11 ⟨rfl, hr11, hg11⟩
  simp only at hr11 ⊢
  have hm11 := hm9.grown hg11 hr9.elem (by decide) (by decide) (by decide) (by decide)
  have hk11 := hk9.trans (KpM.rd hg11)
  clear hm9 hr9 hk9 hg11 Hc11
  go_wp2_with fail
  go_loopw [93] (fun u wr => ∃ (k : Nat) (eo : Option Addr) (ec : Nat) (el : List Ep) (s' : St), u = .int .u64 (k : Nat) ∧ k ≤ xn ∧ Hid ((el.map Ep.e, s') = gEnts k s11) ∧ s'.1.length ≤ 70000000000000 ∧ MsgA 37 W0 wr q ⟨5, F, D, T, xi, xl, xc, xr, false, false, eo, ec, el, 0, 0, none, 0, [], none, 0, []⟩ ∧ RdS 123 W0 wr p s' ∧ KpM p q W wr) (fun u _ => xn - (intOf u).toNat)
  case atStart => exact ⟨0, none, 0, [], s11, rfl, Nat.zero_le _, Lib.hid rfl, hl11, hm11, hr11, hk11⟩
  case round =>
    clear hm11 hr11 hk11
    obtain ⟨k, eo, ec, el, s', rfl, hkx, hes, hls, hm, hr, hk⟩ := hrel
    have helk : el.length = k := by have := gEnts_len k s11; rw [← hes.out] at this; simpa using this
    have hel8 : el.length ≤ 8 := by omega
    have Helk := Lib.hid helk
    clear helk
    have i0 : (0 : Int) ≤ (k : Int) := by omega
    by_cases hlt : k < xn
    · have i1 : (k : Int) < (xn : Int) := by omega
      have hl := hls
      obtain ⟨⟨xt, s12⟩, hs12⟩ : ∃ r, r = gN 1152921504606846976 s' := ⟨_, rfl⟩
      have hb12 : xt ≤ 1152921504606846976 := by have := gN_le 1152921504606846976 s'; rw [← hs12] at this; exact this
      have hl12 : s12.1.length ≤ 70000000000000 := by have := gN_len 1152921504606846976 s'; rw [← hs12] at this; simp only at this; omega
      have hc := rds_num 1152921504606846976 (by decide) hr
      rw [← hs12] at hc
      have Hc12 := Lib.hid hc
      have Hs12 := Lib.hid hs12
      clear hc hs12
      go_wp2_with fail
      refine Hc12.out.mono ?_
      rintro e W12 ⟨rfl, hr12, hg12⟩
      simp only at hr12 ⊢
      have hm12 := hm.grown hg12 hr.elem (by decide) (by decide) (by decide) (by decide)
      have hk12 := hk.trans (KpM.rd hg12)
      clear hm hr hk hg12 Hc12
      obtain ⟨⟨xk, s13⟩, hs13⟩ : ∃ r, r = gN 3 s12 := ⟨_, rfl⟩
      have hb13 : xk ≤ 3 := by have := gN_le 3 s12; rw [← hs13] at this; exact this
      have hl13 : s13.1.length ≤ 70000000000000 := by have := gN_len 3 s12; rw [← hs13] at this; simp only at this; omega
      have hc := rds_num 3 (by decide) hr12
      rw [← hs13] at hc
      have Hc13 := Lib.hid hc
      have Hs13 := Lib.hid hs13
      clear hc hs13
      go_wp2_with fail
      refine Hc13.out.mono ?_
      rintro e W13 ⟨rfl, hr13, hg13⟩
      simp only at hr13 ⊢
      have hm13 := hm12.grown hg13 hr12.elem (by decide) (by decide) (by decide) (by decide)
      have hk13 := hk12.trans (KpM.rd hg13)
      clear hm12 hr12 hk12 hg13 Hc13
      have wk : IntKind.i64.wrap (xk : Int) = (xk : Int) := IntWalk.i64_in _ (by omega)
      obtain ⟨g6, hg6⟩ : ∃ g6, g6 = W13.heap.size := ⟨_, rfl⟩
      obtain ⟨E1, hE1⟩ : ∃ E1, E1 = W13.alloc (.cells #[.int .u64 (xt : Int), .int .i64 (xk : Int), .slice none 0 0] 88) := ⟨_, rfl⟩
      have hB1 : Below W13.heap.size W13 E1 := by rw [hE1]; exact below_new _ _
      have kE : E1.heap[g6]? = some (.cells #[.int .u64 (xt : Int), .int .i64 (xk : Int), .slice none 0 0] 88) := by rw [hE1, hg6]; exact heap_alloc_new _ _
      have hng : (Value.slice eo el.length ec).ownBlock ≠ some g6 := fun e => by have := (hm13.ens.own.lt g6 e).2; omega
      have hgz : W0.heap.size ≤ g6 := by rw [hg6]; exact hr13.bel.size
      have hgp : g6 ≠ p := by have := hr13.lt; omega
      have hgq : g6 ≠ q := by have := hm13.lt; omega
      have hm14 := hm13.below hB1
      have hr14 := hr13.below hB1
      have hk14 := hk13.trans (KpM.of_below hB1)
      go_upto_region 25 with fail
      rw [← hE1, ← hg6]
      clear hE1 hg6 hB1 wk hm13 hr13 hk13
      obtain ⟨⟨d, s15⟩, hs15⟩ : ∃ r, r = gT 4096 s13 := ⟨_, rfl⟩
      have hb15 : d.length ≤ 4096 := by have := gT_le 4096 s13; rw [← hs15] at this; exact this
      have hl15 : s15.1.length ≤ 70000000000000 := by have := gT_len 4096 s13; rw [← hs15] at this; simp only at this; omega
      have hc := rds_text 4096 (by decide) hr14 (by omega)
      rw [← hs15] at hc
      have Hc := Lib.hid hc
      have Hs15 := Lib.hid hs15
      clear hc hs15
      go_wp2_with fail
      refine Hc.out.mono ?_
      rintro e E2 ⟨rfl, hr15, hg15⟩
      simp only at hr15 ⊢
      have kE2 := (hg15.block g6 (Array.getElem?_eq_some_iff.1 kE).1 (by simp; omega)).trans kE
      have hm15 := hm14.grown hg15 hr14.elem (by decide) (by decide) (by decide) (by decide)
      have hk15 := hk14.trans (KpM.rd hg15)
      clear hm14 hr14 hk14 hg15 Hc kE
      obtain ⟨cd, E3, hcv, hbd, hB, hT⟩ := bytes_of d (by unfold maxLen; omega) E2
      have hm16 := hm15.below hB
      have hr16 := hr15.below hB
      have hk16 := hk15.trans (KpM.of_below hB)
      have kE3 := (hB.block g6 (Array.getElem?_eq_some_iff.1 kE2).1).trans kE2
      have hbt : BsT E3 (some ⟨E2.heap.size, 0, none⟩) cd d := ⟨hbd, fun b off s e => by cases e; exact hT⟩
      clear hm15 hr15 hk15 hB hT hbd kE2
      obtain ⟨ad, had⟩ : ∃ ad, ad = (some ⟨E2.heap.size, 0, none⟩ : Option Addr) := ⟨_, rfl⟩
      rw [← had] at hcv hbt
      clear had
      have c2 : E3.cell? ⟨g6, 2, none⟩ = some (.slice none 0 0) := block_cell kE3 2
      have f2 : E3.frozen? ⟨g6, 2, none⟩ = false := block_free kE3 2
      have hgs := grown_set E3 g6 2 (.slice ad d.length cd)
      have kE4 := block_set kE3 2 (.slice ad d.length cd)
      simp only [List.setIfInBounds_toArray, List.set_cons_zero, List.set_cons_succ] at kE4
      have hm17 := hm16.entry hgs (elem?_of kE3) hng (by decide)
      have hr17 := hr16.grown hgs (fun k e => by cases e; exact ⟨hgz, hgp⟩)
      have hk17 := hk16.trans (KpM.of_grown hgs fun k e => by cases e; exact .inr (.inr (elem?_of kE3)))
      have hbt4 := hbt.grown hgs (elem?_of kE3) (by decide)
      clear hm16 hr16 hk16 hgs hbt kE3
      go_upto_region 26 with fail
      obtain ⟨E4, hE4⟩ : ∃ E4, E4 = E3.setCell ⟨g6, 2, none⟩ (.slice ad d.length cd) := ⟨_, rfl⟩
      rw [← hE4] at hm17 hr17 hk17 kE4 hbt4 ⊢
      clear hE4 hcv c2 f2
      have hdr : Below E4.heap.size E4 E4.drew := (Below.refl _ _).drew
      have c10 : E4.cell? ⟨q, 10, none⟩ = some (.slice eo el.length ec) := block_cell hm17.blk 10
      obtain ⟨e0, e1, e2⟩ := (⟨block_cell kE4 0, block_cell kE4 1, block_cell kE4 2⟩ : E4.cell? ⟨g6, 0, none⟩ = some (.int .u64 (xt : Int)) ∧ E4.cell? ⟨g6, 1, none⟩ = some (.int .i64 (xk : Int)) ∧ E4.cell? ⟨g6, 2, none⟩ = some (.slice ad d.length cd))
      have zq := hm17.lt
      have zg := (Array.getElem?_eq_some_iff.1 kE4).1
      have hba := below_new E4.drew (.cells #[.int .u64 (xt : Int), .int .i64 (xk : Int), .slice ad d.length cd] 88)
      have hmA := (hm17.below hdr).below hba
      have hrA := (hr17.below hdr).below hba
      have hkA := (hk17.trans (KpM.of_below hdr)).trans (KpM.of_below hba)
      have hbA := (hbt4.below hdr).below hba
      have hzA := hrA.bel.size
      have hnext : ∀ l s2, l = el.map Ep.e ++ [(⟨(xt : Int), (xk : Int), d⟩ : En)] → s2 = s15 → Hid ((l, s2) = gEnts (k + 1) s11) := fun l s2 e1 e2 => by
        show _ = _
        subst e1 e2
        unfold gEnts gEnt
        rw [← hes.out]
        simp only [← Hs12.out, ← Hs13.out, ← Hs15.out]
      have Hnext := Lib.hid hnext
      clear hnext hbt4 hes hba hdr hm17 hr17 hk17
      go_region_law (first
        | (refine step_append_one rfl (.tmp 109) (.tmp 111) 32 rfl W0.heap.size 88 infoEn Try.underlying32 rfl (by decide) _ el.length (el.map epCells) rfl hmA.ens.own _ 1 [.int .u64 (xt : Int), .int .i64 (xk : Int), .slice ad d.length cd] rfl rfl (news_at _ rfl) (fun u hu => by simp at hu; rcases hu with rfl | rfl | rfl <;> rfl) ?_ ?_ ?_ ?_; omega; (unfold maxLen; omega); exact hzA; intro g4 c4 w4 how4 hg4 hlie; obtain ⟨kq4, hm4⟩ := hmA.push (y := ⟨⟨(xt : Int), (xk : Int), d⟩, ad, cd⟩) (by decide) (by decide) (by decide) how4 hg4 hbA; have cc4 : w4.cell? ⟨q, 10, none⟩ = some (.slice eo el.length ec) := block_cell kq4 10; have ff4 := block_free kq4 10; have hr4 := (hrA.app hmA.ens.own (by decide) hg4).store (i := 10) hqz hqp (.slice (some ⟨g4, 0, none⟩) (el.length + 1) c4); have hk4 := (hkA.trans (KpM.of_grown hg4 fun g e => .inr (.inr (own_elemE hmA.ens.own g e)))).trans (KpM.set p q w4 10 (.slice (some ⟨g4, 0, none⟩) (el.length + 1) c4))))
      all_goals
        go_wp2_with fail
        go_roundw
        case rel => exact ⟨k + 1, some ⟨g4, 0, none⟩, c4, el ++ [⟨⟨(xt : Int), (xk : Int), d⟩, ad, cd⟩], s15, by simp, by omega, Hnext.out _ _ (by simp) rfl, hl15, hm4, hr4, hk4⟩
        case measure => simp [intOf]; omega
    · obtain rfl : k = xn := by omega
      go_wp2_with fail
      refine bodyPost_end (results_none rfl _ _ _) rfl ?_
      have hfin : gFields (mI 5 F D T) s0 = ((⟨5, F, D, T, xi, xl, xc, xr, false, false, eo, ec, el, 0, 0, none, 0, [], none, 0, []⟩ : Mp).v, s') := by simp [gFields, mI, Mp.v, sn0, ← Hs1.out, ← Hs2.out, ← Hs6.out, ← Hs7.out, ← Hs11.out, ← hes.out]
      rw [hfin]
      exact ⟨rfl, _, rfl, hm, hr, hk⟩
theorem fill_any (K F D T : Int) {W0 W : World} {p q : Nat} {s0 : St} (hm : MsgA 37 W0 W q ⟨K, F, D, T, 0, 0, 0, 0, false, false, none, 0, [], 0, 0, none, 0, [], none, 0, []⟩) (hr : RdS 123 W0 W p s0) (hl : s0.1.length ≤ 70000000000000) (hqz : W0.heap.size ≤ q) (hqp : q ≠ p) :
    Calls Try.prog 50 #[.pointer (some ⟨q, 0, none⟩), .pointer (some ⟨p, 0, none⟩)] W (FillTold 123 37 W0 q p (gFields (mI K F D T) s0) W) := by
  by_cases n1 : K = 1
  · subst n1; exact fill_1 F D T hm hr hl hqz hqp
  by_cases n2 : K = 2
  · subst n2; exact fill_2 F D T hm hr hl hqz hqp
  by_cases n3 : K = 3
  · subst n3; exact fill_3 F D T hm hr hl hqz hqp
  by_cases n4 : K = 4
  · subst n4; exact fill_4 F D T hm hr hl hqz hqp
  by_cases n5 : K = 5
  · subst n5; exact fill_5 F D T hm hr hl hqz hqp
  by_cases n6 : K = 6
  · subst n6; exact fill_6 F D T hm hr hl hqz hqp
  by_cases n7 : K = 7
  · subst n7; exact fill_7 F D T hm hr hl hqz hqp
  exact fill_o K F D T hm hr hl hqz hqp n1 n2 n3 n4 n5 n6 n7
end Go.Proofs.Ytbmkgcoolofmpaa
