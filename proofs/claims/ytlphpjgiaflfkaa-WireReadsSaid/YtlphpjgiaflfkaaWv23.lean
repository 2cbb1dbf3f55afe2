/- Lemmas for WireReads (Nk2). No statement of the seat is proved here. -/
import Derived.Deep.RegionLaw
import Derived.Test.YtlphpjgiaflfkaaWv22
namespace Go.Proofs.Ytlphpjgiaflfkaa
set_option linter.unusedVariables false
set_option linter.unusedSimpArgs false
set_option linter.unusedSectionVars false
open Go Go.RowKit Go.Shelf
set_option maxRecDepth 100000 in
set_option maxHeartbeats 8000000 in
theorem fields_7 (F D T : Int) {W0 W : World} {p : Nat} {s0 : St} (hr : RdS 78 W0 W p s0) (hl : s0.1.length ≤ 70000000000000) :
    Calls Try.prog 79 #[.pointer (some ⟨p, 0, none⟩), .agg #[.int .i64 7, .int .i64 F, .int .i64 D, .int .u64 T, .int .u64 0, .int .u64 0, .int .u64 0, .int .u64 0, .bool false, .bool false, .slice none 0 0, .int .u64 0, .int .u64 0, .slice none 0 0, .slice none 0 0]] W (FldTold 78 W0 p (gFields (mI 7 F D T) s0) W) := by
  have hr0 := hr
  obtain ⟨q, hq⟩ : ∃ q, q = W.heap.size := ⟨_, rfl⟩
  obtain ⟨W1, hW1⟩ : ∃ W1, W1 = W.alloc (.cells #[.int .i64 7, .int .i64 F, .int .i64 D, .int .u64 T, .int .u64 0, .int .u64 0, .int .u64 0, .int .u64 0, .bool false, .bool false, .slice none 0 0, .int .u64 0, .int .u64 0, .slice none 0 0, .slice none 0 0] 52) := ⟨_, rfl⟩
  have hB1 : Below W.heap.size W W1 := by rw [hW1]; exact below_new _ _
  have e1 : W1.heap.size = W.heap.size + 1 := by rw [hW1]; exact World.size_alloc _ _
  have k1 : W1.heap[q]? = some (.cells #[.int .i64 7, .int .i64 F, .int .i64 D, .int .u64 T, .int .u64 0, .int .u64 0, .int .u64 0, .int .u64 0, .bool false, .bool false, .slice none 0 0, .int .u64 0, .int .u64 0, .slice none 0 0, .slice none 0 0] 52) := by rw [hW1, hq]; exact heap_alloc_new _ _
  obtain ⟨r, hrd⟩ : ∃ r, r = W.heap.size + 1 := ⟨_, rfl⟩
  obtain ⟨W2, hW2⟩ : ∃ W2, W2 = W1.alloc (.cells #[.int .i64 0, .int .i64 0, .int .i64 0, .int .u64 0, .int .u64 0, .int .u64 0, .int .u64 0, .int .u64 0, .bool false, .bool false, .slice none 0 0, .int .u64 0, .int .u64 0, .slice none 0 0, .slice none 0 0] 52) := ⟨_, rfl⟩
  have hB2 : Below W1.heap.size W1 W2 := by rw [hW2]; exact below_new _ _
  have kr : W2.heap[r]? = some (.cells #[.int .i64 0, .int .i64 0, .int .i64 0, .int .u64 0, .int .u64 0, .int .u64 0, .int .u64 0, .int .u64 0, .bool false, .bool false, .slice none 0 0, .int .u64 0, .int .u64 0, .slice none 0 0, .slice none 0 0] 52) := by rw [hW2, hrd, ← e1]; exact heap_alloc_new _ _
  have kq := (hB2.block q (Array.getElem?_eq_some_iff.1 k1).1).trans k1
  have hm : MsgA 52 W W2 q ⟨7, F, D, T, 0, 0, 0, 0, false, false, none, 0, [], 0, 0, none, 0, [], none, 0, []⟩ := ⟨kq, EnsO.nil _ _, IzT.nil _, ⟨Bs.nil _, fun b off s e => by cases e⟩⟩
  have hr := (hr0.below hB1).below hB2
  have hqz : W0.heap.size ≤ q := by rw [hq]; exact hr0.bel.size
  have hrz : W0.heap.size ≤ r := by rw [hrd]; have := hr0.bel.size; omega
  have hqp : q ≠ p := by have := hr0.lt; omega
  have hrp : r ≠ p := by have := hr0.lt; omega
  have hqr : q ≠ r := by omega
  have hqw : W.heap.size ≤ q := by omega
  have hrw : W.heap.size ≤ r := by omega
  have kk : KpF p W W2 := KpF.of_below (below_on hB1 hB2 (Nat.le_refl _))
  have hwz0 : W0.heap.size ≤ W.heap.size := hr0.bel.size
  have hqq : q = W.heap.size := hq
  go_enter Try.func79, Try.ntmps79
  go_upto_region 1 with fail
  rw [← hW1, ← hW2, ← hrd, ← hqq]
  clear hW1 hW2 hrd hq hqq e1 k1 kq hB1 hB2 hr0
  have c0 : W2.cell? ⟨q, 0, none⟩ = some (.int .i64 7) := block_cell hm.blk 0
  have zq : q < W2.heap.size := hm.lt
  obtain ⟨⟨xr, s3⟩, hs3⟩ : ∃ r, r = gN 1152921504606846976 s0 := ⟨_, rfl⟩
  have hb3 : xr ≤ 1152921504606846976 := by have := gN_le 1152921504606846976 s0; rw [← hs3] at this; exact this
  have hl3 : s3.1.length ≤ 70000000000000 := by have := gN_len 1152921504606846976 s0; rw [← hs3] at this; simp only at this; omega
  have hc := rds_refNum 1152921504606846976 (by decide) hr
  rw [← hs3] at hc
  have Hc3 := Lib.hid hc
  have Hs3 := Lib.hid hs3
  clear hc hs3
  go_wp2_with fail
  refine Hc3.out.mono ?_
  rintro e W3 ⟨rfl, hr3, hg3⟩
  simp only at hr3 ⊢
  have hm3 := hm.grown hg3 hr.elem (by decide) (by decide) (by decide) (by decide)
  have kk3 := KpF.rd kk hg3
  have kr3 := (hg3.block r (Array.getElem?_eq_some_iff.1 kr).1 (by simp; omega)).trans kr
  clear hm hr kk kr hg3 Hc3
  clear c0 zq
  have c7 : W3.cell? ⟨q, 7, none⟩ = some (.int .u64 0) := block_cell hm3.blk 7
  have f7 : W3.frozen? ⟨q, 7, none⟩ = false := block_free hm3.blk 7
  have hgn := grown_set W3 q 7 (.int .u64 xr)
  have hm4 := hm3.put (by decide) (by decide) (by decide) 7 (.int .u64 xr) ⟨7, F, D, T, 0, 0, 0, xr, false, false, none, 0, [], 0, 0, none, 0, [], none, 0, []⟩ rfl rfl
  have hr4 := hr3.store (i := 7) hqz hqp (.int .u64 xr)
  have kk4 := KpF.new kk3 hgn hqw
  have kr4 := (hgn.block r (Array.getElem?_eq_some_iff.1 kr3).1 (by simp; omega)).trans kr3
  clear hm3 hr3 kk3 kr3 hgn
  go_upto_region 28 with fail
  obtain ⟨W4, hW4⟩ : ∃ W4, W4 = W3.setCell ⟨q, 7, none⟩ (.int .u64 xr) := ⟨_, rfl⟩
  rw [← hW4] at hm4 hr4 kk4 kr4 ⊢
  clear hW4
  clear c7 f7
  obtain ⟨⟨d, s5⟩, hs5⟩ : ∃ r, r = gT 65536 s3 := ⟨_, rfl⟩
  have hb5 : d.length ≤ 65536 := by have := gT_le 65536 s3; rw [← hs5] at this; exact this
  have hl5 : s5.1.length ≤ 70000000000000 := by have := gT_len 65536 s3; rw [← hs5] at this; simp only at this; omega
  have hc := rds_refText 65536 (by decide) hr4 (by omega)
  rw [← hs5] at hc
  have Hc5 := Lib.hid hc
  have Hs5 := Lib.hid hs5
  clear hc hs5
  go_wp2_with fail
  refine Hc5.out.mono ?_
  rintro e W5 ⟨rfl, hr5, hg5⟩
  simp only at hr5 ⊢
  have hm5 := hm4.grown hg5 hr4.elem (by decide) (by decide) (by decide) (by decide)
  have kk5 := KpF.rd kk4 hg5
  have kr5 := (hg5.block r (Array.getElem?_eq_some_iff.1 kr4).1 (by simp; omega)).trans kr4
  clear hm4 hr4 kk4 kr4 hg5 Hc5
  obtain ⟨cd, V1, hcv, hbd, hB, hT⟩ := bytes_of d (by unfold maxLen; omega) W5
  have hm6 := hm5.below hB
  have hr6 := hr5.below hB
  have kk6 := kk5.below hB
  have kr6 := (hB.block r (Array.getElem?_eq_some_iff.1 kr5).1).trans kr5
  have hrd := refSnapRead_any _ cd d V1 hbd (by omega)
  obtain ⟨⟨⟨gi, gt, ml, dd⟩, okk⟩, hR⟩ : ∃ r, r = snR 6 d := ⟨_, rfl⟩
  rw [← hR] at hrd
  have Hrd := Lib.hid hrd
  have HR := Lib.hid hR
  clear hrd hR hB hT hbd hm5 hr5 kk5 kr5
  go_wp2_with fail
  refine Hrd.out.mono ?_
  rintro e V2 ⟨mo, mc, ao, ac, rfl, hit, hbt, hB2⟩
  simp only at hit hbt ⊢
  obtain ⟨V3, hV3⟩ : ∃ V3, V3 = V2.alloc (.cells #[.int .u64 gi, .int .u64 gt, .slice mo ml.length mc, .slice ao dd.length ac] 47) := ⟨_, rfl⟩
  have hB3 : Below V2.heap.size V2 V3 := by rw [hV3]; exact below_new _ _
  obtain ⟨gs, hgs⟩ : ∃ gs, gs = V2.heap.size := ⟨_, rfl⟩
  have ks : V3.heap[gs]? = some (.cells #[.int .u64 gi, .int .u64 gt, .slice mo ml.length mc, .slice ao dd.length ac] 47) := by rw [hV3, hgs]; exact heap_alloc_new _ _
  have hm7 := (hm6.below hB2).below hB3
  have hr7 := (hr6.below hB2).below hB3
  have kk7 := (kk6.below hB2).below hB3
  have krx := (hB2.block r (Array.getElem?_eq_some_iff.1 kr6).1).trans kr6
  have kr7 := (hB3.block r (Array.getElem?_eq_some_iff.1 krx).1).trans krx
  have hit3 := hit.below hB3
  have hbt3 := hbt.below hB3
  go_upto_region 29 with fail
  rw [← hV3, ← hgs]
  clear hcv Hrd hV3 hgs hB2 hB3 hit hbt krx hm6 hr6 kk6 kr6
  obtain ⟨q0, q1, q2, q3⟩ := (⟨block_cell ks 0, block_cell ks 1, block_cell ks 2, block_cell ks 3⟩ : V3.cell? ⟨gs, 0, none⟩ = some (.int .u64 gi) ∧ V3.cell? ⟨gs, 1, none⟩ = some (.int .u64 gt) ∧ V3.cell? ⟨gs, 2, none⟩ = some (.slice mo ml.length mc) ∧ V3.cell? ⟨gs, 3, none⟩ = some (.slice ao dd.length ac))
  have c11 : V3.cell? ⟨q, 11, none⟩ = some (.int .u64 0) := block_cell hm7.blk 11
  have f11 : V3.frozen? ⟨q, 11, none⟩ = false := block_free hm7.blk 11
  have c12 : V3.cell? ⟨q, 12, none⟩ = some (.int .u64 0) := block_cell hm7.blk 12
  have f12 : V3.frozen? ⟨q, 12, none⟩ = false := block_free hm7.blk 12
  have c13 : V3.cell? ⟨q, 13, none⟩ = some (.slice none 0 0) := block_cell hm7.blk 13
  have f13 : V3.frozen? ⟨q, 13, none⟩ = false := block_free hm7.blk 13
  have c14 : V3.cell? ⟨q, 14, none⟩ = some (.slice none 0 0) := block_cell hm7.blk 14
  have f14 : V3.frozen? ⟨q, 14, none⟩ = false := block_free hm7.blk 14
  have hm8 := hm7.snap (i := gi) (t := gt) (by decide) (by decide) (by decide) hit3 hbt3
  have hg4 : V3.grownBy ((((V3.setCell ⟨q, 11, none⟩ (.int .u64 gi)).setCell ⟨q, 12, none⟩ (.int .u64 gt)).setCell ⟨q, 13, none⟩ (.slice mo ml.length mc)).setCell ⟨q, 14, none⟩ (.slice ao dd.length ac)) (some q) := grown_trans (grown_set _ _ _ _) (grown_trans (grown_set _ _ _ _) (grown_trans (grown_set _ _ _ _) (grown_set _ _ _ _)))
  obtain ⟨V4, hV4⟩ : ∃ V4, V4 = ((((V3.setCell ⟨q, 11, none⟩ (.int .u64 gi)).setCell ⟨q, 12, none⟩ (.int .u64 gt)).setCell ⟨q, 13, none⟩ (.slice mo ml.length mc)).setCell ⟨q, 14, none⟩ (.slice ao dd.length ac)) := ⟨_, rfl⟩
  rw [← hV4] at hm8 hg4
  have hr8 := hr7.grown hg4 (fun k e => by cases e; exact ⟨hqz, hqp⟩)
  have kk8 := KpF.new kk7 hg4 hqw
  have kr8 := (hg4.block r (Array.getElem?_eq_some_iff.1 kr7).1 (by simp; omega)).trans kr7
  clear hm7 hr7 kk7 kr7 hg4
  go_upto_region 30 with fail
  rw [← hV4]
  clear hV4 q0 q1 q2 q3 c11 c12 c13 c14 f11 f12 f13 f14 ks hit3 hbt3
  simp only at hm8
  cases okk with
  | true =>
    go_upto_region 32 with fail
    have p0 : V4.cell? ⟨q, 0, none⟩ = some (.int .i64 7) := block_cell hm8.blk 0
    have p1 : V4.cell? ⟨q, 1, none⟩ = some (.int .i64 F) := block_cell hm8.blk 1
    have p2 : V4.cell? ⟨q, 2, none⟩ = some (.int .i64 D) := block_cell hm8.blk 2
    have p3 : V4.cell? ⟨q, 3, none⟩ = some (.int .u64 T) := block_cell hm8.blk 3
    have p4 : V4.cell? ⟨q, 4, none⟩ = some (.int .u64 0) := block_cell hm8.blk 4
    have p5 : V4.cell? ⟨q, 5, none⟩ = some (.int .u64 0) := block_cell hm8.blk 5
    have p6 : V4.cell? ⟨q, 6, none⟩ = some (.int .u64 0) := block_cell hm8.blk 6
    have p7 : V4.cell? ⟨q, 7, none⟩ = some (.int .u64 xr) := block_cell hm8.blk 7
    have p8 : V4.cell? ⟨q, 8, none⟩ = some (.bool false) := block_cell hm8.blk 8
    have p9 : V4.cell? ⟨q, 9, none⟩ = some (.bool false) := block_cell hm8.blk 9
    have p10 : V4.cell? ⟨q, 10, none⟩ = some (.slice none 0 0) := block_cell hm8.blk 10
    have p11 : V4.cell? ⟨q, 11, none⟩ = some (.int .u64 gi) := block_cell hm8.blk 11
    have p12 : V4.cell? ⟨q, 12, none⟩ = some (.int .u64 gt) := block_cell hm8.blk 12
    have p13 : V4.cell? ⟨q, 13, none⟩ = some (.slice mo ml.length mc) := block_cell hm8.blk 13
    have p14 : V4.cell? ⟨q, 14, none⟩ = some (.slice ao dd.length ac) := block_cell hm8.blk 14
    have cR0 : V4.cell? ⟨r, 0, none⟩ = some (.int .i64 0) := block_cell kr8 0
    have zR0 := block_free kr8 0
    have cR1 : V4.cell? ⟨r, 1, none⟩ = some (.int .i64 0) := block_cell kr8 1
    have zR1 := block_free kr8 1
    have cR2 : V4.cell? ⟨r, 2, none⟩ = some (.int .i64 0) := block_cell kr8 2
    have zR2 := block_free kr8 2
    have cR3 : V4.cell? ⟨r, 3, none⟩ = some (.int .u64 0) := block_cell kr8 3
    have zR3 := block_free kr8 3
    have cR4 : V4.cell? ⟨r, 4, none⟩ = some (.int .u64 0) := block_cell kr8 4
    have zR4 := block_free kr8 4
    have cR5 : V4.cell? ⟨r, 5, none⟩ = some (.int .u64 0) := block_cell kr8 5
    have zR5 := block_free kr8 5
    have cR6 : V4.cell? ⟨r, 6, none⟩ = some (.int .u64 0) := block_cell kr8 6
    have zR6 := block_free kr8 6
    have cR7 : V4.cell? ⟨r, 7, none⟩ = some (.int .u64 0) := block_cell kr8 7
    have zR7 := block_free kr8 7
    have cR8 : V4.cell? ⟨r, 8, none⟩ = some (.bool false) := block_cell kr8 8
    have zR8 := block_free kr8 8
    have cR9 : V4.cell? ⟨r, 9, none⟩ = some (.bool false) := block_cell kr8 9
    have zR9 := block_free kr8 9
    have cR10 : V4.cell? ⟨r, 10, none⟩ = some (.slice none 0 0) := block_cell kr8 10
    have zR10 := block_free kr8 10
    have cR11 : V4.cell? ⟨r, 11, none⟩ = some (.int .u64 0) := block_cell kr8 11
    have zR11 := block_free kr8 11
    have cR12 : V4.cell? ⟨r, 12, none⟩ = some (.int .u64 0) := block_cell kr8 12
    have zR12 := block_free kr8 12
    have cR13 : V4.cell? ⟨r, 13, none⟩ = some (.slice none 0 0) := block_cell kr8 13
    have zR13 := block_free kr8 13
    have cR14 : V4.cell? ⟨r, 14, none⟩ = some (.slice none 0 0) := block_cell kr8 14
    have zR14 := block_free kr8 14
    have zR := (Array.getElem?_eq_some_iff.1 kr8).1
    obtain ⟨kS, hgS⟩ := set15 kr8 (.int .i64 7) (.int .i64 F) (.int .i64 D) (.int .u64 T) (.int .u64 0) (.int .u64 0) (.int .u64 0) (.int .u64 xr) (.bool false) (.bool false) (.slice none 0 0) (.int .u64 gi) (.int .u64 gt) (.slice mo ml.length mc) (.slice ao dd.length ac)
    obtain ⟨Y, hY⟩ : ∃ Y, Y = (((((((((((((((V4.setCell ⟨r, 0, none⟩ (.int .i64 7)).setCell ⟨r, 1, none⟩ (.int .i64 F)).setCell ⟨r, 2, none⟩ (.int .i64 D)).setCell ⟨r, 3, none⟩ (.int .u64 T)).setCell ⟨r, 4, none⟩ (.int .u64 0)).setCell ⟨r, 5, none⟩ (.int .u64 0)).setCell ⟨r, 6, none⟩ (.int .u64 0)).setCell ⟨r, 7, none⟩ (.int .u64 xr)).setCell ⟨r, 8, none⟩ (.bool false)).setCell ⟨r, 9, none⟩ (.bool false)).setCell ⟨r, 10, none⟩ (.slice none 0 0)).setCell ⟨r, 11, none⟩ (.int .u64 gi)).setCell ⟨r, 12, none⟩ (.int .u64 gt)).setCell ⟨r, 13, none⟩ (.slice mo ml.length mc)).setCell ⟨r, 14, none⟩ (.slice ao dd.length ac)) := ⟨_, rfl⟩
    rw [← hY] at kS hgS
    have u0 := block_cell kS 0
    have u1 := block_cell kS 1
    have u2 := block_cell kS 2
    have u3 := block_cell kS 3
    have u4 := block_cell kS 4
    have u5 := block_cell kS 5
    have u6 := block_cell kS 6
    have u7 := block_cell kS 7
    have u8 := block_cell kS 8
    have u9 := block_cell kS 9
    have u10 := block_cell kS 10
    have u11 := block_cell kS 11
    have u12 := block_cell kS 12
    have u13 := block_cell kS 13
    have u14 := block_cell kS 14
    simp at u0 u1 u2 u3 u4 u5 u6 u7 u8 u9 u10 u11 u12 u13 u14
    go_wp2_with fail
    rw [← hY]
    have hfin : gFields (mI 7 F D T) s0 = ((⟨7, F, D, T, 0, 0, 0, xr, false, false, none, 0, [], gi, gt, mo, mc, ml, ao, ac, dd⟩ : Mp).v, s5) := by simp [gFields, mI, Mp.v, sn0, ← Hs3.out, ← Hs5.out, ← HR.out]
    have hfin2 := hfin
    clear hfin
    refine bodyPost_ret (v := .agg #[.int .i64 7, .int .i64 F, .int .i64 D, .int .u64 T, .int .u64 0, .int .u64 0, .int .u64 0, .int .u64 xr, .bool false, .bool false, .slice none 0 0, .int .u64 gi, .int .u64 gt, .slice mo ml.length mc, .slice ao dd.length ac]) (by simp [results, Try.results79, go_sem, u0, u1, u2, u3, u4, u5, u6, u7, u8, u9, u10, u11, u12, u13, u14]) rfl ?_
    rw [hfin2]
    exact ⟨⟨7, F, D, T, 0, 0, 0, xr, false, false, none, 0, [], gi, gt, mo, mc, ml, ao, ac, dd⟩, rfl, rfl, ⟨hm8.ens.grown hgS (elem?_of kr8) (by decide) (by decide), hm8.mem.grown hgS (elem?_of kr8) (by decide), hm8.dat.grown hgS (elem?_of kr8) (by decide)⟩, hr8.grown hgS (fun k e => by cases e; exact ⟨hrz, hrp⟩), KpF.new kk8 hgS hrw⟩
  | false =>
    have hc := rds_refFail hr8
    have Hc := Lib.hid hc
    clear hc
    go_wp2_with fail
    refine Hc.out.mono ?_
    rintro e W9 ⟨rfl, hr9, hg9⟩
    have hm9 := hm8.grown hg9 hr8.elem (by decide) (by decide) (by decide) (by decide)
    have kk9 := KpF.rd kk8 hg9
    have kr9 := (hg9.block r (Array.getElem?_eq_some_iff.1 kr8).1 (by simp; omega)).trans kr8
    clear hm8 hr8 kk8 kr8 hg9 Hc
    go_upto_region 32 with fail
    have p0 : W9.cell? ⟨q, 0, none⟩ = some (.int .i64 7) := block_cell hm9.blk 0
    have p1 : W9.cell? ⟨q, 1, none⟩ = some (.int .i64 F) := block_cell hm9.blk 1
    have p2 : W9.cell? ⟨q, 2, none⟩ = some (.int .i64 D) := block_cell hm9.blk 2
    have p3 : W9.cell? ⟨q, 3, none⟩ = some (.int .u64 T) := block_cell hm9.blk 3
    have p4 : W9.cell? ⟨q, 4, none⟩ = some (.int .u64 0) := block_cell hm9.blk 4
    have p5 : W9.cell? ⟨q, 5, none⟩ = some (.int .u64 0) := block_cell hm9.blk 5
    have p6 : W9.cell? ⟨q, 6, none⟩ = some (.int .u64 0) := block_cell hm9.blk 6
    have p7 : W9.cell? ⟨q, 7, none⟩ = some (.int .u64 xr) := block_cell hm9.blk 7
    have p8 : W9.cell? ⟨q, 8, none⟩ = some (.bool false) := block_cell hm9.blk 8
    have p9 : W9.cell? ⟨q, 9, none⟩ = some (.bool false) := block_cell hm9.blk 9
    have p10 : W9.cell? ⟨q, 10, none⟩ = some (.slice none 0 0) := block_cell hm9.blk 10
    have p11 : W9.cell? ⟨q, 11, none⟩ = some (.int .u64 gi) := block_cell hm9.blk 11
    have p12 : W9.cell? ⟨q, 12, none⟩ = some (.int .u64 gt) := block_cell hm9.blk 12
    have p13 : W9.cell? ⟨q, 13, none⟩ = some (.slice mo ml.length mc) := block_cell hm9.blk 13
    have p14 : W9.cell? ⟨q, 14, none⟩ = some (.slice ao dd.length ac) := block_cell hm9.blk 14
    have cR0 : W9.cell? ⟨r, 0, none⟩ = some (.int .i64 0) := block_cell kr9 0
    have zR0 := block_free kr9 0
    have cR1 : W9.cell? ⟨r, 1, none⟩ = some (.int .i64 0) := block_cell kr9 1
    have zR1 := block_free kr9 1
    have cR2 : W9.cell? ⟨r, 2, none⟩ = some (.int .i64 0) := block_cell kr9 2
    have zR2 := block_free kr9 2
    have cR3 : W9.cell? ⟨r, 3, none⟩ = some (.int .u64 0) := block_cell kr9 3
    have zR3 := block_free kr9 3
    have cR4 : W9.cell? ⟨r, 4, none⟩ = some (.int .u64 0) := block_cell kr9 4
    have zR4 := block_free kr9 4
    have cR5 : W9.cell? ⟨r, 5, none⟩ = some (.int .u64 0) := block_cell kr9 5
    have zR5 := block_free kr9 5
    have cR6 : W9.cell? ⟨r, 6, none⟩ = some (.int .u64 0) := block_cell kr9 6
    have zR6 := block_free kr9 6
    have cR7 : W9.cell? ⟨r, 7, none⟩ = some (.int .u64 0) := block_cell kr9 7
    have zR7 := block_free kr9 7
    have cR8 : W9.cell? ⟨r, 8, none⟩ = some (.bool false) := block_cell kr9 8
    have zR8 := block_free kr9 8
    have cR9 : W9.cell? ⟨r, 9, none⟩ = some (.bool false) := block_cell kr9 9
    have zR9 := block_free kr9 9
    have cR10 : W9.cell? ⟨r, 10, none⟩ = some (.slice none 0 0) := block_cell kr9 10
    have zR10 := block_free kr9 10
    have cR11 : W9.cell? ⟨r, 11, none⟩ = some (.int .u64 0) := block_cell kr9 11
    have zR11 := block_free kr9 11
    have cR12 : W9.cell? ⟨r, 12, none⟩ = some (.int .u64 0) := block_cell kr9 12
    have zR12 := block_free kr9 12
    have cR13 : W9.cell? ⟨r, 13, none⟩ = some (.slice none 0 0) := block_cell kr9 13
    have zR13 := block_free kr9 13
    have cR14 : W9.cell? ⟨r, 14, none⟩ = some (.slice none 0 0) := block_cell kr9 14
    have zR14 := block_free kr9 14
    have zR := (Array.getElem?_eq_some_iff.1 kr9).1
    obtain ⟨kS, hgS⟩ := set15 kr9 (.int .i64 7) (.int .i64 F) (.int .i64 D) (.int .u64 T) (.int .u64 0) (.int .u64 0) (.int .u64 0) (.int .u64 xr) (.bool false) (.bool false) (.slice none 0 0) (.int .u64 gi) (.int .u64 gt) (.slice mo ml.length mc) (.slice ao dd.length ac)
    obtain ⟨Y, hY⟩ : ∃ Y, Y = (((((((((((((((W9.setCell ⟨r, 0, none⟩ (.int .i64 7)).setCell ⟨r, 1, none⟩ (.int .i64 F)).setCell ⟨r, 2, none⟩ (.int .i64 D)).setCell ⟨r, 3, none⟩ (.int .u64 T)).setCell ⟨r, 4, none⟩ (.int .u64 0)).setCell ⟨r, 5, none⟩ (.int .u64 0)).setCell ⟨r, 6, none⟩ (.int .u64 0)).setCell ⟨r, 7, none⟩ (.int .u64 xr)).setCell ⟨r, 8, none⟩ (.bool false)).setCell ⟨r, 9, none⟩ (.bool false)).setCell ⟨r, 10, none⟩ (.slice none 0 0)).setCell ⟨r, 11, none⟩ (.int .u64 gi)).setCell ⟨r, 12, none⟩ (.int .u64 gt)).setCell ⟨r, 13, none⟩ (.slice mo ml.length mc)).setCell ⟨r, 14, none⟩ (.slice ao dd.length ac)) := ⟨_, rfl⟩
    rw [← hY] at kS hgS
    have u0 := block_cell kS 0
    have u1 := block_cell kS 1
    have u2 := block_cell kS 2
    have u3 := block_cell kS 3
    have u4 := block_cell kS 4
    have u5 := block_cell kS 5
    have u6 := block_cell kS 6
    have u7 := block_cell kS 7
    have u8 := block_cell kS 8
    have u9 := block_cell kS 9
    have u10 := block_cell kS 10
    have u11 := block_cell kS 11
    have u12 := block_cell kS 12
    have u13 := block_cell kS 13
    have u14 := block_cell kS 14
    simp at u0 u1 u2 u3 u4 u5 u6 u7 u8 u9 u10 u11 u12 u13 u14
    go_wp2_with fail
    rw [← hY]
    have hfin : gFields (mI 7 F D T) s0 = ((⟨7, F, D, T, 0, 0, 0, xr, false, false, none, 0, [], gi, gt, mo, mc, ml, ao, ac, dd⟩ : Mp).v, ([], true)) := by simp [gFields, mI, Mp.v, sn0, ← Hs3.out, ← Hs5.out, ← HR.out]
    have hfin2 := hfin
    clear hfin
    refine bodyPost_ret (v := .agg #[.int .i64 7, .int .i64 F, .int .i64 D, .int .u64 T, .int .u64 0, .int .u64 0, .int .u64 0, .int .u64 xr, .bool false, .bool false, .slice none 0 0, .int .u64 gi, .int .u64 gt, .slice mo ml.length mc, .slice ao dd.length ac]) (by simp [results, Try.results79, go_sem, u0, u1, u2, u3, u4, u5, u6, u7, u8, u9, u10, u11, u12, u13, u14]) rfl ?_
    rw [hfin2]
    exact ⟨⟨7, F, D, T, 0, 0, 0, xr, false, false, none, 0, [], gi, gt, mo, mc, ml, ao, ac, dd⟩, rfl, rfl, ⟨hm9.ens.grown hgS (elem?_of kr9) (by decide) (by decide), hm9.mem.grown hgS (elem?_of kr9) (by decide), hm9.dat.grown hgS (elem?_of kr9) (by decide)⟩, hr9.grown hgS (fun k e => by cases e; exact ⟨hrz, hrp⟩), KpF.new kk9 hgS hrw⟩
set_option maxRecDepth 100000 in
set_option maxHeartbeats 8000000 in
theorem fields_5 (F D T : Int) {W0 W : World} {p : Nat} {s0 : St} (hr : RdS 78 W0 W p s0) (hl : s0.1.length ≤ 70000000000000) :
    Calls Try.prog 79 #[.pointer (some ⟨p, 0, none⟩), .agg #[.int .i64 5, .int .i64 F, .int .i64 D, .int .u64 T, .int .u64 0, .int .u64 0, .int .u64 0, .int .u64 0, .bool false, .bool false, .slice none 0 0, .int .u64 0, .int .u64 0, .slice none 0 0, .slice none 0 0]] W (FldTold 78 W0 p (gFields (mI 5 F D T) s0) W) := by
  have hr0 := hr
  obtain ⟨q, hq⟩ : ∃ q, q = W.heap.size := ⟨_, rfl⟩
  obtain ⟨W1, hW1⟩ : ∃ W1, W1 = W.alloc (.cells #[.int .i64 5, .int .i64 F, .int .i64 D, .int .u64 T, .int .u64 0, .int .u64 0, .int .u64 0, .int .u64 0, .bool false, .bool false, .slice none 0 0, .int .u64 0, .int .u64 0, .slice none 0 0, .slice none 0 0] 52) := ⟨_, rfl⟩
  have hB1 : Below W.heap.size W W1 := by rw [hW1]; exact below_new _ _
  have e1 : W1.heap.size = W.heap.size + 1 := by rw [hW1]; exact World.size_alloc _ _
  have k1 : W1.heap[q]? = some (.cells #[.int .i64 5, .int .i64 F, .int .i64 D, .int .u64 T, .int .u64 0, .int .u64 0, .int .u64 0, .int .u64 0, .bool false, .bool false, .slice none 0 0, .int .u64 0, .int .u64 0, .slice none 0 0, .slice none 0 0] 52) := by rw [hW1, hq]; exact heap_alloc_new _ _
  obtain ⟨r, hrd⟩ : ∃ r, r = W.heap.size + 1 := ⟨_, rfl⟩
  obtain ⟨W2, hW2⟩ : ∃ W2, W2 = W1.alloc (.cells #[.int .i64 0, .int .i64 0, .int .i64 0, .int .u64 0, .int .u64 0, .int .u64 0, .int .u64 0, .int .u64 0, .bool false, .bool false, .slice none 0 0, .int .u64 0, .int .u64 0, .slice none 0 0, .slice none 0 0] 52) := ⟨_, rfl⟩
  have hB2 : Below W1.heap.size W1 W2 := by rw [hW2]; exact below_new _ _
  have kr : W2.heap[r]? = some (.cells #[.int .i64 0, .int .i64 0, .int .i64 0, .int .u64 0, .int .u64 0, .int .u64 0, .int .u64 0, .int .u64 0, .bool false, .bool false, .slice none 0 0, .int .u64 0, .int .u64 0, .slice none 0 0, .slice none 0 0] 52) := by rw [hW2, hrd, ← e1]; exact heap_alloc_new _ _
  have kq := (hB2.block q (Array.getElem?_eq_some_iff.1 k1).1).trans k1
  have hm : MsgA 52 W W2 q ⟨5, F, D, T, 0, 0, 0, 0, false, false, none, 0, [], 0, 0, none, 0, [], none, 0, []⟩ := ⟨kq, EnsO.nil _ _, IzT.nil _, ⟨Bs.nil _, fun b off s e => by cases e⟩⟩
  have hr := (hr0.below hB1).below hB2
  have hqz : W0.heap.size ≤ q := by rw [hq]; exact hr0.bel.size
  have hrz : W0.heap.size ≤ r := by rw [hrd]; have := hr0.bel.size; omega
  have hqp : q ≠ p := by have := hr0.lt; omega
  have hrp : r ≠ p := by have := hr0.lt; omega
  have hqr : q ≠ r := by omega
  have hqw : W.heap.size ≤ q := by omega
  have hrw : W.heap.size ≤ r := by omega
  have kk : KpF p W W2 := KpF.of_below (below_on hB1 hB2 (Nat.le_refl _))
  have hwz0 : W0.heap.size ≤ W.heap.size := hr0.bel.size
  have hqq : q = W.heap.size := hq
  go_enter Try.func79, Try.ntmps79
  go_upto_region 1 with fail
  rw [← hW1, ← hW2, ← hrd, ← hqq]
  clear hW1 hW2 hrd hq hqq e1 k1 kq hB1 hB2 hr0
  have c0 : W2.cell? ⟨q, 0, none⟩ = some (.int .i64 5) := block_cell hm.blk 0
  have zq : q < W2.heap.size := hm.lt
  obtain ⟨⟨xi, s3⟩, hs3⟩ : ∃ r, r = gN 576460752303423488 s0 := ⟨_, rfl⟩
  have hb3 : xi ≤ 576460752303423488 := by have := gN_le 576460752303423488 s0; rw [← hs3] at this; exact this
  have hl3 : s3.1.length ≤ 70000000000000 := by have := gN_len 576460752303423488 s0; rw [← hs3] at this; simp only at this; omega
  have hc := rds_refNum 576460752303423488 (by decide) hr
  rw [← hs3] at hc
  have Hc3 := Lib.hid hc
  have Hs3 := Lib.hid hs3
  clear hc hs3
  go_wp2_with fail
  refine Hc3.out.mono ?_
  rintro e W3 ⟨rfl, hr3, hg3⟩
  simp only at hr3 ⊢
  have hm3 := hm.grown hg3 hr.elem (by decide) (by decide) (by decide) (by decide)
  have kk3 := KpF.rd kk hg3
  have kr3 := (hg3.block r (Array.getElem?_eq_some_iff.1 kr).1 (by simp; omega)).trans kr
  clear hm hr kk kr hg3 Hc3
  clear c0 zq
  have c4 : W3.cell? ⟨q, 4, none⟩ = some (.int .u64 0) := block_cell hm3.blk 4
  have f4 : W3.frozen? ⟨q, 4, none⟩ = false := block_free hm3.blk 4
  have hgn := grown_set W3 q 4 (.int .u64 xi)
  have hm4 := hm3.put (by decide) (by decide) (by decide) 4 (.int .u64 xi) ⟨5, F, D, T, xi, 0, 0, 0, false, false, none, 0, [], 0, 0, none, 0, [], none, 0, []⟩ rfl rfl
  have hr4 := hr3.store (i := 4) hqz hqp (.int .u64 xi)
  have kk4 := KpF.new kk3 hgn hqw
  have kr4 := (hgn.block r (Array.getElem?_eq_some_iff.1 kr3).1 (by simp; omega)).trans kr3
  clear hm3 hr3 kk3 kr3 hgn
  go_upto_region 3 with fail
  obtain ⟨W4, hW4⟩ : ∃ W4, W4 = W3.setCell ⟨q, 4, none⟩ (.int .u64 xi) := ⟨_, rfl⟩
  rw [← hW4] at hm4 hr4 kk4 kr4 ⊢
  clear hW4
  clear c4 f4
  obtain ⟨⟨xl, s5⟩, hs5⟩ : ∃ r, r = gN 1152921504606846976 s3 := ⟨_, rfl⟩
  have hb5 : xl ≤ 1152921504606846976 := by have := gN_le 1152921504606846976 s3; rw [← hs5] at this; exact this
  have hl5 : s5.1.length ≤ 70000000000000 := by have := gN_len 1152921504606846976 s3; rw [← hs5] at this; simp only at this; omega
  have hc := rds_refNum 1152921504606846976 (by decide) hr4
  rw [← hs5] at hc
  have Hc5 := Lib.hid hc
  have Hs5 := Lib.hid hs5
  clear hc hs5
  go_wp2_with fail
  refine Hc5.out.mono ?_
  rintro e W5 ⟨rfl, hr5, hg5⟩
  simp only at hr5 ⊢
  have hm5 := hm4.grown hg5 hr4.elem (by decide) (by decide) (by decide) (by decide)
  have kk5 := KpF.rd kk4 hg5
  have kr5 := (hg5.block r (Array.getElem?_eq_some_iff.1 kr4).1 (by simp; omega)).trans kr4
  clear hm4 hr4 kk4 kr4 hg5 Hc5
  have c5 : W5.cell? ⟨q, 5, none⟩ = some (.int .u64 0) := block_cell hm5.blk 5
  have f5 : W5.frozen? ⟨q, 5, none⟩ = false := block_free hm5.blk 5
  have hgn := grown_set W5 q 5 (.int .u64 xl)
  have hm6 := hm5.put (by decide) (by decide) (by decide) 5 (.int .u64 xl) ⟨5, F, D, T, xi, xl, 0, 0, false, false, none, 0, [], 0, 0, none, 0, [], none, 0, []⟩ rfl rfl
  have hr6 := hr5.store (i := 5) hqz hqp (.int .u64 xl)
  have kk6 := KpF.new kk5 hgn hqw
  have kr6 := (hgn.block r (Array.getElem?_eq_some_iff.1 kr5).1 (by simp; omega)).trans kr5
  clear hm5 hr5 kk5 kr5 hgn
  go_upto_region 4 with fail
  obtain ⟨W6, hW6⟩ : ∃ W6, W6 = W5.setCell ⟨q, 5, none⟩ (.int .u64 xl) := ⟨_, rfl⟩
  rw [← hW6] at hm6 hr6 kk6 kr6 ⊢
  clear hW6
  clear c5 f5
  have c0 : W6.cell? ⟨q, 0, none⟩ = some (.int .i64 5) := block_cell hm6.blk 0
  have zq : q < W6.heap.size := hm6.lt
  obtain ⟨⟨xc, s7⟩, hs7⟩ : ∃ r, r = gN 576460752303423488 s5 := ⟨_, rfl⟩
  have hb7 : xc ≤ 576460752303423488 := by have := gN_le 576460752303423488 s5; rw [← hs7] at this; exact this
  have hl7 : s7.1.length ≤ 70000000000000 := by have := gN_len 576460752303423488 s5; rw [← hs7] at this; simp only at this; omega
  have hc := rds_refNum 576460752303423488 (by decide) hr6
  rw [← hs7] at hc
  have Hc7 := Lib.hid hc
  have Hs7 := Lib.hid hs7
  clear hc hs7
  go_wp2_with fail
  refine Hc7.out.mono ?_
  rintro e W7 ⟨rfl, hr7, hg7⟩
  simp only at hr7 ⊢
  have hm7 := hm6.grown hg7 hr6.elem (by decide) (by decide) (by decide) (by decide)
  have kk7 := KpF.rd kk6 hg7
  have kr7 := (hg7.block r (Array.getElem?_eq_some_iff.1 kr6).1 (by simp; omega)).trans kr6
  clear hm6 hr6 kk6 kr6 hg7 Hc7
  clear c0 zq
  have c6 : W7.cell? ⟨q, 6, none⟩ = some (.int .u64 0) := block_cell hm7.blk 6
  have f6 : W7.frozen? ⟨q, 6, none⟩ = false := block_free hm7.blk 6
  have hgn := grown_set W7 q 6 (.int .u64 xc)
  have hm8 := hm7.put (by decide) (by decide) (by decide) 6 (.int .u64 xc) ⟨5, F, D, T, xi, xl, xc, 0, false, false, none, 0, [], 0, 0, none, 0, [], none, 0, []⟩ rfl rfl
  have hr8 := hr7.store (i := 6) hqz hqp (.int .u64 xc)
  have kk8 := KpF.new kk7 hgn hqw
  have kr8 := (hgn.block r (Array.getElem?_eq_some_iff.1 kr7).1 (by simp; omega)).trans kr7
  clear hm7 hr7 kk7 kr7 hgn
  go_upto_region 12 with fail
  obtain ⟨W8, hW8⟩ : ∃ W8, W8 = W7.setCell ⟨q, 6, none⟩ (.int .u64 xc) := ⟨_, rfl⟩
  rw [← hW8] at hm8 hr8 kk8 kr8 ⊢
  clear hW8
  clear c6 f6
  obtain ⟨⟨xr, s9⟩, hs9⟩ : ∃ r, r = gN 1152921504606846976 s7 := ⟨_, rfl⟩
  have hb9 : xr ≤ 1152921504606846976 := by have := gN_le 1152921504606846976 s7; rw [← hs9] at this; exact this
  have hl9 : s9.1.length ≤ 70000000000000 := by have := gN_len 1152921504606846976 s7; rw [← hs9] at this; simp only at this; omega
  have hc := rds_refNum 1152921504606846976 (by decide) hr8
  rw [← hs9] at hc
  have Hc9 := Lib.hid hc
  have Hs9 := Lib.hid hs9
  clear hc hs9
  go_wp2_with fail
  refine Hc9.out.mono ?_
  rintro e W9 ⟨rfl, hr9, hg9⟩
  simp only at hr9 ⊢
  have hm9 := hm8.grown hg9 hr8.elem (by decide) (by decide) (by decide) (by decide)
  have kk9 := KpF.rd kk8 hg9
  have kr9 := (hg9.block r (Array.getElem?_eq_some_iff.1 kr8).1 (by simp; omega)).trans kr8
  clear hm8 hr8 kk8 kr8 hg9 Hc9
  have c7 : W9.cell? ⟨q, 7, none⟩ = some (.int .u64 0) := block_cell hm9.blk 7
  have f7 : W9.frozen? ⟨q, 7, none⟩ = false := block_free hm9.blk 7
  have hgn := grown_set W9 q 7 (.int .u64 xr)
  have hm10 := hm9.put (by decide) (by decide) (by decide) 7 (.int .u64 xr) ⟨5, F, D, T, xi, xl, xc, xr, false, false, none, 0, [], 0, 0, none, 0, [], none, 0, []⟩ rfl rfl
  have hr10 := hr9.store (i := 7) hqz hqp (.int .u64 xr)
  have kk10 := KpF.new kk9 hgn hqw
  have kr10 := (hgn.block r (Array.getElem?_eq_some_iff.1 kr9).1 (by simp; omega)).trans kr9
  clear hm9 hr9 kk9 kr9 hgn
  go_upto_region 13 with fail
  obtain ⟨W10, hW10⟩ : ∃ W10, W10 = W9.setCell ⟨q, 7, none⟩ (.int .u64 xr) := ⟨_, rfl⟩
  rw [← hW10] at hm10 hr10 kk10 kr10 ⊢
  clear hW10
  clear c7 f7
  obtain ⟨⟨xn, s11⟩, hs11⟩ : ∃ r, r = gN 8 s9 := ⟨_, rfl⟩
  have hb11 : xn ≤ 8 := by have := gN_le 8 s9; rw [← hs11] at this; exact this
  have hl11 : s11.1.length ≤ 70000000000000 := by have := gN_len 8 s9; rw [← hs11] at this; simp only at this; omega
  have hc := rds_refNum 8 (by decide) hr10
  rw [← hs11] at hc
  have Hc11 := Lib.hid hc
  have Hs11 := Lib.hid hs11
  clear hc hs11
  go_wp2_with fail
  refine Hc11.out.mono ?_
  rintro e W11 ⟨rfl, hr11, hg11⟩
  simp only at hr11 ⊢
  have hm11 := hm10.grown hg11 hr10.elem (by decide) (by decide) (by decide) (by decide)
  have kk11 := KpF.rd kk10 hg11
  have kr11 := (hg11.block r (Array.getElem?_eq_some_iff.1 kr10).1 (by simp; omega)).trans kr10
  clear hm10 hr10 kk10 kr10 hg11 Hc11
  have wn : IntKind.i64.wrap (xn : Int) = (xn : Int) := IntWalk.i64_in _ (by omega)
  go_wp2_with fail
  go_loopw [6] (fun u wr => ∃ (k : Nat) (eo : Option Addr) (ec : Nat) (el : List Ep) (s' : St), u = .int .i64 (k : Nat) ∧ k ≤ xn ∧ Hid ((el.map Ep.e, s') = gEnts k s11) ∧ s'.1.length ≤ 70000000000000 ∧ MsgA 52 W wr q ⟨5, F, D, T, xi, xl, xc, xr, false, false, eo, ec, el, 0, 0, none, 0, [], none, 0, []⟩ ∧ RdS 78 W0 wr p s' ∧ KpF p W wr ∧ wr.heap[r]? = some (.cells #[.int .i64 0, .int .i64 0, .int .i64 0, .int .u64 0, .int .u64 0, .int .u64 0, .int .u64 0, .int .u64 0, .bool false, .bool false, .slice none 0 0, .int .u64 0, .int .u64 0, .slice none 0 0, .slice none 0 0] 52)) (fun u _ => xn - (intOf u).toNat)
  case atStart => exact ⟨0, none, 0, [], s11, rfl, Nat.zero_le _, Lib.hid rfl, hl11, hm11, hr11, kk11, kr11⟩
  case round =>
    clear hm11 hr11 kk11 kr11 wn
    obtain ⟨k, eo, ec, el, s', rfl, hkx, hes, hls, hm, hr, kk, kr⟩ := hrel
    have helk : el.length = k := by have := gEnts_len k s11; rw [← hes.out] at this; simpa using this
    have hel8 : el.length ≤ 8 := by omega
    have Helk := Lib.hid helk
    clear helk
    have i0 : (0 : Int) ≤ (k : Int) := by omega
    by_cases hlt : k < xn
    · have i1 : (k : Int) < (xn : Int) := by omega
      have hl := hls
      obtain ⟨g6, hg6⟩ : ∃ g6, g6 = wr.heap.size := ⟨_, rfl⟩
      obtain ⟨E1, hE1⟩ : ∃ E1, E1 = wr.alloc (.cells #[.int .u64 0, .int .i64 0, .slice none 0 0] 38) := ⟨_, rfl⟩
      have hB1 : Below wr.heap.size wr E1 := by rw [hE1]; exact below_new _ _
      have kE : E1.heap[g6]? = some (.cells #[.int .u64 0, .int .i64 0, .slice none 0 0] 38) := by rw [hE1, hg6]; exact heap_alloc_new _ _
      have hng : (Value.slice eo el.length ec).ownBlock ≠ some g6 := fun e => by have := (hm.ens.own.lt g6 e).2; omega
      have hgz : W0.heap.size ≤ g6 := by rw [hg6]; exact hr.bel.size
      have hgp : g6 ≠ p := by have := hr.lt; omega
      have hgq : g6 ≠ q := by have := hm.lt; omega
      have hgr : g6 ≠ r := by have := (Array.getElem?_eq_some_iff.1 kr).1; omega
      have hgw : W.heap.size ≤ g6 := by
        rw [hg6]
        by_cases h0 : W.heap.size = 0
        · omega
        · have := hm.lt; omega
      have hm12 := hm.below hB1
      have hr12 := hr.below hB1
      have kk12 := kk.below hB1
      have kr12 := (hB1.block r (Array.getElem?_eq_some_iff.1 kr).1).trans kr
      go_upto_region 18 with fail
      rw [← hE1, ← hg6]
      clear hE1 hg6 hB1 hm hr kk kr
      obtain ⟨⟨xt, s13⟩, hs13⟩ : ∃ r, r = gN 1152921504606846976 s' := ⟨_, rfl⟩
      have hb13 : xt ≤ 1152921504606846976 := by have := gN_le 1152921504606846976 s'; rw [← hs13] at this; exact this
      have hl13 : s13.1.length ≤ 70000000000000 := by have := gN_len 1152921504606846976 s'; rw [← hs13] at this; simp only at this; omega
      have hc := rds_refNum 1152921504606846976 (by decide) hr12
      rw [← hs13] at hc
      have Hc13 := Lib.hid hc
      have Hs13 := Lib.hid hs13
      clear hc hs13
      go_wp2_with fail
      refine Hc13.out.mono ?_
      rintro e W13 ⟨rfl, hr13, hg13⟩
      simp only at hr13 ⊢
      have hm13 := hm12.grown hg13 hr12.elem (by decide) (by decide) (by decide) (by decide)
      have kk13 := KpF.rd kk12 hg13
      have kr13 := (hg13.block r (Array.getElem?_eq_some_iff.1 kr12).1 (by simp; omega)).trans kr12
      have kE13 := (hg13.block g6 (Array.getElem?_eq_some_iff.1 kE).1 (by simp; omega)).trans kE
      clear kE hm12 hr12 kk12 kr12 hg13 Hc13
      have c0 : W13.cell? ⟨g6, 0, none⟩ = some (.int .u64 0) := block_cell kE13 0
      have f0 : W13.frozen? ⟨g6, 0, none⟩ = false := block_free kE13 0
      have hgn := grown_set W13 g6 0 (.int .u64 (xt : Int))
      have kE14 := block_set kE13 0 (.int .u64 (xt : Int))
      simp only [List.setIfInBounds_toArray, List.set_cons_zero, List.set_cons_succ] at kE14
      have hm14 := hm13.entry hgn (elem?_of kE13) hng (by decide)
      have hr14 := hr13.grown hgn (fun k e => by cases e; exact ⟨hgz, hgp⟩)
      have kk14 := KpF.new kk13 hgn hgw
      have kr14 := (hgn.block r (Array.getElem?_eq_some_iff.1 kr13).1 (by simp; omega)).trans kr13
      clear hm13 hr13 kk13 kr13 kE13 hgn
      go_upto_region 19 with fail
      obtain ⟨X14, hX14⟩ : ∃ X, X = W13.setCell ⟨g6, 0, none⟩ (.int .u64 (xt : Int)) := ⟨_, rfl⟩
      rw [← hX14] at hm14 hr14 kk14 kr14 kE14 ⊢
      clear hX14 c0 f0
      obtain ⟨⟨xk, s15⟩, hs15⟩ : ∃ r, r = gN 3 s13 := ⟨_, rfl⟩
      have hb15 : xk ≤ 3 := by have := gN_le 3 s13; rw [← hs15] at this; exact this
      have hl15 : s15.1.length ≤ 70000000000000 := by have := gN_len 3 s13; rw [← hs15] at this; simp only at this; omega
      have hc := rds_refNum 3 (by decide) hr14
      rw [← hs15] at hc
      have Hc15 := Lib.hid hc
      have Hs15 := Lib.hid hs15
      clear hc hs15
      go_wp2_with fail
      refine Hc15.out.mono ?_
      rintro e W15 ⟨rfl, hr15, hg15⟩
      simp only at hr15 ⊢
      have hm15 := hm14.grown hg15 hr14.elem (by decide) (by decide) (by decide) (by decide)
      have kk15 := KpF.rd kk14 hg15
      have kr15 := (hg15.block r (Array.getElem?_eq_some_iff.1 kr14).1 (by simp; omega)).trans kr14
      have kE15 := (hg15.block g6 (Array.getElem?_eq_some_iff.1 kE14).1 (by simp; omega)).trans kE14
      clear kE14 hm14 hr14 kk14 kr14 hg15 Hc15
      have wk : IntKind.i64.wrap (xk : Int) = (xk : Int) := IntWalk.i64_in _ (by omega)
      have c1 : W15.cell? ⟨g6, 1, none⟩ = some (.int .i64 0) := block_cell kE15 1
      have f1 : W15.frozen? ⟨g6, 1, none⟩ = false := block_free kE15 1
      have hgn := grown_set W15 g6 1 (.int .i64 (xk : Int))
      have kE16 := block_set kE15 1 (.int .i64 (xk : Int))
      simp only [List.setIfInBounds_toArray, List.set_cons_zero, List.set_cons_succ] at kE16
      have hm16 := hm15.entry hgn (elem?_of kE15) hng (by decide)
      have hr16 := hr15.grown hgn (fun k e => by cases e; exact ⟨hgz, hgp⟩)
      have kk16 := KpF.new kk15 hgn hgw
      have kr16 := (hgn.block r (Array.getElem?_eq_some_iff.1 kr15).1 (by simp; omega)).trans kr15
      clear hm15 hr15 kk15 kr15 kE15 hgn
      go_upto_region 20 with fail
      obtain ⟨X16, hX16⟩ : ∃ X, X = W15.setCell ⟨g6, 1, none⟩ (.int .i64 (xk : Int)) := ⟨_, rfl⟩
      rw [← hX16] at hm16 hr16 kk16 kr16 kE16 ⊢
      clear hX16 c1 f1
      clear wk
      obtain ⟨⟨d, s17⟩, hs17⟩ : ∃ r, r = gT 4096 s15 := ⟨_, rfl⟩
      have hb17 : d.length ≤ 4096 := by have := gT_le 4096 s15; rw [← hs17] at this; exact this
      have hl17 : s17.1.length ≤ 70000000000000 := by have := gT_len 4096 s15; rw [← hs17] at this; simp only at this; omega
      have hc := rds_refText 4096 (by decide) hr16 (by omega)
      rw [← hs17] at hc
      have Hc17 := Lib.hid hc
      have Hs17 := Lib.hid hs17
      clear hc hs17
      go_wp2_with fail
      refine Hc17.out.mono ?_
      rintro e W17 ⟨rfl, hr17, hg17⟩
      simp only at hr17 ⊢
      have hm17 := hm16.grown hg17 hr16.elem (by decide) (by decide) (by decide) (by decide)
      have kk17 := KpF.rd kk16 hg17
      have kr17 := (hg17.block r (Array.getElem?_eq_some_iff.1 kr16).1 (by simp; omega)).trans kr16
      have kE17 := (hg17.block g6 (Array.getElem?_eq_some_iff.1 kE16).1 (by simp; omega)).trans kE16
      clear kE16 hm16 hr16 kk16 kr16 hg17 Hc17
      obtain ⟨cd, E3, hcv, hbd, hB, hT⟩ := bytes_of d (by unfold maxLen; omega) W17
      obtain ⟨ad, had⟩ : ∃ ad, ad = (some ⟨W17.heap.size, 0, none⟩ : Option Addr) := ⟨_, rfl⟩
      rw [← had] at hcv hbd
      have hbt : BsT E3 ad cd d := ⟨hbd, fun b off s e => by rw [had] at e; cases e; exact hT⟩
      have hm18 := hm17.below hB
      have hr18 := hr17.below hB
      have kk18 := kk17.below hB
      have kr18 := (hB.block r (Array.getElem?_eq_some_iff.1 kr17).1).trans kr17
      have kE18 := (hB.block g6 (Array.getElem?_eq_some_iff.1 kE17).1).trans kE17
      clear hm17 hr17 kk17 kr17 kE17 hB hT hbd had
      have c2 : E3.cell? ⟨g6, 2, none⟩ = some (.slice none 0 0) := block_cell kE18 2
      have f2 : E3.frozen? ⟨g6, 2, none⟩ = false := block_free kE18 2
      have hgn := grown_set E3 g6 2 (.slice ad d.length cd)
      have kE19 := block_set kE18 2 (.slice ad d.length cd)
      simp only [List.setIfInBounds_toArray, List.set_cons_zero, List.set_cons_succ] at kE19
      have hm19 := hm18.entry hgn (elem?_of kE18) hng (by decide)
      have hr19 := hr18.grown hgn (fun k e => by cases e; exact ⟨hgz, hgp⟩)
      have kk19 := KpF.new kk18 hgn hgw
      have kr19 := (hgn.block r (Array.getElem?_eq_some_iff.1 kr18).1 (by simp; omega)).trans kr18
      have hbt4 := hbt.grown hgn (elem?_of kE18) (by decide)
      clear hm18 hr18 kk18 kr18 kE18 hgn
      go_upto_region 21 with fail
      obtain ⟨X19, hX19⟩ : ∃ X, X = E3.setCell ⟨g6, 2, none⟩ (.slice ad d.length cd) := ⟨_, rfl⟩
      rw [← hX19] at hm19 hr19 kk19 kr19 kE19 hbt4 ⊢
      clear hX19 c2 f2
      clear hcv hbt
      have c10 : X19.cell? ⟨q, 10, none⟩ = some (.slice eo el.length ec) := block_cell hm19.blk 10
      obtain ⟨e0, e1, e2⟩ := (⟨block_cell kE19 0, block_cell kE19 1, block_cell kE19 2⟩ : X19.cell? ⟨g6, 0, none⟩ = some (.int .u64 (xt : Int)) ∧ X19.cell? ⟨g6, 1, none⟩ = some (.int .i64 (xk : Int)) ∧ X19.cell? ⟨g6, 2, none⟩ = some (.slice ad d.length cd))
      have zq := hm19.lt
      have zg := (Array.getElem?_eq_some_iff.1 kE19).1
      have hba := below_new X19 (.cells #[.int .u64 (xt : Int), .int .i64 (xk : Int), .slice ad d.length cd] 38)
      have hmA := hm19.below hba
      have hrA := hr19.below hba
      have kkA := kk19.below hba
      have hbA := hbt4.below hba
      have krA := (hba.block r (Array.getElem?_eq_some_iff.1 kr19).1).trans kr19
      have hzW : W.heap.size ≤ q := hqw
      have hzA : W.heap.size ≤ (X19.alloc (.cells #[.int .u64 (xt : Int), .int .i64 (xk : Int), .slice ad d.length cd] 38)).heap.size := by have := hmA.lt; omega
      have hnext : ∀ l s2, l = el.map Ep.e ++ [(⟨(xt : Int), (xk : Int), d⟩ : En)] → s2 = s17 → Hid ((l, s2) = gEnts (k + 1) s11) := fun l s2 e1 e2 => by
        show _ = _
        subst e1 e2
        unfold gEnts gEnt
        rw [← hes.out]
        simp only [← Hs13.out, ← Hs15.out, ← Hs17.out]
      have Hnext := Lib.hid hnext
      clear hnext hbt4 hes hba hzW hm19 hr19 kk19 kr19
      go_wp2_with (at_builtin; refine wpl_append_one rfl (.tmp 70) (.tmp 72) 25 rfl W.heap.size 38 infoEn Try.underlying25 rfl (by decide) _ el.length (el.map epCells) rfl hmA.ens.own _ 1 [.int .u64 (xt : Int), .int .i64 (xk : Int), .slice ad d.length cd] rfl rfl (news_at _ rfl) (fun u hu => by simp at hu; rcases hu with rfl | rfl | rfl <;> rfl) ?_ ?_ ?_ ?_; omega; (unfold maxLen; omega); exact hzA; intro g4 c4 w4 how4 hg4 hlie; obtain ⟨kq4, hm4⟩ := hmA.push (y := ⟨⟨(xt : Int), (xk : Int), d⟩, ad, cd⟩) (by decide) (by decide) (by decide) how4 hg4 hbA; have cc4 : w4.cell? ⟨q, 10, none⟩ = some (.slice eo el.length ec) := block_cell kq4 10; have ff4 := block_free kq4 10; have hwz : W0.heap.size ≤ W.heap.size := hwz0; have hr4 := (hrA.app (own_base hmA.ens.own hwz) (by decide) hg4).store (i := 10) hqz hqp (.slice (some ⟨g4, 0, none⟩) (el.length + 1) c4); have kk4 := (kkA.row hg4 (fun k e => (hmA.ens.own.lt k e).1)).new (grown_set w4 q 10 (.slice (some ⟨g4, 0, none⟩) (el.length + 1) c4)) hqw; have krB := (hg4.block r (Array.getElem?_eq_some_iff.1 krA).1 (fun e2 => (by have := own_elemE hmA.ens.own _ e2.symm; rw [elem?_of krA] at this; exact absurd this (by decide)))).trans krA; have kr4 := ((grown_set w4 q 10 (.slice (some ⟨g4, 0, none⟩) (el.length + 1) c4)).block r (Array.getElem?_eq_some_iff.1 krB).1 (by simp; omega)).trans krB)
      go_roundw
      case rel => exact ⟨k + 1, some ⟨g4, 0, none⟩, c4, el ++ [⟨⟨(xt : Int), (xk : Int), d⟩, ad, cd⟩], s17, by simp, by omega, Hnext.out _ _ (by simp) rfl, hl17, hm4, hr4, kk4, kr4⟩
      case measure => simp [intOf]; omega
    · obtain rfl : k = xn := by omega
      go_upto_region 32 with fail
      have p0 : wr.cell? ⟨q, 0, none⟩ = some (.int .i64 5) := block_cell hm.blk 0
      have p1 : wr.cell? ⟨q, 1, none⟩ = some (.int .i64 F) := block_cell hm.blk 1
      have p2 : wr.cell? ⟨q, 2, none⟩ = some (.int .i64 D) := block_cell hm.blk 2
      have p3 : wr.cell? ⟨q, 3, none⟩ = some (.int .u64 T) := block_cell hm.blk 3
      have p4 : wr.cell? ⟨q, 4, none⟩ = some (.int .u64 xi) := block_cell hm.blk 4
      have p5 : wr.cell? ⟨q, 5, none⟩ = some (.int .u64 xl) := block_cell hm.blk 5
      have p6 : wr.cell? ⟨q, 6, none⟩ = some (.int .u64 xc) := block_cell hm.blk 6
      have p7 : wr.cell? ⟨q, 7, none⟩ = some (.int .u64 xr) := block_cell hm.blk 7
      have p8 : wr.cell? ⟨q, 8, none⟩ = some (.bool false) := block_cell hm.blk 8
      have p9 : wr.cell? ⟨q, 9, none⟩ = some (.bool false) := block_cell hm.blk 9
      have p10 : wr.cell? ⟨q, 10, none⟩ = some (.slice eo el.length ec) := block_cell hm.blk 10
      have p11 : wr.cell? ⟨q, 11, none⟩ = some (.int .u64 0) := block_cell hm.blk 11
      have p12 : wr.cell? ⟨q, 12, none⟩ = some (.int .u64 0) := block_cell hm.blk 12
      have p13 : wr.cell? ⟨q, 13, none⟩ = some (.slice none 0 0) := block_cell hm.blk 13
      have p14 : wr.cell? ⟨q, 14, none⟩ = some (.slice none 0 0) := block_cell hm.blk 14
      have cR0 : wr.cell? ⟨r, 0, none⟩ = some (.int .i64 0) := block_cell kr 0
      have zR0 := block_free kr 0
      have cR1 : wr.cell? ⟨r, 1, none⟩ = some (.int .i64 0) := block_cell kr 1
      have zR1 := block_free kr 1
      have cR2 : wr.cell? ⟨r, 2, none⟩ = some (.int .i64 0) := block_cell kr 2
      have zR2 := block_free kr 2
      have cR3 : wr.cell? ⟨r, 3, none⟩ = some (.int .u64 0) := block_cell kr 3
      have zR3 := block_free kr 3
      have cR4 : wr.cell? ⟨r, 4, none⟩ = some (.int .u64 0) := block_cell kr 4
      have zR4 := block_free kr 4
      have cR5 : wr.cell? ⟨r, 5, none⟩ = some (.int .u64 0) := block_cell kr 5
      have zR5 := block_free kr 5
      have cR6 : wr.cell? ⟨r, 6, none⟩ = some (.int .u64 0) := block_cell kr 6
      have zR6 := block_free kr 6
      have cR7 : wr.cell? ⟨r, 7, none⟩ = some (.int .u64 0) := block_cell kr 7
      have zR7 := block_free kr 7
      have cR8 : wr.cell? ⟨r, 8, none⟩ = some (.bool false) := block_cell kr 8
      have zR8 := block_free kr 8
      have cR9 : wr.cell? ⟨r, 9, none⟩ = some (.bool false) := block_cell kr 9
      have zR9 := block_free kr 9
      have cR10 : wr.cell? ⟨r, 10, none⟩ = some (.slice none 0 0) := block_cell kr 10
      have zR10 := block_free kr 10
      have cR11 : wr.cell? ⟨r, 11, none⟩ = some (.int .u64 0) := block_cell kr 11
      have zR11 := block_free kr 11
      have cR12 : wr.cell? ⟨r, 12, none⟩ = some (.int .u64 0) := block_cell kr 12
      have zR12 := block_free kr 12
      have cR13 : wr.cell? ⟨r, 13, none⟩ = some (.slice none 0 0) := block_cell kr 13
      have zR13 := block_free kr 13
      have cR14 : wr.cell? ⟨r, 14, none⟩ = some (.slice none 0 0) := block_cell kr 14
      have zR14 := block_free kr 14
      have zR := (Array.getElem?_eq_some_iff.1 kr).1
      obtain ⟨kS, hgS⟩ := set15 kr (.int .i64 5) (.int .i64 F) (.int .i64 D) (.int .u64 T) (.int .u64 xi) (.int .u64 xl) (.int .u64 xc) (.int .u64 xr) (.bool false) (.bool false) (.slice eo el.length ec) (.int .u64 0) (.int .u64 0) (.slice none 0 0) (.slice none 0 0)
      obtain ⟨Y, hY⟩ : ∃ Y, Y = (((((((((((((((wr.setCell ⟨r, 0, none⟩ (.int .i64 5)).setCell ⟨r, 1, none⟩ (.int .i64 F)).setCell ⟨r, 2, none⟩ (.int .i64 D)).setCell ⟨r, 3, none⟩ (.int .u64 T)).setCell ⟨r, 4, none⟩ (.int .u64 xi)).setCell ⟨r, 5, none⟩ (.int .u64 xl)).setCell ⟨r, 6, none⟩ (.int .u64 xc)).setCell ⟨r, 7, none⟩ (.int .u64 xr)).setCell ⟨r, 8, none⟩ (.bool false)).setCell ⟨r, 9, none⟩ (.bool false)).setCell ⟨r, 10, none⟩ (.slice eo el.length ec)).setCell ⟨r, 11, none⟩ (.int .u64 0)).setCell ⟨r, 12, none⟩ (.int .u64 0)).setCell ⟨r, 13, none⟩ (.slice none 0 0)).setCell ⟨r, 14, none⟩ (.slice none 0 0)) := ⟨_, rfl⟩
      rw [← hY] at kS hgS
      have u0 := block_cell kS 0
      have u1 := block_cell kS 1
      have u2 := block_cell kS 2
      have u3 := block_cell kS 3
      have u4 := block_cell kS 4
      have u5 := block_cell kS 5
      have u6 := block_cell kS 6
      have u7 := block_cell kS 7
      have u8 := block_cell kS 8
      have u9 := block_cell kS 9
      have u10 := block_cell kS 10
      have u11 := block_cell kS 11
      have u12 := block_cell kS 12
      have u13 := block_cell kS 13
      have u14 := block_cell kS 14
      simp at u0 u1 u2 u3 u4 u5 u6 u7 u8 u9 u10 u11 u12 u13 u14
      go_wp2_with fail
      rw [← hY]
      have hfin : gFields (mI 5 F D T) s0 = ((⟨5, F, D, T, xi, xl, xc, xr, false, false, eo, ec, el, 0, 0, none, 0, [], none, 0, []⟩ : Mp).v, s') := by simp [gFields, mI, Mp.v, sn0, ← Hs3.out, ← Hs5.out, ← Hs7.out, ← Hs9.out, ← Hs11.out, ← hes.out]
      have hfin2 := hfin
      clear hfin
      refine bodyPost_ret (v := .agg #[.int .i64 5, .int .i64 F, .int .i64 D, .int .u64 T, .int .u64 xi, .int .u64 xl, .int .u64 xc, .int .u64 xr, .bool false, .bool false, .slice eo el.length ec, .int .u64 0, .int .u64 0, .slice none 0 0, .slice none 0 0]) (by simp [results, Try.results79, go_sem, u0, u1, u2, u3, u4, u5, u6, u7, u8, u9, u10, u11, u12, u13, u14]) rfl ?_
      rw [hfin2]
      exact ⟨⟨5, F, D, T, xi, xl, xc, xr, false, false, eo, ec, el, 0, 0, none, 0, [], none, 0, []⟩, rfl, rfl, ⟨hm.ens.grown hgS (elem?_of kr) (by decide) (by decide), hm.mem.grown hgS (elem?_of kr) (by decide), hm.dat.grown hgS (elem?_of kr) (by decide)⟩, hr.grown hgS (fun k e => by cases e; exact ⟨hrz, hrp⟩), KpF.new kk hgS hrw⟩
theorem fields_any (K F D T : Int) {W0 W : World} {p : Nat} {s0 : St} (hr : RdS 78 W0 W p s0) (hl : s0.1.length ≤ 70000000000000) :
    Calls Try.prog 79 #[.pointer (some ⟨p, 0, none⟩), .agg #[.int .i64 K, .int .i64 F, .int .i64 D, .int .u64 T, .int .u64 0, .int .u64 0, .int .u64 0, .int .u64 0, .bool false, .bool false, .slice none 0 0, .int .u64 0, .int .u64 0, .slice none 0 0, .slice none 0 0]] W (FldTold 78 W0 p (gFields (mI K F D T) s0) W) := by
  by_cases n1 : K = 1
  · subst n1; exact fields_1 F D T hr hl
  by_cases n2 : K = 2
  · subst n2; exact fields_2 F D T hr hl
  by_cases n3 : K = 3
  · subst n3; exact fields_3 F D T hr hl
  by_cases n4 : K = 4
  · subst n4; exact fields_4 F D T hr hl
  by_cases n5 : K = 5
  · subst n5; exact fields_5 F D T hr hl
  by_cases n6 : K = 6
  · subst n6; exact fields_6 F D T hr hl
  by_cases n7 : K = 7
  · subst n7; exact fields_7 F D T hr hl
  exact fields_o K F D T hr hl n1 n2 n3 n4 n5 n6 n7
end Go.Proofs.Ytlphpjgiaflfkaa
