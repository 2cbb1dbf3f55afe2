/- Lemmas for WireReads (Nla). No statement of the seat is proved here. -/
import Derived.Test.YtlphpjgiaflfkaaWv23
import Derived.Test.YtlphpjgiaflfkaaWv28
namespace Go.Proofs.Ytlphpjgiaflfkaa
set_option linter.unusedVariables false
set_option linter.unusedSimpArgs false
set_option linter.unusedSectionVars false
open Go Go.RowKit Go.Shelf
set_option maxRecDepth 100000 in
set_option maxHeartbeats 16000000 in
theorem refMsgRead_true (ao : Option Addr) (cap : Nat) (l : List UInt8) (w : World) (hb : Bs w ao cap l) (hl : l.length ≤ 70000000000000) (hwhole : wholeF 5 l) (hres : (wireR 6 l).2 = true) :
    Calls Try.prog 38 #[.slice ao l.length cap] w (MsgTold (wireR 6 l) w) := by
  obtain ⟨R, hR⟩ : ∃ R, R = wireR 6 l := ⟨_, rfl⟩
  rw [← hR] at hres ⊢
  have Hres := Lib.hid hres
  have HR := Lib.hid hR
  clear hR hres
  obtain ⟨W1, hW1⟩ : ∃ W1, W1 = w.alloc (.cells #[.int .i64 0, .int .i64 0, .int .i64 0, .int .u64 0, .int .u64 0, .int .u64 0, .int .u64 0, .int .u64 0, .bool false, .bool false, .slice none 0 0, .int .u64 0, .int .u64 0, .slice none 0 0, .slice none 0 0] 52) := ⟨_, rfl⟩
  have hB1 : Below w.heap.size w W1 := by rw [hW1]; exact below_new _ _
  have k1 : W1.heap[w.heap.size]? = some (.cells #[.int .i64 0, .int .i64 0, .int .i64 0, .int .u64 0, .int .u64 0, .int .u64 0, .int .u64 0, .int .u64 0, .bool false, .bool false, .slice none 0 0, .int .u64 0, .int .u64 0, .slice none 0 0, .slice none 0 0] 52 (0, 0)) := by rw [hW1]; exact heap_alloc_new _ _
  have Hwh := Lib.hid (refTake_any ao cap l W1 hl (hb.below hB1))
  go_enter Try.func38, Try.ntmps38
  go_upto_region 1 with fail
  rw [← hW1]
  clear hW1
  go_wp2_with fail
  refine Hwh.out.mono ?_
  rintro e W2 ⟨ab, cb, rfl, hbody, hB2⟩
  have k2 := (hB2.block _ (Array.getElem?_eq_some_iff.1 k1).1).trans k1
  have z2 := (Array.getElem?_eq_some_iff.1 k2).1
  have hBw2 := below_on hB1 hB2 (Nat.le_refl _)
  clear k1 Hwh
  obtain ⟨⟨h1, h2⟩, h3⟩ := id hwhole
  obtain ⟨body, hbd⟩ : ∃ body, body = (Fr.take l).body := ⟨_, rfl⟩
  have HR2 : Hid (R = if doneR (gMsg 6 (body, false)).2 = true ∧ soundM (gMsg 6 (body, false)).1 = true then ((gMsg 6 (body, false)).1, true) else (ms0, false)) := by
    show _ = _
    rw [HR.out]; unfold wireR; rw [if_pos hwhole, hbd]
  have hl0 : body.length ≤ 70000000000000 := by
    have := (wrapped_of 5 l hwhole).2; rw [hbd]; omega
  rw [h1, h3, h2]
  rw [← hbd] at hbody ⊢
  rw [show (((5 : UInt8).toNat : Nat) : Int) = 5 from rfl]
  clear HR h1 h2 h3 hbd hwhole
  have hr3 : RdS 78 W2 (W2.alloc (.cells #[.slice ab body.length cb, .bool false] 78)) W2.heap.size (body, false) := rds_box hbody
  obtain ⟨W3, hW3⟩ : ∃ W3, W3 = W2.alloc (.cells #[.slice ab body.length cb, .bool false] 78) := ⟨_, rfl⟩
  rw [← hW3] at hr3
  obtain ⟨p, hp⟩ : ∃ p, p = W2.heap.size := ⟨_, rfl⟩
  rw [← hp] at hr3
  obtain ⟨q, hq⟩ : ∃ q, q = W3.heap.size := ⟨_, rfl⟩
  obtain ⟨W4, hW4⟩ : ∃ W4, W4 = W3.alloc (.cells #[.int .i64 0, .int .i64 0, .int .i64 0, .int .u64 0, .int .u64 0, .int .u64 0, .int .u64 0, .int .u64 0, .bool false, .bool false, .slice none 0 0, .int .u64 0, .int .u64 0, .slice none 0 0, .slice none 0 0] 52) := ⟨_, rfl⟩
  have hB4 : Below W3.heap.size W3 W4 := by rw [hW4]; exact below_new _ _
  have kq : W4.heap[q]? = some (.cells #[.int .i64 0, .int .i64 0, .int .i64 0, .int .u64 0, .int .u64 0, .int .u64 0, .int .u64 0, .int .u64 0, .bool false, .bool false, .slice none 0 0, .int .u64 0, .int .u64 0, .slice none 0 0, .slice none 0 0] 52 (0, 0)) := by rw [hW4, hq]; exact heap_alloc_new _ _
  have hm : MsgA 52 W2 W4 q ⟨0, 0, 0, 0, 0, 0, 0, 0, false, false, none, 0, [], 0, 0, none, 0, [], none, 0, []⟩ := ⟨kq, EnsO.nil _ _, IzT.nil _, ⟨Bs.nil _, fun b off s e => by cases e⟩⟩
  have hr := hr3.below hB4
  have hqz : W2.heap.size ≤ q := by rw [hq]; exact hr3.bel.size
  have hqp : q ≠ p := by have := hr3.lt; omega
  have hwz : w.heap.size < W2.heap.size := z2
  obtain ⟨s0, hs0⟩ : ∃ s, s = (body, false) := ⟨_, rfl⟩
  have hl0' : s0.1.length ≤ 70000000000000 := by rw [hs0]; exact hl0
  rw [← hs0] at HR2 hr
  have hqp1 : q = p + 1 := by rw [hq, hW3, World.size_alloc, hp]
  have Hqp1 := Lib.hid hqp1
  clear hqp1
  go_upto_region 6 with fail
  rw [← hp]
  rw [← hW3, ← hW4, ← Hqp1.out]
  clear hW3 hW4 hp hq hs0 hr3 hB4 kq hbody hl0 Hqp1
  obtain ⟨⟨xk, s5⟩, hs5⟩ : ∃ r, r = gN 8 s0 := ⟨_, rfl⟩
  have hb5 : xk ≤ 8 := by have := gN_le 8 s0; rw [← hs5] at this; exact this
  have hl5 : s5.1.length ≤ 70000000000000 := by have := gN_len 8 s0; rw [← hs5] at this; simp only at this; omega
  have hc := rds_refNum 8 (by decide) hr
  rw [← hs5] at hc
  have Hc5 := Lib.hid hc
  have Hs5 := Lib.hid hs5
  clear hc hs5
  have w5 : IntKind.i64.wrap (xk : Int) = (xk : Int) := IntWalk.i64_in _ (by omega)
  go_wp2_with fail
  refine Hc5.out.mono ?_
  rintro e W5 ⟨rfl, hr5, hg5⟩
  simp only at hr5 ⊢
  have hm5 := hm.grown hg5 hr.elem (by decide) (by decide) (by decide) (by decide)
  clear hm hr hg5 Hc5
  have c0 : W5.cell? ⟨q, 0, none⟩ = some (.int .i64 0) := block_cell hm5.blk 0
  have f0 : W5.frozen? ⟨q, 0, none⟩ = false := block_free hm5.blk 0
  have hm6 := hm5.put (by decide) (by decide) (by decide) 0 (.int .i64 xk) ⟨xk, 0, 0, 0, 0, 0, 0, 0, false, false, none, 0, [], 0, 0, none, 0, [], none, 0, []⟩ rfl rfl
  have hr6 := hr5.store (i := 0) hqz hqp (.int .i64 xk)
  clear hm5 hr5
  go_upto_region 7 with fail
  obtain ⟨W6, hW6⟩ : ∃ W6, W6 = W5.setCell ⟨q, 0, none⟩ (.int .i64 xk) := ⟨_, rfl⟩
  rw [← hW6] at hm6 hr6 ⊢
  clear hW6
  clear c0 f0
  obtain ⟨⟨xf, s7⟩, hs7⟩ : ∃ r, r = gN 6 s5 := ⟨_, rfl⟩
  have hb7 : xf ≤ 6 := by have := gN_le 6 s5; rw [← hs7] at this; exact this
  have hl7 : s7.1.length ≤ 70000000000000 := by have := gN_len 6 s5; rw [← hs7] at this; simp only at this; omega
  have hc := rds_refNum 6 (by decide) hr6
  rw [← hs7] at hc
  have Hc7 := Lib.hid hc
  have Hs7 := Lib.hid hs7
  clear hc hs7
  have w7 : IntKind.i64.wrap (xf : Int) = (xf : Int) := IntWalk.i64_in _ (by omega)
  go_wp2_with fail
  refine Hc7.out.mono ?_
  rintro e W7 ⟨rfl, hr7, hg7⟩
  simp only at hr7 ⊢
  have hm7 := hm6.grown hg7 hr6.elem (by decide) (by decide) (by decide) (by decide)
  clear hm6 hr6 hg7 Hc7
  have c1 : W7.cell? ⟨q, 1, none⟩ = some (.int .i64 0) := block_cell hm7.blk 1
  have f1 : W7.frozen? ⟨q, 1, none⟩ = false := block_free hm7.blk 1
  have hm8 := hm7.put (by decide) (by decide) (by decide) 1 (.int .i64 xf) ⟨xk, xf, 0, 0, 0, 0, 0, 0, false, false, none, 0, [], 0, 0, none, 0, [], none, 0, []⟩ rfl rfl
  have hr8 := hr7.store (i := 1) hqz hqp (.int .i64 xf)
  clear hm7 hr7
  go_upto_region 8 with fail
  obtain ⟨W8, hW8⟩ : ∃ W8, W8 = W7.setCell ⟨q, 1, none⟩ (.int .i64 xf) := ⟨_, rfl⟩
  rw [← hW8] at hm8 hr8 ⊢
  clear hW8
  clear c1 f1
  obtain ⟨⟨xd, s9⟩, hs9⟩ : ∃ r, r = gN 6 s7 := ⟨_, rfl⟩
  have hb9 : xd ≤ 6 := by have := gN_le 6 s7; rw [← hs9] at this; exact this
  have hl9 : s9.1.length ≤ 70000000000000 := by have := gN_len 6 s7; rw [← hs9] at this; simp only at this; omega
  have hc := rds_refNum 6 (by decide) hr8
  rw [← hs9] at hc
  have Hc9 := Lib.hid hc
  have Hs9 := Lib.hid hs9
  clear hc hs9
  have w9 : IntKind.i64.wrap (xd : Int) = (xd : Int) := IntWalk.i64_in _ (by omega)
  go_wp2_with fail
  refine Hc9.out.mono ?_
  rintro e W9 ⟨rfl, hr9, hg9⟩
  simp only at hr9 ⊢
  have hm9 := hm8.grown hg9 hr8.elem (by decide) (by decide) (by decide) (by decide)
  clear hm8 hr8 hg9 Hc9
  have c2 : W9.cell? ⟨q, 2, none⟩ = some (.int .i64 0) := block_cell hm9.blk 2
  have f2 : W9.frozen? ⟨q, 2, none⟩ = false := block_free hm9.blk 2
  have hm10 := hm9.put (by decide) (by decide) (by decide) 2 (.int .i64 xd) ⟨xk, xf, xd, 0, 0, 0, 0, 0, false, false, none, 0, [], 0, 0, none, 0, [], none, 0, []⟩ rfl rfl
  have hr10 := hr9.store (i := 2) hqz hqp (.int .i64 xd)
  clear hm9 hr9
  go_upto_region 9 with fail
  obtain ⟨W10, hW10⟩ : ∃ W10, W10 = W9.setCell ⟨q, 2, none⟩ (.int .i64 xd) := ⟨_, rfl⟩
  rw [← hW10] at hm10 hr10 ⊢
  clear hW10
  clear c2 f2
  obtain ⟨⟨xt, s11⟩, hs11⟩ : ∃ r, r = gN 1152921504606846976 s9 := ⟨_, rfl⟩
  have hb11 : xt ≤ 1152921504606846976 := by have := gN_le 1152921504606846976 s9; rw [← hs11] at this; exact this
  have hl11 : s11.1.length ≤ 70000000000000 := by have := gN_len 1152921504606846976 s9; rw [← hs11] at this; simp only at this; omega
  have hc := rds_refNum 1152921504606846976 (by decide) hr10
  rw [← hs11] at hc
  have Hc11 := Lib.hid hc
  have Hs11 := Lib.hid hs11
  clear hc hs11
  go_wp2_with fail
  refine Hc11.out.mono ?_
  rintro e W11 ⟨rfl, hr11, hg11⟩
  simp only at hr11 ⊢
  have hm11 := hm10.grown hg11 hr10.elem (by decide) (by decide) (by decide) (by decide)
  clear hm10 hr10 hg11 Hc11
  have c3 : W11.cell? ⟨q, 3, none⟩ = some (.int .u64 0) := block_cell hm11.blk 3
  have f3 : W11.frozen? ⟨q, 3, none⟩ = false := block_free hm11.blk 3
  have hm12 := hm11.put (by decide) (by decide) (by decide) 3 (.int .u64 xt) ⟨xk, xf, xd, xt, 0, 0, 0, 0, false, false, none, 0, [], 0, 0, none, 0, [], none, 0, []⟩ rfl rfl
  have hr12 := hr11.store (i := 3) hqz hqp (.int .u64 xt)
  clear hm11 hr11
  go_upto_region 10 with fail
  obtain ⟨W12, hW12⟩ : ∃ W12, W12 = W11.setCell ⟨q, 3, none⟩ (.int .u64 xt) := ⟨_, rfl⟩
  rw [← hW12] at hm12 hr12 ⊢
  clear hW12
  clear c3 f3
  have hG : gMsg 6 s0 = gFields (mI (xk : Int) (xf : Int) (xd : Int) (xt : Int)) s11 := by
    unfold gMsg
    simp only [← Hs5.out, ← Hs7.out, ← Hs9.out, ← Hs11.out]
    rfl
  rw [hG] at HR2
  clear hG Hs5 Hs7 Hs9 Hs11
  obtain ⟨sml1, sml2, sml3⟩ := gFields_small (xk : Int) (xf : Int) (xd : Int) (xt : Int) s11
  have hfl := fields_any (xk : Int) (xf : Int) (xd : Int) (xt : Int) hr12 (by omega)
  obtain ⟨G, hG⟩ : ∃ G, G = gFields (mI (xk : Int) (xf : Int) (xd : Int) (xt : Int)) s11 := ⟨_, rfl⟩
  rw [← hG] at hfl HR2 sml1 sml2 sml3
  have Hfl := Lib.hid hfl
  clear hfl hG
  have p0 : W12.cell? ⟨q, 0, none⟩ = some (.int .i64 xk) := block_cell hm12.blk 0
  have p1 : W12.cell? ⟨q, 1, none⟩ = some (.int .i64 xf) := block_cell hm12.blk 1
  have p2 : W12.cell? ⟨q, 2, none⟩ = some (.int .i64 xd) := block_cell hm12.blk 2
  have p3 : W12.cell? ⟨q, 3, none⟩ = some (.int .u64 xt) := block_cell hm12.blk 3
  have p4 : W12.cell? ⟨q, 4, none⟩ = some (.int .u64 0) := block_cell hm12.blk 4
  have p5 : W12.cell? ⟨q, 5, none⟩ = some (.int .u64 0) := block_cell hm12.blk 5
  have p6 : W12.cell? ⟨q, 6, none⟩ = some (.int .u64 0) := block_cell hm12.blk 6
  have p7 : W12.cell? ⟨q, 7, none⟩ = some (.int .u64 0) := block_cell hm12.blk 7
  have p8 : W12.cell? ⟨q, 8, none⟩ = some (.bool false) := block_cell hm12.blk 8
  have p9 : W12.cell? ⟨q, 9, none⟩ = some (.bool false) := block_cell hm12.blk 9
  have p10 : W12.cell? ⟨q, 10, none⟩ = some (.slice none 0 0) := block_cell hm12.blk 10
  have p11 : W12.cell? ⟨q, 11, none⟩ = some (.int .u64 0) := block_cell hm12.blk 11
  have p12 : W12.cell? ⟨q, 12, none⟩ = some (.int .u64 0) := block_cell hm12.blk 12
  have p13 : W12.cell? ⟨q, 13, none⟩ = some (.slice none 0 0) := block_cell hm12.blk 13
  have p14 : W12.cell? ⟨q, 14, none⟩ = some (.slice none 0 0) := block_cell hm12.blk 14
  go_wp2_with fail
  refine Hfl.out.mono ?_
  rintro e V1 ⟨x, rfl, hxv, ⟨hen, hmem, hdat⟩, hr1, hk1⟩
  have kq1 := (hk1 q hm12.lt hqp).trans hm12.blk
  clear p0 p1 p2 p3 p4 p5 p6 p7 p8 p9 p10 p11 p12 p13 p14 Hfl hk1 hm12 hr12
  obtain ⟨s5, hs5⟩ : ∃ s5, s5 = G.2 := ⟨_, rfl⟩
  rw [← hs5] at HR2 hr1
  rw [← hxv] at HR2 sml1 sml2 sml3
  clear hs5 hxv
  have hel8 : x.el.length ≤ 8 := by simpa [Mp.v] using sml1
  have hml7 : x.ml.length ≤ 7 := sml2
  have hix : 0 ≤ x.index := sml3
  clear sml1 sml2 sml3
  obtain ⟨sv, hsv⟩ : ∃ sv, sv = soundM x.v := ⟨_, rfl⟩
  obtain ⟨dn, hdn⟩ : ∃ dn, dn = doneR s5 := ⟨_, rfl⟩
  have hR4 : R = if (dn && sv) = true then (x.v, true) else (ms0, false) := by rw [HR2.out, hdn, hsv]; simp
  have HR4 := Lib.hid hR4
  have Hso := Lib.hid (fun W hW => refMsgSound_any x W hW (by omega) (by omega) hix)
  rw [← hsv] at Hso
  have Hsv := Lib.hid hsv
  clear HR2 hR4 hsv
  have hb2 : (dn && sv) = true := by
    have h1 := Hres.out
    rw [HR4.out] at h1
    cases h : (dn && sv) with
    | true => rfl
    | false => rw [h] at h1; simp at h1
  clear Hres
  obtain ⟨kind1, frm1, dst1, term1, index1, logTerm1, commit1, round1, ok1, force1, eo1, ec1, el1, si1, st1, mo1, mc1, ml1, ao1, ac1, d1⟩ := x
  dsimp only [mpA] at Hso HR4 hen hmem hdat hel8 hml7 hix ⊢
  have c0 : V1.cell? ⟨q, 0, none⟩ = some (.int .i64 xk) := block_cell kq1 0
  have f0 := block_free kq1 0
  have c1 : V1.cell? ⟨q, 1, none⟩ = some (.int .i64 xf) := block_cell kq1 1
  have f1 := block_free kq1 1
  have c2 : V1.cell? ⟨q, 2, none⟩ = some (.int .i64 xd) := block_cell kq1 2
  have f2 := block_free kq1 2
  have c3 : V1.cell? ⟨q, 3, none⟩ = some (.int .u64 xt) := block_cell kq1 3
  have f3 := block_free kq1 3
  have c4 : V1.cell? ⟨q, 4, none⟩ = some (.int .u64 0) := block_cell kq1 4
  have f4 := block_free kq1 4
  have c5 : V1.cell? ⟨q, 5, none⟩ = some (.int .u64 0) := block_cell kq1 5
  have f5 := block_free kq1 5
  have c6 : V1.cell? ⟨q, 6, none⟩ = some (.int .u64 0) := block_cell kq1 6
  have f6 := block_free kq1 6
  have c7 : V1.cell? ⟨q, 7, none⟩ = some (.int .u64 0) := block_cell kq1 7
  have f7 := block_free kq1 7
  have c8 : V1.cell? ⟨q, 8, none⟩ = some (.bool false) := block_cell kq1 8
  have f8 := block_free kq1 8
  have c9 : V1.cell? ⟨q, 9, none⟩ = some (.bool false) := block_cell kq1 9
  have f9 := block_free kq1 9
  have c10 : V1.cell? ⟨q, 10, none⟩ = some (.slice none 0 0) := block_cell kq1 10
  have f10 := block_free kq1 10
  have c11 : V1.cell? ⟨q, 11, none⟩ = some (.int .u64 0) := block_cell kq1 11
  have f11 := block_free kq1 11
  have c12 : V1.cell? ⟨q, 12, none⟩ = some (.int .u64 0) := block_cell kq1 12
  have f12 := block_free kq1 12
  have c13 : V1.cell? ⟨q, 13, none⟩ = some (.slice none 0 0) := block_cell kq1 13
  have f13 := block_free kq1 13
  have c14 : V1.cell? ⟨q, 14, none⟩ = some (.slice none 0 0) := block_cell kq1 14
  have f14 := block_free kq1 14
  have zq := (Array.getElem?_eq_some_iff.1 kq1).1
  obtain ⟨kS, hgS⟩ := set15 kq1 (.int .i64 kind1) (.int .i64 frm1) (.int .i64 dst1) (.int .u64 term1) (.int .u64 index1) (.int .u64 logTerm1) (.int .u64 commit1) (.int .u64 round1) (.bool ok1) (.bool force1) (.slice eo1 el1.length ec1) (.int .u64 si1) (.int .u64 st1) (.slice mo1 ml1.length mc1) (.slice ao1 d1.length ac1)
  obtain ⟨V2, hV2⟩ : ∃ Y, Y = (((((((((((((((V1.setCell ⟨q, 0, none⟩ (.int .i64 kind1)).setCell ⟨q, 1, none⟩ (.int .i64 frm1)).setCell ⟨q, 2, none⟩ (.int .i64 dst1)).setCell ⟨q, 3, none⟩ (.int .u64 term1)).setCell ⟨q, 4, none⟩ (.int .u64 index1)).setCell ⟨q, 5, none⟩ (.int .u64 logTerm1)).setCell ⟨q, 6, none⟩ (.int .u64 commit1)).setCell ⟨q, 7, none⟩ (.int .u64 round1)).setCell ⟨q, 8, none⟩ (.bool ok1)).setCell ⟨q, 9, none⟩ (.bool force1)).setCell ⟨q, 10, none⟩ (.slice eo1 el1.length ec1)).setCell ⟨q, 11, none⟩ (.int .u64 si1)).setCell ⟨q, 12, none⟩ (.int .u64 st1)).setCell ⟨q, 13, none⟩ (.slice mo1 ml1.length mc1)).setCell ⟨q, 14, none⟩ (.slice ao1 d1.length ac1)) := ⟨_, rfl⟩
  rw [← hV2] at kS hgS
  have hen2 := hen.grown hgS (elem?_of kq1) (by decide) (by decide)
  have hmem2 := hmem.grown hgS (elem?_of kq1) (by decide)
  have hdat2 := hdat.grown hgS (elem?_of kq1) (by decide)
  have hr2 := hr1.grown hgS (fun k e => by cases e; exact ⟨hqz, hqp⟩)
  go_upto_region 11 with fail
  rw [← hV2]
  clear hV2 hgS kq1 hen hmem hdat hr1 zq c0 f0 c1 f1 c2 f2 c3 f3 c4 f4 c5 f5 c6 f6 c7 f7 c8 f8 c9 f9 c10 f10 c11 f11 c12 f12 c13 f13 c14 f14
  have p0 : V2.cell? ⟨q, 0, none⟩ = some (.int .i64 kind1) := block_cell kS 0
  have p1 : V2.cell? ⟨q, 1, none⟩ = some (.int .i64 frm1) := block_cell kS 1
  have p2 : V2.cell? ⟨q, 2, none⟩ = some (.int .i64 dst1) := block_cell kS 2
  have p3 : V2.cell? ⟨q, 3, none⟩ = some (.int .u64 term1) := block_cell kS 3
  have p4 : V2.cell? ⟨q, 4, none⟩ = some (.int .u64 index1) := block_cell kS 4
  have p5 : V2.cell? ⟨q, 5, none⟩ = some (.int .u64 logTerm1) := block_cell kS 5
  have p6 : V2.cell? ⟨q, 6, none⟩ = some (.int .u64 commit1) := block_cell kS 6
  have p7 : V2.cell? ⟨q, 7, none⟩ = some (.int .u64 round1) := block_cell kS 7
  have p8 : V2.cell? ⟨q, 8, none⟩ = some (.bool ok1) := block_cell kS 8
  have p9 : V2.cell? ⟨q, 9, none⟩ = some (.bool force1) := block_cell kS 9
  have p10 : V2.cell? ⟨q, 10, none⟩ = some (.slice eo1 el1.length ec1) := block_cell kS 10
  have p11 : V2.cell? ⟨q, 11, none⟩ = some (.int .u64 si1) := block_cell kS 11
  have p12 : V2.cell? ⟨q, 12, none⟩ = some (.int .u64 st1) := block_cell kS 12
  have p13 : V2.cell? ⟨q, 13, none⟩ = some (.slice mo1 ml1.length mc1) := block_cell kS 13
  have p14 : V2.cell? ⟨q, 14, none⟩ = some (.slice ao1 d1.length ac1) := block_cell kS 14
  have hen := rds_refEnd hr2
  rw [← hdn] at hen
  have Hso2 := Lib.hid (Hso.out V2 ⟨hen2.ens, hmem2.1, hdat2.1⟩)
  have Hdn := Lib.hid hdn
  clear Hso hdn
  obtain ⟨hb3, hb4⟩ := Bool.and_eq_true_iff.1 hb2
  subst hb3
  subst hb4
  simp only [if_true] at hen
  have Hen := Lib.hid hen
  have hyes := HR4.out
  simp at hyes
  have HyesR := Lib.hid hyes
  clear hen hb2 HR4 hyes
  go_cut [58] (fun v wx => v = .bool false ∧ Below V2.heap.size V2 wx)
  case first =>
    go_wp2_with fail
    refine Hen.out.mono ?_
    rintro e V3 ⟨rfl, rfl⟩
    go_wp2_with fail
    refine Hso2.out.mono ?_
    rintro e V4 ⟨rfl, hB3⟩
    go_wp2_with fail
    go_meet
    exact ⟨rfl, hB3⟩
  case rest =>
    obtain ⟨rfl, hB3⟩ := hcut
    clear Hso2 p0 p1 p2 p3 p4 p5 p6 p7 p8 p9 p10 p11 p12 p13 p14
    have hbel := below_on hr2.bel hB3 (Nat.le_refl _)
    have hk3 := (hB3.block _ (Array.getElem?_eq_some_iff.1 kS).1).trans kS
    clear kS
    have p0 : wc.cell? ⟨q, 0, none⟩ = some (.int .i64 kind1) := block_cell hk3 0
    have p1 : wc.cell? ⟨q, 1, none⟩ = some (.int .i64 frm1) := block_cell hk3 1
    have p2 : wc.cell? ⟨q, 2, none⟩ = some (.int .i64 dst1) := block_cell hk3 2
    have p3 : wc.cell? ⟨q, 3, none⟩ = some (.int .u64 term1) := block_cell hk3 3
    have p4 : wc.cell? ⟨q, 4, none⟩ = some (.int .u64 index1) := block_cell hk3 4
    have p5 : wc.cell? ⟨q, 5, none⟩ = some (.int .u64 logTerm1) := block_cell hk3 5
    have p6 : wc.cell? ⟨q, 6, none⟩ = some (.int .u64 commit1) := block_cell hk3 6
    have p7 : wc.cell? ⟨q, 7, none⟩ = some (.int .u64 round1) := block_cell hk3 7
    have p8 : wc.cell? ⟨q, 8, none⟩ = some (.bool ok1) := block_cell hk3 8
    have p9 : wc.cell? ⟨q, 9, none⟩ = some (.bool force1) := block_cell hk3 9
    have p10 : wc.cell? ⟨q, 10, none⟩ = some (.slice eo1 el1.length ec1) := block_cell hk3 10
    have p11 : wc.cell? ⟨q, 11, none⟩ = some (.int .u64 si1) := block_cell hk3 11
    have p12 : wc.cell? ⟨q, 12, none⟩ = some (.int .u64 st1) := block_cell hk3 12
    have p13 : wc.cell? ⟨q, 13, none⟩ = some (.slice mo1 ml1.length mc1) := block_cell hk3 13
    have p14 : wc.cell? ⟨q, 14, none⟩ = some (.slice ao1 d1.length ac1) := block_cell hk3 14
    have kR := (hbel.block _ z2).trans k2
    have cR0 : wc.cell? ⟨w.heap.size, 0, none⟩ = some (.int .i64 0) := block_cell kR 0
    have zR0 := block_free kR 0
    have cR1 : wc.cell? ⟨w.heap.size, 1, none⟩ = some (.int .i64 0) := block_cell kR 1
    have zR1 := block_free kR 1
    have cR2 : wc.cell? ⟨w.heap.size, 2, none⟩ = some (.int .i64 0) := block_cell kR 2
    have zR2 := block_free kR 2
    have cR3 : wc.cell? ⟨w.heap.size, 3, none⟩ = some (.int .u64 0) := block_cell kR 3
    have zR3 := block_free kR 3
    have cR4 : wc.cell? ⟨w.heap.size, 4, none⟩ = some (.int .u64 0) := block_cell kR 4
    have zR4 := block_free kR 4
    have cR5 : wc.cell? ⟨w.heap.size, 5, none⟩ = some (.int .u64 0) := block_cell kR 5
    have zR5 := block_free kR 5
    have cR6 : wc.cell? ⟨w.heap.size, 6, none⟩ = some (.int .u64 0) := block_cell kR 6
    have zR6 := block_free kR 6
    have cR7 : wc.cell? ⟨w.heap.size, 7, none⟩ = some (.int .u64 0) := block_cell kR 7
    have zR7 := block_free kR 7
    have cR8 : wc.cell? ⟨w.heap.size, 8, none⟩ = some (.bool false) := block_cell kR 8
    have zR8 := block_free kR 8
    have cR9 : wc.cell? ⟨w.heap.size, 9, none⟩ = some (.bool false) := block_cell kR 9
    have zR9 := block_free kR 9
    have cR10 : wc.cell? ⟨w.heap.size, 10, none⟩ = some (.slice none 0 0) := block_cell kR 10
    have zR10 := block_free kR 10
    have cR11 : wc.cell? ⟨w.heap.size, 11, none⟩ = some (.int .u64 0) := block_cell kR 11
    have zR11 := block_free kR 11
    have cR12 : wc.cell? ⟨w.heap.size, 12, none⟩ = some (.int .u64 0) := block_cell kR 12
    have zR12 := block_free kR 12
    have cR13 : wc.cell? ⟨w.heap.size, 13, none⟩ = some (.slice none 0 0) := block_cell kR 13
    have zR13 := block_free kR 13
    have cR14 : wc.cell? ⟨w.heap.size, 14, none⟩ = some (.slice none 0 0) := block_cell kR 14
    have zR14 := block_free kR 14
    have zR := (Array.getElem?_eq_some_iff.1 kR).1
    obtain ⟨kS, hgS⟩ := set15 kR (.int .i64 kind1) (.int .i64 frm1) (.int .i64 dst1) (.int .u64 term1) (.int .u64 index1) (.int .u64 logTerm1) (.int .u64 commit1) (.int .u64 round1) (.bool ok1) (.bool force1) (.slice eo1 el1.length ec1) (.int .u64 si1) (.int .u64 st1) (.slice mo1 ml1.length mc1) (.slice ao1 d1.length ac1)
    obtain ⟨Y, hY⟩ : ∃ Y, Y = (((((((((((((((wc.setCell ⟨w.heap.size, 0, none⟩ (.int .i64 kind1)).setCell ⟨w.heap.size, 1, none⟩ (.int .i64 frm1)).setCell ⟨w.heap.size, 2, none⟩ (.int .i64 dst1)).setCell ⟨w.heap.size, 3, none⟩ (.int .u64 term1)).setCell ⟨w.heap.size, 4, none⟩ (.int .u64 index1)).setCell ⟨w.heap.size, 5, none⟩ (.int .u64 logTerm1)).setCell ⟨w.heap.size, 6, none⟩ (.int .u64 commit1)).setCell ⟨w.heap.size, 7, none⟩ (.int .u64 round1)).setCell ⟨w.heap.size, 8, none⟩ (.bool ok1)).setCell ⟨w.heap.size, 9, none⟩ (.bool force1)).setCell ⟨w.heap.size, 10, none⟩ (.slice eo1 el1.length ec1)).setCell ⟨w.heap.size, 11, none⟩ (.int .u64 si1)).setCell ⟨w.heap.size, 12, none⟩ (.int .u64 st1)).setCell ⟨w.heap.size, 13, none⟩ (.slice mo1 ml1.length mc1)).setCell ⟨w.heap.size, 14, none⟩ (.slice ao1 d1.length ac1)) := ⟨_, rfl⟩
    rw [← hY] at kS hgS
    have u0 := block_cell kS 0
    have u1 := block_cell kS 1
    have u2 := block_cell kS 2
    have u3 := block_cell kS 3
    have u4 := block_cell kS 4
    have u5 := block_cell kS 5
    have u6 := block_cell kS 6
    have u7 := block_cell kS 7
    have u8 := block_cell kS 8
    have u9 := block_cell kS 9
    have u10 := block_cell kS 10
    have u11 := block_cell kS 11
    have u12 := block_cell kS 12
    have u13 := block_cell kS 13
    have u14 := block_cell kS 14
    simp at u0 u1 u2 u3 u4 u5 u6 u7 u8 u9 u10 u11 u12 u13 u14
    go_wp2_with fail
    rw [← hY]
    have hBy := grown_row (below_on hBw2 hbel (Nat.le_refl _)) hgS (Nat.le_refl _) (by omega)
    refine bodyPost_ret (v := .tuple #[.agg #[.int .i64 kind1, .int .i64 frm1, .int .i64 dst1, .int .u64 term1, .int .u64 index1, .int .u64 logTerm1, .int .u64 commit1, .int .u64 round1, .bool ok1, .bool force1, .slice eo1 el1.length ec1, .int .u64 si1, .int .u64 st1, .slice mo1 ml1.length mc1, .slice ao1 d1.length ac1], .bool true]) (by simp [results, Try.results38, go_sem, u0, u1, u2, u3, u4, u5, u6, u7, u8, u9, u10, u11, u12, u13, u14]) rfl ?_
    rw [HyesR.out]
    have he3 := (hen2.below hB3).grown hgS (elem?_of kR) (by decide) (by decide)
    have hi3 := (hmem2.below hB3).grown hgS (elem?_of kR) (by decide)
    have hd3 := (hdat2.below hB3).grown hgS (elem?_of kR) (by decide)
    exact ⟨⟨kind1, frm1, dst1, term1, index1, logTerm1, commit1, round1, ok1, force1, eo1, ec1, el1, si1, st1, mo1, mc1, ml1, ao1, ac1, d1⟩, rfl, rfl, ⟨he3.ens, hi3.1, hd3.1⟩, hBy⟩
end Go.Proofs.Ytlphpjgiaflfkaa
