/- Lemmas for WireReads (Nk). No statement of the seat is proved here. -/
import Derived.Test.YtlphpjgiaflfkaaWv21
namespace Go.Proofs.Ytlphpjgiaflfkaa
set_option linter.unusedVariables false
set_option linter.unusedSimpArgs false
set_option linter.unusedSectionVars false
open Go Go.RowKit Go.Shelf
/-- what the reference's fields tells: the message is a value -/
def FldTold (TR : TypeId) (W0 : World) (p : Nat) (r : Ms × St) (W : World) (e : Ending) (W' : World) : Prop :=
  ∃ x', e = .returned (.agg (mpA x')) ∧ x'.v = r.1 ∧ (EnsO W' W.heap.size (.slice x'.eo x'.el.length x'.ec) x'.el ∧ IzT W' x'.mo x'.mc x'.ml ∧ BsT W' x'.ao x'.ac x'.d) ∧ RdS TR W0 W' p r.2 ∧ ∀ b, b < W.heap.size → b ≠ p → W'.heap[b]? = W.heap[b]?
/-- all old blocks but the reader's are kept -/
def KpF (p : Nat) (W W' : World) : Prop := ∀ b, b < W.heap.size → b ≠ p → W'.heap[b]? = W.heap[b]?
theorem KpF.of_below {p : Nat} {W W' : World} (h : Below W.heap.size W W') : KpF p W W' := fun b hb _ => h.block b hb
theorem KpF.lt {p : Nat} {W W1 : World} (h : KpF p W W1) {b : Nat} (hb : b < W.heap.size) (hp : b ≠ p) : b < W1.heap.size := by
  have : W1.heap[b]? = some (W.heap[b]) := (h b hb hp).trans (Array.getElem?_eq_getElem hb)
  exact (Array.getElem?_eq_some_iff.1 this).1
theorem KpF.rd {p : Nat} {W W1 W2 : World} (h : KpF p W W1) (hg : W1.grownBy W2 (some p)) : KpF p W W2 := fun b hb hp => (hg.block b (h.lt hb hp) (by simp; omega)).trans (h b hb hp)
theorem KpF.new {p g : Nat} {W W1 W2 : World} (h : KpF p W W1) (hg : W1.grownBy W2 (some g)) (hgw : W.heap.size ≤ g) : KpF p W W2 := fun b hb hp => (hg.block b (h.lt hb hp) (by simp; omega)).trans (h b hb hp)
theorem KpF.below {p : Nat} {W W1 W2 : World} (h : KpF p W W1) (hb2 : Below W1.heap.size W1 W2) : KpF p W W2 := fun b hb hp => (hb2.block b (h.lt hb hp)).trans (h b hb hp)
theorem KpF.row {p : Nat} {v : Value} {W W1 W2 : World} (h : KpF p W W1) (hg : W1.grownBy W2 v.ownBlock) (hv : ∀ k, v.ownBlock = some k → W.heap.size ≤ k) : KpF p W W2 := fun b hb hp => (hg.block b (h.lt hb hp) (fun e => by have := hv b e.symm; omega)).trans (h b hb hp)
set_option maxRecDepth 100000 in
set_option maxHeartbeats 8000000 in
theorem fields_1 (F D T : Int) {W0 W : World} {p : Nat} {s0 : St} (hr : RdS 78 W0 W p s0) (hl : s0.1.length ≤ 70000000000000) :
    Calls Try.prog 79 #[.pointer (some ⟨p, 0, none⟩), .agg #[.int .i64 1, .int .i64 F, .int .i64 D, .int .u64 T, .int .u64 0, .int .u64 0, .int .u64 0, .int .u64 0, .bool false, .bool false, .slice none 0 0, .int .u64 0, .int .u64 0, .slice none 0 0, .slice none 0 0]] W (FldTold 78 W0 p (gFields (mI 1 F D T) s0) W) := by
  have hr0 := hr
  obtain ⟨q, hq⟩ : ∃ q, q = W.heap.size := ⟨_, rfl⟩
  obtain ⟨W1, hW1⟩ : ∃ W1, W1 = W.alloc (.cells #[.int .i64 1, .int .i64 F, .int .i64 D, .int .u64 T, .int .u64 0, .int .u64 0, .int .u64 0, .int .u64 0, .bool false, .bool false, .slice none 0 0, .int .u64 0, .int .u64 0, .slice none 0 0, .slice none 0 0] 52) := ⟨_, rfl⟩
  have hB1 : Below W.heap.size W W1 := by rw [hW1]; exact below_new _ _
  have e1 : W1.heap.size = W.heap.size + 1 := by rw [hW1]; exact World.size_alloc _ _
  have k1 : W1.heap[q]? = some (.cells #[.int .i64 1, .int .i64 F, .int .i64 D, .int .u64 T, .int .u64 0, .int .u64 0, .int .u64 0, .int .u64 0, .bool false, .bool false, .slice none 0 0, .int .u64 0, .int .u64 0, .slice none 0 0, .slice none 0 0] 52) := by rw [hW1, hq]; exact heap_alloc_new _ _
  obtain ⟨r, hrd⟩ : ∃ r, r = W.heap.size + 1 := ⟨_, rfl⟩
  obtain ⟨W2, hW2⟩ : ∃ W2, W2 = W1.alloc (.cells #[.int .i64 0, .int .i64 0, .int .i64 0, .int .u64 0, .int .u64 0, .int .u64 0, .int .u64 0, .int .u64 0, .bool false, .bool false, .slice none 0 0, .int .u64 0, .int .u64 0, .slice none 0 0, .slice none 0 0] 52) := ⟨_, rfl⟩
  have hB2 : Below W1.heap.size W1 W2 := by rw [hW2]; exact below_new _ _
  have kr : W2.heap[r]? = some (.cells #[.int .i64 0, .int .i64 0, .int .i64 0, .int .u64 0, .int .u64 0, .int .u64 0, .int .u64 0, .int .u64 0, .bool false, .bool false, .slice none 0 0, .int .u64 0, .int .u64 0, .slice none 0 0, .slice none 0 0] 52) := by rw [hW2, hrd, ← e1]; exact heap_alloc_new _ _
  have kq := (hB2.block q (Array.getElem?_eq_some_iff.1 k1).1).trans k1
  have hm : MsgA 52 W W2 q ⟨1, F, D, T, 0, 0, 0, 0, false, false, none, 0, [], 0, 0, none, 0, [], none, 0, []⟩ := ⟨kq, EnsO.nil _ _, IzT.nil _, ⟨Bs.nil _, fun b off s e => by cases e⟩⟩
  have hr := (hr0.below hB1).below hB2
  have hqz : W0.heap.size ≤ q := by rw [hq]; exact hr0.bel.size
  have hrz : W0.heap.size ≤ r := by rw [hrd]; have := hr0.bel.size; omega
  have hqp : q ≠ p := by have := hr0.lt; omega
  have hrp : r ≠ p := by have := hr0.lt; omega
  have hqr : q ≠ r := by omega
  have hqw : W.heap.size ≤ q := by omega
  have hrw : W.heap.size ≤ r := by omega
  have kk : KpF p W W2 := KpF.of_below (below_on hB1 hB2 (Nat.le_refl _))
  have hwz0 : W0.heap.size ≤ W.heap.size := hr0.bel.size
  have hqq : q = W.heap.size := hq
  go_enter Try.func79, Try.ntmps79
  go_upto_region 1 with fail
  rw [← hW1, ← hW2, ← hrd, ← hqq]
  clear hW1 hW2 hrd hq hqq e1 k1 kq hB1 hB2 hr0
  have c0 : W2.cell? ⟨q, 0, none⟩ = some (.int .i64 1) := block_cell hm.blk 0
  have zq : q < W2.heap.size := hm.lt
  obtain ⟨⟨xi, s3⟩, hs3⟩ : ∃ r, r = gN 576460752303423488 s0 := ⟨_, rfl⟩
  have hb3 : xi ≤ 576460752303423488 := by have := gN_le 576460752303423488 s0; rw [← hs3] at this; exact this
  have hl3 : s3.1.length ≤ 70000000000000 := by have := gN_len 576460752303423488 s0; rw [← hs3] at this; simp only at this; omega
  have hc := rds_refNum 576460752303423488 (by decide) hr
  rw [← hs3] at hc
  have Hc3 := Lib.hid hc
  have Hs3 := Lib.hid hs3
  clear hc hs3
  go_wp2_with fail
  refine Hc3.out.mono ?_
  rintro e W3 ⟨rfl, hr3, hg3⟩
  simp only at hr3 ⊢
  have hm3 := hm.grown hg3 hr.elem (by decide) (by decide) (by decide) (by decide)
  have kk3 := KpF.rd kk hg3
  have kr3 := (hg3.block r (Array.getElem?_eq_some_iff.1 kr).1 (by simp; omega)).trans kr
  clear hm hr kk kr hg3 Hc3
  clear c0 zq
  have c4 : W3.cell? ⟨q, 4, none⟩ = some (.int .u64 0) := block_cell hm3.blk 4
  have f4 : W3.frozen? ⟨q, 4, none⟩ = false := block_free hm3.blk 4
  have hgn := grown_set W3 q 4 (.int .u64 xi)
  have hm4 := hm3.put (by decide) (by decide) (by decide) 4 (.int .u64 xi) ⟨1, F, D, T, xi, 0, 0, 0, false, false, none, 0, [], 0, 0, none, 0, [], none, 0, []⟩ rfl rfl
  have hr4 := hr3.store (i := 4) hqz hqp (.int .u64 xi)
  have kk4 := KpF.new kk3 hgn hqw
  have kr4 := (hgn.block r (Array.getElem?_eq_some_iff.1 kr3).1 (by simp; omega)).trans kr3
  clear hm3 hr3 kk3 kr3 hgn
  go_upto_region 3 with fail
  obtain ⟨W4, hW4⟩ : ∃ W4, W4 = W3.setCell ⟨q, 4, none⟩ (.int .u64 xi) := ⟨_, rfl⟩
  rw [← hW4] at hm4 hr4 kk4 kr4 ⊢
  clear hW4
  clear c4 f4
  obtain ⟨⟨xl, s5⟩, hs5⟩ : ∃ r, r = gN 1152921504606846976 s3 := ⟨_, rfl⟩
  have hb5 : xl ≤ 1152921504606846976 := by have := gN_le 1152921504606846976 s3; rw [← hs5] at this; exact this
  have hl5 : s5.1.length ≤ 70000000000000 := by have := gN_len 1152921504606846976 s3; rw [← hs5] at this; simp only at this; omega
  have hc := rds_refNum 1152921504606846976 (by decide) hr4
  rw [← hs5] at hc
  have Hc5 := Lib.hid hc
  have Hs5 := Lib.hid hs5
  clear hc hs5
  go_wp2_with fail
  refine Hc5.out.mono ?_
  rintro e W5 ⟨rfl, hr5, hg5⟩
  simp only at hr5 ⊢
  have hm5 := hm4.grown hg5 hr4.elem (by decide) (by decide) (by decide) (by decide)
  have kk5 := KpF.rd kk4 hg5
  have kr5 := (hg5.block r (Array.getElem?_eq_some_iff.1 kr4).1 (by simp; omega)).trans kr4
  clear hm4 hr4 kk4 kr4 hg5 Hc5
  have c5 : W5.cell? ⟨q, 5, none⟩ = some (.int .u64 0) := block_cell hm5.blk 5
  have f5 : W5.frozen? ⟨q, 5, none⟩ = false := block_free hm5.blk 5
  have hgn := grown_set W5 q 5 (.int .u64 xl)
  have hm6 := hm5.put (by decide) (by decide) (by decide) 5 (.int .u64 xl) ⟨1, F, D, T, xi, xl, 0, 0, false, false, none, 0, [], 0, 0, none, 0, [], none, 0, []⟩ rfl rfl
  have hr6 := hr5.store (i := 5) hqz hqp (.int .u64 xl)
  have kk6 := KpF.new kk5 hgn hqw
  have kr6 := (hgn.block r (Array.getElem?_eq_some_iff.1 kr5).1 (by simp; omega)).trans kr5
  clear hm5 hr5 kk5 kr5 hgn
  go_upto_region 4 with fail
  obtain ⟨W6, hW6⟩ : ∃ W6, W6 = W5.setCell ⟨q, 5, none⟩ (.int .u64 xl) := ⟨_, rfl⟩
  rw [← hW6] at hm6 hr6 kk6 kr6 ⊢
  clear hW6
  clear c5 f5
  have c0 : W6.cell? ⟨q, 0, none⟩ = some (.int .i64 1) := block_cell hm6.blk 0
  have zq : q < W6.heap.size := hm6.lt
  go_upto_region 32 with fail
  clear c0 zq
  have p0 : W6.cell? ⟨q, 0, none⟩ = some (.int .i64 1) := block_cell hm6.blk 0
  have p1 : W6.cell? ⟨q, 1, none⟩ = some (.int .i64 F) := block_cell hm6.blk 1
  have p2 : W6.cell? ⟨q, 2, none⟩ = some (.int .i64 D) := block_cell hm6.blk 2
  have p3 : W6.cell? ⟨q, 3, none⟩ = some (.int .u64 T) := block_cell hm6.blk 3
  have p4 : W6.cell? ⟨q, 4, none⟩ = some (.int .u64 xi) := block_cell hm6.blk 4
  have p5 : W6.cell? ⟨q, 5, none⟩ = some (.int .u64 xl) := block_cell hm6.blk 5
  have p6 : W6.cell? ⟨q, 6, none⟩ = some (.int .u64 0) := block_cell hm6.blk 6
  have p7 : W6.cell? ⟨q, 7, none⟩ = some (.int .u64 0) := block_cell hm6.blk 7
  have p8 : W6.cell? ⟨q, 8, none⟩ = some (.bool false) := block_cell hm6.blk 8
  have p9 : W6.cell? ⟨q, 9, none⟩ = some (.bool false) := block_cell hm6.blk 9
  have p10 : W6.cell? ⟨q, 10, none⟩ = some (.slice none 0 0) := block_cell hm6.blk 10
  have p11 : W6.cell? ⟨q, 11, none⟩ = some (.int .u64 0) := block_cell hm6.blk 11
  have p12 : W6.cell? ⟨q, 12, none⟩ = some (.int .u64 0) := block_cell hm6.blk 12
  have p13 : W6.cell? ⟨q, 13, none⟩ = some (.slice none 0 0) := block_cell hm6.blk 13
  have p14 : W6.cell? ⟨q, 14, none⟩ = some (.slice none 0 0) := block_cell hm6.blk 14
  have cR0 : W6.cell? ⟨r, 0, none⟩ = some (.int .i64 0) := block_cell kr6 0
  have zR0 := block_free kr6 0
  have cR1 : W6.cell? ⟨r, 1, none⟩ = some (.int .i64 0) := block_cell kr6 1
  have zR1 := block_free kr6 1
  have cR2 : W6.cell? ⟨r, 2, none⟩ = some (.int .i64 0) := block_cell kr6 2
  have zR2 := block_free kr6 2
  have cR3 : W6.cell? ⟨r, 3, none⟩ = some (.int .u64 0) := block_cell kr6 3
  have zR3 := block_free kr6 3
  have cR4 : W6.cell? ⟨r, 4, none⟩ = some (.int .u64 0) := block_cell kr6 4
  have zR4 := block_free kr6 4
  have cR5 : W6.cell? ⟨r, 5, none⟩ = some (.int .u64 0) := block_cell kr6 5
  have zR5 := block_free kr6 5
  have cR6 : W6.cell? ⟨r, 6, none⟩ = some (.int .u64 0) := block_cell kr6 6
  have zR6 := block_free kr6 6
  have cR7 : W6.cell? ⟨r, 7, none⟩ = some (.int .u64 0) := block_cell kr6 7
  have zR7 := block_free kr6 7
  have cR8 : W6.cell? ⟨r, 8, none⟩ = some (.bool false) := block_cell kr6 8
  have zR8 := block_free kr6 8
  have cR9 : W6.cell? ⟨r, 9, none⟩ = some (.bool false) := block_cell kr6 9
  have zR9 := block_free kr6 9
  have cR10 : W6.cell? ⟨r, 10, none⟩ = some (.slice none 0 0) := block_cell kr6 10
  have zR10 := block_free kr6 10
  have cR11 : W6.cell? ⟨r, 11, none⟩ = some (.int .u64 0) := block_cell kr6 11
  have zR11 := block_free kr6 11
  have cR12 : W6.cell? ⟨r, 12, none⟩ = some (.int .u64 0) := block_cell kr6 12
  have zR12 := block_free kr6 12
  have cR13 : W6.cell? ⟨r, 13, none⟩ = some (.slice none 0 0) := block_cell kr6 13
  have zR13 := block_free kr6 13
  have cR14 : W6.cell? ⟨r, 14, none⟩ = some (.slice none 0 0) := block_cell kr6 14
  have zR14 := block_free kr6 14
  have zR := (Array.getElem?_eq_some_iff.1 kr6).1
  obtain ⟨kS, hgS⟩ := set15 kr6 (.int .i64 1) (.int .i64 F) (.int .i64 D) (.int .u64 T) (.int .u64 xi) (.int .u64 xl) (.int .u64 0) (.int .u64 0) (.bool false) (.bool false) (.slice none 0 0) (.int .u64 0) (.int .u64 0) (.slice none 0 0) (.slice none 0 0)
  obtain ⟨Y, hY⟩ : ∃ Y, Y = (((((((((((((((W6.setCell ⟨r, 0, none⟩ (.int .i64 1)).setCell ⟨r, 1, none⟩ (.int .i64 F)).setCell ⟨r, 2, none⟩ (.int .i64 D)).setCell ⟨r, 3, none⟩ (.int .u64 T)).setCell ⟨r, 4, none⟩ (.int .u64 xi)).setCell ⟨r, 5, none⟩ (.int .u64 xl)).setCell ⟨r, 6, none⟩ (.int .u64 0)).setCell ⟨r, 7, none⟩ (.int .u64 0)).setCell ⟨r, 8, none⟩ (.bool false)).setCell ⟨r, 9, none⟩ (.bool false)).setCell ⟨r, 10, none⟩ (.slice none 0 0)).setCell ⟨r, 11, none⟩ (.int .u64 0)).setCell ⟨r, 12, none⟩ (.int .u64 0)).setCell ⟨r, 13, none⟩ (.slice none 0 0)).setCell ⟨r, 14, none⟩ (.slice none 0 0)) := ⟨_, rfl⟩
  rw [← hY] at kS hgS
  have u0 := block_cell kS 0
  have u1 := block_cell kS 1
  have u2 := block_cell kS 2
  have u3 := block_cell kS 3
  have u4 := block_cell kS 4
  have u5 := block_cell kS 5
  have u6 := block_cell kS 6
  have u7 := block_cell kS 7
  have u8 := block_cell kS 8
  have u9 := block_cell kS 9
  have u10 := block_cell kS 10
  have u11 := block_cell kS 11
  have u12 := block_cell kS 12
  have u13 := block_cell kS 13
  have u14 := block_cell kS 14
  simp at u0 u1 u2 u3 u4 u5 u6 u7 u8 u9 u10 u11 u12 u13 u14
  go_wp2_with fail
  rw [← hY]
  have hfin : gFields (mI 1 F D T) s0 = ((⟨1, F, D, T, xi, xl, 0, 0, false, false, none, 0, [], 0, 0, none, 0, [], none, 0, []⟩ : Mp).v, s5) := by simp [gFields, mI, Mp.v, sn0, ← Hs3.out, ← Hs5.out]
  have hfin2 := hfin
  clear hfin
  refine bodyPost_ret (v := .agg #[.int .i64 1, .int .i64 F, .int .i64 D, .int .u64 T, .int .u64 xi, .int .u64 xl, .int .u64 0, .int .u64 0, .bool false, .bool false, .slice none 0 0, .int .u64 0, .int .u64 0, .slice none 0 0, .slice none 0 0]) (by simp [results, Try.results79, go_sem, u0, u1, u2, u3, u4, u5, u6, u7, u8, u9, u10, u11, u12, u13, u14]) rfl ?_
  rw [hfin2]
  exact ⟨⟨1, F, D, T, xi, xl, 0, 0, false, false, none, 0, [], 0, 0, none, 0, [], none, 0, []⟩, rfl, rfl, ⟨hm6.ens.grown hgS (elem?_of kr6) (by decide) (by decide), hm6.mem.grown hgS (elem?_of kr6) (by decide), hm6.dat.grown hgS (elem?_of kr6) (by decide)⟩, hr6.grown hgS (fun k e => by cases e; exact ⟨hrz, hrp⟩), KpF.new kk6 hgS hrw⟩
set_option maxRecDepth 100000 in
set_option maxHeartbeats 8000000 in
theorem fields_2 (F D T : Int) {W0 W : World} {p : Nat} {s0 : St} (hr : RdS 78 W0 W p s0) (hl : s0.1.length ≤ 70000000000000) :
    Calls Try.prog 79 #[.pointer (some ⟨p, 0, none⟩), .agg #[.int .i64 2, .int .i64 F, .int .i64 D, .int .u64 T, .int .u64 0, .int .u64 0, .int .u64 0, .int .u64 0, .bool false, .bool false, .slice none 0 0, .int .u64 0, .int .u64 0, .slice none 0 0, .slice none 0 0]] W (FldTold 78 W0 p (gFields (mI 2 F D T) s0) W) := by
  have hr0 := hr
  obtain ⟨q, hq⟩ : ∃ q, q = W.heap.size := ⟨_, rfl⟩
  obtain ⟨W1, hW1⟩ : ∃ W1, W1 = W.alloc (.cells #[.int .i64 2, .int .i64 F, .int .i64 D, .int .u64 T, .int .u64 0, .int .u64 0, .int .u64 0, .int .u64 0, .bool false, .bool false, .slice none 0 0, .int .u64 0, .int .u64 0, .slice none 0 0, .slice none 0 0] 52) := ⟨_, rfl⟩
  have hB1 : Below W.heap.size W W1 := by rw [hW1]; exact below_new _ _
  have e1 : W1.heap.size = W.heap.size + 1 := by rw [hW1]; exact World.size_alloc _ _
  have k1 : W1.heap[q]? = some (.cells #[.int .i64 2, .int .i64 F, .int .i64 D, .int .u64 T, .int .u64 0, .int .u64 0, .int .u64 0, .int .u64 0, .bool false, .bool false, .slice none 0 0, .int .u64 0, .int .u64 0, .slice none 0 0, .slice none 0 0] 52) := by rw [hW1, hq]; exact heap_alloc_new _ _
  obtain ⟨r, hrd⟩ : ∃ r, r = W.heap.size + 1 := ⟨_, rfl⟩
  obtain ⟨W2, hW2⟩ : ∃ W2, W2 = W1.alloc (.cells #[.int .i64 0, .int .i64 0, .int .i64 0, .int .u64 0, .int .u64 0, .int .u64 0, .int .u64 0, .int .u64 0, .bool false, .bool false, .slice none 0 0, .int .u64 0, .int .u64 0, .slice none 0 0, .slice none 0 0] 52) := ⟨_, rfl⟩
  have hB2 : Below W1.heap.size W1 W2 := by rw [hW2]; exact below_new _ _
  have kr : W2.heap[r]? = some (.cells #[.int .i64 0, .int .i64 0, .int .i64 0, .int .u64 0, .int .u64 0, .int .u64 0, .int .u64 0, .int .u64 0, .bool false, .bool false, .slice none 0 0, .int .u64 0, .int .u64 0, .slice none 0 0, .slice none 0 0] 52) := by rw [hW2, hrd, ← e1]; exact heap_alloc_new _ _
  have kq := (hB2.block q (Array.getElem?_eq_some_iff.1 k1).1).trans k1
  have hm : MsgA 52 W W2 q ⟨2, F, D, T, 0, 0, 0, 0, false, false, none, 0, [], 0, 0, none, 0, [], none, 0, []⟩ := ⟨kq, EnsO.nil _ _, IzT.nil _, ⟨Bs.nil _, fun b off s e => by cases e⟩⟩
  have hr := (hr0.below hB1).below hB2
  have hqz : W0.heap.size ≤ q := by rw [hq]; exact hr0.bel.size
  have hrz : W0.heap.size ≤ r := by rw [hrd]; have := hr0.bel.size; omega
  have hqp : q ≠ p := by have := hr0.lt; omega
  have hrp : r ≠ p := by have := hr0.lt; omega
  have hqr : q ≠ r := by omega
  have hqw : W.heap.size ≤ q := by omega
  have hrw : W.heap.size ≤ r := by omega
  have kk : KpF p W W2 := KpF.of_below (below_on hB1 hB2 (Nat.le_refl _))
  have hwz0 : W0.heap.size ≤ W.heap.size := hr0.bel.size
  have hqq : q = W.heap.size := hq
  go_enter Try.func79, Try.ntmps79
  go_upto_region 1 with fail
  rw [← hW1, ← hW2, ← hrd, ← hqq]
  clear hW1 hW2 hrd hq hqq e1 k1 kq hB1 hB2 hr0
  have c0 : W2.cell? ⟨q, 0, none⟩ = some (.int .i64 2) := block_cell hm.blk 0
  have zq : q < W2.heap.size := hm.lt
  go_upto_region 4 with fail
  obtain ⟨⟨xo, s3⟩, hs3⟩ : ∃ r, r = gF s0 := ⟨_, rfl⟩
  have hl3 : s3.1.length ≤ 70000000000000 := by have := gF_le s0; rw [← hs3] at this; simp only at this; omega
  have hc := rds_refFlag hr
  rw [← hs3] at hc
  have Hc3 := Lib.hid hc
  have Hs3 := Lib.hid hs3
  clear hc hs3
  go_wp2_with fail
  refine Hc3.out.mono ?_
  rintro e W3 ⟨rfl, hr3, hg3⟩
  simp only at hr3 ⊢
  have hm3 := hm.grown hg3 hr.elem (by decide) (by decide) (by decide) (by decide)
  have kk3 := KpF.rd kk hg3
  have kr3 := (hg3.block r (Array.getElem?_eq_some_iff.1 kr).1 (by simp; omega)).trans kr
  clear hm hr kk kr hg3 Hc3
  clear c0 zq
  have c8 : W3.cell? ⟨q, 8, none⟩ = some (.bool false) := block_cell hm3.blk 8
  have f8 : W3.frozen? ⟨q, 8, none⟩ = false := block_free hm3.blk 8
  have hgn := grown_set W3 q 8 (.bool xo)
  have hm4 := hm3.put (by decide) (by decide) (by decide) 8 (.bool xo) ⟨2, F, D, T, 0, 0, 0, 0, xo, false, none, 0, [], 0, 0, none, 0, [], none, 0, []⟩ rfl rfl
  have hr4 := hr3.store (i := 8) hqz hqp (.bool xo)
  have kk4 := KpF.new kk3 hgn hqw
  have kr4 := (hgn.block r (Array.getElem?_eq_some_iff.1 kr3).1 (by simp; omega)).trans kr3
  clear hm3 hr3 kk3 kr3 hgn
  go_upto_region 32 with fail
  obtain ⟨W4, hW4⟩ : ∃ W4, W4 = W3.setCell ⟨q, 8, none⟩ (.bool xo) := ⟨_, rfl⟩
  rw [← hW4] at hm4 hr4 kk4 kr4 ⊢
  clear hW4
  clear c8 f8
  have p0 : W4.cell? ⟨q, 0, none⟩ = some (.int .i64 2) := block_cell hm4.blk 0
  have p1 : W4.cell? ⟨q, 1, none⟩ = some (.int .i64 F) := block_cell hm4.blk 1
  have p2 : W4.cell? ⟨q, 2, none⟩ = some (.int .i64 D) := block_cell hm4.blk 2
  have p3 : W4.cell? ⟨q, 3, none⟩ = some (.int .u64 T) := block_cell hm4.blk 3
  have p4 : W4.cell? ⟨q, 4, none⟩ = some (.int .u64 0) := block_cell hm4.blk 4
  have p5 : W4.cell? ⟨q, 5, none⟩ = some (.int .u64 0) := block_cell hm4.blk 5
  have p6 : W4.cell? ⟨q, 6, none⟩ = some (.int .u64 0) := block_cell hm4.blk 6
  have p7 : W4.cell? ⟨q, 7, none⟩ = some (.int .u64 0) := block_cell hm4.blk 7
  have p8 : W4.cell? ⟨q, 8, none⟩ = some (.bool xo) := block_cell hm4.blk 8
  have p9 : W4.cell? ⟨q, 9, none⟩ = some (.bool false) := block_cell hm4.blk 9
  have p10 : W4.cell? ⟨q, 10, none⟩ = some (.slice none 0 0) := block_cell hm4.blk 10
  have p11 : W4.cell? ⟨q, 11, none⟩ = some (.int .u64 0) := block_cell hm4.blk 11
  have p12 : W4.cell? ⟨q, 12, none⟩ = some (.int .u64 0) := block_cell hm4.blk 12
  have p13 : W4.cell? ⟨q, 13, none⟩ = some (.slice none 0 0) := block_cell hm4.blk 13
  have p14 : W4.cell? ⟨q, 14, none⟩ = some (.slice none 0 0) := block_cell hm4.blk 14
  have cR0 : W4.cell? ⟨r, 0, none⟩ = some (.int .i64 0) := block_cell kr4 0
  have zR0 := block_free kr4 0
  have cR1 : W4.cell? ⟨r, 1, none⟩ = some (.int .i64 0) := block_cell kr4 1
  have zR1 := block_free kr4 1
  have cR2 : W4.cell? ⟨r, 2, none⟩ = some (.int .i64 0) := block_cell kr4 2
  have zR2 := block_free kr4 2
  have cR3 : W4.cell? ⟨r, 3, none⟩ = some (.int .u64 0) := block_cell kr4 3
  have zR3 := block_free kr4 3
  have cR4 : W4.cell? ⟨r, 4, none⟩ = some (.int .u64 0) := block_cell kr4 4
  have zR4 := block_free kr4 4
  have cR5 : W4.cell? ⟨r, 5, none⟩ = some (.int .u64 0) := block_cell kr4 5
  have zR5 := block_free kr4 5
  have cR6 : W4.cell? ⟨r, 6, none⟩ = some (.int .u64 0) := block_cell kr4 6
  have zR6 := block_free kr4 6
  have cR7 : W4.cell? ⟨r, 7, none⟩ = some (.int .u64 0) := block_cell kr4 7
  have zR7 := block_free kr4 7
  have cR8 : W4.cell? ⟨r, 8, none⟩ = some (.bool false) := block_cell kr4 8
  have zR8 := block_free kr4 8
  have cR9 : W4.cell? ⟨r, 9, none⟩ = some (.bool false) := block_cell kr4 9
  have zR9 := block_free kr4 9
  have cR10 : W4.cell? ⟨r, 10, none⟩ = some (.slice none 0 0) := block_cell kr4 10
  have zR10 := block_free kr4 10
  have cR11 : W4.cell? ⟨r, 11, none⟩ = some (.int .u64 0) := block_cell kr4 11
  have zR11 := block_free kr4 11
  have cR12 : W4.cell? ⟨r, 12, none⟩ = some (.int .u64 0) := block_cell kr4 12
  have zR12 := block_free kr4 12
  have cR13 : W4.cell? ⟨r, 13, none⟩ = some (.slice none 0 0) := block_cell kr4 13
  have zR13 := block_free kr4 13
  have cR14 : W4.cell? ⟨r, 14, none⟩ = some (.slice none 0 0) := block_cell kr4 14
  have zR14 := block_free kr4 14
  have zR := (Array.getElem?_eq_some_iff.1 kr4).1
  obtain ⟨kS, hgS⟩ := set15 kr4 (.int .i64 2) (.int .i64 F) (.int .i64 D) (.int .u64 T) (.int .u64 0) (.int .u64 0) (.int .u64 0) (.int .u64 0) (.bool xo) (.bool false) (.slice none 0 0) (.int .u64 0) (.int .u64 0) (.slice none 0 0) (.slice none 0 0)
  obtain ⟨Y, hY⟩ : ∃ Y, Y = (((((((((((((((W4.setCell ⟨r, 0, none⟩ (.int .i64 2)).setCell ⟨r, 1, none⟩ (.int .i64 F)).setCell ⟨r, 2, none⟩ (.int .i64 D)).setCell ⟨r, 3, none⟩ (.int .u64 T)).setCell ⟨r, 4, none⟩ (.int .u64 0)).setCell ⟨r, 5, none⟩ (.int .u64 0)).setCell ⟨r, 6, none⟩ (.int .u64 0)).setCell ⟨r, 7, none⟩ (.int .u64 0)).setCell ⟨r, 8, none⟩ (.bool xo)).setCell ⟨r, 9, none⟩ (.bool false)).setCell ⟨r, 10, none⟩ (.slice none 0 0)).setCell ⟨r, 11, none⟩ (.int .u64 0)).setCell ⟨r, 12, none⟩ (.int .u64 0)).setCell ⟨r, 13, none⟩ (.slice none 0 0)).setCell ⟨r, 14, none⟩ (.slice none 0 0)) := ⟨_, rfl⟩
  rw [← hY] at kS hgS
  have u0 := block_cell kS 0
  have u1 := block_cell kS 1
  have u2 := block_cell kS 2
  have u3 := block_cell kS 3
  have u4 := block_cell kS 4
  have u5 := block_cell kS 5
  have u6 := block_cell kS 6
  have u7 := block_cell kS 7
  have u8 := block_cell kS 8
  have u9 := block_cell kS 9
  have u10 := block_cell kS 10
  have u11 := block_cell kS 11
  have u12 := block_cell kS 12
  have u13 := block_cell kS 13
  have u14 := block_cell kS 14
  simp at u0 u1 u2 u3 u4 u5 u6 u7 u8 u9 u10 u11 u12 u13 u14
  go_wp2_with fail
  rw [← hY]
  have hfin : gFields (mI 2 F D T) s0 = ((⟨2, F, D, T, 0, 0, 0, 0, xo, false, none, 0, [], 0, 0, none, 0, [], none, 0, []⟩ : Mp).v, s3) := by simp [gFields, mI, Mp.v, sn0, ← Hs3.out]
  have hfin2 := hfin
  clear hfin
  refine bodyPost_ret (v := .agg #[.int .i64 2, .int .i64 F, .int .i64 D, .int .u64 T, .int .u64 0, .int .u64 0, .int .u64 0, .int .u64 0, .bool xo, .bool false, .slice none 0 0, .int .u64 0, .int .u64 0, .slice none 0 0, .slice none 0 0]) (by simp [results, Try.results79, go_sem, u0, u1, u2, u3, u4, u5, u6, u7, u8, u9, u10, u11, u12, u13, u14]) rfl ?_
  rw [hfin2]
  exact ⟨⟨2, F, D, T, 0, 0, 0, 0, xo, false, none, 0, [], 0, 0, none, 0, [], none, 0, []⟩, rfl, rfl, ⟨hm4.ens.grown hgS (elem?_of kr4) (by decide) (by decide), hm4.mem.grown hgS (elem?_of kr4) (by decide), hm4.dat.grown hgS (elem?_of kr4) (by decide)⟩, hr4.grown hgS (fun k e => by cases e; exact ⟨hrz, hrp⟩), KpF.new kk4 hgS hrw⟩
set_option maxRecDepth 100000 in
set_option maxHeartbeats 8000000 in
theorem fields_4 (F D T : Int) {W0 W : World} {p : Nat} {s0 : St} (hr : RdS 78 W0 W p s0) (hl : s0.1.length ≤ 70000000000000) :
    Calls Try.prog 79 #[.pointer (some ⟨p, 0, none⟩), .agg #[.int .i64 4, .int .i64 F, .int .i64 D, .int .u64 T, .int .u64 0, .int .u64 0, .int .u64 0, .int .u64 0, .bool false, .bool false, .slice none 0 0, .int .u64 0, .int .u64 0, .slice none 0 0, .slice none 0 0]] W (FldTold 78 W0 p (gFields (mI 4 F D T) s0) W) := by
  have hr0 := hr
  obtain ⟨q, hq⟩ : ∃ q, q = W.heap.size := ⟨_, rfl⟩
  obtain ⟨W1, hW1⟩ : ∃ W1, W1 = W.alloc (.cells #[.int .i64 4, .int .i64 F, .int .i64 D, .int .u64 T, .int .u64 0, .int .u64 0, .int .u64 0, .int .u64 0, .bool false, .bool false, .slice none 0 0, .int .u64 0, .int .u64 0, .slice none 0 0, .slice none 0 0] 52) := ⟨_, rfl⟩
  have hB1 : Below W.heap.size W W1 := by rw [hW1]; exact below_new _ _
  have e1 : W1.heap.size = W.heap.size + 1 := by rw [hW1]; exact World.size_alloc _ _
  have k1 : W1.heap[q]? = some (.cells #[.int .i64 4, .int .i64 F, .int .i64 D, .int .u64 T, .int .u64 0, .int .u64 0, .int .u64 0, .int .u64 0, .bool false, .bool false, .slice none 0 0, .int .u64 0, .int .u64 0, .slice none 0 0, .slice none 0 0] 52) := by rw [hW1, hq]; exact heap_alloc_new _ _
  obtain ⟨r, hrd⟩ : ∃ r, r = W.heap.size + 1 := ⟨_, rfl⟩
  obtain ⟨W2, hW2⟩ : ∃ W2, W2 = W1.alloc (.cells #[.int .i64 0, .int .i64 0, .int .i64 0, .int .u64 0, .int .u64 0, .int .u64 0, .int .u64 0, .int .u64 0, .bool false, .bool false, .slice none 0 0, .int .u64 0, .int .u64 0, .slice none 0 0, .slice none 0 0] 52) := ⟨_, rfl⟩
  have hB2 : Below W1.heap.size W1 W2 := by rw [hW2]; exact below_new _ _
  have kr : W2.heap[r]? = some (.cells #[.int .i64 0, .int .i64 0, .int .i64 0, .int .u64 0, .int .u64 0, .int .u64 0, .int .u64 0, .int .u64 0, .bool false, .bool false, .slice none 0 0, .int .u64 0, .int .u64 0, .slice none 0 0, .slice none 0 0] 52) := by rw [hW2, hrd, ← e1]; exact heap_alloc_new _ _
  have kq := (hB2.block q (Array.getElem?_eq_some_iff.1 k1).1).trans k1
  have hm : MsgA 52 W W2 q ⟨4, F, D, T, 0, 0, 0, 0, false, false, none, 0, [], 0, 0, none, 0, [], none, 0, []⟩ := ⟨kq, EnsO.nil _ _, IzT.nil _, ⟨Bs.nil _, fun b off s e => by cases e⟩⟩
  have hr := (hr0.below hB1).below hB2
  have hqz : W0.heap.size ≤ q := by rw [hq]; exact hr0.bel.size
  have hrz : W0.heap.size ≤ r := by rw [hrd]; have := hr0.bel.size; omega
  have hqp : q ≠ p := by have := hr0.lt; omega
  have hrp : r ≠ p := by have := hr0.lt; omega
  have hqr : q ≠ r := by omega
  have hqw : W.heap.size ≤ q := by omega
  have hrw : W.heap.size ≤ r := by omega
  have kk : KpF p W W2 := KpF.of_below (below_on hB1 hB2 (Nat.le_refl _))
  have hwz0 : W0.heap.size ≤ W.heap.size := hr0.bel.size
  have hqq : q = W.heap.size := hq
  go_enter Try.func79, Try.ntmps79
  go_upto_region 1 with fail
  rw [← hW1, ← hW2, ← hrd, ← hqq]
  clear hW1 hW2 hrd hq hqq e1 k1 kq hB1 hB2 hr0
  have c0 : W2.cell? ⟨q, 0, none⟩ = some (.int .i64 4) := block_cell hm.blk 0
  have zq : q < W2.heap.size := hm.lt
  go_upto_region 4 with fail
  obtain ⟨⟨xo, s3⟩, hs3⟩ : ∃ r, r = gF s0 := ⟨_, rfl⟩
  have hl3 : s3.1.length ≤ 70000000000000 := by have := gF_le s0; rw [← hs3] at this; simp only at this; omega
  have hc := rds_refFlag hr
  rw [← hs3] at hc
  have Hc3 := Lib.hid hc
  have Hs3 := Lib.hid hs3
  clear hc hs3
  go_wp2_with fail
  refine Hc3.out.mono ?_
  rintro e W3 ⟨rfl, hr3, hg3⟩
  simp only at hr3 ⊢
  have hm3 := hm.grown hg3 hr.elem (by decide) (by decide) (by decide) (by decide)
  have kk3 := KpF.rd kk hg3
  have kr3 := (hg3.block r (Array.getElem?_eq_some_iff.1 kr).1 (by simp; omega)).trans kr
  clear hm hr kk kr hg3 Hc3
  clear c0 zq
  have c8 : W3.cell? ⟨q, 8, none⟩ = some (.bool false) := block_cell hm3.blk 8
  have f8 : W3.frozen? ⟨q, 8, none⟩ = false := block_free hm3.blk 8
  have hgn := grown_set W3 q 8 (.bool xo)
  have hm4 := hm3.put (by decide) (by decide) (by decide) 8 (.bool xo) ⟨4, F, D, T, 0, 0, 0, 0, xo, false, none, 0, [], 0, 0, none, 0, [], none, 0, []⟩ rfl rfl
  have hr4 := hr3.store (i := 8) hqz hqp (.bool xo)
  have kk4 := KpF.new kk3 hgn hqw
  have kr4 := (hgn.block r (Array.getElem?_eq_some_iff.1 kr3).1 (by simp; omega)).trans kr3
  clear hm3 hr3 kk3 kr3 hgn
  go_upto_region 32 with fail
  obtain ⟨W4, hW4⟩ : ∃ W4, W4 = W3.setCell ⟨q, 8, none⟩ (.bool xo) := ⟨_, rfl⟩
  rw [← hW4] at hm4 hr4 kk4 kr4 ⊢
  clear hW4
  clear c8 f8
  have p0 : W4.cell? ⟨q, 0, none⟩ = some (.int .i64 4) := block_cell hm4.blk 0
  have p1 : W4.cell? ⟨q, 1, none⟩ = some (.int .i64 F) := block_cell hm4.blk 1
  have p2 : W4.cell? ⟨q, 2, none⟩ = some (.int .i64 D) := block_cell hm4.blk 2
  have p3 : W4.cell? ⟨q, 3, none⟩ = some (.int .u64 T) := block_cell hm4.blk 3
  have p4 : W4.cell? ⟨q, 4, none⟩ = some (.int .u64 0) := block_cell hm4.blk 4
  have p5 : W4.cell? ⟨q, 5, none⟩ = some (.int .u64 0) := block_cell hm4.blk 5
  have p6 : W4.cell? ⟨q, 6, none⟩ = some (.int .u64 0) := block_cell hm4.blk 6
  have p7 : W4.cell? ⟨q, 7, none⟩ = some (.int .u64 0) := block_cell hm4.blk 7
  have p8 : W4.cell? ⟨q, 8, none⟩ = some (.bool xo) := block_cell hm4.blk 8
  have p9 : W4.cell? ⟨q, 9, none⟩ = some (.bool false) := block_cell hm4.blk 9
  have p10 : W4.cell? ⟨q, 10, none⟩ = some (.slice none 0 0) := block_cell hm4.blk 10
  have p11 : W4.cell? ⟨q, 11, none⟩ = some (.int .u64 0) := block_cell hm4.blk 11
  have p12 : W4.cell? ⟨q, 12, none⟩ = some (.int .u64 0) := block_cell hm4.blk 12
  have p13 : W4.cell? ⟨q, 13, none⟩ = some (.slice none 0 0) := block_cell hm4.blk 13
  have p14 : W4.cell? ⟨q, 14, none⟩ = some (.slice none 0 0) := block_cell hm4.blk 14
  have cR0 : W4.cell? ⟨r, 0, none⟩ = some (.int .i64 0) := block_cell kr4 0
  have zR0 := block_free kr4 0
  have cR1 : W4.cell? ⟨r, 1, none⟩ = some (.int .i64 0) := block_cell kr4 1
  have zR1 := block_free kr4 1
  have cR2 : W4.cell? ⟨r, 2, none⟩ = some (.int .i64 0) := block_cell kr4 2
  have zR2 := block_free kr4 2
  have cR3 : W4.cell? ⟨r, 3, none⟩ = some (.int .u64 0) := block_cell kr4 3
  have zR3 := block_free kr4 3
  have cR4 : W4.cell? ⟨r, 4, none⟩ = some (.int .u64 0) := block_cell kr4 4
  have zR4 := block_free kr4 4
  have cR5 : W4.cell? ⟨r, 5, none⟩ = some (.int .u64 0) := block_cell kr4 5
  have zR5 := block_free kr4 5
  have cR6 : W4.cell? ⟨r, 6, none⟩ = some (.int .u64 0) := block_cell kr4 6
  have zR6 := block_free kr4 6
  have cR7 : W4.cell? ⟨r, 7, none⟩ = some (.int .u64 0) := block_cell kr4 7
  have zR7 := block_free kr4 7
  have cR8 : W4.cell? ⟨r, 8, none⟩ = some (.bool false) := block_cell kr4 8
  have zR8 := block_free kr4 8
  have cR9 : W4.cell? ⟨r, 9, none⟩ = some (.bool false) := block_cell kr4 9
  have zR9 := block_free kr4 9
  have cR10 : W4.cell? ⟨r, 10, none⟩ = some (.slice none 0 0) := block_cell kr4 10
  have zR10 := block_free kr4 10
  have cR11 : W4.cell? ⟨r, 11, none⟩ = some (.int .u64 0) := block_cell kr4 11
  have zR11 := block_free kr4 11
  have cR12 : W4.cell? ⟨r, 12, none⟩ = some (.int .u64 0) := block_cell kr4 12
  have zR12 := block_free kr4 12
  have cR13 : W4.cell? ⟨r, 13, none⟩ = some (.slice none 0 0) := block_cell kr4 13
  have zR13 := block_free kr4 13
  have cR14 : W4.cell? ⟨r, 14, none⟩ = some (.slice none 0 0) := block_cell kr4 14
  have zR14 := block_free kr4 14
  have zR := (Array.getElem?_eq_some_iff.1 kr4).1
  obtain ⟨kS, hgS⟩ := set15 kr4 (.int .i64 4) (.int .i64 F) (.int .i64 D) (.int .u64 T) (.int .u64 0) (.int .u64 0) (.int .u64 0) (.int .u64 0) (.bool xo) (.bool false) (.slice none 0 0) (.int .u64 0) (.int .u64 0) (.slice none 0 0) (.slice none 0 0)
  obtain ⟨Y, hY⟩ : ∃ Y, Y = (((((((((((((((W4.setCell ⟨r, 0, none⟩ (.int .i64 4)).setCell ⟨r, 1, none⟩ (.int .i64 F)).setCell ⟨r, 2, none⟩ (.int .i64 D)).setCell ⟨r, 3, none⟩ (.int .u64 T)).setCell ⟨r, 4, none⟩ (.int .u64 0)).setCell ⟨r, 5, none⟩ (.int .u64 0)).setCell ⟨r, 6, none⟩ (.int .u64 0)).setCell ⟨r, 7, none⟩ (.int .u64 0)).setCell ⟨r, 8, none⟩ (.bool xo)).setCell ⟨r, 9, none⟩ (.bool false)).setCell ⟨r, 10, none⟩ (.slice none 0 0)).setCell ⟨r, 11, none⟩ (.int .u64 0)).setCell ⟨r, 12, none⟩ (.int .u64 0)).setCell ⟨r, 13, none⟩ (.slice none 0 0)).setCell ⟨r, 14, none⟩ (.slice none 0 0)) := ⟨_, rfl⟩
  rw [← hY] at kS hgS
  have u0 := block_cell kS 0
  have u1 := block_cell kS 1
  have u2 := block_cell kS 2
  have u3 := block_cell kS 3
  have u4 := block_cell kS 4
  have u5 := block_cell kS 5
  have u6 := block_cell kS 6
  have u7 := block_cell kS 7
  have u8 := block_cell kS 8
  have u9 := block_cell kS 9
  have u10 := block_cell kS 10
  have u11 := block_cell kS 11
  have u12 := block_cell kS 12
  have u13 := block_cell kS 13
  have u14 := block_cell kS 14
  simp at u0 u1 u2 u3 u4 u5 u6 u7 u8 u9 u10 u11 u12 u13 u14
  go_wp2_with fail
  rw [← hY]
  have hfin : gFields (mI 4 F D T) s0 = ((⟨4, F, D, T, 0, 0, 0, 0, xo, false, none, 0, [], 0, 0, none, 0, [], none, 0, []⟩ : Mp).v, s3) := by simp [gFields, mI, Mp.v, sn0, ← Hs3.out]
  have hfin2 := hfin
  clear hfin
  refine bodyPost_ret (v := .agg #[.int .i64 4, .int .i64 F, .int .i64 D, .int .u64 T, .int .u64 0, .int .u64 0, .int .u64 0, .int .u64 0, .bool xo, .bool false, .slice none 0 0, .int .u64 0, .int .u64 0, .slice none 0 0, .slice none 0 0]) (by simp [results, Try.results79, go_sem, u0, u1, u2, u3, u4, u5, u6, u7, u8, u9, u10, u11, u12, u13, u14]) rfl ?_
  rw [hfin2]
  exact ⟨⟨4, F, D, T, 0, 0, 0, 0, xo, false, none, 0, [], 0, 0, none, 0, [], none, 0, []⟩, rfl, rfl, ⟨hm4.ens.grown hgS (elem?_of kr4) (by decide) (by decide), hm4.mem.grown hgS (elem?_of kr4) (by decide), hm4.dat.grown hgS (elem?_of kr4) (by decide)⟩, hr4.grown hgS (fun k e => by cases e; exact ⟨hrz, hrp⟩), KpF.new kk4 hgS hrw⟩
set_option maxRecDepth 100000 in
set_option maxHeartbeats 8000000 in
theorem fields_3 (F D T : Int) {W0 W : World} {p : Nat} {s0 : St} (hr : RdS 78 W0 W p s0) (hl : s0.1.length ≤ 70000000000000) :
    Calls Try.prog 79 #[.pointer (some ⟨p, 0, none⟩), .agg #[.int .i64 3, .int .i64 F, .int .i64 D, .int .u64 T, .int .u64 0, .int .u64 0, .int .u64 0, .int .u64 0, .bool false, .bool false, .slice none 0 0, .int .u64 0, .int .u64 0, .slice none 0 0, .slice none 0 0]] W (FldTold 78 W0 p (gFields (mI 3 F D T) s0) W) := by
  have hr0 := hr
  obtain ⟨q, hq⟩ : ∃ q, q = W.heap.size := ⟨_, rfl⟩
  obtain ⟨W1, hW1⟩ : ∃ W1, W1 = W.alloc (.cells #[.int .i64 3, .int .i64 F, .int .i64 D, .int .u64 T, .int .u64 0, .int .u64 0, .int .u64 0, .int .u64 0, .bool false, .bool false, .slice none 0 0, .int .u64 0, .int .u64 0, .slice none 0 0, .slice none 0 0] 52) := ⟨_, rfl⟩
  have hB1 : Below W.heap.size W W1 := by rw [hW1]; exact below_new _ _
  have e1 : W1.heap.size = W.heap.size + 1 := by rw [hW1]; exact World.size_alloc _ _
  have k1 : W1.heap[q]? = some (.cells #[.int .i64 3, .int .i64 F, .int .i64 D, .int .u64 T, .int .u64 0, .int .u64 0, .int .u64 0, .int .u64 0, .bool false, .bool false, .slice none 0 0, .int .u64 0, .int .u64 0, .slice none 0 0, .slice none 0 0] 52) := by rw [hW1, hq]; exact heap_alloc_new _ _
  obtain ⟨r, hrd⟩ : ∃ r, r = W.heap.size + 1 := ⟨_, rfl⟩
  obtain ⟨W2, hW2⟩ : ∃ W2, W2 = W1.alloc (.cells #[.int .i64 0, .int .i64 0, .int .i64 0, .int .u64 0, .int .u64 0, .int .u64 0, .int .u64 0, .int .u64 0, .bool false, .bool false, .slice none 0 0, .int .u64 0, .int .u64 0, .slice none 0 0, .slice none 0 0] 52) := ⟨_, rfl⟩
  have hB2 : Below W1.heap.size W1 W2 := by rw [hW2]; exact below_new _ _
  have kr : W2.heap[r]? = some (.cells #[.int .i64 0, .int .i64 0, .int .i64 0, .int .u64 0, .int .u64 0, .int .u64 0, .int .u64 0, .int .u64 0, .bool false, .bool false, .slice none 0 0, .int .u64 0, .int .u64 0, .slice none 0 0, .slice none 0 0] 52) := by rw [hW2, hrd, ← e1]; exact heap_alloc_new _ _
  have kq := (hB2.block q (Array.getElem?_eq_some_iff.1 k1).1).trans k1
  have hm : MsgA 52 W W2 q ⟨3, F, D, T, 0, 0, 0, 0, false, false, none, 0, [], 0, 0, none, 0, [], none, 0, []⟩ := ⟨kq, EnsO.nil _ _, IzT.nil _, ⟨Bs.nil _, fun b off s e => by cases e⟩⟩
  have hr := (hr0.below hB1).below hB2
  have hqz : W0.heap.size ≤ q := by rw [hq]; exact hr0.bel.size
  have hrz : W0.heap.size ≤ r := by rw [hrd]; have := hr0.bel.size; omega
  have hqp : q ≠ p := by have := hr0.lt; omega
  have hrp : r ≠ p := by have := hr0.lt; omega
  have hqr : q ≠ r := by omega
  have hqw : W.heap.size ≤ q := by omega
  have hrw : W.heap.size ≤ r := by omega
  have kk : KpF p W W2 := KpF.of_below (below_on hB1 hB2 (Nat.le_refl _))
  have hwz0 : W0.heap.size ≤ W.heap.size := hr0.bel.size
  have hqq : q = W.heap.size := hq
  go_enter Try.func79, Try.ntmps79
  go_upto_region 1 with fail
  rw [← hW1, ← hW2, ← hrd, ← hqq]
  clear hW1 hW2 hrd hq hqq e1 k1 kq hB1 hB2 hr0
  have c0 : W2.cell? ⟨q, 0, none⟩ = some (.int .i64 3) := block_cell hm.blk 0
  have zq : q < W2.heap.size := hm.lt
  obtain ⟨⟨xi, s3⟩, hs3⟩ : ∃ r, r = gN 576460752303423488 s0 := ⟨_, rfl⟩
  have hb3 : xi ≤ 576460752303423488 := by have := gN_le 576460752303423488 s0; rw [← hs3] at this; exact this
  have hl3 : s3.1.length ≤ 70000000000000 := by have := gN_len 576460752303423488 s0; rw [← hs3] at this; simp only at this; omega
  have hc := rds_refNum 576460752303423488 (by decide) hr
  rw [← hs3] at hc
  have Hc3 := Lib.hid hc
  have Hs3 := Lib.hid hs3
  clear hc hs3
  go_wp2_with fail
  refine Hc3.out.mono ?_
  rintro e W3 ⟨rfl, hr3, hg3⟩
  simp only at hr3 ⊢
  have hm3 := hm.grown hg3 hr.elem (by decide) (by decide) (by decide) (by decide)
  have kk3 := KpF.rd kk hg3
  have kr3 := (hg3.block r (Array.getElem?_eq_some_iff.1 kr).1 (by simp; omega)).trans kr
  clear hm hr kk kr hg3 Hc3
  clear c0 zq
  have c4 : W3.cell? ⟨q, 4, none⟩ = some (.int .u64 0) := block_cell hm3.blk 4
  have f4 : W3.frozen? ⟨q, 4, none⟩ = false := block_free hm3.blk 4
  have hgn := grown_set W3 q 4 (.int .u64 xi)
  have hm4 := hm3.put (by decide) (by decide) (by decide) 4 (.int .u64 xi) ⟨3, F, D, T, xi, 0, 0, 0, false, false, none, 0, [], 0, 0, none, 0, [], none, 0, []⟩ rfl rfl
  have hr4 := hr3.store (i := 4) hqz hqp (.int .u64 xi)
  have kk4 := KpF.new kk3 hgn hqw
  have kr4 := (hgn.block r (Array.getElem?_eq_some_iff.1 kr3).1 (by simp; omega)).trans kr3
  clear hm3 hr3 kk3 kr3 hgn
  go_upto_region 3 with fail
  obtain ⟨W4, hW4⟩ : ∃ W4, W4 = W3.setCell ⟨q, 4, none⟩ (.int .u64 xi) := ⟨_, rfl⟩
  rw [← hW4] at hm4 hr4 kk4 kr4 ⊢
  clear hW4
  clear c4 f4
  obtain ⟨⟨xl, s5⟩, hs5⟩ : ∃ r, r = gN 1152921504606846976 s3 := ⟨_, rfl⟩
  have hb5 : xl ≤ 1152921504606846976 := by have := gN_le 1152921504606846976 s3; rw [← hs5] at this; exact this
  have hl5 : s5.1.length ≤ 70000000000000 := by have := gN_len 1152921504606846976 s3; rw [← hs5] at this; simp only at this; omega
  have hc := rds_refNum 1152921504606846976 (by decide) hr4
  rw [← hs5] at hc
  have Hc5 := Lib.hid hc
  have Hs5 := Lib.hid hs5
  clear hc hs5
  go_wp2_with fail
  refine Hc5.out.mono ?_
  rintro e W5 ⟨rfl, hr5, hg5⟩
  simp only at hr5 ⊢
  have hm5 := hm4.grown hg5 hr4.elem (by decide) (by decide) (by decide) (by decide)
  have kk5 := KpF.rd kk4 hg5
  have kr5 := (hg5.block r (Array.getElem?_eq_some_iff.1 kr4).1 (by simp; omega)).trans kr4
  clear hm4 hr4 kk4 kr4 hg5 Hc5
  have c5 : W5.cell? ⟨q, 5, none⟩ = some (.int .u64 0) := block_cell hm5.blk 5
  have f5 : W5.frozen? ⟨q, 5, none⟩ = false := block_free hm5.blk 5
  have hgn := grown_set W5 q 5 (.int .u64 xl)
  have hm6 := hm5.put (by decide) (by decide) (by decide) 5 (.int .u64 xl) ⟨3, F, D, T, xi, xl, 0, 0, false, false, none, 0, [], 0, 0, none, 0, [], none, 0, []⟩ rfl rfl
  have hr6 := hr5.store (i := 5) hqz hqp (.int .u64 xl)
  have kk6 := KpF.new kk5 hgn hqw
  have kr6 := (hgn.block r (Array.getElem?_eq_some_iff.1 kr5).1 (by simp; omega)).trans kr5
  clear hm5 hr5 kk5 kr5 hgn
  go_upto_region 4 with fail
  obtain ⟨W6, hW6⟩ : ∃ W6, W6 = W5.setCell ⟨q, 5, none⟩ (.int .u64 xl) := ⟨_, rfl⟩
  rw [← hW6] at hm6 hr6 kk6 kr6 ⊢
  clear hW6
  clear c5 f5
  have c0 : W6.cell? ⟨q, 0, none⟩ = some (.int .i64 3) := block_cell hm6.blk 0
  have zq : q < W6.heap.size := hm6.lt
  obtain ⟨⟨xf, s7⟩, hs7⟩ : ∃ r, r = gF s5 := ⟨_, rfl⟩
  have hl7 : s7.1.length ≤ 70000000000000 := by have := gF_le s5; rw [← hs7] at this; simp only at this; omega
  have hc := rds_refFlag hr6
  rw [← hs7] at hc
  have Hc7 := Lib.hid hc
  have Hs7 := Lib.hid hs7
  clear hc hs7
  go_wp2_with fail
  refine Hc7.out.mono ?_
  rintro e W7 ⟨rfl, hr7, hg7⟩
  simp only at hr7 ⊢
  have hm7 := hm6.grown hg7 hr6.elem (by decide) (by decide) (by decide) (by decide)
  have kk7 := KpF.rd kk6 hg7
  have kr7 := (hg7.block r (Array.getElem?_eq_some_iff.1 kr6).1 (by simp; omega)).trans kr6
  clear hm6 hr6 kk6 kr6 hg7 Hc7
  clear c0 zq
  have c9 : W7.cell? ⟨q, 9, none⟩ = some (.bool false) := block_cell hm7.blk 9
  have f9 : W7.frozen? ⟨q, 9, none⟩ = false := block_free hm7.blk 9
  have hgn := grown_set W7 q 9 (.bool xf)
  have hm8 := hm7.put (by decide) (by decide) (by decide) 9 (.bool xf) ⟨3, F, D, T, xi, xl, 0, 0, false, xf, none, 0, [], 0, 0, none, 0, [], none, 0, []⟩ rfl rfl
  have hr8 := hr7.store (i := 9) hqz hqp (.bool xf)
  have kk8 := KpF.new kk7 hgn hqw
  have kr8 := (hgn.block r (Array.getElem?_eq_some_iff.1 kr7).1 (by simp; omega)).trans kr7
  clear hm7 hr7 kk7 kr7 hgn
  go_upto_region 32 with fail
  obtain ⟨W8, hW8⟩ : ∃ W8, W8 = W7.setCell ⟨q, 9, none⟩ (.bool xf) := ⟨_, rfl⟩
  rw [← hW8] at hm8 hr8 kk8 kr8 ⊢
  clear hW8
  clear c9 f9
  have p0 : W8.cell? ⟨q, 0, none⟩ = some (.int .i64 3) := block_cell hm8.blk 0
  have p1 : W8.cell? ⟨q, 1, none⟩ = some (.int .i64 F) := block_cell hm8.blk 1
  have p2 : W8.cell? ⟨q, 2, none⟩ = some (.int .i64 D) := block_cell hm8.blk 2
  have p3 : W8.cell? ⟨q, 3, none⟩ = some (.int .u64 T) := block_cell hm8.blk 3
  have p4 : W8.cell? ⟨q, 4, none⟩ = some (.int .u64 xi) := block_cell hm8.blk 4
  have p5 : W8.cell? ⟨q, 5, none⟩ = some (.int .u64 xl) := block_cell hm8.blk 5
  have p6 : W8.cell? ⟨q, 6, none⟩ = some (.int .u64 0) := block_cell hm8.blk 6
  have p7 : W8.cell? ⟨q, 7, none⟩ = some (.int .u64 0) := block_cell hm8.blk 7
  have p8 : W8.cell? ⟨q, 8, none⟩ = some (.bool false) := block_cell hm8.blk 8
  have p9 : W8.cell? ⟨q, 9, none⟩ = some (.bool xf) := block_cell hm8.blk 9
  have p10 : W8.cell? ⟨q, 10, none⟩ = some (.slice none 0 0) := block_cell hm8.blk 10
  have p11 : W8.cell? ⟨q, 11, none⟩ = some (.int .u64 0) := block_cell hm8.blk 11
  have p12 : W8.cell? ⟨q, 12, none⟩ = some (.int .u64 0) := block_cell hm8.blk 12
  have p13 : W8.cell? ⟨q, 13, none⟩ = some (.slice none 0 0) := block_cell hm8.blk 13
  have p14 : W8.cell? ⟨q, 14, none⟩ = some (.slice none 0 0) := block_cell hm8.blk 14
  have cR0 : W8.cell? ⟨r, 0, none⟩ = some (.int .i64 0) := block_cell kr8 0
  have zR0 := block_free kr8 0
  have cR1 : W8.cell? ⟨r, 1, none⟩ = some (.int .i64 0) := block_cell kr8 1
  have zR1 := block_free kr8 1
  have cR2 : W8.cell? ⟨r, 2, none⟩ = some (.int .i64 0) := block_cell kr8 2
  have zR2 := block_free kr8 2
  have cR3 : W8.cell? ⟨r, 3, none⟩ = some (.int .u64 0) := block_cell kr8 3
  have zR3 := block_free kr8 3
  have cR4 : W8.cell? ⟨r, 4, none⟩ = some (.int .u64 0) := block_cell kr8 4
  have zR4 := block_free kr8 4
  have cR5 : W8.cell? ⟨r, 5, none⟩ = some (.int .u64 0) := block_cell kr8 5
  have zR5 := block_free kr8 5
  have cR6 : W8.cell? ⟨r, 6, none⟩ = some (.int .u64 0) := block_cell kr8 6
  have zR6 := block_free kr8 6
  have cR7 : W8.cell? ⟨r, 7, none⟩ = some (.int .u64 0) := block_cell kr8 7
  have zR7 := block_free kr8 7
  have cR8 : W8.cell? ⟨r, 8, none⟩ = some (.bool false) := block_cell kr8 8
  have zR8 := block_free kr8 8
  have cR9 : W8.cell? ⟨r, 9, none⟩ = some (.bool false) := block_cell kr8 9
  have zR9 := block_free kr8 9
  have cR10 : W8.cell? ⟨r, 10, none⟩ = some (.slice none 0 0) := block_cell kr8 10
  have zR10 := block_free kr8 10
  have cR11 : W8.cell? ⟨r, 11, none⟩ = some (.int .u64 0) := block_cell kr8 11
  have zR11 := block_free kr8 11
  have cR12 : W8.cell? ⟨r, 12, none⟩ = some (.int .u64 0) := block_cell kr8 12
  have zR12 := block_free kr8 12
  have cR13 : W8.cell? ⟨r, 13, none⟩ = some (.slice none 0 0) := block_cell kr8 13
  have zR13 := block_free kr8 13
  have cR14 : W8.cell? ⟨r, 14, none⟩ = some (.slice none 0 0) := block_cell kr8 14
  have zR14 := block_free kr8 14
  have zR := (Array.getElem?_eq_some_iff.1 kr8).1
  obtain ⟨kS, hgS⟩ := set15 kr8 (.int .i64 3) (.int .i64 F) (.int .i64 D) (.int .u64 T) (.int .u64 xi) (.int .u64 xl) (.int .u64 0) (.int .u64 0) (.bool false) (.bool xf) (.slice none 0 0) (.int .u64 0) (.int .u64 0) (.slice none 0 0) (.slice none 0 0)
  obtain ⟨Y, hY⟩ : ∃ Y, Y = (((((((((((((((W8.setCell ⟨r, 0, none⟩ (.int .i64 3)).setCell ⟨r, 1, none⟩ (.int .i64 F)).setCell ⟨r, 2, none⟩ (.int .i64 D)).setCell ⟨r, 3, none⟩ (.int .u64 T)).setCell ⟨r, 4, none⟩ (.int .u64 xi)).setCell ⟨r, 5, none⟩ (.int .u64 xl)).setCell ⟨r, 6, none⟩ (.int .u64 0)).setCell ⟨r, 7, none⟩ (.int .u64 0)).setCell ⟨r, 8, none⟩ (.bool false)).setCell ⟨r, 9, none⟩ (.bool xf)).setCell ⟨r, 10, none⟩ (.slice none 0 0)).setCell ⟨r, 11, none⟩ (.int .u64 0)).setCell ⟨r, 12, none⟩ (.int .u64 0)).setCell ⟨r, 13, none⟩ (.slice none 0 0)).setCell ⟨r, 14, none⟩ (.slice none 0 0)) := ⟨_, rfl⟩
  rw [← hY] at kS hgS
  have u0 := block_cell kS 0
  have u1 := block_cell kS 1
  have u2 := block_cell kS 2
  have u3 := block_cell kS 3
  have u4 := block_cell kS 4
  have u5 := block_cell kS 5
  have u6 := block_cell kS 6
  have u7 := block_cell kS 7
  have u8 := block_cell kS 8
  have u9 := block_cell kS 9
  have u10 := block_cell kS 10
  have u11 := block_cell kS 11
  have u12 := block_cell kS 12
  have u13 := block_cell kS 13
  have u14 := block_cell kS 14
  simp at u0 u1 u2 u3 u4 u5 u6 u7 u8 u9 u10 u11 u12 u13 u14
  go_wp2_with fail
  rw [← hY]
  have hfin : gFields (mI 3 F D T) s0 = ((⟨3, F, D, T, xi, xl, 0, 0, false, xf, none, 0, [], 0, 0, none, 0, [], none, 0, []⟩ : Mp).v, s7) := by simp [gFields, mI, Mp.v, sn0, ← Hs3.out, ← Hs5.out, ← Hs7.out]
  have hfin2 := hfin
  clear hfin
  refine bodyPost_ret (v := .agg #[.int .i64 3, .int .i64 F, .int .i64 D, .int .u64 T, .int .u64 xi, .int .u64 xl, .int .u64 0, .int .u64 0, .bool false, .bool xf, .slice none 0 0, .int .u64 0, .int .u64 0, .slice none 0 0, .slice none 0 0]) (by simp [results, Try.results79, go_sem, u0, u1, u2, u3, u4, u5, u6, u7, u8, u9, u10, u11, u12, u13, u14]) rfl ?_
  rw [hfin2]
  exact ⟨⟨3, F, D, T, xi, xl, 0, 0, false, xf, none, 0, [], 0, 0, none, 0, [], none, 0, []⟩, rfl, rfl, ⟨hm8.ens.grown hgS (elem?_of kr8) (by decide) (by decide), hm8.mem.grown hgS (elem?_of kr8) (by decide), hm8.dat.grown hgS (elem?_of kr8) (by decide)⟩, hr8.grown hgS (fun k e => by cases e; exact ⟨hrz, hrp⟩), KpF.new kk8 hgS hrw⟩
set_option maxRecDepth 100000 in
set_option maxHeartbeats 8000000 in
theorem fields_6 (F D T : Int) {W0 W : World} {p : Nat} {s0 : St} (hr : RdS 78 W0 W p s0) (hl : s0.1.length ≤ 70000000000000) :
    Calls Try.prog 79 #[.pointer (some ⟨p, 0, none⟩), .agg #[.int .i64 6, .int .i64 F, .int .i64 D, .int .u64 T, .int .u64 0, .int .u64 0, .int .u64 0, .int .u64 0, .bool false, .bool false, .slice none 0 0, .int .u64 0, .int .u64 0, .slice none 0 0, .slice none 0 0]] W (FldTold 78 W0 p (gFields (mI 6 F D T) s0) W) := by
  have hr0 := hr
  obtain ⟨q, hq⟩ : ∃ q, q = W.heap.size := ⟨_, rfl⟩
  obtain ⟨W1, hW1⟩ : ∃ W1, W1 = W.alloc (.cells #[.int .i64 6, .int .i64 F, .int .i64 D, .int .u64 T, .int .u64 0, .int .u64 0, .int .u64 0, .int .u64 0, .bool false, .bool false, .slice none 0 0, .int .u64 0, .int .u64 0, .slice none 0 0, .slice none 0 0] 52) := ⟨_, rfl⟩
  have hB1 : Below W.heap.size W W1 := by rw [hW1]; exact below_new _ _
  have e1 : W1.heap.size = W.heap.size + 1 := by rw [hW1]; exact World.size_alloc _ _
  have k1 : W1.heap[q]? = some (.cells #[.int .i64 6, .int .i64 F, .int .i64 D, .int .u64 T, .int .u64 0, .int .u64 0, .int .u64 0, .int .u64 0, .bool false, .bool false, .slice none 0 0, .int .u64 0, .int .u64 0, .slice none 0 0, .slice none 0 0] 52) := by rw [hW1, hq]; exact heap_alloc_new _ _
  obtain ⟨r, hrd⟩ : ∃ r, r = W.heap.size + 1 := ⟨_, rfl⟩
  obtain ⟨W2, hW2⟩ : ∃ W2, W2 = W1.alloc (.cells #[.int .i64 0, .int .i64 0, .int .i64 0, .int .u64 0, .int .u64 0, .int .u64 0, .int .u64 0, .int .u64 0, .bool false, .bool false, .slice none 0 0, .int .u64 0, .int .u64 0, .slice none 0 0, .slice none 0 0] 52) := ⟨_, rfl⟩
  have hB2 : Below W1.heap.size W1 W2 := by rw [hW2]; exact below_new _ _
  have kr : W2.heap[r]? = some (.cells #[.int .i64 0, .int .i64 0, .int .i64 0, .int .u64 0, .int .u64 0, .int .u64 0, .int .u64 0, .int .u64 0, .bool false, .bool false, .slice none 0 0, .int .u64 0, .int .u64 0, .slice none 0 0, .slice none 0 0] 52) := by rw [hW2, hrd, ← e1]; exact heap_alloc_new _ _
  have kq := (hB2.block q (Array.getElem?_eq_some_iff.1 k1).1).trans k1
  have hm : MsgA 52 W W2 q ⟨6, F, D, T, 0, 0, 0, 0, false, false, none, 0, [], 0, 0, none, 0, [], none, 0, []⟩ := ⟨kq, EnsO.nil _ _, IzT.nil _, ⟨Bs.nil _, fun b off s e => by cases e⟩⟩
  have hr := (hr0.below hB1).below hB2
  have hqz : W0.heap.size ≤ q := by rw [hq]; exact hr0.bel.size
  have hrz : W0.heap.size ≤ r := by rw [hrd]; have := hr0.bel.size; omega
  have hqp : q ≠ p := by have := hr0.lt; omega
  have hrp : r ≠ p := by have := hr0.lt; omega
  have hqr : q ≠ r := by omega
  have hqw : W.heap.size ≤ q := by omega
  have hrw : W.heap.size ≤ r := by omega
  have kk : KpF p W W2 := KpF.of_below (below_on hB1 hB2 (Nat.le_refl _))
  have hwz0 : W0.heap.size ≤ W.heap.size := hr0.bel.size
  have hqq : q = W.heap.size := hq
  go_enter Try.func79, Try.ntmps79
  go_upto_region 1 with fail
  rw [← hW1, ← hW2, ← hrd, ← hqq]
  clear hW1 hW2 hrd hq hqq e1 k1 kq hB1 hB2 hr0
  have c0 : W2.cell? ⟨q, 0, none⟩ = some (.int .i64 6) := block_cell hm.blk 0
  have zq : q < W2.heap.size := hm.lt
  obtain ⟨⟨xo, s3⟩, hs3⟩ : ∃ r, r = gF s0 := ⟨_, rfl⟩
  have hl3 : s3.1.length ≤ 70000000000000 := by have := gF_le s0; rw [← hs3] at this; simp only at this; omega
  have hc := rds_refFlag hr
  rw [← hs3] at hc
  have Hc3 := Lib.hid hc
  have Hs3 := Lib.hid hs3
  clear hc hs3
  go_wp2_with fail
  refine Hc3.out.mono ?_
  rintro e W3 ⟨rfl, hr3, hg3⟩
  simp only at hr3 ⊢
  have hm3 := hm.grown hg3 hr.elem (by decide) (by decide) (by decide) (by decide)
  have kk3 := KpF.rd kk hg3
  have kr3 := (hg3.block r (Array.getElem?_eq_some_iff.1 kr).1 (by simp; omega)).trans kr
  clear hm hr kk kr hg3 Hc3
  clear c0 zq
  have c8 : W3.cell? ⟨q, 8, none⟩ = some (.bool false) := block_cell hm3.blk 8
  have f8 : W3.frozen? ⟨q, 8, none⟩ = false := block_free hm3.blk 8
  have hgn := grown_set W3 q 8 (.bool xo)
  have hm4 := hm3.put (by decide) (by decide) (by decide) 8 (.bool xo) ⟨6, F, D, T, 0, 0, 0, 0, xo, false, none, 0, [], 0, 0, none, 0, [], none, 0, []⟩ rfl rfl
  have hr4 := hr3.store (i := 8) hqz hqp (.bool xo)
  have kk4 := KpF.new kk3 hgn hqw
  have kr4 := (hgn.block r (Array.getElem?_eq_some_iff.1 kr3).1 (by simp; omega)).trans kr3
  clear hm3 hr3 kk3 kr3 hgn
  go_upto_region 24 with fail
  obtain ⟨W4, hW4⟩ : ∃ W4, W4 = W3.setCell ⟨q, 8, none⟩ (.bool xo) := ⟨_, rfl⟩
  rw [← hW4] at hm4 hr4 kk4 kr4 ⊢
  clear hW4
  clear c8 f8
  obtain ⟨⟨xi, s5⟩, hs5⟩ : ∃ r, r = gN 576460752303423488 s3 := ⟨_, rfl⟩
  have hb5 : xi ≤ 576460752303423488 := by have := gN_le 576460752303423488 s3; rw [← hs5] at this; exact this
  have hl5 : s5.1.length ≤ 70000000000000 := by have := gN_len 576460752303423488 s3; rw [← hs5] at this; simp only at this; omega
  have hc := rds_refNum 576460752303423488 (by decide) hr4
  rw [← hs5] at hc
  have Hc5 := Lib.hid hc
  have Hs5 := Lib.hid hs5
  clear hc hs5
  go_wp2_with fail
  refine Hc5.out.mono ?_
  rintro e W5 ⟨rfl, hr5, hg5⟩
  simp only at hr5 ⊢
  have hm5 := hm4.grown hg5 hr4.elem (by decide) (by decide) (by decide) (by decide)
  have kk5 := KpF.rd kk4 hg5
  have kr5 := (hg5.block r (Array.getElem?_eq_some_iff.1 kr4).1 (by simp; omega)).trans kr4
  clear hm4 hr4 kk4 kr4 hg5 Hc5
  have c4 : W5.cell? ⟨q, 4, none⟩ = some (.int .u64 0) := block_cell hm5.blk 4
  have f4 : W5.frozen? ⟨q, 4, none⟩ = false := block_free hm5.blk 4
  have hgn := grown_set W5 q 4 (.int .u64 xi)
  have hm6 := hm5.put (by decide) (by decide) (by decide) 4 (.int .u64 xi) ⟨6, F, D, T, xi, 0, 0, 0, xo, false, none, 0, [], 0, 0, none, 0, [], none, 0, []⟩ rfl rfl
  have hr6 := hr5.store (i := 4) hqz hqp (.int .u64 xi)
  have kk6 := KpF.new kk5 hgn hqw
  have kr6 := (hgn.block r (Array.getElem?_eq_some_iff.1 kr5).1 (by simp; omega)).trans kr5
  clear hm5 hr5 kk5 kr5 hgn
  go_upto_region 25 with fail
  obtain ⟨W6, hW6⟩ : ∃ W6, W6 = W5.setCell ⟨q, 4, none⟩ (.int .u64 xi) := ⟨_, rfl⟩
  rw [← hW6] at hm6 hr6 kk6 kr6 ⊢
  clear hW6
  clear c4 f4
  obtain ⟨⟨xr, s7⟩, hs7⟩ : ∃ r, r = gN 1152921504606846976 s5 := ⟨_, rfl⟩
  have hb7 : xr ≤ 1152921504606846976 := by have := gN_le 1152921504606846976 s5; rw [← hs7] at this; exact this
  have hl7 : s7.1.length ≤ 70000000000000 := by have := gN_len 1152921504606846976 s5; rw [← hs7] at this; simp only at this; omega
  have hc := rds_refNum 1152921504606846976 (by decide) hr6
  rw [← hs7] at hc
  have Hc7 := Lib.hid hc
  have Hs7 := Lib.hid hs7
  clear hc hs7
  go_wp2_with fail
  refine Hc7.out.mono ?_
  rintro e W7 ⟨rfl, hr7, hg7⟩
  simp only at hr7 ⊢
  have hm7 := hm6.grown hg7 hr6.elem (by decide) (by decide) (by decide) (by decide)
  have kk7 := KpF.rd kk6 hg7
  have kr7 := (hg7.block r (Array.getElem?_eq_some_iff.1 kr6).1 (by simp; omega)).trans kr6
  clear hm6 hr6 kk6 kr6 hg7 Hc7
  have c7 : W7.cell? ⟨q, 7, none⟩ = some (.int .u64 0) := block_cell hm7.blk 7
  have f7 : W7.frozen? ⟨q, 7, none⟩ = false := block_free hm7.blk 7
  have hgn := grown_set W7 q 7 (.int .u64 xr)
  have hm8 := hm7.put (by decide) (by decide) (by decide) 7 (.int .u64 xr) ⟨6, F, D, T, xi, 0, 0, xr, xo, false, none, 0, [], 0, 0, none, 0, [], none, 0, []⟩ rfl rfl
  have hr8 := hr7.store (i := 7) hqz hqp (.int .u64 xr)
  have kk8 := KpF.new kk7 hgn hqw
  have kr8 := (hgn.block r (Array.getElem?_eq_some_iff.1 kr7).1 (by simp; omega)).trans kr7
  clear hm7 hr7 kk7 kr7 hgn
  go_upto_region 32 with fail
  obtain ⟨W8, hW8⟩ : ∃ W8, W8 = W7.setCell ⟨q, 7, none⟩ (.int .u64 xr) := ⟨_, rfl⟩
  rw [← hW8] at hm8 hr8 kk8 kr8 ⊢
  clear hW8
  clear c7 f7
  have p0 : W8.cell? ⟨q, 0, none⟩ = some (.int .i64 6) := block_cell hm8.blk 0
  have p1 : W8.cell? ⟨q, 1, none⟩ = some (.int .i64 F) := block_cell hm8.blk 1
  have p2 : W8.cell? ⟨q, 2, none⟩ = some (.int .i64 D) := block_cell hm8.blk 2
  have p3 : W8.cell? ⟨q, 3, none⟩ = some (.int .u64 T) := block_cell hm8.blk 3
  have p4 : W8.cell? ⟨q, 4, none⟩ = some (.int .u64 xi) := block_cell hm8.blk 4
  have p5 : W8.cell? ⟨q, 5, none⟩ = some (.int .u64 0) := block_cell hm8.blk 5
  have p6 : W8.cell? ⟨q, 6, none⟩ = some (.int .u64 0) := block_cell hm8.blk 6
  have p7 : W8.cell? ⟨q, 7, none⟩ = some (.int .u64 xr) := block_cell hm8.blk 7
  have p8 : W8.cell? ⟨q, 8, none⟩ = some (.bool xo) := block_cell hm8.blk 8
  have p9 : W8.cell? ⟨q, 9, none⟩ = some (.bool false) := block_cell hm8.blk 9
  have p10 : W8.cell? ⟨q, 10, none⟩ = some (.slice none 0 0) := block_cell hm8.blk 10
  have p11 : W8.cell? ⟨q, 11, none⟩ = some (.int .u64 0) := block_cell hm8.blk 11
  have p12 : W8.cell? ⟨q, 12, none⟩ = some (.int .u64 0) := block_cell hm8.blk 12
  have p13 : W8.cell? ⟨q, 13, none⟩ = some (.slice none 0 0) := block_cell hm8.blk 13
  have p14 : W8.cell? ⟨q, 14, none⟩ = some (.slice none 0 0) := block_cell hm8.blk 14
  have cR0 : W8.cell? ⟨r, 0, none⟩ = some (.int .i64 0) := block_cell kr8 0
  have zR0 := block_free kr8 0
  have cR1 : W8.cell? ⟨r, 1, none⟩ = some (.int .i64 0) := block_cell kr8 1
  have zR1 := block_free kr8 1
  have cR2 : W8.cell? ⟨r, 2, none⟩ = some (.int .i64 0) := block_cell kr8 2
  have zR2 := block_free kr8 2
  have cR3 : W8.cell? ⟨r, 3, none⟩ = some (.int .u64 0) := block_cell kr8 3
  have zR3 := block_free kr8 3
  have cR4 : W8.cell? ⟨r, 4, none⟩ = some (.int .u64 0) := block_cell kr8 4
  have zR4 := block_free kr8 4
  have cR5 : W8.cell? ⟨r, 5, none⟩ = some (.int .u64 0) := block_cell kr8 5
  have zR5 := block_free kr8 5
  have cR6 : W8.cell? ⟨r, 6, none⟩ = some (.int .u64 0) := block_cell kr8 6
  have zR6 := block_free kr8 6
  have cR7 : W8.cell? ⟨r, 7, none⟩ = some (.int .u64 0) := block_cell kr8 7
  have zR7 := block_free kr8 7
  have cR8 : W8.cell? ⟨r, 8, none⟩ = some (.bool false) := block_cell kr8 8
  have zR8 := block_free kr8 8
  have cR9 : W8.cell? ⟨r, 9, none⟩ = some (.bool false) := block_cell kr8 9
  have zR9 := block_free kr8 9
  have cR10 : W8.cell? ⟨r, 10, none⟩ = some (.slice none 0 0) := block_cell kr8 10
  have zR10 := block_free kr8 10
  have cR11 : W8.cell? ⟨r, 11, none⟩ = some (.int .u64 0) := block_cell kr8 11
  have zR11 := block_free kr8 11
  have cR12 : W8.cell? ⟨r, 12, none⟩ = some (.int .u64 0) := block_cell kr8 12
  have zR12 := block_free kr8 12
  have cR13 : W8.cell? ⟨r, 13, none⟩ = some (.slice none 0 0) := block_cell kr8 13
  have zR13 := block_free kr8 13
  have cR14 : W8.cell? ⟨r, 14, none⟩ = some (.slice none 0 0) := block_cell kr8 14
  have zR14 := block_free kr8 14
  have zR := (Array.getElem?_eq_some_iff.1 kr8).1
  obtain ⟨kS, hgS⟩ := set15 kr8 (.int .i64 6) (.int .i64 F) (.int .i64 D) (.int .u64 T) (.int .u64 xi) (.int .u64 0) (.int .u64 0) (.int .u64 xr) (.bool xo) (.bool false) (.slice none 0 0) (.int .u64 0) (.int .u64 0) (.slice none 0 0) (.slice none 0 0)
  obtain ⟨Y, hY⟩ : ∃ Y, Y = (((((((((((((((W8.setCell ⟨r, 0, none⟩ (.int .i64 6)).setCell ⟨r, 1, none⟩ (.int .i64 F)).setCell ⟨r, 2, none⟩ (.int .i64 D)).setCell ⟨r, 3, none⟩ (.int .u64 T)).setCell ⟨r, 4, none⟩ (.int .u64 xi)).setCell ⟨r, 5, none⟩ (.int .u64 0)).setCell ⟨r, 6, none⟩ (.int .u64 0)).setCell ⟨r, 7, none⟩ (.int .u64 xr)).setCell ⟨r, 8, none⟩ (.bool xo)).setCell ⟨r, 9, none⟩ (.bool false)).setCell ⟨r, 10, none⟩ (.slice none 0 0)).setCell ⟨r, 11, none⟩ (.int .u64 0)).setCell ⟨r, 12, none⟩ (.int .u64 0)).setCell ⟨r, 13, none⟩ (.slice none 0 0)).setCell ⟨r, 14, none⟩ (.slice none 0 0)) := ⟨_, rfl⟩
  rw [← hY] at kS hgS
  have u0 := block_cell kS 0
  have u1 := block_cell kS 1
  have u2 := block_cell kS 2
  have u3 := block_cell kS 3
  have u4 := block_cell kS 4
  have u5 := block_cell kS 5
  have u6 := block_cell kS 6
  have u7 := block_cell kS 7
  have u8 := block_cell kS 8
  have u9 := block_cell kS 9
  have u10 := block_cell kS 10
  have u11 := block_cell kS 11
  have u12 := block_cell kS 12
  have u13 := block_cell kS 13
  have u14 := block_cell kS 14
  simp at u0 u1 u2 u3 u4 u5 u6 u7 u8 u9 u10 u11 u12 u13 u14
  go_wp2_with fail
  rw [← hY]
  have hfin : gFields (mI 6 F D T) s0 = ((⟨6, F, D, T, xi, 0, 0, xr, xo, false, none, 0, [], 0, 0, none, 0, [], none, 0, []⟩ : Mp).v, s7) := by simp [gFields, mI, Mp.v, sn0, ← Hs3.out, ← Hs5.out, ← Hs7.out]
  have hfin2 := hfin
  clear hfin
  refine bodyPost_ret (v := .agg #[.int .i64 6, .int .i64 F, .int .i64 D, .int .u64 T, .int .u64 xi, .int .u64 0, .int .u64 0, .int .u64 xr, .bool xo, .bool false, .slice none 0 0, .int .u64 0, .int .u64 0, .slice none 0 0, .slice none 0 0]) (by simp [results, Try.results79, go_sem, u0, u1, u2, u3, u4, u5, u6, u7, u8, u9, u10, u11, u12, u13, u14]) rfl ?_
  rw [hfin2]
  exact ⟨⟨6, F, D, T, xi, 0, 0, xr, xo, false, none, 0, [], 0, 0, none, 0, [], none, 0, []⟩, rfl, rfl, ⟨hm8.ens.grown hgS (elem?_of kr8) (by decide) (by decide), hm8.mem.grown hgS (elem?_of kr8) (by decide), hm8.dat.grown hgS (elem?_of kr8) (by decide)⟩, hr8.grown hgS (fun k e => by cases e; exact ⟨hrz, hrp⟩), KpF.new kk8 hgS hrw⟩
set_option maxRecDepth 100000 in
set_option maxHeartbeats 8000000 in
theorem fields_o (K : Int) (F D T : Int) {W0 W : World} {p : Nat} {s0 : St} (hr : RdS 78 W0 W p s0) (hl : s0.1.length ≤ 70000000000000) (n1 : K ≠ 1) (n2 : K ≠ 2) (n3 : K ≠ 3) (n4 : K ≠ 4) (n5 : K ≠ 5) (n6 : K ≠ 6) (n7 : K ≠ 7) :
    Calls Try.prog 79 #[.pointer (some ⟨p, 0, none⟩), .agg #[.int .i64 K, .int .i64 F, .int .i64 D, .int .u64 T, .int .u64 0, .int .u64 0, .int .u64 0, .int .u64 0, .bool false, .bool false, .slice none 0 0, .int .u64 0, .int .u64 0, .slice none 0 0, .slice none 0 0]] W (FldTold 78 W0 p (gFields (mI K F D T) s0) W) := by
  have hr0 := hr
  obtain ⟨q, hq⟩ : ∃ q, q = W.heap.size := ⟨_, rfl⟩
  obtain ⟨W1, hW1⟩ : ∃ W1, W1 = W.alloc (.cells #[.int .i64 K, .int .i64 F, .int .i64 D, .int .u64 T, .int .u64 0, .int .u64 0, .int .u64 0, .int .u64 0, .bool false, .bool false, .slice none 0 0, .int .u64 0, .int .u64 0, .slice none 0 0, .slice none 0 0] 52) := ⟨_, rfl⟩
  have hB1 : Below W.heap.size W W1 := by rw [hW1]; exact below_new _ _
  have e1 : W1.heap.size = W.heap.size + 1 := by rw [hW1]; exact World.size_alloc _ _
  have k1 : W1.heap[q]? = some (.cells #[.int .i64 K, .int .i64 F, .int .i64 D, .int .u64 T, .int .u64 0, .int .u64 0, .int .u64 0, .int .u64 0, .bool false, .bool false, .slice none 0 0, .int .u64 0, .int .u64 0, .slice none 0 0, .slice none 0 0] 52) := by rw [hW1, hq]; exact heap_alloc_new _ _
  obtain ⟨r, hrd⟩ : ∃ r, r = W.heap.size + 1 := ⟨_, rfl⟩
  obtain ⟨W2, hW2⟩ : ∃ W2, W2 = W1.alloc (.cells #[.int .i64 0, .int .i64 0, .int .i64 0, .int .u64 0, .int .u64 0, .int .u64 0, .int .u64 0, .int .u64 0, .bool false, .bool false, .slice none 0 0, .int .u64 0, .int .u64 0, .slice none 0 0, .slice none 0 0] 52) := ⟨_, rfl⟩
  have hB2 : Below W1.heap.size W1 W2 := by rw [hW2]; exact below_new _ _
  have kr : W2.heap[r]? = some (.cells #[.int .i64 0, .int .i64 0, .int .i64 0, .int .u64 0, .int .u64 0, .int .u64 0, .int .u64 0, .int .u64 0, .bool false, .bool false, .slice none 0 0, .int .u64 0, .int .u64 0, .slice none 0 0, .slice none 0 0] 52) := by rw [hW2, hrd, ← e1]; exact heap_alloc_new _ _
  have kq := (hB2.block q (Array.getElem?_eq_some_iff.1 k1).1).trans k1
  have hm : MsgA 52 W W2 q ⟨K, F, D, T, 0, 0, 0, 0, false, false, none, 0, [], 0, 0, none, 0, [], none, 0, []⟩ := ⟨kq, EnsO.nil _ _, IzT.nil _, ⟨Bs.nil _, fun b off s e => by cases e⟩⟩
  have hr := (hr0.below hB1).below hB2
  have hqz : W0.heap.size ≤ q := by rw [hq]; exact hr0.bel.size
  have hrz : W0.heap.size ≤ r := by rw [hrd]; have := hr0.bel.size; omega
  have hqp : q ≠ p := by have := hr0.lt; omega
  have hrp : r ≠ p := by have := hr0.lt; omega
  have hqr : q ≠ r := by omega
  have hqw : W.heap.size ≤ q := by omega
  have hrw : W.heap.size ≤ r := by omega
  have kk : KpF p W W2 := KpF.of_below (below_on hB1 hB2 (Nat.le_refl _))
  have hwz0 : W0.heap.size ≤ W.heap.size := hr0.bel.size
  have hqq : q = W.heap.size := hq
  go_enter Try.func79, Try.ntmps79
  go_upto_region 1 with fail
  rw [← hW1, ← hW2, ← hrd, ← hqq]
  clear hW1 hW2 hrd hq hqq e1 k1 kq hB1 hB2 hr0
  have c0 : W2.cell? ⟨q, 0, none⟩ = some (.int .i64 K) := block_cell hm.blk 0
  have zq : q < W2.heap.size := hm.lt
  have e1 : (K == 1) = false := by simpa using n1
  have e2 : (K == 2) = false := by simpa using n2
  have e3 : (K == 3) = false := by simpa using n3
  have e4 : (K == 4) = false := by simpa using n4
  have e5 : (K == 5) = false := by simpa using n5
  have e6 : (K == 6) = false := by simpa using n6
  have e7 : (K == 7) = false := by simpa using n7
  have hfo : gFields (mI K F D T) s0 = (mI K F D T, s0) := by simp [gFields, mI, n1, n2, n3, n4, n5, n6, n7]
  have Hfo := Lib.hid hfo
  clear n1 n2 n3 n4 n5 n6 n7 hfo
  go_upto_region 32 with fail
  clear c0 zq
  have p0 : W2.cell? ⟨q, 0, none⟩ = some (.int .i64 K) := block_cell hm.blk 0
  have p1 : W2.cell? ⟨q, 1, none⟩ = some (.int .i64 F) := block_cell hm.blk 1
  have p2 : W2.cell? ⟨q, 2, none⟩ = some (.int .i64 D) := block_cell hm.blk 2
  have p3 : W2.cell? ⟨q, 3, none⟩ = some (.int .u64 T) := block_cell hm.blk 3
  have p4 : W2.cell? ⟨q, 4, none⟩ = some (.int .u64 0) := block_cell hm.blk 4
  have p5 : W2.cell? ⟨q, 5, none⟩ = some (.int .u64 0) := block_cell hm.blk 5
  have p6 : W2.cell? ⟨q, 6, none⟩ = some (.int .u64 0) := block_cell hm.blk 6
  have p7 : W2.cell? ⟨q, 7, none⟩ = some (.int .u64 0) := block_cell hm.blk 7
  have p8 : W2.cell? ⟨q, 8, none⟩ = some (.bool false) := block_cell hm.blk 8
  have p9 : W2.cell? ⟨q, 9, none⟩ = some (.bool false) := block_cell hm.blk 9
  have p10 : W2.cell? ⟨q, 10, none⟩ = some (.slice none 0 0) := block_cell hm.blk 10
  have p11 : W2.cell? ⟨q, 11, none⟩ = some (.int .u64 0) := block_cell hm.blk 11
  have p12 : W2.cell? ⟨q, 12, none⟩ = some (.int .u64 0) := block_cell hm.blk 12
  have p13 : W2.cell? ⟨q, 13, none⟩ = some (.slice none 0 0) := block_cell hm.blk 13
  have p14 : W2.cell? ⟨q, 14, none⟩ = some (.slice none 0 0) := block_cell hm.blk 14
  have cR0 : W2.cell? ⟨r, 0, none⟩ = some (.int .i64 0) := block_cell kr 0
  have zR0 := block_free kr 0
  have cR1 : W2.cell? ⟨r, 1, none⟩ = some (.int .i64 0) := block_cell kr 1
  have zR1 := block_free kr 1
  have cR2 : W2.cell? ⟨r, 2, none⟩ = some (.int .i64 0) := block_cell kr 2
  have zR2 := block_free kr 2
  have cR3 : W2.cell? ⟨r, 3, none⟩ = some (.int .u64 0) := block_cell kr 3
  have zR3 := block_free kr 3
  have cR4 : W2.cell? ⟨r, 4, none⟩ = some (.int .u64 0) := block_cell kr 4
  have zR4 := block_free kr 4
  have cR5 : W2.cell? ⟨r, 5, none⟩ = some (.int .u64 0) := block_cell kr 5
  have zR5 := block_free kr 5
  have cR6 : W2.cell? ⟨r, 6, none⟩ = some (.int .u64 0) := block_cell kr 6
  have zR6 := block_free kr 6
  have cR7 : W2.cell? ⟨r, 7, none⟩ = some (.int .u64 0) := block_cell kr 7
  have zR7 := block_free kr 7
  have cR8 : W2.cell? ⟨r, 8, none⟩ = some (.bool false) := block_cell kr 8
  have zR8 := block_free kr 8
  have cR9 : W2.cell? ⟨r, 9, none⟩ = some (.bool false) := block_cell kr 9
  have zR9 := block_free kr 9
  have cR10 : W2.cell? ⟨r, 10, none⟩ = some (.slice none 0 0) := block_cell kr 10
  have zR10 := block_free kr 10
  have cR11 : W2.cell? ⟨r, 11, none⟩ = some (.int .u64 0) := block_cell kr 11
  have zR11 := block_free kr 11
  have cR12 : W2.cell? ⟨r, 12, none⟩ = some (.int .u64 0) := block_cell kr 12
  have zR12 := block_free kr 12
  have cR13 : W2.cell? ⟨r, 13, none⟩ = some (.slice none 0 0) := block_cell kr 13
  have zR13 := block_free kr 13
  have cR14 : W2.cell? ⟨r, 14, none⟩ = some (.slice none 0 0) := block_cell kr 14
  have zR14 := block_free kr 14
  have zR := (Array.getElem?_eq_some_iff.1 kr).1
  obtain ⟨kS, hgS⟩ := set15 kr (.int .i64 K) (.int .i64 F) (.int .i64 D) (.int .u64 T) (.int .u64 0) (.int .u64 0) (.int .u64 0) (.int .u64 0) (.bool false) (.bool false) (.slice none 0 0) (.int .u64 0) (.int .u64 0) (.slice none 0 0) (.slice none 0 0)
  obtain ⟨Y, hY⟩ : ∃ Y, Y = (((((((((((((((W2.setCell ⟨r, 0, none⟩ (.int .i64 K)).setCell ⟨r, 1, none⟩ (.int .i64 F)).setCell ⟨r, 2, none⟩ (.int .i64 D)).setCell ⟨r, 3, none⟩ (.int .u64 T)).setCell ⟨r, 4, none⟩ (.int .u64 0)).setCell ⟨r, 5, none⟩ (.int .u64 0)).setCell ⟨r, 6, none⟩ (.int .u64 0)).setCell ⟨r, 7, none⟩ (.int .u64 0)).setCell ⟨r, 8, none⟩ (.bool false)).setCell ⟨r, 9, none⟩ (.bool false)).setCell ⟨r, 10, none⟩ (.slice none 0 0)).setCell ⟨r, 11, none⟩ (.int .u64 0)).setCell ⟨r, 12, none⟩ (.int .u64 0)).setCell ⟨r, 13, none⟩ (.slice none 0 0)).setCell ⟨r, 14, none⟩ (.slice none 0 0)) := ⟨_, rfl⟩
  rw [← hY] at kS hgS
  have u0 := block_cell kS 0
  have u1 := block_cell kS 1
  have u2 := block_cell kS 2
  have u3 := block_cell kS 3
  have u4 := block_cell kS 4
  have u5 := block_cell kS 5
  have u6 := block_cell kS 6
  have u7 := block_cell kS 7
  have u8 := block_cell kS 8
  have u9 := block_cell kS 9
  have u10 := block_cell kS 10
  have u11 := block_cell kS 11
  have u12 := block_cell kS 12
  have u13 := block_cell kS 13
  have u14 := block_cell kS 14
  simp at u0 u1 u2 u3 u4 u5 u6 u7 u8 u9 u10 u11 u12 u13 u14
  go_wp2_with fail
  rw [← hY]
  have hfin : gFields (mI K F D T) s0 = ((⟨K, F, D, T, 0, 0, 0, 0, false, false, none, 0, [], 0, 0, none, 0, [], none, 0, []⟩ : Mp).v, s0) := Hfo.out
  have hfin2 := hfin
  clear hfin
  refine bodyPost_ret (v := .agg #[.int .i64 K, .int .i64 F, .int .i64 D, .int .u64 T, .int .u64 0, .int .u64 0, .int .u64 0, .int .u64 0, .bool false, .bool false, .slice none 0 0, .int .u64 0, .int .u64 0, .slice none 0 0, .slice none 0 0]) (by simp [results, Try.results79, go_sem, u0, u1, u2, u3, u4, u5, u6, u7, u8, u9, u10, u11, u12, u13, u14]) rfl ?_
  rw [hfin2]
  exact ⟨⟨K, F, D, T, 0, 0, 0, 0, false, false, none, 0, [], 0, 0, none, 0, [], none, 0, []⟩, rfl, rfl, ⟨hm.ens.grown hgS (elem?_of kr) (by decide) (by decide), hm.mem.grown hgS (elem?_of kr) (by decide), hm.dat.grown hgS (elem?_of kr) (by decide)⟩, hr.grown hgS (fun k e => by cases e; exact ⟨hrz, hrp⟩), KpF.new kk hgS hrw⟩
end Go.Proofs.Ytlphpjgiaflfkaa
