/- Lemmas for WireReads (WireReads). No statement of the seat is proved here. -/
import Derived.Test.YtlphpjgiaflfkaaWv21
import Derived.Test.YtlphpjgiaflfkaaWv31
import Derived.Test.YtlphpjgiaflfkaaWv34
namespace Go.Proofs.Ytlphpjgiaflfkaa
set_option linter.unusedVariables false
set_option linter.unusedSimpArgs false
set_option linter.unusedSectionVars false
open Go Go.RowKit Go.Shelf
set_option maxRecDepth 100000 in
set_option maxHeartbeats 16000000 in
theorem wireReads_true (ao : Option Addr) (cap : Nat) (l : List UInt8) (w : World) (hb : Bs w ao cap l) (hl : l.length ≤ 80000) (hres : (wireR 6 l).2 = true) :
    Calls Try.prog 9 #[.slice ao l.length cap] w fun e w' => e = .returned (.bool true) ∧ Below w.heap.size w w' := by
  have hrd := fun W hW => wireRead_any ao cap l W hW (by omega)
  have hrr := fun W hW => refMsgRead_any ao cap l W hW (by omega)
  have hn := wireR_nat 6 l
  obtain ⟨hs1, hs2⟩ := wireR_small 6 l
  have hinv := wireR_inv 6 l hres
  obtain ⟨⟨M, r⟩, hR⟩ : ∃ R, R = wireR 6 l := ⟨_, rfl⟩
  rw [← hR] at hrd hrr hn hs1 hs2 hinv hres
  simp only at hn hs1 hs2 hinv hres
  subst hres
  have Hrd := Lib.hid hrd
  have Hrr := Lib.hid hrr
  have Hinv := Lib.hid hinv
  clear hR hrd hrr hinv
  go_enter Try.func9, Try.ntmps9
  go_wp2_with fail
  refine (Hrd.out _ hb).mono ?_
  rintro e V1 ⟨x, rfl, hxv, hx, hB1⟩
  simp only at hxv ⊢
  obtain ⟨xl1, xl2⟩ := same_lens hxv hs1 hs2
  have hxn : MsgOk x := by have h := hn; rw [← hxv] at h; exact h
  obtain ⟨kind1, frm1, dst1, term1, index1, logTerm1, commit1, round1, ok1, force1, eo1, ec1, el1, si1, st1, mo1, mc1, ml1, ao1, ac1, d1⟩ := x
  dsimp only [mpA] at *
  obtain ⟨q1, hq1⟩ : ∃ q, q = V1.heap.size := ⟨_, rfl⟩
  obtain ⟨W1, hW1⟩ : ∃ W, W = V1.alloc (.cells #[.int .i64 kind1, .int .i64 frm1, .int .i64 dst1, .int .u64 term1, .int .u64 index1, .int .u64 logTerm1, .int .u64 commit1, .int .u64 round1, .bool ok1, .bool force1, .slice eo1 el1.length ec1, .int .u64 si1, .int .u64 st1, .slice mo1 ml1.length mc1, .slice ao1 d1.length ac1] 49) := ⟨_, rfl⟩
  have hC1 : Below V1.heap.size V1 W1 := by rw [hW1]; exact below_new _ _
  have k1 : W1.heap[q1]? = some (.cells #[.int .i64 kind1, .int .i64 frm1, .int .i64 dst1, .int .u64 term1, .int .u64 index1, .int .u64 logTerm1, .int .u64 commit1, .int .u64 round1, .bool ok1, .bool force1, .slice eo1 el1.length ec1, .int .u64 si1, .int .u64 st1, .slice mo1 ml1.length mc1, .slice ao1 d1.length ac1] 49 (0, 0)) := by rw [hW1, hq1]; exact heap_alloc_new _ _
  have hBw1 := below_on hB1 hC1 (Nat.le_refl _)
  have z1 := (Array.getElem?_eq_some_iff.1 k1).1
  have hx1 := hx.below hC1
  go_upto_region 4 with fail
  rw [← hW1, ← hq1]
  clear hW1 hq1 hx hC1 hB1
  go_wp2_with fail
  refine (Hrr.out _ (hb.below hBw1)).mono ?_
  rintro e V2 ⟨y, rfl, hyv, hy, hB2⟩
  simp only at hyv ⊢
  obtain ⟨yl1, yl2⟩ := same_lens hyv hs1 hs2
  obtain ⟨kind2, frm2, dst2, term2, index2, logTerm2, commit2, round2, ok2, force2, eo2, ec2, el2, si2, st2, mo2, mc2, ml2, ao2, ac2, d2⟩ := y
  dsimp only [mpA] at *
  obtain ⟨q2, hq2⟩ : ∃ q, q = V2.heap.size := ⟨_, rfl⟩
  obtain ⟨W2, hW2⟩ : ∃ W, W = V2.alloc (.cells #[.int .i64 kind2, .int .i64 frm2, .int .i64 dst2, .int .u64 term2, .int .u64 index2, .int .u64 logTerm2, .int .u64 commit2, .int .u64 round2, .bool ok2, .bool force2, .slice eo2 el2.length ec2, .int .u64 si2, .int .u64 st2, .slice mo2 ml2.length mc2, .slice ao2 d2.length ac2] 52) := ⟨_, rfl⟩
  have hC2 : Below V2.heap.size V2 W2 := by rw [hW2]; exact below_new _ _
  have k2 : W2.heap[q2]? = some (.cells #[.int .i64 kind2, .int .i64 frm2, .int .i64 dst2, .int .u64 term2, .int .u64 index2, .int .u64 logTerm2, .int .u64 commit2, .int .u64 round2, .bool ok2, .bool force2, .slice eo2 el2.length ec2, .int .u64 si2, .int .u64 st2, .slice mo2 ml2.length mc2, .slice ao2 d2.length ac2] 52 (0, 0)) := by rw [hW2, hq2]; exact heap_alloc_new _ _
  have hB12 := below_on hB2 hC2 (Nat.le_refl _)
  have hBw2 := below_on hBw1 hB12 (Nat.le_refl _)
  have k1' := (hB12.block q1 z1).trans k1
  have z1' := (Array.getElem?_eq_some_iff.1 k1').1
  have z2 := (Array.getElem?_eq_some_iff.1 k2).1
  have hx2 := hx1.below hB12
  have hy2 := hy.below hC2
  have hsm := refMsgSame_any (⟨kind1, frm1, dst1, term1, index1, logTerm1, commit1, round1, ok1, force1, eo1, ec1, el1, si1, st1, mo1, mc1, ml1, ao1, ac1, d1⟩ : Mp) (⟨kind2, frm2, dst2, term2, index2, logTerm2, commit2, round2, ok2, force2, eo2, ec2, el2, si2, st2, mo2, mc2, ml2, ao2, ac2, d2⟩ : Mp) W2 hx2 hy2 (by simp only; omega) (by simp only; omega) (by simp only; omega) (by simp only; omega)
  rw [decide_eq_true (hxv.trans hyv.symm)] at hsm
  dsimp only [mpA] at hsm
  have Hsm := Lib.hid hsm
  clear hsm k1 hyv hy hy2 hx1 hB12 hC2
  go_upto_region 5 with fail
  rw [← hW2, ← hq2]
  clear hW2 hq2 hB2
  have p0 : W2.cell? ⟨q1, 0, none⟩ = some (.int .i64 kind1) := block_cell k1' 0
  have p1 : W2.cell? ⟨q1, 1, none⟩ = some (.int .i64 frm1) := block_cell k1' 1
  have p2 : W2.cell? ⟨q1, 2, none⟩ = some (.int .i64 dst1) := block_cell k1' 2
  have p3 : W2.cell? ⟨q1, 3, none⟩ = some (.int .u64 term1) := block_cell k1' 3
  have p4 : W2.cell? ⟨q1, 4, none⟩ = some (.int .u64 index1) := block_cell k1' 4
  have p5 : W2.cell? ⟨q1, 5, none⟩ = some (.int .u64 logTerm1) := block_cell k1' 5
  have p6 : W2.cell? ⟨q1, 6, none⟩ = some (.int .u64 commit1) := block_cell k1' 6
  have p7 : W2.cell? ⟨q1, 7, none⟩ = some (.int .u64 round1) := block_cell k1' 7
  have p8 : W2.cell? ⟨q1, 8, none⟩ = some (.bool ok1) := block_cell k1' 8
  have p9 : W2.cell? ⟨q1, 9, none⟩ = some (.bool force1) := block_cell k1' 9
  have p10 : W2.cell? ⟨q1, 10, none⟩ = some (.slice eo1 el1.length ec1) := block_cell k1' 10
  have p11 : W2.cell? ⟨q1, 11, none⟩ = some (.int .u64 si1) := block_cell k1' 11
  have p12 : W2.cell? ⟨q1, 12, none⟩ = some (.int .u64 st1) := block_cell k1' 12
  have p13 : W2.cell? ⟨q1, 13, none⟩ = some (.slice mo1 ml1.length mc1) := block_cell k1' 13
  have p14 : W2.cell? ⟨q1, 14, none⟩ = some (.slice ao1 d1.length ac1) := block_cell k1' 14
  have r0 : W2.cell? ⟨q2, 0, none⟩ = some (.int .i64 kind2) := block_cell k2 0
  have r1 : W2.cell? ⟨q2, 1, none⟩ = some (.int .i64 frm2) := block_cell k2 1
  have r2 : W2.cell? ⟨q2, 2, none⟩ = some (.int .i64 dst2) := block_cell k2 2
  have r3 : W2.cell? ⟨q2, 3, none⟩ = some (.int .u64 term2) := block_cell k2 3
  have r4 : W2.cell? ⟨q2, 4, none⟩ = some (.int .u64 index2) := block_cell k2 4
  have r5 : W2.cell? ⟨q2, 5, none⟩ = some (.int .u64 logTerm2) := block_cell k2 5
  have r6 : W2.cell? ⟨q2, 6, none⟩ = some (.int .u64 commit2) := block_cell k2 6
  have r7 : W2.cell? ⟨q2, 7, none⟩ = some (.int .u64 round2) := block_cell k2 7
  have r8 : W2.cell? ⟨q2, 8, none⟩ = some (.bool ok2) := block_cell k2 8
  have r9 : W2.cell? ⟨q2, 9, none⟩ = some (.bool force2) := block_cell k2 9
  have r10 : W2.cell? ⟨q2, 10, none⟩ = some (.slice eo2 el2.length ec2) := block_cell k2 10
  have r11 : W2.cell? ⟨q2, 11, none⟩ = some (.int .u64 si2) := block_cell k2 11
  have r12 : W2.cell? ⟨q2, 12, none⟩ = some (.int .u64 st2) := block_cell k2 12
  have r13 : W2.cell? ⟨q2, 13, none⟩ = some (.slice mo2 ml2.length mc2) := block_cell k2 13
  have r14 : W2.cell? ⟨q2, 14, none⟩ = some (.slice ao2 d2.length ac2) := block_cell k2 14
  go_wp2_with fail
  refine Hsm.out.mono ?_
  rintro e W3 ⟨rfl, hB3⟩
  clear p0 p1 p2 p3 p4 p5 p6 p7 p8 p9 p10 p11 p12 p13 p14 r0 r1 r2 r3 r4 r5 r6 r7 r8 r9 r10 r11 r12 r13 r14 Hsm
  have hx3 := hx2.below hB3
  have k3 := (hB3.block q1 z1').trans k1'
  have z3 := (Array.getElem?_eq_some_iff.1 k3).1
  have hBw3 := below_on hBw2 hB3 (Nat.le_refl _)
  have hby := wireBytes_ok (⟨kind1, frm1, dst1, term1, index1, logTerm1, commit1, round1, ok1, force1, eo1, ec1, el1, si1, st1, mo1, mc1, ml1, ao1, ac1, d1⟩ : Mp) W3 hx3 hxn (by simp only; omega) (by rw [hxv]; exact Hinv.out.1)
  rw [hxv, ← Hinv.out.2] at hby
  dsimp only [mpA] at hby
  have Hby := Lib.hid hby
  clear hby hxv
  have p0 : W3.cell? ⟨q1, 0, none⟩ = some (.int .i64 kind1) := block_cell k3 0
  have p1 : W3.cell? ⟨q1, 1, none⟩ = some (.int .i64 frm1) := block_cell k3 1
  have p2 : W3.cell? ⟨q1, 2, none⟩ = some (.int .i64 dst1) := block_cell k3 2
  have p3 : W3.cell? ⟨q1, 3, none⟩ = some (.int .u64 term1) := block_cell k3 3
  have p4 : W3.cell? ⟨q1, 4, none⟩ = some (.int .u64 index1) := block_cell k3 4
  have p5 : W3.cell? ⟨q1, 5, none⟩ = some (.int .u64 logTerm1) := block_cell k3 5
  have p6 : W3.cell? ⟨q1, 6, none⟩ = some (.int .u64 commit1) := block_cell k3 6
  have p7 : W3.cell? ⟨q1, 7, none⟩ = some (.int .u64 round1) := block_cell k3 7
  have p8 : W3.cell? ⟨q1, 8, none⟩ = some (.bool ok1) := block_cell k3 8
  have p9 : W3.cell? ⟨q1, 9, none⟩ = some (.bool force1) := block_cell k3 9
  have p10 : W3.cell? ⟨q1, 10, none⟩ = some (.slice eo1 el1.length ec1) := block_cell k3 10
  have p11 : W3.cell? ⟨q1, 11, none⟩ = some (.int .u64 si1) := block_cell k3 11
  have p12 : W3.cell? ⟨q1, 12, none⟩ = some (.int .u64 st1) := block_cell k3 12
  have p13 : W3.cell? ⟨q1, 13, none⟩ = some (.slice mo1 ml1.length mc1) := block_cell k3 13
  have p14 : W3.cell? ⟨q1, 14, none⟩ = some (.slice ao1 d1.length ac1) := block_cell k3 14
  go_wp2_with fail
  refine Hby.out.mono ?_
  rintro e W4 ⟨a4, c4, rfl, hf4⟩
  have hBw4 := below_on hBw3 hf4.bel (Nat.le_refl _)
  have cv1 := conv_any (Bs.of_own hf4.own)
  have cv2 := conv_any (hb.below hBw4)
  clear p0 p1 p2 p3 p4 p5 p6 p7 p8 p9 p10 p11 p12 p13 p14 Hby
  go_wp2_with fail
  refine (lives30_any _).mono ?_
  rintro e W5 ⟨rfl, hB5⟩
  go_wp2_with fail
  go_ret
  exact ⟨rfl, below_on hBw4 hB5 (Nat.le_refl _)⟩
set_option maxRecDepth 100000 in
set_option maxHeartbeats 16000000 in
theorem wireReads_false (ao : Option Addr) (cap : Nat) (l : List UInt8) (w : World) (hb : Bs w ao cap l) (hl : l.length ≤ 80000) (hres : (wireR 6 l).2 = false) :
    Calls Try.prog 9 #[.slice ao l.length cap] w fun e w' => e = .returned (.bool true) ∧ Below w.heap.size w w' := by
  have hrd := fun W hW => wireRead_any ao cap l W hW (by omega)
  have hrr := fun W hW => refMsgRead_any ao cap l W hW (by omega)
  have hn := wireR_nat 6 l
  obtain ⟨hs1, hs2⟩ := wireR_small 6 l
  have hinv := wireR_none 6 l hres
  obtain ⟨⟨M, r⟩, hR⟩ : ∃ R, R = wireR 6 l := ⟨_, rfl⟩
  rw [← hR] at hrd hrr hn hs1 hs2 hinv hres
  simp only at hn hs1 hs2 hinv hres
  subst hres
  have Hrd := Lib.hid hrd
  have Hrr := Lib.hid hrr
  have Hinv := Lib.hid hinv
  clear hR hrd hrr hinv
  go_enter Try.func9, Try.ntmps9
  go_wp2_with fail
  refine (Hrd.out _ hb).mono ?_
  rintro e V1 ⟨x, rfl, hxv, hx, hB1⟩
  simp only at hxv ⊢
  obtain ⟨xl1, xl2⟩ := same_lens hxv hs1 hs2
  have hxn : MsgOk x := by have h := hn; rw [← hxv] at h; exact h
  obtain ⟨kind1, frm1, dst1, term1, index1, logTerm1, commit1, round1, ok1, force1, eo1, ec1, el1, si1, st1, mo1, mc1, ml1, ao1, ac1, d1⟩ := x
  dsimp only [mpA] at *
  obtain ⟨q1, hq1⟩ : ∃ q, q = V1.heap.size := ⟨_, rfl⟩
  obtain ⟨W1, hW1⟩ : ∃ W, W = V1.alloc (.cells #[.int .i64 kind1, .int .i64 frm1, .int .i64 dst1, .int .u64 term1, .int .u64 index1, .int .u64 logTerm1, .int .u64 commit1, .int .u64 round1, .bool ok1, .bool force1, .slice eo1 el1.length ec1, .int .u64 si1, .int .u64 st1, .slice mo1 ml1.length mc1, .slice ao1 d1.length ac1] 49) := ⟨_, rfl⟩
  have hC1 : Below V1.heap.size V1 W1 := by rw [hW1]; exact below_new _ _
  have k1 : W1.heap[q1]? = some (.cells #[.int .i64 kind1, .int .i64 frm1, .int .i64 dst1, .int .u64 term1, .int .u64 index1, .int .u64 logTerm1, .int .u64 commit1, .int .u64 round1, .bool ok1, .bool force1, .slice eo1 el1.length ec1, .int .u64 si1, .int .u64 st1, .slice mo1 ml1.length mc1, .slice ao1 d1.length ac1] 49 (0, 0)) := by rw [hW1, hq1]; exact heap_alloc_new _ _
  have hBw1 := below_on hB1 hC1 (Nat.le_refl _)
  have z1 := (Array.getElem?_eq_some_iff.1 k1).1
  have hx1 := hx.below hC1
  go_upto_region 4 with fail
  rw [← hW1, ← hq1]
  clear hW1 hq1 hx hC1 hB1
  go_wp2_with fail
  refine (Hrr.out _ (hb.below hBw1)).mono ?_
  rintro e V2 ⟨y, rfl, hyv, hy, hB2⟩
  simp only at hyv ⊢
  obtain ⟨yl1, yl2⟩ := same_lens hyv hs1 hs2
  obtain ⟨kind2, frm2, dst2, term2, index2, logTerm2, commit2, round2, ok2, force2, eo2, ec2, el2, si2, st2, mo2, mc2, ml2, ao2, ac2, d2⟩ := y
  dsimp only [mpA] at *
  obtain ⟨q2, hq2⟩ : ∃ q, q = V2.heap.size := ⟨_, rfl⟩
  obtain ⟨W2, hW2⟩ : ∃ W, W = V2.alloc (.cells #[.int .i64 kind2, .int .i64 frm2, .int .i64 dst2, .int .u64 term2, .int .u64 index2, .int .u64 logTerm2, .int .u64 commit2, .int .u64 round2, .bool ok2, .bool force2, .slice eo2 el2.length ec2, .int .u64 si2, .int .u64 st2, .slice mo2 ml2.length mc2, .slice ao2 d2.length ac2] 52) := ⟨_, rfl⟩
  have hC2 : Below V2.heap.size V2 W2 := by rw [hW2]; exact below_new _ _
  have k2 : W2.heap[q2]? = some (.cells #[.int .i64 kind2, .int .i64 frm2, .int .i64 dst2, .int .u64 term2, .int .u64 index2, .int .u64 logTerm2, .int .u64 commit2, .int .u64 round2, .bool ok2, .bool force2, .slice eo2 el2.length ec2, .int .u64 si2, .int .u64 st2, .slice mo2 ml2.length mc2, .slice ao2 d2.length ac2] 52 (0, 0)) := by rw [hW2, hq2]; exact heap_alloc_new _ _
  have hB12 := below_on hB2 hC2 (Nat.le_refl _)
  have hBw2 := below_on hBw1 hB12 (Nat.le_refl _)
  have k1' := (hB12.block q1 z1).trans k1
  have z1' := (Array.getElem?_eq_some_iff.1 k1').1
  have z2 := (Array.getElem?_eq_some_iff.1 k2).1
  have hx2 := hx1.below hB12
  have hy2 := hy.below hC2
  have hsm := refMsgSame_any (⟨kind1, frm1, dst1, term1, index1, logTerm1, commit1, round1, ok1, force1, eo1, ec1, el1, si1, st1, mo1, mc1, ml1, ao1, ac1, d1⟩ : Mp) (⟨kind2, frm2, dst2, term2, index2, logTerm2, commit2, round2, ok2, force2, eo2, ec2, el2, si2, st2, mo2, mc2, ml2, ao2, ac2, d2⟩ : Mp) W2 hx2 hy2 (by simp only; omega) (by simp only; omega) (by simp only; omega) (by simp only; omega)
  rw [decide_eq_true (hxv.trans hyv.symm)] at hsm
  dsimp only [mpA] at hsm
  have Hsm := Lib.hid hsm
  clear hsm k1 hyv hy hy2 hx1 hB12 hC2
  go_upto_region 5 with fail
  rw [← hW2, ← hq2]
  clear hW2 hq2 hB2
  have p0 : W2.cell? ⟨q1, 0, none⟩ = some (.int .i64 kind1) := block_cell k1' 0
  have p1 : W2.cell? ⟨q1, 1, none⟩ = some (.int .i64 frm1) := block_cell k1' 1
  have p2 : W2.cell? ⟨q1, 2, none⟩ = some (.int .i64 dst1) := block_cell k1' 2
  have p3 : W2.cell? ⟨q1, 3, none⟩ = some (.int .u64 term1) := block_cell k1' 3
  have p4 : W2.cell? ⟨q1, 4, none⟩ = some (.int .u64 index1) := block_cell k1' 4
  have p5 : W2.cell? ⟨q1, 5, none⟩ = some (.int .u64 logTerm1) := block_cell k1' 5
  have p6 : W2.cell? ⟨q1, 6, none⟩ = some (.int .u64 commit1) := block_cell k1' 6
  have p7 : W2.cell? ⟨q1, 7, none⟩ = some (.int .u64 round1) := block_cell k1' 7
  have p8 : W2.cell? ⟨q1, 8, none⟩ = some (.bool ok1) := block_cell k1' 8
  have p9 : W2.cell? ⟨q1, 9, none⟩ = some (.bool force1) := block_cell k1' 9
  have p10 : W2.cell? ⟨q1, 10, none⟩ = some (.slice eo1 el1.length ec1) := block_cell k1' 10
  have p11 : W2.cell? ⟨q1, 11, none⟩ = some (.int .u64 si1) := block_cell k1' 11
  have p12 : W2.cell? ⟨q1, 12, none⟩ = some (.int .u64 st1) := block_cell k1' 12
  have p13 : W2.cell? ⟨q1, 13, none⟩ = some (.slice mo1 ml1.length mc1) := block_cell k1' 13
  have p14 : W2.cell? ⟨q1, 14, none⟩ = some (.slice ao1 d1.length ac1) := block_cell k1' 14
  have r0 : W2.cell? ⟨q2, 0, none⟩ = some (.int .i64 kind2) := block_cell k2 0
  have r1 : W2.cell? ⟨q2, 1, none⟩ = some (.int .i64 frm2) := block_cell k2 1
  have r2 : W2.cell? ⟨q2, 2, none⟩ = some (.int .i64 dst2) := block_cell k2 2
  have r3 : W2.cell? ⟨q2, 3, none⟩ = some (.int .u64 term2) := block_cell k2 3
  have r4 : W2.cell? ⟨q2, 4, none⟩ = some (.int .u64 index2) := block_cell k2 4
  have r5 : W2.cell? ⟨q2, 5, none⟩ = some (.int .u64 logTerm2) := block_cell k2 5
  have r6 : W2.cell? ⟨q2, 6, none⟩ = some (.int .u64 commit2) := block_cell k2 6
  have r7 : W2.cell? ⟨q2, 7, none⟩ = some (.int .u64 round2) := block_cell k2 7
  have r8 : W2.cell? ⟨q2, 8, none⟩ = some (.bool ok2) := block_cell k2 8
  have r9 : W2.cell? ⟨q2, 9, none⟩ = some (.bool force2) := block_cell k2 9
  have r10 : W2.cell? ⟨q2, 10, none⟩ = some (.slice eo2 el2.length ec2) := block_cell k2 10
  have r11 : W2.cell? ⟨q2, 11, none⟩ = some (.int .u64 si2) := block_cell k2 11
  have r12 : W2.cell? ⟨q2, 12, none⟩ = some (.int .u64 st2) := block_cell k2 12
  have r13 : W2.cell? ⟨q2, 13, none⟩ = some (.slice mo2 ml2.length mc2) := block_cell k2 13
  have r14 : W2.cell? ⟨q2, 14, none⟩ = some (.slice ao2 d2.length ac2) := block_cell k2 14
  go_wp2_with fail
  refine Hsm.out.mono ?_
  rintro e W3 ⟨rfl, hB3⟩
  clear p0 p1 p2 p3 p4 p5 p6 p7 p8 p9 p10 p11 p12 p13 p14 r0 r1 r2 r3 r4 r5 r6 r7 r8 r9 r10 r11 r12 r13 r14 Hsm
  have hx3 := hx2.below hB3
  have k3 := (hB3.block q1 z1').trans k1'
  have z3 := (Array.getElem?_eq_some_iff.1 k3).1
  have hBw3 := below_on hBw2 hB3 (Nat.le_refl _)
  have hby := wireBytes_bad (⟨kind1, frm1, dst1, term1, index1, logTerm1, commit1, round1, ok1, force1, eo1, ec1, el1, si1, st1, mo1, mc1, ml1, ao1, ac1, d1⟩ : Mp) W3 hx3 (by simp only; omega) (by simp only; omega) hxn.1 (by rw [hxv, Hinv.out]; exact ms0_bad)
  dsimp only [mpA] at hby
  have Hby := Lib.hid hby
  clear hby hxv
  have p0 : W3.cell? ⟨q1, 0, none⟩ = some (.int .i64 kind1) := block_cell k3 0
  have p1 : W3.cell? ⟨q1, 1, none⟩ = some (.int .i64 frm1) := block_cell k3 1
  have p2 : W3.cell? ⟨q1, 2, none⟩ = some (.int .i64 dst1) := block_cell k3 2
  have p3 : W3.cell? ⟨q1, 3, none⟩ = some (.int .u64 term1) := block_cell k3 3
  have p4 : W3.cell? ⟨q1, 4, none⟩ = some (.int .u64 index1) := block_cell k3 4
  have p5 : W3.cell? ⟨q1, 5, none⟩ = some (.int .u64 logTerm1) := block_cell k3 5
  have p6 : W3.cell? ⟨q1, 6, none⟩ = some (.int .u64 commit1) := block_cell k3 6
  have p7 : W3.cell? ⟨q1, 7, none⟩ = some (.int .u64 round1) := block_cell k3 7
  have p8 : W3.cell? ⟨q1, 8, none⟩ = some (.bool ok1) := block_cell k3 8
  have p9 : W3.cell? ⟨q1, 9, none⟩ = some (.bool force1) := block_cell k3 9
  have p10 : W3.cell? ⟨q1, 10, none⟩ = some (.slice eo1 el1.length ec1) := block_cell k3 10
  have p11 : W3.cell? ⟨q1, 11, none⟩ = some (.int .u64 si1) := block_cell k3 11
  have p12 : W3.cell? ⟨q1, 12, none⟩ = some (.int .u64 st1) := block_cell k3 12
  have p13 : W3.cell? ⟨q1, 13, none⟩ = some (.slice mo1 ml1.length mc1) := block_cell k3 13
  have p14 : W3.cell? ⟨q1, 14, none⟩ = some (.slice ao1 d1.length ac1) := block_cell k3 14
  go_wp2_with fail
  refine Hby.out.mono ?_
  rintro e W4 ⟨rfl, hB4⟩
  have hBw4 := below_on hBw3 hB4 (Nat.le_refl _)
  clear p0 p1 p2 p3 p4 p5 p6 p7 p8 p9 p10 p11 p12 p13 p14 Hby
  go_wp2_with fail
  refine (lives30_any _).mono ?_
  rintro e W5 ⟨rfl, hB5⟩
  go_wp2_with fail
  go_ret
  exact ⟨rfl, below_on hBw4 hB5 (Nat.le_refl _)⟩
theorem wireReads_walk (ao : Option Addr) (cap : Nat) (l : List UInt8) (w : World) (hb : Bs w ao cap l) :
    Calls Try.prog 9 #[.slice ao l.length cap] w fun e w' => e = .returned (.bool true) ∧ Below w.heap.size w w' := by
  by_cases hl : l.length ≤ 80000
  · cases hr : (wireR 6 l).2 with
    | true => exact wireReads_true ao cap l w hb hl hr
    | false => exact wireReads_false ao cap l w hb hl hr
  · have h1 : (80000 : Int) < (l.length : Int) := by omega
    go_enter Try.func9, Try.ntmps9
    go_wp2_with fail
    refine (lives30_any _).mono ?_
    rintro e W5 ⟨rfl, hB5⟩
    go_wp2_with fail
    go_ret
    exact ⟨rfl, hB5⟩
end Go.Proofs.Ytlphpjgiaflfkaa
