/- Lemmas for WireReads (WireBytes). No statement of the seat is proved here. -/
import Derived.Test.YtlphpjgiaflfkaaWv21
import Derived.Test.YtlphpjgiaflfkaaWv28
import Derived.Test.YtlphpjgiaflfkaaWv34
import Derived.Test.YtlphpjgiaflfkaaWv38
namespace Go.Proofs.Ytlphpjgiaflfkaa
set_option linter.unusedVariables false
set_option linter.unusedSimpArgs false
set_option linter.unusedSectionVars false
open Go Go.RowKit Go.Shelf
set_option maxRecDepth 100000 in
set_option maxHeartbeats 16000000 in
theorem wireBytes_far (x : Mp) (w : World) (hx : MpAt w x) (hc : ¬ LightM x) :
    Calls Try.prog 8 #[.agg (mpA x)] w fun e w' => e = .returned (.bool true) ∧ Below w.heap.size w w' := by
  have hl1 := fun W hW => light30_any x W hW
  rw [decide_eq_false hc] at hl1
  have Hl1 := Lib.hid hl1
  clear hl1 hc
  obtain ⟨kind1, frm1, dst1, term1, index1, logTerm1, commit1, round1, ok1, force1, eo1, ec1, el1, si1, st1, mo1, mc1, ml1, ao1, ac1, d1⟩ := x
  dsimp only [mpA, Mp.v] at *
  obtain ⟨W1, hW1⟩ : ∃ W1, W1 = w.alloc (.cells #[.int .i64 kind1, .int .i64 frm1, .int .i64 dst1, .int .u64 term1, .int .u64 index1, .int .u64 logTerm1, .int .u64 commit1, .int .u64 round1, .bool ok1, .bool force1, .slice eo1 el1.length ec1, .int .u64 si1, .int .u64 st1, .slice mo1 ml1.length mc1, .slice ao1 d1.length ac1] 49) := ⟨_, rfl⟩
  have hB1 : Below w.heap.size w W1 := by rw [hW1]; exact below_new _ _
  have k1 : W1.heap[w.heap.size]? = some (.cells #[.int .i64 kind1, .int .i64 frm1, .int .i64 dst1, .int .u64 term1, .int .u64 index1, .int .u64 logTerm1, .int .u64 commit1, .int .u64 round1, .bool ok1, .bool force1, .slice eo1 el1.length ec1, .int .u64 si1, .int .u64 st1, .slice mo1 ml1.length mc1, .slice ao1 d1.length ac1] 49 (0, 0)) := by rw [hW1]; exact heap_alloc_new _ _
  have g1 := hx.below hB1
  have hcw : ∀ W', Below W1.heap.size W1 W' → W'.heap[w.heap.size]? = some (.cells #[.int .i64 kind1, .int .i64 frm1, .int .i64 dst1, .int .u64 term1, .int .u64 index1, .int .u64 logTerm1, .int .u64 commit1, .int .u64 round1, .bool ok1, .bool force1, .slice eo1 el1.length ec1, .int .u64 si1, .int .u64 st1, .slice mo1 ml1.length mc1, .slice ao1 d1.length ac1] 49 (0, 0)) := fun W' hb => (hb.block _ (Array.getElem?_eq_some_iff.1 k1).1).trans k1
  have Hcw := Lib.hid hcw
  clear hcw
  go_enter Try.func8, Try.ntmps8
  go_upto_region 1 with fail
  rw [← hW1]
  clear hW1
  have p0 : W1.cell? ⟨w.heap.size, 0, none⟩ = some (.int .i64 kind1) := block_cell k1 0
  have p1 : W1.cell? ⟨w.heap.size, 1, none⟩ = some (.int .i64 frm1) := block_cell k1 1
  have p2 : W1.cell? ⟨w.heap.size, 2, none⟩ = some (.int .i64 dst1) := block_cell k1 2
  have p3 : W1.cell? ⟨w.heap.size, 3, none⟩ = some (.int .u64 term1) := block_cell k1 3
  have p4 : W1.cell? ⟨w.heap.size, 4, none⟩ = some (.int .u64 index1) := block_cell k1 4
  have p5 : W1.cell? ⟨w.heap.size, 5, none⟩ = some (.int .u64 logTerm1) := block_cell k1 5
  have p6 : W1.cell? ⟨w.heap.size, 6, none⟩ = some (.int .u64 commit1) := block_cell k1 6
  have p7 : W1.cell? ⟨w.heap.size, 7, none⟩ = some (.int .u64 round1) := block_cell k1 7
  have p8 : W1.cell? ⟨w.heap.size, 8, none⟩ = some (.bool ok1) := block_cell k1 8
  have p9 : W1.cell? ⟨w.heap.size, 9, none⟩ = some (.bool force1) := block_cell k1 9
  have p10 : W1.cell? ⟨w.heap.size, 10, none⟩ = some (.slice eo1 el1.length ec1) := block_cell k1 10
  have p11 : W1.cell? ⟨w.heap.size, 11, none⟩ = some (.int .u64 si1) := block_cell k1 11
  have p12 : W1.cell? ⟨w.heap.size, 12, none⟩ = some (.int .u64 st1) := block_cell k1 12
  have p13 : W1.cell? ⟨w.heap.size, 13, none⟩ = some (.slice mo1 ml1.length mc1) := block_cell k1 13
  have p14 : W1.cell? ⟨w.heap.size, 14, none⟩ = some (.slice ao1 d1.length ac1) := block_cell k1 14
  go_wp2_with fail
  refine (Hl1.out _ g1).mono ?_
  rintro e W2 ⟨rfl, hB2⟩
  have hBw2 := below_on hB1 hB2 (Nat.le_refl _)
  clear p0 p1 p2 p3 p4 p5 p6 p7 p8 p9 p10 p11 p12 p13 p14
  go_wp2_with fail
  refine (lives30_any _).mono ?_
  rintro e W5 ⟨rfl, hB5⟩
  go_wp2_with fail
  go_ret
  exact ⟨rfl, below_on hBw2 hB5 (Nat.le_refl _)⟩
set_option maxRecDepth 100000 in
set_option maxHeartbeats 16000000 in
theorem wireBytes_none (x : Mp) (w : World) (hx : MpAt w x) (h0 : MsgOk x) (hl : LightM x) (hs : soundM x.v = false) :
    Calls Try.prog 8 #[.agg (mpA x)] w fun e w' => e = .returned (.bool true) ∧ Below w.heap.size w w' := by
  have hl1 := fun W hW => light30_any x W hW
  rw [decide_eq_true hl] at hl1
  have Hl1 := Lib.hid hl1
  obtain ⟨_, lx1, lx2, lx3⟩ := id hl
  clear hl1
  have Hby := Lib.hid (fun W hW => wireBytes_bad x W hW (by omega) (by omega) h0.1 hs)
  have hrs := fun W hW => refMsgSound_any x W hW (by omega) (by omega) h0.1
  rw [hs] at hrs
  have Hrs := Lib.hid hrs
  clear hrs hs hl h0 lx1 lx2 lx3
  obtain ⟨kind1, frm1, dst1, term1, index1, logTerm1, commit1, round1, ok1, force1, eo1, ec1, el1, si1, st1, mo1, mc1, ml1, ao1, ac1, d1⟩ := x
  dsimp only [mpA, Mp.v] at *
  obtain ⟨W1, hW1⟩ : ∃ W1, W1 = w.alloc (.cells #[.int .i64 kind1, .int .i64 frm1, .int .i64 dst1, .int .u64 term1, .int .u64 index1, .int .u64 logTerm1, .int .u64 commit1, .int .u64 round1, .bool ok1, .bool force1, .slice eo1 el1.length ec1, .int .u64 si1, .int .u64 st1, .slice mo1 ml1.length mc1, .slice ao1 d1.length ac1] 49) := ⟨_, rfl⟩
  have hB1 : Below w.heap.size w W1 := by rw [hW1]; exact below_new _ _
  have k1 : W1.heap[w.heap.size]? = some (.cells #[.int .i64 kind1, .int .i64 frm1, .int .i64 dst1, .int .u64 term1, .int .u64 index1, .int .u64 logTerm1, .int .u64 commit1, .int .u64 round1, .bool ok1, .bool force1, .slice eo1 el1.length ec1, .int .u64 si1, .int .u64 st1, .slice mo1 ml1.length mc1, .slice ao1 d1.length ac1] 49 (0, 0)) := by rw [hW1]; exact heap_alloc_new _ _
  have g1 := hx.below hB1
  have hcw : ∀ W', Below W1.heap.size W1 W' → W'.heap[w.heap.size]? = some (.cells #[.int .i64 kind1, .int .i64 frm1, .int .i64 dst1, .int .u64 term1, .int .u64 index1, .int .u64 logTerm1, .int .u64 commit1, .int .u64 round1, .bool ok1, .bool force1, .slice eo1 el1.length ec1, .int .u64 si1, .int .u64 st1, .slice mo1 ml1.length mc1, .slice ao1 d1.length ac1] 49 (0, 0)) := fun W' hb => (hb.block _ (Array.getElem?_eq_some_iff.1 k1).1).trans k1
  have Hcw := Lib.hid hcw
  clear hcw
  go_enter Try.func8, Try.ntmps8
  go_upto_region 1 with fail
  rw [← hW1]
  clear hW1
  have p0 : W1.cell? ⟨w.heap.size, 0, none⟩ = some (.int .i64 kind1) := block_cell k1 0
  have p1 : W1.cell? ⟨w.heap.size, 1, none⟩ = some (.int .i64 frm1) := block_cell k1 1
  have p2 : W1.cell? ⟨w.heap.size, 2, none⟩ = some (.int .i64 dst1) := block_cell k1 2
  have p3 : W1.cell? ⟨w.heap.size, 3, none⟩ = some (.int .u64 term1) := block_cell k1 3
  have p4 : W1.cell? ⟨w.heap.size, 4, none⟩ = some (.int .u64 index1) := block_cell k1 4
  have p5 : W1.cell? ⟨w.heap.size, 5, none⟩ = some (.int .u64 logTerm1) := block_cell k1 5
  have p6 : W1.cell? ⟨w.heap.size, 6, none⟩ = some (.int .u64 commit1) := block_cell k1 6
  have p7 : W1.cell? ⟨w.heap.size, 7, none⟩ = some (.int .u64 round1) := block_cell k1 7
  have p8 : W1.cell? ⟨w.heap.size, 8, none⟩ = some (.bool ok1) := block_cell k1 8
  have p9 : W1.cell? ⟨w.heap.size, 9, none⟩ = some (.bool force1) := block_cell k1 9
  have p10 : W1.cell? ⟨w.heap.size, 10, none⟩ = some (.slice eo1 el1.length ec1) := block_cell k1 10
  have p11 : W1.cell? ⟨w.heap.size, 11, none⟩ = some (.int .u64 si1) := block_cell k1 11
  have p12 : W1.cell? ⟨w.heap.size, 12, none⟩ = some (.int .u64 st1) := block_cell k1 12
  have p13 : W1.cell? ⟨w.heap.size, 13, none⟩ = some (.slice mo1 ml1.length mc1) := block_cell k1 13
  have p14 : W1.cell? ⟨w.heap.size, 14, none⟩ = some (.slice ao1 d1.length ac1) := block_cell k1 14
  go_wp2_with fail
  refine (Hl1.out _ g1).mono ?_
  rintro e W2 ⟨rfl, hB2⟩
  clear p0 p1 p2 p3 p4 p5 p6 p7 p8 p9 p10 p11 p12 p13 p14
  have kW2 := Hcw.out W2 hB2
  have p0 : W2.cell? ⟨w.heap.size, 0, none⟩ = some (.int .i64 kind1) := block_cell kW2 0
  have p1 : W2.cell? ⟨w.heap.size, 1, none⟩ = some (.int .i64 frm1) := block_cell kW2 1
  have p2 : W2.cell? ⟨w.heap.size, 2, none⟩ = some (.int .i64 dst1) := block_cell kW2 2
  have p3 : W2.cell? ⟨w.heap.size, 3, none⟩ = some (.int .u64 term1) := block_cell kW2 3
  have p4 : W2.cell? ⟨w.heap.size, 4, none⟩ = some (.int .u64 index1) := block_cell kW2 4
  have p5 : W2.cell? ⟨w.heap.size, 5, none⟩ = some (.int .u64 logTerm1) := block_cell kW2 5
  have p6 : W2.cell? ⟨w.heap.size, 6, none⟩ = some (.int .u64 commit1) := block_cell kW2 6
  have p7 : W2.cell? ⟨w.heap.size, 7, none⟩ = some (.int .u64 round1) := block_cell kW2 7
  have p8 : W2.cell? ⟨w.heap.size, 8, none⟩ = some (.bool ok1) := block_cell kW2 8
  have p9 : W2.cell? ⟨w.heap.size, 9, none⟩ = some (.bool force1) := block_cell kW2 9
  have p10 : W2.cell? ⟨w.heap.size, 10, none⟩ = some (.slice eo1 el1.length ec1) := block_cell kW2 10
  have p11 : W2.cell? ⟨w.heap.size, 11, none⟩ = some (.int .u64 si1) := block_cell kW2 11
  have p12 : W2.cell? ⟨w.heap.size, 12, none⟩ = some (.int .u64 st1) := block_cell kW2 12
  have p13 : W2.cell? ⟨w.heap.size, 13, none⟩ = some (.slice mo1 ml1.length mc1) := block_cell kW2 13
  have p14 : W2.cell? ⟨w.heap.size, 14, none⟩ = some (.slice ao1 d1.length ac1) := block_cell kW2 14
  go_wp2_with fail
  refine (Hby.out _ (g1.below hB2)).mono ?_
  rintro e W3 ⟨rfl, hB3'⟩
  have hB3 := below_on hB2 hB3' (Nat.le_refl _)
  clear p0 p1 p2 p3 p4 p5 p6 p7 p8 p9 p10 p11 p12 p13 p14
  have kW3 := Hcw.out W3 hB3
  have p0 : W3.cell? ⟨w.heap.size, 0, none⟩ = some (.int .i64 kind1) := block_cell kW3 0
  have p1 : W3.cell? ⟨w.heap.size, 1, none⟩ = some (.int .i64 frm1) := block_cell kW3 1
  have p2 : W3.cell? ⟨w.heap.size, 2, none⟩ = some (.int .i64 dst1) := block_cell kW3 2
  have p3 : W3.cell? ⟨w.heap.size, 3, none⟩ = some (.int .u64 term1) := block_cell kW3 3
  have p4 : W3.cell? ⟨w.heap.size, 4, none⟩ = some (.int .u64 index1) := block_cell kW3 4
  have p5 : W3.cell? ⟨w.heap.size, 5, none⟩ = some (.int .u64 logTerm1) := block_cell kW3 5
  have p6 : W3.cell? ⟨w.heap.size, 6, none⟩ = some (.int .u64 commit1) := block_cell kW3 6
  have p7 : W3.cell? ⟨w.heap.size, 7, none⟩ = some (.int .u64 round1) := block_cell kW3 7
  have p8 : W3.cell? ⟨w.heap.size, 8, none⟩ = some (.bool ok1) := block_cell kW3 8
  have p9 : W3.cell? ⟨w.heap.size, 9, none⟩ = some (.bool force1) := block_cell kW3 9
  have p10 : W3.cell? ⟨w.heap.size, 10, none⟩ = some (.slice eo1 el1.length ec1) := block_cell kW3 10
  have p11 : W3.cell? ⟨w.heap.size, 11, none⟩ = some (.int .u64 si1) := block_cell kW3 11
  have p12 : W3.cell? ⟨w.heap.size, 12, none⟩ = some (.int .u64 st1) := block_cell kW3 12
  have p13 : W3.cell? ⟨w.heap.size, 13, none⟩ = some (.slice mo1 ml1.length mc1) := block_cell kW3 13
  have p14 : W3.cell? ⟨w.heap.size, 14, none⟩ = some (.slice ao1 d1.length ac1) := block_cell kW3 14
  go_wp2_with fail
  refine (Hrs.out _ (g1.below hB3)).mono ?_
  rintro e W4 ⟨rfl, hB4'⟩
  have hB4 := below_on hB3 hB4' (Nat.le_refl _)
  clear p0 p1 p2 p3 p4 p5 p6 p7 p8 p9 p10 p11 p12 p13 p14
  go_wp2_with fail
  refine (lives30_any _).mono ?_
  rintro e W5 ⟨rfl, hB5⟩
  go_wp2_with fail
  go_ret
  exact ⟨rfl, below_on hB1 (below_on hB4 hB5 (Nat.le_refl _)) (Nat.le_refl _)⟩
set_option maxRecDepth 100000 in
set_option maxHeartbeats 16000000 in
theorem wireBytes_some (x : Mp) (w : World) (hx : MpAt w x) (h0 : MsgOk x) (hl : LightM x) (hs : soundM x.v = true) :
    Calls Try.prog 8 #[.agg (mpA x)] w fun e w' => e = .returned (.bool true) ∧ Below w.heap.size w w' := by
  have hl1 := fun W hW => light30_any x W hW
  rw [decide_eq_true hl] at hl1
  have Hl1 := Lib.hid hl1
  obtain ⟨_, lx1, lx2, lx3⟩ := id hl
  clear hl1
  have hby := fun W hW => wireBytes_ok x W hW h0 (by omega) hs
  have hrby := fun W hW => refBytes_any x W hW h0 hs
  have hrs := fun W hW => refMsgSound_any x W hW (by omega) (by omega) h0.1
  rw [hs] at hrs
  have Hrs := Lib.hid hrs
  have henc := wireR_enc 6 (by decide) (by decide) x.v hs h0
  have hBl : (wireB x.v).length ≤ 34000 := by
    have := bodyB_len x.v hs h0
    unfold wireB; rw [Fr.wrapped_length]; omega
  have hsz := wireR_small 6 (wireB x.v)
  rw [henc] at hsz
  obtain ⟨hz1, hz2⟩ := hsz
  obtain ⟨B, hB⟩ : ∃ B, B = wireB x.v := ⟨_, rfl⟩
  rw [← hB] at hby hrby henc hBl
  have Hby := Lib.hid hby
  have Hrby := Lib.hid hrby
  have hrd := fun a c W hW => wireRead_any a c B W hW (by omega)
  rw [henc] at hrd
  have Hrd := Lib.hid hrd
  have Hsame := Lib.hid (fun y W h1 h2 hz1 hz2 => refMsgSame_any y x W h1 h2 hz1 hz2 (by omega) (by omega))
  clear hby hrby hrs hs hl h0 henc hB hrd
  obtain ⟨kind1, frm1, dst1, term1, index1, logTerm1, commit1, round1, ok1, force1, eo1, ec1, el1, si1, st1, mo1, mc1, ml1, ao1, ac1, d1⟩ := x
  dsimp only [mpA] at *
  obtain ⟨W1, hW1⟩ : ∃ W1, W1 = w.alloc (.cells #[.int .i64 kind1, .int .i64 frm1, .int .i64 dst1, .int .u64 term1, .int .u64 index1, .int .u64 logTerm1, .int .u64 commit1, .int .u64 round1, .bool ok1, .bool force1, .slice eo1 el1.length ec1, .int .u64 si1, .int .u64 st1, .slice mo1 ml1.length mc1, .slice ao1 d1.length ac1] 49) := ⟨_, rfl⟩
  have hB1 : Below w.heap.size w W1 := by rw [hW1]; exact below_new _ _
  have k1 : W1.heap[w.heap.size]? = some (.cells #[.int .i64 kind1, .int .i64 frm1, .int .i64 dst1, .int .u64 term1, .int .u64 index1, .int .u64 logTerm1, .int .u64 commit1, .int .u64 round1, .bool ok1, .bool force1, .slice eo1 el1.length ec1, .int .u64 si1, .int .u64 st1, .slice mo1 ml1.length mc1, .slice ao1 d1.length ac1] 49 (0, 0)) := by rw [hW1]; exact heap_alloc_new _ _
  have g1 := hx.below hB1
  have hcw : ∀ W', Below W1.heap.size W1 W' → W'.heap[w.heap.size]? = some (.cells #[.int .i64 kind1, .int .i64 frm1, .int .i64 dst1, .int .u64 term1, .int .u64 index1, .int .u64 logTerm1, .int .u64 commit1, .int .u64 round1, .bool ok1, .bool force1, .slice eo1 el1.length ec1, .int .u64 si1, .int .u64 st1, .slice mo1 ml1.length mc1, .slice ao1 d1.length ac1] 49 (0, 0)) := fun W' hb => (hb.block _ (Array.getElem?_eq_some_iff.1 k1).1).trans k1
  have Hcw := Lib.hid hcw
  clear hcw
  go_enter Try.func8, Try.ntmps8
  go_upto_region 1 with fail
  rw [← hW1]
  clear hW1
  have p0 : W1.cell? ⟨w.heap.size, 0, none⟩ = some (.int .i64 kind1) := block_cell k1 0
  have p1 : W1.cell? ⟨w.heap.size, 1, none⟩ = some (.int .i64 frm1) := block_cell k1 1
  have p2 : W1.cell? ⟨w.heap.size, 2, none⟩ = some (.int .i64 dst1) := block_cell k1 2
  have p3 : W1.cell? ⟨w.heap.size, 3, none⟩ = some (.int .u64 term1) := block_cell k1 3
  have p4 : W1.cell? ⟨w.heap.size, 4, none⟩ = some (.int .u64 index1) := block_cell k1 4
  have p5 : W1.cell? ⟨w.heap.size, 5, none⟩ = some (.int .u64 logTerm1) := block_cell k1 5
  have p6 : W1.cell? ⟨w.heap.size, 6, none⟩ = some (.int .u64 commit1) := block_cell k1 6
  have p7 : W1.cell? ⟨w.heap.size, 7, none⟩ = some (.int .u64 round1) := block_cell k1 7
  have p8 : W1.cell? ⟨w.heap.size, 8, none⟩ = some (.bool ok1) := block_cell k1 8
  have p9 : W1.cell? ⟨w.heap.size, 9, none⟩ = some (.bool force1) := block_cell k1 9
  have p10 : W1.cell? ⟨w.heap.size, 10, none⟩ = some (.slice eo1 el1.length ec1) := block_cell k1 10
  have p11 : W1.cell? ⟨w.heap.size, 11, none⟩ = some (.int .u64 si1) := block_cell k1 11
  have p12 : W1.cell? ⟨w.heap.size, 12, none⟩ = some (.int .u64 st1) := block_cell k1 12
  have p13 : W1.cell? ⟨w.heap.size, 13, none⟩ = some (.slice mo1 ml1.length mc1) := block_cell k1 13
  have p14 : W1.cell? ⟨w.heap.size, 14, none⟩ = some (.slice ao1 d1.length ac1) := block_cell k1 14
  go_wp2_with fail
  refine (Hl1.out _ g1).mono ?_
  rintro e W2 ⟨rfl, hB2⟩
  clear p0 p1 p2 p3 p4 p5 p6 p7 p8 p9 p10 p11 p12 p13 p14
  have kW2 := Hcw.out W2 hB2
  have p0 : W2.cell? ⟨w.heap.size, 0, none⟩ = some (.int .i64 kind1) := block_cell kW2 0
  have p1 : W2.cell? ⟨w.heap.size, 1, none⟩ = some (.int .i64 frm1) := block_cell kW2 1
  have p2 : W2.cell? ⟨w.heap.size, 2, none⟩ = some (.int .i64 dst1) := block_cell kW2 2
  have p3 : W2.cell? ⟨w.heap.size, 3, none⟩ = some (.int .u64 term1) := block_cell kW2 3
  have p4 : W2.cell? ⟨w.heap.size, 4, none⟩ = some (.int .u64 index1) := block_cell kW2 4
  have p5 : W2.cell? ⟨w.heap.size, 5, none⟩ = some (.int .u64 logTerm1) := block_cell kW2 5
  have p6 : W2.cell? ⟨w.heap.size, 6, none⟩ = some (.int .u64 commit1) := block_cell kW2 6
  have p7 : W2.cell? ⟨w.heap.size, 7, none⟩ = some (.int .u64 round1) := block_cell kW2 7
  have p8 : W2.cell? ⟨w.heap.size, 8, none⟩ = some (.bool ok1) := block_cell kW2 8
  have p9 : W2.cell? ⟨w.heap.size, 9, none⟩ = some (.bool force1) := block_cell kW2 9
  have p10 : W2.cell? ⟨w.heap.size, 10, none⟩ = some (.slice eo1 el1.length ec1) := block_cell kW2 10
  have p11 : W2.cell? ⟨w.heap.size, 11, none⟩ = some (.int .u64 si1) := block_cell kW2 11
  have p12 : W2.cell? ⟨w.heap.size, 12, none⟩ = some (.int .u64 st1) := block_cell kW2 12
  have p13 : W2.cell? ⟨w.heap.size, 13, none⟩ = some (.slice mo1 ml1.length mc1) := block_cell kW2 13
  have p14 : W2.cell? ⟨w.heap.size, 14, none⟩ = some (.slice ao1 d1.length ac1) := block_cell kW2 14
  go_wp2_with fail
  refine (Hby.out _ (g1.below hB2)).mono ?_
  rintro e W3 ⟨a3, c3, rfl, hf3⟩
  have hB3 := below_on hB2 hf3.bel (Nat.le_refl _)
  have hb3 := Bs.of_own hf3.own
  clear p0 p1 p2 p3 p4 p5 p6 p7 p8 p9 p10 p11 p12 p13 p14
  have kW3 := Hcw.out W3 hB3
  have p0 : W3.cell? ⟨w.heap.size, 0, none⟩ = some (.int .i64 kind1) := block_cell kW3 0
  have p1 : W3.cell? ⟨w.heap.size, 1, none⟩ = some (.int .i64 frm1) := block_cell kW3 1
  have p2 : W3.cell? ⟨w.heap.size, 2, none⟩ = some (.int .i64 dst1) := block_cell kW3 2
  have p3 : W3.cell? ⟨w.heap.size, 3, none⟩ = some (.int .u64 term1) := block_cell kW3 3
  have p4 : W3.cell? ⟨w.heap.size, 4, none⟩ = some (.int .u64 index1) := block_cell kW3 4
  have p5 : W3.cell? ⟨w.heap.size, 5, none⟩ = some (.int .u64 logTerm1) := block_cell kW3 5
  have p6 : W3.cell? ⟨w.heap.size, 6, none⟩ = some (.int .u64 commit1) := block_cell kW3 6
  have p7 : W3.cell? ⟨w.heap.size, 7, none⟩ = some (.int .u64 round1) := block_cell kW3 7
  have p8 : W3.cell? ⟨w.heap.size, 8, none⟩ = some (.bool ok1) := block_cell kW3 8
  have p9 : W3.cell? ⟨w.heap.size, 9, none⟩ = some (.bool force1) := block_cell kW3 9
  have p10 : W3.cell? ⟨w.heap.size, 10, none⟩ = some (.slice eo1 el1.length ec1) := block_cell kW3 10
  have p11 : W3.cell? ⟨w.heap.size, 11, none⟩ = some (.int .u64 si1) := block_cell kW3 11
  have p12 : W3.cell? ⟨w.heap.size, 12, none⟩ = some (.int .u64 st1) := block_cell kW3 12
  have p13 : W3.cell? ⟨w.heap.size, 13, none⟩ = some (.slice mo1 ml1.length mc1) := block_cell kW3 13
  have p14 : W3.cell? ⟨w.heap.size, 14, none⟩ = some (.slice ao1 d1.length ac1) := block_cell kW3 14
  go_wp2_with fail
  refine (Hrs.out _ (g1.below hB3)).mono ?_
  rintro e W4 ⟨rfl, hB34⟩
  have hB4 := below_on hB3 hB34 (Nat.le_refl _)
  clear p0 p1 p2 p3 p4 p5 p6 p7 p8 p9 p10 p11 p12 p13 p14
  go_wp2_with fail
  refine (Hrd.out _ _ _ (hb3.below hB34)).mono ?_
  rintro e V5 ⟨y, rfl, hyv, hy, hB5'⟩
  simp only at hyv ⊢
  obtain ⟨yl1, yl2⟩ := same_lens hyv hz1 hz2
  have hB5 := below_on hB4 hB5' (Nat.le_refl _)
  obtain ⟨kind2, frm2, dst2, term2, index2, logTerm2, commit2, round2, ok2, force2, eo2, ec2, el2, si2, st2, mo2, mc2, ml2, ao2, ac2, d2⟩ := y
  dsimp only [mpA] at *
  obtain ⟨q5, hq5⟩ : ∃ q, q = V5.heap.size := ⟨_, rfl⟩
  obtain ⟨W5, hW5⟩ : ∃ W, W = V5.alloc (.cells #[.int .i64 kind2, .int .i64 frm2, .int .i64 dst2, .int .u64 term2, .int .u64 index2, .int .u64 logTerm2, .int .u64 commit2, .int .u64 round2, .bool ok2, .bool force2, .slice eo2 el2.length ec2, .int .u64 si2, .int .u64 st2, .slice mo2 ml2.length mc2, .slice ao2 d2.length ac2] 49) := ⟨_, rfl⟩
  have hC5 : Below V5.heap.size V5 W5 := by rw [hW5]; exact below_new _ _
  have k2 : W5.heap[q5]? = some (.cells #[.int .i64 kind2, .int .i64 frm2, .int .i64 dst2, .int .u64 term2, .int .u64 index2, .int .u64 logTerm2, .int .u64 commit2, .int .u64 round2, .bool ok2, .bool force2, .slice eo2 el2.length ec2, .int .u64 si2, .int .u64 st2, .slice mo2 ml2.length mc2, .slice ao2 d2.length ac2] 49 (0, 0)) := by rw [hW5, hq5]; exact heap_alloc_new _ _
  have hB15 := below_on hB5 hC5 (Nat.le_refl _)
  have hb5 := hb3.below (below_on (below_on hB34 hB5' (Nat.le_refl _)) hC5 (Nat.le_refl _))
  have hy5 := hy.below hC5
  have g5 := g1.below hB15
  have kx := Hcw.out W5 hB15
  have hld : ∀ W', Below W5.heap.size W5 W' → ((Instr.loadAt 49 (.pointer (some ⟨w.heap.size, 0, none⟩))).run Try.prog W' = .ok (.agg #[.int .i64 kind1, .int .i64 frm1, .int .i64 dst1, .int .u64 term1, .int .u64 index1, .int .u64 logTerm1, .int .u64 commit1, .int .u64 round1, .bool ok1, .bool force1, .slice eo1 el1.length ec1, .int .u64 si1, .int .u64 st1, .slice mo1 ml1.length mc1, .slice ao1 d1.length ac1]) W' ∧ (Instr.loadAt 49 (.pointer (some ⟨q5, 0, none⟩))).run Try.prog W' = .ok (.agg #[.int .i64 kind2, .int .i64 frm2, .int .i64 dst2, .int .u64 term2, .int .u64 index2, .int .u64 logTerm2, .int .u64 commit2, .int .u64 round2, .bool ok2, .bool force2, .slice eo2 el2.length ec2, .int .u64 si2, .int .u64 st2, .slice mo2 ml2.length mc2, .slice ao2 d2.length ac2]) W' ∧ (convert 22 9 (.slice a3 B.length c3)).run Try.prog W' = .ok (.string ⟨B.toArray⟩) W') := fun W' hb => by
    have a1 := (hb.block _ (Array.getElem?_eq_some_iff.1 kx).1).trans kx
    have a2 := (hb.block _ (Array.getElem?_eq_some_iff.1 k2).1).trans k2
    exact ⟨ld_msgW (x := ⟨kind1, frm1, dst1, term1, index1, logTerm1, commit1, round1, ok1, force1, eo1, ec1, el1, si1, st1, mo1, mc1, ml1, ao1, ac1, d1⟩) a1, ld_msgW (x := ⟨kind2, frm2, dst2, term2, index2, logTerm2, commit2, round2, ok2, force2, eo2, ec2, el2, si2, st2, mo2, mc2, ml2, ao2, ac2, d2⟩) a2, conv_any (hb5.below hb)⟩
  have hsm := fun W (hb : Below W5.heap.size W5 W) => Hsame.out (⟨kind2, frm2, dst2, term2, index2, logTerm2, commit2, round2, ok2, force2, eo2, ec2, el2, si2, st2, mo2, mc2, ml2, ao2, ac2, d2⟩ : Mp) W (hy5.below hb) (g5.below hb) (by simp only; omega) (by simp only; omega)
  rw [decide_eq_true (show Mp.v (⟨kind2, frm2, dst2, term2, index2, logTerm2, commit2, round2, ok2, force2, eo2, ec2, el2, si2, st2, mo2, mc2, ml2, ao2, ac2, d2⟩ : Mp) = Mp.v (⟨kind1, frm1, dst1, term1, index1, logTerm1, commit1, round1, ok1, force1, eo1, ec1, el1, si1, st1, mo1, mc1, ml1, ao1, ac1, d1⟩ : Mp) from hyv)] at hsm
  dsimp only [mpA, Mp.v] at hsm
  have hbw5 := below_on hB1 hB15 (Nat.le_refl _)
  go_upto_region 7 with fail
  rw [← hW5, ← hq5]
  clear hW5 hq5 hC5 hB5 hB5' hy hyv hB34 hB4 hB3 hB2 hb3 hb5 hf3 Hl1 Hby Hrs Hrd hy5 Hcw
  obtain ⟨vx, hvx⟩ : ∃ vx, vx = Value.agg #[.int .i64 kind1, .int .i64 frm1, .int .i64 dst1, .int .u64 term1, .int .u64 index1, .int .u64 logTerm1, .int .u64 commit1, .int .u64 round1, .bool ok1, .bool force1, .slice eo1 el1.length ec1, .int .u64 si1, .int .u64 st1, .slice mo1 ml1.length mc1, .slice ao1 d1.length ac1] := ⟨_, rfl⟩
  obtain ⟨vy, hvy⟩ : ∃ vy, vy = Value.agg #[.int .i64 kind2, .int .i64 frm2, .int .i64 dst2, .int .u64 term2, .int .u64 index2, .int .u64 logTerm2, .int .u64 commit2, .int .u64 round2, .bool ok2, .bool force2, .slice eo2 el2.length ec2, .int .u64 si2, .int .u64 st2, .slice mo2 ml2.length mc2, .slice ao2 d2.length ac2] := ⟨_, rfl⟩
  rw [← hvx, ← hvy] at hld hsm
  rw [← hvx] at Hrby
  have Hld := Lib.hid hld
  have Hsm := Lib.hid hsm
  rw [← hvx]
  clear hvx hvy hld hsm kx k2 Hsame
  have hd5 : Below W5.heap.size W5 W5.drew := (Below.refl _ _).drew
  refine wp_region_held_drew (S := fun W' => (Instr.loadAt 49 (.pointer (some ⟨w.heap.size, 0, none⟩))).run Try.prog W' = .ok vx W' ∧ (Instr.loadAt 49 (.pointer (some ⟨q5, 0, none⟩))).run Try.prog W' = .ok vy W' ∧ (convert 22 9 (.slice a3 B.length c3)).run Try.prog W' = .ok (.string ⟨B.toArray⟩) W') (by kernel_rfl) (Hld.out _ hd5) (fun hHeld => ?_)
  refine wpAnyH_take (i := 0) (v := ?_) rfl (by kernel_rfl) (by kernel_rfl) (by kernel_rfl) (fun _ _ _ h => h) (Or.inl ⟨by rfl, ?_⟩) (by assumption) ?_
  rotate_left
  · intro w8 hSw; clear hSw; go_simp; (try with_reducible rfl)
  simp only [Act.put, List.getElem_toArray, List.getElem_cons_zero, List.getElem_cons_succ, List.setIfInBounds_toArray, List.set_cons_zero, List.set_cons_succ]
  refine wpAnyH_take (i := 1) (v := ?_) rfl (by kernel_rfl) (by kernel_rfl) (by kernel_rfl) (fun _ _ _ h => h) (Or.inl ⟨by rfl, ?_⟩) (by assumption) ?_
  rotate_left
  · intro w8 hSw; clear hSw; go_simp; (try with_reducible rfl)
  simp only [Act.put, List.getElem_toArray, List.getElem_cons_zero, List.getElem_cons_succ, List.setIfInBounds_toArray, List.set_cons_zero, List.set_cons_succ]
  refine wpAnyH_take (i := 2) (v := ?_) rfl (by kernel_rfl) (by kernel_rfl) (by kernel_rfl) (fun _ _ _ h => h) (Or.inl ⟨by rfl, ?_⟩) (by assumption) ?_
  rotate_left
  · intro w8 hSw; clear hSw; go_simp; (try with_reducible rfl)
  simp only [Act.put, List.getElem_toArray, List.getElem_cons_zero, List.getElem_cons_succ, List.setIfInBounds_toArray, List.set_cons_zero, List.set_cons_succ]
  refine wpAnyH_take (i := 3) (v := ?_) rfl (by kernel_rfl) (by kernel_rfl) (by kernel_rfl) (fun _ _ _ h => h) (Or.inl ⟨by rfl, ?_⟩) (by assumption) ?_
  rotate_left
  · intro w8 hSw; clear hSw; go_simp; (try with_reducible rfl)
  simp only [Act.put, List.getElem_toArray, List.getElem_cons_zero, List.getElem_cons_succ, List.setIfInBounds_toArray, List.set_cons_zero, List.set_cons_succ]
  refine wpAnyH_take (i := 4) (v := .string ⟨B.toArray⟩) rfl (by kernel_rfl) (by kernel_rfl) (by kernel_rfl) (fun _ _ _ h => h) (Or.inl ⟨by rfl, ?_⟩) (by assumption) ?_
  · intro w8 hSw; exact cv_take rfl hSw.2.2 rfl
  simp only [Act.put, List.getElem_toArray, List.getElem_cons_zero, List.getElem_cons_succ, List.setIfInBounds_toArray, List.set_cons_zero, List.set_cons_succ]
  refine wpAnyH_take (i := 5) (v := vx) rfl (by kernel_rfl) (by kernel_rfl) (by kernel_rfl) (fun _ _ _ h => h) (Or.inl ⟨by rfl, ?_⟩) (by assumption) ?_
  · intro w8 hSw; exact ld_takeW rfl hSw.1 rfl
  simp only [Act.put, List.getElem_toArray, List.getElem_cons_zero, List.getElem_cons_succ, List.setIfInBounds_toArray, List.set_cons_zero, List.set_cons_succ]
  refine wpAnyH_ready (rs := [6]) (by kernel_rfl) (by simp) ?_
  refine AllReadyH.cons rfl (fun K hK => ?_) AllReadyH.nil
  go_simp
  go_at_call 37
  refine (Hrby.out _ (g5.below hd5)).mono ?_
  rintro e w6 ⟨a6, c6, rfl, hf6⟩; have hB6 := below_on hd5 hf6.bel (Nat.le_refl _); have cv6 := conv_any (Bs.of_own hf6.own)
  refine hK.out _ _ (Hld.out _ hB6) (fun hHeld => ?_)
  clear hK K
  try simp only [Act.put, List.getElem_toArray, List.getElem_cons_zero, List.getElem_cons_succ, List.setIfInBounds_toArray, List.set_cons_zero, List.set_cons_succ]
  refine wpAnyH_ready (rs := [7]) (by kernel_rfl) (by simp) ?_
  refine AllReadyH.cons rfl (fun K hK => ?_) AllReadyH.nil
  go_simp
  refine hK.out _ _ (Hld.out _ hB6) (fun hHeld => ?_)
  clear hK K
  try simp only [Act.put, List.getElem_toArray, List.getElem_cons_zero, List.getElem_cons_succ, List.setIfInBounds_toArray, List.set_cons_zero, List.set_cons_succ]
  refine wpAnyH_take (i := 8) (v := ?_) rfl (by kernel_rfl) (by kernel_rfl) (by kernel_rfl) (fun _ _ _ h => h) (Or.inl ⟨by rfl, ?_⟩) (by assumption) ?_
  rotate_left
  · intro w8 hSw; clear hSw; go_simp; (try with_reducible rfl)
  simp only [Act.put, List.getElem_toArray, List.getElem_cons_zero, List.getElem_cons_succ, List.setIfInBounds_toArray, List.set_cons_zero, List.set_cons_succ]
  refine wpAnyH_take (i := 9) (v := ?_) rfl (by kernel_rfl) (by kernel_rfl) (by kernel_rfl) (fun _ _ _ h => h) (Or.inl ⟨by rfl, ?_⟩) (by assumption) ?_
  rotate_left
  · intro w8 hSw; clear hSw; go_simp; (try with_reducible rfl)
  simp only [Act.put, List.getElem_toArray, List.getElem_cons_zero, List.getElem_cons_succ, List.setIfInBounds_toArray, List.set_cons_zero, List.set_cons_succ]
  refine wpAnyH_take (i := 10) (v := ?_) rfl (by kernel_rfl) (by kernel_rfl) (by kernel_rfl) (fun _ _ _ h => h) (Or.inl ⟨by rfl, ?_⟩) (by assumption) ?_
  rotate_left
  · intro w8 hSw; clear hSw; go_simp; (try with_reducible rfl)
  simp only [Act.put, List.getElem_toArray, List.getElem_cons_zero, List.getElem_cons_succ, List.setIfInBounds_toArray, List.set_cons_zero, List.set_cons_succ]
  refine wpAnyH_take (i := 11) (v := ?_) rfl (by kernel_rfl) (by kernel_rfl) (by kernel_rfl) (fun _ _ _ h => h) (Or.inl ⟨by rfl, ?_⟩) (by assumption) ?_
  rotate_left
  · intro w8 hSw; clear hSw; go_simp; (try with_reducible rfl)
  simp only [Act.put, List.getElem_toArray, List.getElem_cons_zero, List.getElem_cons_succ, List.setIfInBounds_toArray, List.set_cons_zero, List.set_cons_succ]
  refine wpAnyH_take (i := 12) (v := ?_) rfl (by kernel_rfl) (by kernel_rfl) (by kernel_rfl) (fun _ _ _ h => h) (Or.inl ⟨by rfl, ?_⟩) (by assumption) ?_
  rotate_left
  · intro w8 hSw; clear hSw; go_simp; (try with_reducible rfl)
  simp only [Act.put, List.getElem_toArray, List.getElem_cons_zero, List.getElem_cons_succ, List.setIfInBounds_toArray, List.set_cons_zero, List.set_cons_succ]
  refine wpAnyH_take (i := 13) (v := ?_) rfl (by kernel_rfl) (by kernel_rfl) (by kernel_rfl) (fun _ _ _ h => h) (Or.inl ⟨by rfl, ?_⟩) (by assumption) ?_
  rotate_left
  · intro w8 hSw; clear hSw; go_simp; (try with_reducible rfl)
  simp only [Act.put, List.getElem_toArray, List.getElem_cons_zero, List.getElem_cons_succ, List.setIfInBounds_toArray, List.set_cons_zero, List.set_cons_succ]
  refine wpAnyH_take (i := 14) (v := vy) rfl (by kernel_rfl) (by kernel_rfl) (by kernel_rfl) (fun _ _ _ h => h) (Or.inl ⟨by rfl, ?_⟩) (by assumption) ?_
  · intro w8 hSw; exact ld_takeW rfl hSw.2.1 rfl
  simp only [Act.put, List.getElem_toArray, List.getElem_cons_zero, List.getElem_cons_succ, List.setIfInBounds_toArray, List.set_cons_zero, List.set_cons_succ]
  refine wpAnyH_take (i := 15) (v := vx) rfl (by kernel_rfl) (by kernel_rfl) (by kernel_rfl) (fun _ _ _ h => h) (Or.inl ⟨by rfl, ?_⟩) (by assumption) ?_
  · intro w8 hSw; exact ld_takeW rfl hSw.1 rfl
  simp only [Act.put, List.getElem_toArray, List.getElem_cons_zero, List.getElem_cons_succ, List.setIfInBounds_toArray, List.set_cons_zero, List.set_cons_succ]
  refine wpAnyH_ready (rs := [16]) (by kernel_rfl) (by simp) ?_
  refine AllReadyH.cons rfl (fun K hK => ?_) AllReadyH.nil
  go_simp
  go_at_call 28
  refine (Hsm.out _ hB6).mono ?_
  rintro e w7 ⟨rfl, hB7'⟩; have hB7 := below_on hB6 hB7' (Nat.le_refl _)
  refine hK.out _ _ (Hld.out _ hB7) (fun hHeld => ?_)
  clear hK K
  try simp only [Act.put, List.getElem_toArray, List.getElem_cons_zero, List.getElem_cons_succ, List.setIfInBounds_toArray, List.set_cons_zero, List.set_cons_succ]
  refine wpAnyH_take (i := 17) (v := ?_) rfl (by kernel_rfl) (by kernel_rfl) (by kernel_rfl) (fun _ _ _ h => h) (Or.inl ⟨by rfl, ?_⟩) (by assumption) ?_
  rotate_left
  · intro w8 hSw; clear hSw; go_simp; (try with_reducible rfl)
  simp only [Act.put, List.getElem_toArray, List.getElem_cons_zero, List.getElem_cons_succ, List.setIfInBounds_toArray, List.set_cons_zero, List.set_cons_succ]
  refine wpAnyH_take (i := 18) (v := ?_) rfl (by kernel_rfl) (by kernel_rfl) (by kernel_rfl) (fun _ _ _ h => h) (Or.inl ⟨by rfl, ?_⟩) (by assumption) ?_
  rotate_left
  · intro w8 hSw; clear hSw; go_simp; (try with_reducible rfl)
  simp only [Act.put, List.getElem_toArray, List.getElem_cons_zero, List.getElem_cons_succ, List.setIfInBounds_toArray, List.set_cons_zero, List.set_cons_succ]
  refine wpAnyH_ready (rs := [19]) (by kernel_rfl) (by simp) ?_
  refine AllReadyH.cons rfl (fun K hK => ?_) AllReadyH.nil
  go_simp
  go_at_call 24
  refine (lives30_any _).mono ?_
  rintro e w9 ⟨rfl, hB9'⟩; have hB9 := below_on hB7 hB9' (Nat.le_refl _)
  refine hK.out _ _ (Hld.out _ hB9) (fun hHeld => ?_)
  clear hK K
  try simp only [Act.put, List.getElem_toArray, List.getElem_cons_zero, List.getElem_cons_succ, List.setIfInBounds_toArray, List.set_cons_zero, List.set_cons_succ]
  refine wpAnyH_take (i := 20) (v := ?_) rfl (by kernel_rfl) (by kernel_rfl) (by kernel_rfl) (fun _ _ _ h => h) (Or.inl ⟨by rfl, ?_⟩) (by assumption) ?_
  rotate_left
  · intro w8 hSw; clear hSw; go_simp; (try with_reducible rfl)
  simp only [Act.put, List.getElem_toArray, List.getElem_cons_zero, List.getElem_cons_succ, List.setIfInBounds_toArray, List.set_cons_zero, List.set_cons_succ]
  refine wpAnyH_take (i := 21) (v := ?_) rfl (by kernel_rfl) (by kernel_rfl) (by kernel_rfl) (fun _ _ _ h => h) (Or.inl ⟨by rfl, ?_⟩) (by assumption) ?_
  rotate_left
  · intro w8 hSw; clear hSw; go_simp; (try with_reducible rfl)
  simp only [Act.put, List.getElem_toArray, List.getElem_cons_zero, List.getElem_cons_succ, List.setIfInBounds_toArray, List.set_cons_zero, List.set_cons_succ]
  refine wpAnyH_done (by kernel_rfl) ?_ _
  go_wp2_with fail
  go_ret
  exact ⟨rfl, below_on hbw5 hB9 (Nat.le_refl _)⟩
theorem wireBytes_walk (x : Mp) (w : World) (hx : MpAt w x) (h0 : MsgOk x) :
    Calls Try.prog 8 #[.agg (mpA x)] w fun e w' => e = .returned (.bool true) ∧ Below w.heap.size w w' := by
  by_cases hl : LightM x
  · cases hs : soundM x.v with
    | true => exact wireBytes_some x w hx h0 hl hs
    | false => exact wireBytes_none x w hx h0 hl hs
  · exact wireBytes_far x w hx hl
end Go.Proofs.Ytlphpjgiaflfkaa
