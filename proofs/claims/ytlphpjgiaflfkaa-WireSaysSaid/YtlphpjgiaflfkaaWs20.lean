/- Lemmas for WireSays (WireSays). No statement of the seat is proved here. -/
import Derived.Test.YtlphpjgiaflfkaaWs13
import Derived.Test.YtlphpjgiaflfkaaWs18
import Derived.Test.YtlphpjgiaflfkaaWs19
namespace Go.Proofs.Ytlphpjgiaflfkaa
set_option linter.unusedVariables false
set_option linter.unusedSimpArgs false
set_option linter.unusedSectionVars false
open Go Go.RowKit Go.Shelf
theorem ld_take {P : Program} {T : TypeId} {p : Nat} {v : Value} {W : World} {ρ : Operand → Value} {o : Oper} {x : Operand} (ho : o.op = .load T x) (h : (Instr.loadAt T (.pointer (some ⟨p, 0, none⟩))).run P W = .ok v W) (hx : ρ x = .pointer (some ⟨p, 0, none⟩)) : (execOp ρ o).run P W = .ok (.value v) W := by
  unfold execOp
  simp [ho, hx, h]
set_option maxRecDepth 100000 in
theorem ld_msg {W : World} {p : Nat} {x : Mp} (h : W.heap[p]? = some (.cells (mpA x) 49 (0, 0))) : (Instr.loadAt 49 (.pointer (some ⟨p, 0, none⟩))).run Try.prog W = .ok (.agg (mpA x)) W := by
  have p0 := block_cell h 0
  have p1 := block_cell h 1
  have p2 := block_cell h 2
  have p3 := block_cell h 3
  have p4 := block_cell h 4
  have p5 := block_cell h 5
  have p6 := block_cell h 6
  have p7 := block_cell h 7
  have p8 := block_cell h 8
  have p9 := block_cell h 9
  have p10 := block_cell h 10
  have p11 := block_cell h 11
  have p12 := block_cell h 12
  have p13 := block_cell h 13
  have p14 := block_cell h 14
  simp at p0 p1 p2 p3 p4 p5 p6 p7 p8 p9 p10 p11 p12 p13 p14
  go_simp
set_option maxRecDepth 100000 in
set_option maxHeartbeats 8000000 in
theorem wireSays_far (x y : Mp) (w : World) (hx : MpAt w x) (hy : MpAt w y) (hc : ¬ LightM x ∨ ¬ LightM y) :
    Calls Try.prog 6 #[.agg (mpA x), .agg (mpA y)] w fun e w' => e = .returned (.bool true) ∧ Below w.heap.size w w' := by
  have Hl1 := Lib.hid (fun W hW => light30_any x W hW)
  have Hl2 := Lib.hid (fun W hW => light30_any y W hW)
  obtain ⟨c1, hc1⟩ : ∃ c1, c1 = decide (LightM x) := ⟨_, rfl⟩
  obtain ⟨c2, hc2⟩ : ∃ c2, c2 = decide (LightM y) := ⟨_, rfl⟩
  rw [← hc1] at Hl1
  rw [← hc2] at Hl2
  have hcc : c1 = false ∨ c2 = false := by rw [hc1, hc2]; simpa using hc
  clear hc1 hc2 hc
  obtain ⟨kind1, frm1, dst1, term1, index1, logTerm1, commit1, round1, ok1, force1, eo1, ec1, el1, si1, st1, mo1, mc1, ml1, ao1, ac1, d1⟩ := x
  obtain ⟨kind2, frm2, dst2, term2, index2, logTerm2, commit2, round2, ok2, force2, eo2, ec2, el2, si2, st2, mo2, mc2, ml2, ao2, ac2, d2⟩ := y
  dsimp only [mpA, Mp.v] at *
  obtain ⟨W1, hW1⟩ : ∃ W1, W1 = w.alloc (.cells #[.int .i64 kind1, .int .i64 frm1, .int .i64 dst1, .int .u64 term1, .int .u64 index1, .int .u64 logTerm1, .int .u64 commit1, .int .u64 round1, .bool ok1, .bool force1, .slice eo1 el1.length ec1, .int .u64 si1, .int .u64 st1, .slice mo1 ml1.length mc1, .slice ao1 d1.length ac1] 49) := ⟨_, rfl⟩
  have hB1 : Below w.heap.size w W1 := by rw [hW1]; exact below_new _ _
  have k1 : W1.heap[w.heap.size]? = some (.cells #[.int .i64 kind1, .int .i64 frm1, .int .i64 dst1, .int .u64 term1, .int .u64 index1, .int .u64 logTerm1, .int .u64 commit1, .int .u64 round1, .bool ok1, .bool force1, .slice eo1 el1.length ec1, .int .u64 si1, .int .u64 st1, .slice mo1 ml1.length mc1, .slice ao1 d1.length ac1] 49) := by rw [hW1]; exact heap_alloc_new _ _
  have z1 : W1.heap.size = w.heap.size + 1 := by rw [hW1]; exact World.size_alloc _ _
  obtain ⟨W2, hW2⟩ : ∃ W2, W2 = W1.alloc (.cells #[.int .i64 kind2, .int .i64 frm2, .int .i64 dst2, .int .u64 term2, .int .u64 index2, .int .u64 logTerm2, .int .u64 commit2, .int .u64 round2, .bool ok2, .bool force2, .slice eo2 el2.length ec2, .int .u64 si2, .int .u64 st2, .slice mo2 ml2.length mc2, .slice ao2 d2.length ac2] 49) := ⟨_, rfl⟩
  have hB2 : Below W1.heap.size W1 W2 := by rw [hW2]; exact below_new _ _
  have m2 : W2.heap[w.heap.size + 1]? = some (.cells #[.int .i64 kind2, .int .i64 frm2, .int .i64 dst2, .int .u64 term2, .int .u64 index2, .int .u64 logTerm2, .int .u64 commit2, .int .u64 round2, .bool ok2, .bool force2, .slice eo2 el2.length ec2, .int .u64 si2, .int .u64 st2, .slice mo2 ml2.length mc2, .slice ao2 d2.length ac2] 49) := by rw [hW2, ← z1]; exact heap_alloc_new _ _
  have k2 := (hB2.block w.heap.size (by omega)).trans k1
  have hBw2 := below_on hB1 hB2 (by omega)
  have g1 := hx.below hBw2
  have g2 := hy.below hBw2
  have HB := Lib.hid hBw2
  have hcw : ∀ W', Below W2.heap.size W2 W' → (W'.heap[w.heap.size]? = some (.cells #[.int .i64 kind1, .int .i64 frm1, .int .i64 dst1, .int .u64 term1, .int .u64 index1, .int .u64 logTerm1, .int .u64 commit1, .int .u64 round1, .bool ok1, .bool force1, .slice eo1 el1.length ec1, .int .u64 si1, .int .u64 st1, .slice mo1 ml1.length mc1, .slice ao1 d1.length ac1] 49) ∧ W'.heap[w.heap.size + 1]? = some (.cells #[.int .i64 kind2, .int .i64 frm2, .int .i64 dst2, .int .u64 term2, .int .u64 index2, .int .u64 logTerm2, .int .u64 commit2, .int .u64 round2, .bool ok2, .bool force2, .slice eo2 el2.length ec2, .int .u64 si2, .int .u64 st2, .slice mo2 ml2.length mc2, .slice ao2 d2.length ac2] 49)) := fun W' hb => ⟨(hb.block _ (Array.getElem?_eq_some_iff.1 k2).1).trans k2, (hb.block _ (Array.getElem?_eq_some_iff.1 m2).1).trans m2⟩
  have Hcw := Lib.hid hcw
  clear k1 z1 hB1 hB2 hBw2 hcw
  go_enter Try.func6, Try.ntmps6
  go_upto_region 1 with fail
  rw [← hW1, ← hW2]
  clear hW1 hW2
  have p0 : W2.cell? ⟨w.heap.size, 0, none⟩ = some (.int .i64 kind1) := block_cell k2 0
  have p1 : W2.cell? ⟨w.heap.size, 1, none⟩ = some (.int .i64 frm1) := block_cell k2 1
  have p2 : W2.cell? ⟨w.heap.size, 2, none⟩ = some (.int .i64 dst1) := block_cell k2 2
  have p3 : W2.cell? ⟨w.heap.size, 3, none⟩ = some (.int .u64 term1) := block_cell k2 3
  have p4 : W2.cell? ⟨w.heap.size, 4, none⟩ = some (.int .u64 index1) := block_cell k2 4
  have p5 : W2.cell? ⟨w.heap.size, 5, none⟩ = some (.int .u64 logTerm1) := block_cell k2 5
  have p6 : W2.cell? ⟨w.heap.size, 6, none⟩ = some (.int .u64 commit1) := block_cell k2 6
  have p7 : W2.cell? ⟨w.heap.size, 7, none⟩ = some (.int .u64 round1) := block_cell k2 7
  have p8 : W2.cell? ⟨w.heap.size, 8, none⟩ = some (.bool ok1) := block_cell k2 8
  have p9 : W2.cell? ⟨w.heap.size, 9, none⟩ = some (.bool force1) := block_cell k2 9
  have p10 : W2.cell? ⟨w.heap.size, 10, none⟩ = some (.slice eo1 el1.length ec1) := block_cell k2 10
  have p11 : W2.cell? ⟨w.heap.size, 11, none⟩ = some (.int .u64 si1) := block_cell k2 11
  have p12 : W2.cell? ⟨w.heap.size, 12, none⟩ = some (.int .u64 st1) := block_cell k2 12
  have p13 : W2.cell? ⟨w.heap.size, 13, none⟩ = some (.slice mo1 ml1.length mc1) := block_cell k2 13
  have p14 : W2.cell? ⟨w.heap.size, 14, none⟩ = some (.slice ao1 d1.length ac1) := block_cell k2 14
  clear m2
  go_wp2_with fail
  refine (Hl1.out _ g1).mono ?_
  rintro e w3 ⟨rfl, hB3⟩
  cases c1
  · clear hcc
    go_upto_if 12 with fail
    go_wp2_with fail
    refine (lives30_any _).mono ?_
    rintro e w5 ⟨rfl, hB5⟩
    go_wp2_with fail
    go_ret
    exact ⟨rfl, below_on HB.out (below_on hB3 hB5 (Nat.le_refl _)) (Nat.le_refl _)⟩
  · obtain rfl : c2 = false := hcc.resolve_left (by simp)
    have g3 := g2.below hB3
    have m3 := (Hcw.out w3 hB3).2
    clear p0 p1 p2 p3 p4 p5 p6 p7 p8 p9 p10 p11 p12 p13 p14 hcc
    have r0 : w3.cell? ⟨w.heap.size + 1, 0, none⟩ = some (.int .i64 kind2) := block_cell m3 0
    have r1 : w3.cell? ⟨w.heap.size + 1, 1, none⟩ = some (.int .i64 frm2) := block_cell m3 1
    have r2 : w3.cell? ⟨w.heap.size + 1, 2, none⟩ = some (.int .i64 dst2) := block_cell m3 2
    have r3 : w3.cell? ⟨w.heap.size + 1, 3, none⟩ = some (.int .u64 term2) := block_cell m3 3
    have r4 : w3.cell? ⟨w.heap.size + 1, 4, none⟩ = some (.int .u64 index2) := block_cell m3 4
    have r5 : w3.cell? ⟨w.heap.size + 1, 5, none⟩ = some (.int .u64 logTerm2) := block_cell m3 5
    have r6 : w3.cell? ⟨w.heap.size + 1, 6, none⟩ = some (.int .u64 commit2) := block_cell m3 6
    have r7 : w3.cell? ⟨w.heap.size + 1, 7, none⟩ = some (.int .u64 round2) := block_cell m3 7
    have r8 : w3.cell? ⟨w.heap.size + 1, 8, none⟩ = some (.bool ok2) := block_cell m3 8
    have r9 : w3.cell? ⟨w.heap.size + 1, 9, none⟩ = some (.bool force2) := block_cell m3 9
    have r10 : w3.cell? ⟨w.heap.size + 1, 10, none⟩ = some (.slice eo2 el2.length ec2) := block_cell m3 10
    have r11 : w3.cell? ⟨w.heap.size + 1, 11, none⟩ = some (.int .u64 si2) := block_cell m3 11
    have r12 : w3.cell? ⟨w.heap.size + 1, 12, none⟩ = some (.int .u64 st2) := block_cell m3 12
    have r13 : w3.cell? ⟨w.heap.size + 1, 13, none⟩ = some (.slice mo2 ml2.length mc2) := block_cell m3 13
    have r14 : w3.cell? ⟨w.heap.size + 1, 14, none⟩ = some (.slice ao2 d2.length ac2) := block_cell m3 14
    go_wp2_with fail
    refine (Hl2.out _ g3).mono ?_
    rintro e w4 ⟨rfl, hB4⟩
    clear r0 r1 r2 r3 r4 r5 r6 r7 r8 r9 r10 r11 r12 r13 r14
    go_upto_if 12 with fail
    go_wp2_with fail
    refine (lives30_any _).mono ?_
    rintro e w5 ⟨rfl, hB5⟩
    go_wp2_with fail
    go_ret
    exact ⟨rfl, below_on HB.out (below_on (below_on hB3 hB4 (Nat.le_refl _)) hB5 (Nat.le_refl _)) (Nat.le_refl _)⟩
set_option maxRecDepth 100000 in
set_option maxHeartbeats 16000000 in
theorem wireSays_near (x y : Mp) (w : World) (hx : MpAt w x) (hy : MpAt w y) (hlx : LightM x) (hly : LightM y) (hx0 : 0 ≤ x.index) (hy0 : 0 ≤ y.index) :
    Calls Try.prog 6 #[.agg (mpA x), .agg (mpA y)] w fun e w' => e = .returned (.bool true) ∧ Below w.heap.size w w' := by
  obtain ⟨_, lx1, lx2, lx3⟩ := id hlx
  obtain ⟨_, ly1, ly2, ly3⟩ := id hly
  have hl1 := fun W hW => light30_any x W hW
  have hl2 := fun W hW => light30_any y W hW
  rw [decide_eq_true hlx] at hl1
  rw [decide_eq_true hly] at hl2
  have Hl1 := Lib.hid hl1
  have Hl2 := Lib.hid hl2
  have Hs1 := Lib.hid (fun W hW => wireSound_any x W hW (by omega) (by omega) hx0)
  have Hs2 := Lib.hid (fun W hW => refMsgSound_any x W hW (by omega) (by omega) hx0)
  have Hm1 := Lib.hid (fun W h1 h2 => wireSame_any x y W h1 h2 (by omega) (by omega) (by omega) (by omega))
  have Hm2 := Lib.hid (fun W h1 h2 => refMsgSame_any x y W h1 h2 (by omega) (by omega) (by omega) (by omega))
  have hm3 := fun W h1 => wireSame_any x x W h1 h1 (by omega) (by omega) (by omega) (by omega)
  rw [decide_eq_true (rfl : x.v = x.v)] at hm3
  have Hm3 := Lib.hid hm3
  obtain ⟨s, hs⟩ : ∃ s, s = soundM x.v := ⟨_, rfl⟩
  obtain ⟨m, hm⟩ : ∃ m, m = decide (x.v = y.v) := ⟨_, rfl⟩
  rw [← hs] at Hs1 Hs2
  rw [← hm] at Hm1 Hm2
  have es : (s == s) = true := by simp
  have em : (m == m) = true := by simp
  clear hl1 hl2 hm3 hs hm hlx hly lx1 lx2 lx3 ly1 ly2 ly3 hx0 hy0
  obtain ⟨kind1, frm1, dst1, term1, index1, logTerm1, commit1, round1, ok1, force1, eo1, ec1, el1, si1, st1, mo1, mc1, ml1, ao1, ac1, d1⟩ := x
  obtain ⟨kind2, frm2, dst2, term2, index2, logTerm2, commit2, round2, ok2, force2, eo2, ec2, el2, si2, st2, mo2, mc2, ml2, ao2, ac2, d2⟩ := y
  dsimp only [mpA, Mp.v] at *
  obtain ⟨W1, hW1⟩ : ∃ W1, W1 = w.alloc (.cells #[.int .i64 kind1, .int .i64 frm1, .int .i64 dst1, .int .u64 term1, .int .u64 index1, .int .u64 logTerm1, .int .u64 commit1, .int .u64 round1, .bool ok1, .bool force1, .slice eo1 el1.length ec1, .int .u64 si1, .int .u64 st1, .slice mo1 ml1.length mc1, .slice ao1 d1.length ac1] 49) := ⟨_, rfl⟩
  have hB1 : Below w.heap.size w W1 := by rw [hW1]; exact below_new _ _
  have k1 : W1.heap[w.heap.size]? = some (.cells #[.int .i64 kind1, .int .i64 frm1, .int .i64 dst1, .int .u64 term1, .int .u64 index1, .int .u64 logTerm1, .int .u64 commit1, .int .u64 round1, .bool ok1, .bool force1, .slice eo1 el1.length ec1, .int .u64 si1, .int .u64 st1, .slice mo1 ml1.length mc1, .slice ao1 d1.length ac1] 49) := by rw [hW1]; exact heap_alloc_new _ _
  have z1 : W1.heap.size = w.heap.size + 1 := by rw [hW1]; exact World.size_alloc _ _
  obtain ⟨W2, hW2⟩ : ∃ W2, W2 = W1.alloc (.cells #[.int .i64 kind2, .int .i64 frm2, .int .i64 dst2, .int .u64 term2, .int .u64 index2, .int .u64 logTerm2, .int .u64 commit2, .int .u64 round2, .bool ok2, .bool force2, .slice eo2 el2.length ec2, .int .u64 si2, .int .u64 st2, .slice mo2 ml2.length mc2, .slice ao2 d2.length ac2] 49) := ⟨_, rfl⟩
  have hB2 : Below W1.heap.size W1 W2 := by rw [hW2]; exact below_new _ _
  have m2 : W2.heap[w.heap.size + 1]? = some (.cells #[.int .i64 kind2, .int .i64 frm2, .int .i64 dst2, .int .u64 term2, .int .u64 index2, .int .u64 logTerm2, .int .u64 commit2, .int .u64 round2, .bool ok2, .bool force2, .slice eo2 el2.length ec2, .int .u64 si2, .int .u64 st2, .slice mo2 ml2.length mc2, .slice ao2 d2.length ac2] 49) := by rw [hW2, ← z1]; exact heap_alloc_new _ _
  have k2 := (hB2.block w.heap.size (by omega)).trans k1
  have hBw2 := below_on hB1 hB2 (by omega)
  have g1 := hx.below hBw2
  have g2 := hy.below hBw2
  have HB := Lib.hid hBw2
  have hcw : ∀ W', Below W2.heap.size W2 W' → (W'.heap[w.heap.size]? = some (.cells #[.int .i64 kind1, .int .i64 frm1, .int .i64 dst1, .int .u64 term1, .int .u64 index1, .int .u64 logTerm1, .int .u64 commit1, .int .u64 round1, .bool ok1, .bool force1, .slice eo1 el1.length ec1, .int .u64 si1, .int .u64 st1, .slice mo1 ml1.length mc1, .slice ao1 d1.length ac1] 49) ∧ W'.heap[w.heap.size + 1]? = some (.cells #[.int .i64 kind2, .int .i64 frm2, .int .i64 dst2, .int .u64 term2, .int .u64 index2, .int .u64 logTerm2, .int .u64 commit2, .int .u64 round2, .bool ok2, .bool force2, .slice eo2 el2.length ec2, .int .u64 si2, .int .u64 st2, .slice mo2 ml2.length mc2, .slice ao2 d2.length ac2] 49)) := fun W' hb => ⟨(hb.block _ (Array.getElem?_eq_some_iff.1 k2).1).trans k2, (hb.block _ (Array.getElem?_eq_some_iff.1 m2).1).trans m2⟩
  have Hcw := Lib.hid hcw
  clear k1 z1 hB1 hB2 hBw2 hcw
  go_enter Try.func6, Try.ntmps6
  go_upto_region 1 with fail
  rw [← hW1, ← hW2]
  clear hW1 hW2
  have p0 : W2.cell? ⟨w.heap.size, 0, none⟩ = some (.int .i64 kind1) := block_cell k2 0
  have p1 : W2.cell? ⟨w.heap.size, 1, none⟩ = some (.int .i64 frm1) := block_cell k2 1
  have p2 : W2.cell? ⟨w.heap.size, 2, none⟩ = some (.int .i64 dst1) := block_cell k2 2
  have p3 : W2.cell? ⟨w.heap.size, 3, none⟩ = some (.int .u64 term1) := block_cell k2 3
  have p4 : W2.cell? ⟨w.heap.size, 4, none⟩ = some (.int .u64 index1) := block_cell k2 4
  have p5 : W2.cell? ⟨w.heap.size, 5, none⟩ = some (.int .u64 logTerm1) := block_cell k2 5
  have p6 : W2.cell? ⟨w.heap.size, 6, none⟩ = some (.int .u64 commit1) := block_cell k2 6
  have p7 : W2.cell? ⟨w.heap.size, 7, none⟩ = some (.int .u64 round1) := block_cell k2 7
  have p8 : W2.cell? ⟨w.heap.size, 8, none⟩ = some (.bool ok1) := block_cell k2 8
  have p9 : W2.cell? ⟨w.heap.size, 9, none⟩ = some (.bool force1) := block_cell k2 9
  have p10 : W2.cell? ⟨w.heap.size, 10, none⟩ = some (.slice eo1 el1.length ec1) := block_cell k2 10
  have p11 : W2.cell? ⟨w.heap.size, 11, none⟩ = some (.int .u64 si1) := block_cell k2 11
  have p12 : W2.cell? ⟨w.heap.size, 12, none⟩ = some (.int .u64 st1) := block_cell k2 12
  have p13 : W2.cell? ⟨w.heap.size, 13, none⟩ = some (.slice mo1 ml1.length mc1) := block_cell k2 13
  have p14 : W2.cell? ⟨w.heap.size, 14, none⟩ = some (.slice ao1 d1.length ac1) := block_cell k2 14
  go_wp2_with fail
  refine (Hl1.out _ g1).mono ?_
  rintro e w3 ⟨rfl, hB3⟩
  have m3 := (Hcw.out w3 hB3).2
  clear p0 p1 p2 p3 p4 p5 p6 p7 p8 p9 p10 p11 p12 p13 p14
  have r0 : w3.cell? ⟨w.heap.size + 1, 0, none⟩ = some (.int .i64 kind2) := block_cell m3 0
  have r1 : w3.cell? ⟨w.heap.size + 1, 1, none⟩ = some (.int .i64 frm2) := block_cell m3 1
  have r2 : w3.cell? ⟨w.heap.size + 1, 2, none⟩ = some (.int .i64 dst2) := block_cell m3 2
  have r3 : w3.cell? ⟨w.heap.size + 1, 3, none⟩ = some (.int .u64 term2) := block_cell m3 3
  have r4 : w3.cell? ⟨w.heap.size + 1, 4, none⟩ = some (.int .u64 index2) := block_cell m3 4
  have r5 : w3.cell? ⟨w.heap.size + 1, 5, none⟩ = some (.int .u64 logTerm2) := block_cell m3 5
  have r6 : w3.cell? ⟨w.heap.size + 1, 6, none⟩ = some (.int .u64 commit2) := block_cell m3 6
  have r7 : w3.cell? ⟨w.heap.size + 1, 7, none⟩ = some (.int .u64 round2) := block_cell m3 7
  have r8 : w3.cell? ⟨w.heap.size + 1, 8, none⟩ = some (.bool ok2) := block_cell m3 8
  have r9 : w3.cell? ⟨w.heap.size + 1, 9, none⟩ = some (.bool force2) := block_cell m3 9
  have r10 : w3.cell? ⟨w.heap.size + 1, 10, none⟩ = some (.slice eo2 el2.length ec2) := block_cell m3 10
  have r11 : w3.cell? ⟨w.heap.size + 1, 11, none⟩ = some (.int .u64 si2) := block_cell m3 11
  have r12 : w3.cell? ⟨w.heap.size + 1, 12, none⟩ = some (.int .u64 st2) := block_cell m3 12
  have r13 : w3.cell? ⟨w.heap.size + 1, 13, none⟩ = some (.slice mo2 ml2.length mc2) := block_cell m3 13
  have r14 : w3.cell? ⟨w.heap.size + 1, 14, none⟩ = some (.slice ao2 d2.length ac2) := block_cell m3 14
  go_wp2_with fail
  refine (Hl2.out _ (g2.below hB3)).mono ?_
  rintro e w4 ⟨rfl, hB4'⟩
  have hB4 : Below W2.heap.size W2 w4 := below_on hB3 hB4' (Nat.le_refl _)
  clear r0 r1 r2 r3 r4 r5 r6 r7 r8 r9 r10 r11 r12 r13 r14 m3 k2 m2
  go_upto_if 12 with fail
  go_upto_region 3 with fail
  have hd4 : Below W2.heap.size W2 w4.drew := hB4.drew
  have hld : ∀ W', Below W2.heap.size W2 W' → ((Instr.loadAt 49 (.pointer (some ⟨w.heap.size, 0, none⟩))).run Try.prog W' = .ok (.agg #[.int .i64 kind1, .int .i64 frm1, .int .i64 dst1, .int .u64 term1, .int .u64 index1, .int .u64 logTerm1, .int .u64 commit1, .int .u64 round1, .bool ok1, .bool force1, .slice eo1 el1.length ec1, .int .u64 si1, .int .u64 st1, .slice mo1 ml1.length mc1, .slice ao1 d1.length ac1]) W' ∧ (Instr.loadAt 49 (.pointer (some ⟨w.heap.size + 1, 0, none⟩))).run Try.prog W' = .ok (.agg #[.int .i64 kind2, .int .i64 frm2, .int .i64 dst2, .int .u64 term2, .int .u64 index2, .int .u64 logTerm2, .int .u64 commit2, .int .u64 round2, .bool ok2, .bool force2, .slice eo2 el2.length ec2, .int .u64 si2, .int .u64 st2, .slice mo2 ml2.length mc2, .slice ao2 d2.length ac2]) W') := fun W' hb => by
    obtain ⟨a1, a2⟩ := Hcw.out W' hb
    exact ⟨ld_msg (x := ⟨kind1, frm1, dst1, term1, index1, logTerm1, commit1, round1, ok1, force1, eo1, ec1, el1, si1, st1, mo1, mc1, ml1, ao1, ac1, d1⟩) a1, ld_msg (x := ⟨kind2, frm2, dst2, term2, index2, logTerm2, commit2, round2, ok2, force2, eo2, ec2, el2, si2, st2, mo2, mc2, ml2, ao2, ac2, d2⟩) a2⟩
  obtain ⟨vx, hvx⟩ : ∃ vx, vx = Value.agg #[.int .i64 kind1, .int .i64 frm1, .int .i64 dst1, .int .u64 term1, .int .u64 index1, .int .u64 logTerm1, .int .u64 commit1, .int .u64 round1, .bool ok1, .bool force1, .slice eo1 el1.length ec1, .int .u64 si1, .int .u64 st1, .slice mo1 ml1.length mc1, .slice ao1 d1.length ac1] := ⟨_, rfl⟩
  obtain ⟨vy, hvy⟩ : ∃ vy, vy = Value.agg #[.int .i64 kind2, .int .i64 frm2, .int .i64 dst2, .int .u64 term2, .int .u64 index2, .int .u64 logTerm2, .int .u64 commit2, .int .u64 round2, .bool ok2, .bool force2, .slice eo2 el2.length ec2, .int .u64 si2, .int .u64 st2, .slice mo2 ml2.length mc2, .slice ao2 d2.length ac2] := ⟨_, rfl⟩
  rw [← hvx, ← hvy] at hld ⊢
  rw [← hvx] at Hs1 Hs2 Hm3
  rw [← hvx, ← hvy] at Hm1 Hm2
  have Hld := Lib.hid hld
  clear hvx hvy hld Hcw
  refine wp_region_held_drew (S := fun W' => ((Instr.loadAt 49 (.pointer (some ⟨w.heap.size, 0, none⟩))).run Try.prog W' = .ok vx W' ∧ (Instr.loadAt 49 (.pointer (some ⟨w.heap.size + 1, 0, none⟩))).run Try.prog W' = .ok vy W')) (by kernel_rfl) (Hld.out _ hd4) (fun hHeld => ?_)
  refine wpAnyH_take (i := 0) (v := vx) rfl (by kernel_rfl) (by kernel_rfl) (by kernel_rfl) (fun _ _ _ h => h) (Or.inl ⟨by rfl, ?_⟩) (by assumption) ?_
  · intro w8 hSw; exact ld_take rfl hSw.1 rfl
  simp only [Act.put, List.getElem_toArray, List.getElem_cons_zero, List.getElem_cons_succ, List.setIfInBounds_toArray, List.set_cons_zero, List.set_cons_succ]
  refine wpAnyH_take (i := 2) (v := vx) rfl (by kernel_rfl) (by kernel_rfl) (by kernel_rfl) (fun _ _ _ h => h) (Or.inl ⟨by rfl, ?_⟩) (by assumption) ?_
  · intro w8 hSw; exact ld_take rfl hSw.1 rfl
  simp only [Act.put, List.getElem_toArray, List.getElem_cons_zero, List.getElem_cons_succ, List.setIfInBounds_toArray, List.set_cons_zero, List.set_cons_succ]
  refine wpAnyH_ready (rs := [1]) (by kernel_rfl) (by simp) ?_
  refine AllReadyH.cons rfl (fun K hK => ?_) AllReadyH.nil
  go_simp
  go_at_call 25
  refine (Hs1.out _ (g1.below hd4)).mono ?_
  rintro e w5 ⟨rfl, hB5'⟩; have hB5 : Below W2.heap.size W2 w5 := below_on hd4 hB5' (Nat.le_refl _)
  refine hK.out _ _ (Hld.out _ hB5) (fun hHeld => ?_)
  clear hK K
  try simp only [Act.put, List.getElem_toArray, List.getElem_cons_zero, List.getElem_cons_succ, List.setIfInBounds_toArray, List.set_cons_zero, List.set_cons_succ]
  refine wpAnyH_ready (rs := [3]) (by kernel_rfl) (by simp) ?_
  refine AllReadyH.cons rfl (fun K hK => ?_) AllReadyH.nil
  go_simp
  go_at_call 26
  refine (Hs2.out _ (g1.below hB5)).mono ?_
  rintro e w6 ⟨rfl, hB6'⟩; have hB6 : Below W2.heap.size W2 w6 := below_on hB5 hB6' (Nat.le_refl _)
  refine hK.out _ _ (Hld.out _ hB6) (fun hHeld => ?_)
  clear hK K
  try simp only [Act.put, List.getElem_toArray, List.getElem_cons_zero, List.getElem_cons_succ, List.setIfInBounds_toArray, List.set_cons_zero, List.set_cons_succ]
  refine wpAnyH_take (i := 4) (v := ?_) rfl (by kernel_rfl) (by kernel_rfl) (by kernel_rfl) (fun _ _ _ h => h) (Or.inl ⟨by rfl, ?_⟩) (by assumption) ?_
  rotate_left
  · intro w8 hSw; clear hSw; go_simp; (try with_reducible rfl)
  simp only [Act.put, List.getElem_toArray, List.getElem_cons_zero, List.getElem_cons_succ, List.setIfInBounds_toArray, List.set_cons_zero, List.set_cons_succ]
  refine wpAnyH_take (i := 5) (v := ?_) rfl (by kernel_rfl) (by kernel_rfl) (by kernel_rfl) (fun _ _ _ h => h) (Or.inl ⟨by rfl, ?_⟩) (by assumption) ?_
  rotate_left
  · intro w8 hSw; clear hSw; go_simp; (try with_reducible rfl)
  simp only [Act.put, List.getElem_toArray, List.getElem_cons_zero, List.getElem_cons_succ, List.setIfInBounds_toArray, List.set_cons_zero, List.set_cons_succ]
  refine wpAnyH_take (i := 6) (v := vx) rfl (by kernel_rfl) (by kernel_rfl) (by kernel_rfl) (fun _ _ _ h => h) (Or.inl ⟨by rfl, ?_⟩) (by assumption) ?_
  · intro w8 hSw; exact ld_take rfl hSw.1 rfl
  simp only [Act.put, List.getElem_toArray, List.getElem_cons_zero, List.getElem_cons_succ, List.setIfInBounds_toArray, List.set_cons_zero, List.set_cons_succ]
  refine wpAnyH_take (i := 7) (v := vy) rfl (by kernel_rfl) (by kernel_rfl) (by kernel_rfl) (fun _ _ _ h => h) (Or.inl ⟨by rfl, ?_⟩) (by assumption) ?_
  · intro w8 hSw; exact ld_take rfl hSw.2 rfl
  simp only [Act.put, List.getElem_toArray, List.getElem_cons_zero, List.getElem_cons_succ, List.setIfInBounds_toArray, List.set_cons_zero, List.set_cons_succ]
  refine wpAnyH_take (i := 9) (v := vx) rfl (by kernel_rfl) (by kernel_rfl) (by kernel_rfl) (fun _ _ _ h => h) (Or.inl ⟨by rfl, ?_⟩) (by assumption) ?_
  · intro w8 hSw; exact ld_take rfl hSw.1 rfl
  simp only [Act.put, List.getElem_toArray, List.getElem_cons_zero, List.getElem_cons_succ, List.setIfInBounds_toArray, List.set_cons_zero, List.set_cons_succ]
  refine wpAnyH_take (i := 10) (v := vy) rfl (by kernel_rfl) (by kernel_rfl) (by kernel_rfl) (fun _ _ _ h => h) (Or.inl ⟨by rfl, ?_⟩) (by assumption) ?_
  · intro w8 hSw; exact ld_take rfl hSw.2 rfl
  simp only [Act.put, List.getElem_toArray, List.getElem_cons_zero, List.getElem_cons_succ, List.setIfInBounds_toArray, List.set_cons_zero, List.set_cons_succ]
  refine wpAnyH_ready (rs := [8]) (by kernel_rfl) (by simp) ?_
  refine AllReadyH.cons rfl (fun K hK => ?_) AllReadyH.nil
  go_simp
  go_at_call 27
  refine (Hm1.out _ (g1.below hB6) (g2.below hB6)).mono ?_
  rintro e w7 ⟨rfl, hB7'⟩; have hB7 : Below W2.heap.size W2 w7 := below_on hB6 hB7' (Nat.le_refl _)
  refine hK.out _ _ (Hld.out _ hB7) (fun hHeld => ?_)
  clear hK K
  try simp only [Act.put, List.getElem_toArray, List.getElem_cons_zero, List.getElem_cons_succ, List.setIfInBounds_toArray, List.set_cons_zero, List.set_cons_succ]
  refine wpAnyH_ready (rs := [11]) (by kernel_rfl) (by simp) ?_
  refine AllReadyH.cons rfl (fun K hK => ?_) AllReadyH.nil
  go_simp
  go_at_call 28
  refine (Hm2.out _ (g1.below hB7) (g2.below hB7)).mono ?_
  rintro e w9 ⟨rfl, hB9'⟩; have hB9 : Below W2.heap.size W2 w9 := below_on hB7 hB9' (Nat.le_refl _)
  refine hK.out _ _ (Hld.out _ hB9) (fun hHeld => ?_)
  clear hK K
  try simp only [Act.put, List.getElem_toArray, List.getElem_cons_zero, List.getElem_cons_succ, List.setIfInBounds_toArray, List.set_cons_zero, List.set_cons_succ]
  refine wpAnyH_take (i := 12) (v := ?_) rfl (by kernel_rfl) (by kernel_rfl) (by kernel_rfl) (fun _ _ _ h => h) (Or.inl ⟨by rfl, ?_⟩) (by assumption) ?_
  rotate_left
  · intro w8 hSw; clear hSw; go_simp; (try with_reducible rfl)
  simp only [Act.put, List.getElem_toArray, List.getElem_cons_zero, List.getElem_cons_succ, List.setIfInBounds_toArray, List.set_cons_zero, List.set_cons_succ]
  refine wpAnyH_take (i := 13) (v := ?_) rfl (by kernel_rfl) (by kernel_rfl) (by kernel_rfl) (fun _ _ _ h => h) (Or.inl ⟨by rfl, ?_⟩) (by assumption) ?_
  rotate_left
  · intro w8 hSw; clear hSw; go_simp; (try with_reducible rfl)
  simp only [Act.put, List.getElem_toArray, List.getElem_cons_zero, List.getElem_cons_succ, List.setIfInBounds_toArray, List.set_cons_zero, List.set_cons_succ]
  refine wpAnyH_take (i := 14) (v := ?_) rfl (by kernel_rfl) (by kernel_rfl) (by kernel_rfl) (fun _ _ _ h => h) (Or.inl ⟨by rfl, ?_⟩) (by assumption) ?_
  rotate_left
  · intro w8 hSw; clear hSw; go_simp; (try with_reducible rfl)
  simp only [Act.put, List.getElem_toArray, List.getElem_cons_zero, List.getElem_cons_succ, List.setIfInBounds_toArray, List.set_cons_zero, List.set_cons_succ]
  refine wpAnyH_take (i := 15) (v := vx) rfl (by kernel_rfl) (by kernel_rfl) (by kernel_rfl) (fun _ _ _ h => h) (Or.inl ⟨by rfl, ?_⟩) (by assumption) ?_
  · intro w8 hSw; exact ld_take rfl hSw.1 rfl
  simp only [Act.put, List.getElem_toArray, List.getElem_cons_zero, List.getElem_cons_succ, List.setIfInBounds_toArray, List.set_cons_zero, List.set_cons_succ]
  refine wpAnyH_take (i := 16) (v := vx) rfl (by kernel_rfl) (by kernel_rfl) (by kernel_rfl) (fun _ _ _ h => h) (Or.inl ⟨by rfl, ?_⟩) (by assumption) ?_
  · intro w8 hSw; exact ld_take rfl hSw.1 rfl
  simp only [Act.put, List.getElem_toArray, List.getElem_cons_zero, List.getElem_cons_succ, List.setIfInBounds_toArray, List.set_cons_zero, List.set_cons_succ]
  refine wpAnyH_ready (rs := [17]) (by kernel_rfl) (by simp) ?_
  refine AllReadyH.cons rfl (fun K hK => ?_) AllReadyH.nil
  go_simp
  go_at_call 27
  refine (Hm3.out _ (g1.below hB9)).mono ?_
  rintro e w10 ⟨rfl, hB10'⟩; have hB10 : Below W2.heap.size W2 w10 := below_on hB9 hB10' (Nat.le_refl _)
  refine hK.out _ _ (Hld.out _ hB10) (fun hHeld => ?_)
  clear hK K
  try simp only [Act.put, List.getElem_toArray, List.getElem_cons_zero, List.getElem_cons_succ, List.setIfInBounds_toArray, List.set_cons_zero, List.set_cons_succ]
  refine wpAnyH_take (i := 18) (v := ?_) rfl (by kernel_rfl) (by kernel_rfl) (by kernel_rfl) (fun _ _ _ h => h) (Or.inl ⟨by rfl, ?_⟩) (by assumption) ?_
  rotate_left
  · intro w8 hSw; clear hSw; go_simp; (try with_reducible rfl)
  simp only [Act.put, List.getElem_toArray, List.getElem_cons_zero, List.getElem_cons_succ, List.setIfInBounds_toArray, List.set_cons_zero, List.set_cons_succ]
  refine wpAnyH_take (i := 19) (v := ?_) rfl (by kernel_rfl) (by kernel_rfl) (by kernel_rfl) (fun _ _ _ h => h) (Or.inl ⟨by rfl, ?_⟩) (by assumption) ?_
  rotate_left
  · intro w8 hSw; clear hSw; go_simp; (try with_reducible rfl)
  simp only [Act.put, List.getElem_toArray, List.getElem_cons_zero, List.getElem_cons_succ, List.setIfInBounds_toArray, List.set_cons_zero, List.set_cons_succ]
  refine wpAnyH_ready (rs := [20]) (by kernel_rfl) (by simp) ?_
  refine AllReadyH.cons rfl (fun K hK => ?_) AllReadyH.nil
  go_simp
  go_at_call 24
  refine (lives30_any _).mono ?_
  rintro e w11 ⟨rfl, hB11'⟩; have hB11 : Below W2.heap.size W2 w11 := below_on hB10 hB11' (Nat.le_refl _)
  refine hK.out _ _ (Hld.out _ hB11) (fun hHeld => ?_)
  clear hK K
  try simp only [Act.put, List.getElem_toArray, List.getElem_cons_zero, List.getElem_cons_succ, List.setIfInBounds_toArray, List.set_cons_zero, List.set_cons_succ]
  refine wpAnyH_take (i := 21) (v := ?_) rfl (by kernel_rfl) (by kernel_rfl) (by kernel_rfl) (fun _ _ _ h => h) (Or.inl ⟨by rfl, ?_⟩) (by assumption) ?_
  rotate_left
  · intro w8 hSw; clear hSw; go_simp; (try with_reducible rfl)
  simp only [Act.put, List.getElem_toArray, List.getElem_cons_zero, List.getElem_cons_succ, List.setIfInBounds_toArray, List.set_cons_zero, List.set_cons_succ]
  refine wpAnyH_take (i := 22) (v := ?_) rfl (by kernel_rfl) (by kernel_rfl) (by kernel_rfl) (fun _ _ _ h => h) (Or.inl ⟨by rfl, ?_⟩) (by assumption) ?_
  rotate_left
  · intro w8 hSw; clear hSw; go_simp; (try with_reducible rfl)
  simp only [Act.put, List.getElem_toArray, List.getElem_cons_zero, List.getElem_cons_succ, List.setIfInBounds_toArray, List.set_cons_zero, List.set_cons_succ]
  refine wpAnyH_done (by kernel_rfl) ?_ _
  go_wp2_with fail
  go_ret
  exact ⟨rfl, below_on HB.out hB11 (Nat.le_refl _)⟩
theorem wireSays_walk (x y : Mp) (w : World) (hx : MpAt w x) (hx0 : MsgOk x) (hy : MpAt w y) (hy0 : MsgOk y) :
    Calls Try.prog 6 #[.agg (mpA x), .agg (mpA y)] w fun e w' => e = .returned (.bool true) ∧ Below w.heap.size w w' := by
  by_cases h1 : LightM x
  · by_cases h2 : LightM y
    · exact wireSays_near x y w hx hy h1 h2 hx0.1 hy0.1
    · exact wireSays_far x y w hx hy (.inr h2)
  · exact wireSays_far x y w hx hy (.inl h1)
end Go.Proofs.Ytlphpjgiaflfkaa
