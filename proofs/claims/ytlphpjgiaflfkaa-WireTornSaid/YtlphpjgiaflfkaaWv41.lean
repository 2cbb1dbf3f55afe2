/- Lemmas for WireReads (WireTorn). No statement of the seat is proved here. -/
import Derived.Test.YtlphpjgiaflfkaaWv21
import Derived.Test.YtlphpjgiaflfkaaWv28
import Derived.Test.YtlphpjgiaflfkaaWv34
import Derived.Test.YtlphpjgiaflfkaaWv40
namespace Go.Proofs.Ytlphpjgiaflfkaa
set_option linter.unusedVariables false
set_option linter.unusedSimpArgs false
set_option linter.unusedSectionVars false
open Go Go.RowKit Go.Shelf
theorem torn_b (c : Nat) (h : c ≤ 65535) : wrap64 (c : Int) = (c : Int) := IntWalk.wrap64_in (c : Int) (by omega)
theorem torn_c (c N m : Nat) (h : m = c % N) : (c : Int).tmod (N : Int) = (m : Int) := by
  subst h
  rw [Int.tmod_eq_emod_of_nonneg (by omega)]; exact (Int.natCast_emod _ _).symm
theorem torn_k (n a : Nat) (d : Int) (h : (a : Int) - d = (n : Int)) (ha : n ≤ 1000000) : wrap64 ((a : Int) - d) = (n : Int) := by
  rw [h]; exact IntWalk.wrap64_in (n : Int) (by omega)
theorem and24 (t : Nat) (h : t ≤ 4294967295) : bits BinOp.and IntKind.u32 (t : Int) 16777215 = ((t % 16777216 : Nat) : Int) := by
  have := u32_and_nat t 16777215 (by omega) (by omega)
  rw [show t &&& 16777215 = t % 16777216 from Nat.and_two_pow_sub_one_eq_mod _ 24] at this
  simpa using this
set_option maxRecDepth 100000 in
set_option maxHeartbeats 16000000 in
theorem wireTorn_far (x : Mp) (cut at_ turn : Int) (w : World) (hx : MpAt w x) (hc : ¬ LightM x) :
    Calls Try.prog 10 #[.agg (mpA x), .int .u16 cut, .int .u16 at_, .int .u32 turn] w fun e w' => e = .returned (.bool true) ∧ Below w.heap.size w w' := by
  have hl1 := fun W hW => light30_any x W hW
  rw [decide_eq_false hc] at hl1
  have Hl1 := Lib.hid hl1
  clear hl1 hc
  obtain ⟨kind1, frm1, dst1, term1, index1, logTerm1, commit1, round1, ok1, force1, eo1, ec1, el1, si1, st1, mo1, mc1, ml1, ao1, ac1, d1⟩ := x
  dsimp only [mpA, Mp.v] at *
  obtain ⟨W1, hW1⟩ : ∃ W1, W1 = w.alloc (.cells #[.int .i64 kind1, .int .i64 frm1, .int .i64 dst1, .int .u64 term1, .int .u64 index1, .int .u64 logTerm1, .int .u64 commit1, .int .u64 round1, .bool ok1, .bool force1, .slice eo1 el1.length ec1, .int .u64 si1, .int .u64 st1, .slice mo1 ml1.length mc1, .slice ao1 d1.length ac1] 49) := ⟨_, rfl⟩
  have hB1 : Below w.heap.size w W1 := by rw [hW1]; exact below_new _ _
  have k1 : W1.heap[w.heap.size]? = some (.cells #[.int .i64 kind1, .int .i64 frm1, .int .i64 dst1, .int .u64 term1, .int .u64 index1, .int .u64 logTerm1, .int .u64 commit1, .int .u64 round1, .bool ok1, .bool force1, .slice eo1 el1.length ec1, .int .u64 si1, .int .u64 st1, .slice mo1 ml1.length mc1, .slice ao1 d1.length ac1] 49 (0, 0)) := by rw [hW1]; exact heap_alloc_new _ _
  have g1 := hx.below hB1
  have hcw : ∀ W', Below W1.heap.size W1 W' → W'.heap[w.heap.size]? = some (.cells #[.int .i64 kind1, .int .i64 frm1, .int .i64 dst1, .int .u64 term1, .int .u64 index1, .int .u64 logTerm1, .int .u64 commit1, .int .u64 round1, .bool ok1, .bool force1, .slice eo1 el1.length ec1, .int .u64 si1, .int .u64 st1, .slice mo1 ml1.length mc1, .slice ao1 d1.length ac1] 49 (0, 0)) := fun W' hb => (hb.block _ (Array.getElem?_eq_some_iff.1 k1).1).trans k1
  have Hcw := Lib.hid hcw
  clear hcw
  go_enter Try.func10, Try.ntmps10
  go_upto_region 1 with fail
  rw [← hW1]
  clear hW1
  have p0 : W1.cell? ⟨w.heap.size, 0, none⟩ = some (.int .i64 kind1) := block_cell k1 0
  have p1 : W1.cell? ⟨w.heap.size, 1, none⟩ = some (.int .i64 frm1) := block_cell k1 1
  have p2 : W1.cell? ⟨w.heap.size, 2, none⟩ = some (.int .i64 dst1) := block_cell k1 2
  have p3 : W1.cell? ⟨w.heap.size, 3, none⟩ = some (.int .u64 term1) := block_cell k1 3
  have p4 : W1.cell? ⟨w.heap.size, 4, none⟩ = some (.int .u64 index1) := block_cell k1 4
  have p5 : W1.cell? ⟨w.heap.size, 5, none⟩ = some (.int .u64 logTerm1) := block_cell k1 5
  have p6 : W1.cell? ⟨w.heap.size, 6, none⟩ = some (.int .u64 commit1) := block_cell k1 6
  have p7 : W1.cell? ⟨w.heap.size, 7, none⟩ = some (.int .u64 round1) := block_cell k1 7
  have p8 : W1.cell? ⟨w.heap.size, 8, none⟩ = some (.bool ok1) := block_cell k1 8
  have p9 : W1.cell? ⟨w.heap.size, 9, none⟩ = some (.bool force1) := block_cell k1 9
  have p10 : W1.cell? ⟨w.heap.size, 10, none⟩ = some (.slice eo1 el1.length ec1) := block_cell k1 10
  have p11 : W1.cell? ⟨w.heap.size, 11, none⟩ = some (.int .u64 si1) := block_cell k1 11
  have p12 : W1.cell? ⟨w.heap.size, 12, none⟩ = some (.int .u64 st1) := block_cell k1 12
  have p13 : W1.cell? ⟨w.heap.size, 13, none⟩ = some (.slice mo1 ml1.length mc1) := block_cell k1 13
  have p14 : W1.cell? ⟨w.heap.size, 14, none⟩ = some (.slice ao1 d1.length ac1) := block_cell k1 14
  go_wp2_with fail
  refine (Hl1.out _ g1).mono ?_
  rintro e W2 ⟨rfl, hB2⟩
  have hBw2 := below_on hB1 hB2 (Nat.le_refl _)
  clear p0 p1 p2 p3 p4 p5 p6 p7 p8 p9 p10 p11 p12 p13 p14
  go_wp2_with fail
  refine (lives30_any _).mono ?_
  rintro e W5 ⟨rfl, hB5⟩
  go_wp2_with fail
  go_ret
  exact ⟨rfl, below_on hBw2 hB5 (Nat.le_refl _)⟩
set_option maxRecDepth 100000 in
set_option maxHeartbeats 16000000 in
theorem wireTorn_none (x : Mp) (cut at_ turn : Int) (w : World) (hx : MpAt w x) (h0 : MsgOk x) (hl : LightM x) (hs : soundM x.v = false) :
    Calls Try.prog 10 #[.agg (mpA x), .int .u16 cut, .int .u16 at_, .int .u32 turn] w fun e w' => e = .returned (.bool true) ∧ Below w.heap.size w w' := by
  have hl1 := fun W hW => light30_any x W hW
  rw [decide_eq_true hl] at hl1
  have Hl1 := Lib.hid hl1
  obtain ⟨_, lx1, lx2, lx3⟩ := id hl
  clear hl1
  have hrs := fun W hW => refMsgSound_any x W hW (by omega) (by omega) h0.1
  rw [hs] at hrs
  have Hrs := Lib.hid hrs
  clear hrs hs hl h0 lx1 lx2 lx3
  obtain ⟨kind1, frm1, dst1, term1, index1, logTerm1, commit1, round1, ok1, force1, eo1, ec1, el1, si1, st1, mo1, mc1, ml1, ao1, ac1, d1⟩ := x
  dsimp only [mpA, Mp.v] at *
  obtain ⟨W1, hW1⟩ : ∃ W1, W1 = w.alloc (.cells #[.int .i64 kind1, .int .i64 frm1, .int .i64 dst1, .int .u64 term1, .int .u64 index1, .int .u64 logTerm1, .int .u64 commit1, .int .u64 round1, .bool ok1, .bool force1, .slice eo1 el1.length ec1, .int .u64 si1, .int .u64 st1, .slice mo1 ml1.length mc1, .slice ao1 d1.length ac1] 49) := ⟨_, rfl⟩
  have hB1 : Below w.heap.size w W1 := by rw [hW1]; exact below_new _ _
  have k1 : W1.heap[w.heap.size]? = some (.cells #[.int .i64 kind1, .int .i64 frm1, .int .i64 dst1, .int .u64 term1, .int .u64 index1, .int .u64 logTerm1, .int .u64 commit1, .int .u64 round1, .bool ok1, .bool force1, .slice eo1 el1.length ec1, .int .u64 si1, .int .u64 st1, .slice mo1 ml1.length mc1, .slice ao1 d1.length ac1] 49 (0, 0)) := by rw [hW1]; exact heap_alloc_new _ _
  have g1 := hx.below hB1
  have hcw : ∀ W', Below W1.heap.size W1 W' → W'.heap[w.heap.size]? = some (.cells #[.int .i64 kind1, .int .i64 frm1, .int .i64 dst1, .int .u64 term1, .int .u64 index1, .int .u64 logTerm1, .int .u64 commit1, .int .u64 round1, .bool ok1, .bool force1, .slice eo1 el1.length ec1, .int .u64 si1, .int .u64 st1, .slice mo1 ml1.length mc1, .slice ao1 d1.length ac1] 49 (0, 0)) := fun W' hb => (hb.block _ (Array.getElem?_eq_some_iff.1 k1).1).trans k1
  have Hcw := Lib.hid hcw
  clear hcw
  go_enter Try.func10, Try.ntmps10
  go_upto_region 1 with fail
  rw [← hW1]
  clear hW1
  have p0 : W1.cell? ⟨w.heap.size, 0, none⟩ = some (.int .i64 kind1) := block_cell k1 0
  have p1 : W1.cell? ⟨w.heap.size, 1, none⟩ = some (.int .i64 frm1) := block_cell k1 1
  have p2 : W1.cell? ⟨w.heap.size, 2, none⟩ = some (.int .i64 dst1) := block_cell k1 2
  have p3 : W1.cell? ⟨w.heap.size, 3, none⟩ = some (.int .u64 term1) := block_cell k1 3
  have p4 : W1.cell? ⟨w.heap.size, 4, none⟩ = some (.int .u64 index1) := block_cell k1 4
  have p5 : W1.cell? ⟨w.heap.size, 5, none⟩ = some (.int .u64 logTerm1) := block_cell k1 5
  have p6 : W1.cell? ⟨w.heap.size, 6, none⟩ = some (.int .u64 commit1) := block_cell k1 6
  have p7 : W1.cell? ⟨w.heap.size, 7, none⟩ = some (.int .u64 round1) := block_cell k1 7
  have p8 : W1.cell? ⟨w.heap.size, 8, none⟩ = some (.bool ok1) := block_cell k1 8
  have p9 : W1.cell? ⟨w.heap.size, 9, none⟩ = some (.bool force1) := block_cell k1 9
  have p10 : W1.cell? ⟨w.heap.size, 10, none⟩ = some (.slice eo1 el1.length ec1) := block_cell k1 10
  have p11 : W1.cell? ⟨w.heap.size, 11, none⟩ = some (.int .u64 si1) := block_cell k1 11
  have p12 : W1.cell? ⟨w.heap.size, 12, none⟩ = some (.int .u64 st1) := block_cell k1 12
  have p13 : W1.cell? ⟨w.heap.size, 13, none⟩ = some (.slice mo1 ml1.length mc1) := block_cell k1 13
  have p14 : W1.cell? ⟨w.heap.size, 14, none⟩ = some (.slice ao1 d1.length ac1) := block_cell k1 14
  go_wp2_with fail
  refine (Hl1.out _ g1).mono ?_
  rintro e W2 ⟨rfl, hB2⟩
  clear p0 p1 p2 p3 p4 p5 p6 p7 p8 p9 p10 p11 p12 p13 p14
  have kW2 := Hcw.out W2 hB2
  have p0 : W2.cell? ⟨w.heap.size, 0, none⟩ = some (.int .i64 kind1) := block_cell kW2 0
  have p1 : W2.cell? ⟨w.heap.size, 1, none⟩ = some (.int .i64 frm1) := block_cell kW2 1
  have p2 : W2.cell? ⟨w.heap.size, 2, none⟩ = some (.int .i64 dst1) := block_cell kW2 2
  have p3 : W2.cell? ⟨w.heap.size, 3, none⟩ = some (.int .u64 term1) := block_cell kW2 3
  have p4 : W2.cell? ⟨w.heap.size, 4, none⟩ = some (.int .u64 index1) := block_cell kW2 4
  have p5 : W2.cell? ⟨w.heap.size, 5, none⟩ = some (.int .u64 logTerm1) := block_cell kW2 5
  have p6 : W2.cell? ⟨w.heap.size, 6, none⟩ = some (.int .u64 commit1) := block_cell kW2 6
  have p7 : W2.cell? ⟨w.heap.size, 7, none⟩ = some (.int .u64 round1) := block_cell kW2 7
  have p8 : W2.cell? ⟨w.heap.size, 8, none⟩ = some (.bool ok1) := block_cell kW2 8
  have p9 : W2.cell? ⟨w.heap.size, 9, none⟩ = some (.bool force1) := block_cell kW2 9
  have p10 : W2.cell? ⟨w.heap.size, 10, none⟩ = some (.slice eo1 el1.length ec1) := block_cell kW2 10
  have p11 : W2.cell? ⟨w.heap.size, 11, none⟩ = some (.int .u64 si1) := block_cell kW2 11
  have p12 : W2.cell? ⟨w.heap.size, 12, none⟩ = some (.int .u64 st1) := block_cell kW2 12
  have p13 : W2.cell? ⟨w.heap.size, 13, none⟩ = some (.slice mo1 ml1.length mc1) := block_cell kW2 13
  have p14 : W2.cell? ⟨w.heap.size, 14, none⟩ = some (.slice ao1 d1.length ac1) := block_cell kW2 14
  go_wp2_with fail
  refine (Hrs.out _ (g1.below hB2)).mono ?_
  rintro e W4 ⟨rfl, hB4'⟩
  have hB4 := below_on hB2 hB4' (Nat.le_refl _)
  clear p0 p1 p2 p3 p4 p5 p6 p7 p8 p9 p10 p11 p12 p13 p14
  go_wp2_with fail
  refine (lives30_any _).mono ?_
  rintro e W5 ⟨rfl, hB5⟩
  go_wp2_with fail
  go_ret
  exact ⟨rfl, below_on hB1 (below_on hB4 hB5 (Nat.le_refl _)) (Nat.le_refl _)⟩
set_option maxRecDepth 100000 in
set_option maxHeartbeats 16000000 in
theorem wireTorn_some (x : Mp) (cut at_ turn : Nat) (w : World) (hx : MpAt w x) (h0 : MsgOk x) (hl : LightM x) (hs : soundM x.v = true) (hcut : cut ≤ 65535) (hat : at_ ≤ 65535) (hturn : turn ≤ 4294967295) :
    Calls Try.prog 10 #[.agg (mpA x), .int .u16 (cut : Int), .int .u16 (at_ : Int), .int .u32 (turn : Int)] w fun e w' => e = .returned (.bool true) ∧ Below w.heap.size w w' := by
  have hl1 := fun W hW => light30_any x W hW
  rw [decide_eq_true hl] at hl1
  have Hl1 := Lib.hid hl1
  obtain ⟨_, lx1, lx2, lx3⟩ := id hl
  clear hl1
  have hby := fun W hW => wireBytes_ok x W hW h0 (by omega) hs
  have hrs := fun W hW => refMsgSound_any x W hW (by omega) (by omega) h0.1
  rw [hs] at hrs
  have Hrs := Lib.hid hrs
  have hbo := bodyB_len x.v hs h0
  have hBl : (wireB x.v).length = (bodyB x.v).length + 8 := Fr.wrapped_length _ _
  have hBz := wire_zero x.v
  have hct := wire_cut 6 x.v (by omega)
  obtain ⟨B, hB⟩ : ∃ B, B = wireB x.v := ⟨_, rfl⟩
  rw [← hB] at hby hBl hBz hct
  have Hby := Lib.hid hby
  have b1 : 8 ≤ B.length := by omega
  have b2 : B.length ≤ 34000 := by omega
  obtain ⟨m, hm⟩ : ∃ m, m = cut % B.length := ⟨_, rfl⟩
  have hmlt : m < B.length := by rw [hm]; exact Nat.mod_lt _ (by omega)
  obtain ⟨D, hD⟩ : ∃ D, B.length = D + 2 := ⟨B.length - 2, by omega⟩
  obtain ⟨k, hk⟩ : ∃ k, k = at_ % D := ⟨_, rfl⟩
  have hklt : k < D := by rw [hk]; exact Nat.mod_lt _ (by omega)
  have s1 : wrap64 (cut : Int) = (cut : Int) := torn_b _ hcut
  have s2 : (cut : Int).tmod (B.length : Int) = (m : Int) := torn_c _ _ _ hm
  have s3 : ¬ (B.length : Int) = 0 := by omega
  have s4 : wrap64 (at_ : Int) = (at_ : Int) := torn_b _ hat
  have s5 : wrap64 ((B.length : Int) - 2) = (D : Int) := torn_k D _ 2 (by omega) (by omega)
  have s6 : (at_ : Int).tmod (D : Int) = (k : Int) := torn_c _ _ _ hk
  have s7 : ¬ (D : Int) = 0 := by omega
  have s8 : bits BinOp.and IntKind.u32 (turn : Int) 16777215 = ((turn % 16777216 : Nat) : Int) := and24 turn hturn
  have hTl : (B.take m).length = m := by rw [List.length_take]; omega
  have hrd := fun a c W hW => wireRead_any a c (B.take m) W hW (by omega)
  rw [hct m hmlt, hTl] at hrd
  have Hrd := Lib.hid hrd
  have HD := Lib.hid hD
  have Hklt := Lib.hid hklt
  have Hmlt := Lib.hid hmlt
  have HBz := Lib.hid hBz
  have Hb1 := Lib.hid b1
  have Hb2 := Lib.hid b2
  have b1' : ¬ (B.length : Int) < 8 := by omega
  have m0 : (0 : Int) ≤ (m : Int) := by omega
  have m1 : (m : Int) ≤ (B.length : Int) := by omega
  clear hby hrs hs hl h0 hct hB hm hk hrd hbo hBl hBz hD hklt hmlt hTl b1 b2
  obtain ⟨kind1, frm1, dst1, term1, index1, logTerm1, commit1, round1, ok1, force1, eo1, ec1, el1, si1, st1, mo1, mc1, ml1, ao1, ac1, d1⟩ := x
  dsimp only [mpA, Mp.v] at *
  obtain ⟨W1, hW1⟩ : ∃ W1, W1 = w.alloc (.cells #[.int .i64 kind1, .int .i64 frm1, .int .i64 dst1, .int .u64 term1, .int .u64 index1, .int .u64 logTerm1, .int .u64 commit1, .int .u64 round1, .bool ok1, .bool force1, .slice eo1 el1.length ec1, .int .u64 si1, .int .u64 st1, .slice mo1 ml1.length mc1, .slice ao1 d1.length ac1] 49) := ⟨_, rfl⟩
  have hB1 : Below w.heap.size w W1 := by rw [hW1]; exact below_new _ _
  have k1 : W1.heap[w.heap.size]? = some (.cells #[.int .i64 kind1, .int .i64 frm1, .int .i64 dst1, .int .u64 term1, .int .u64 index1, .int .u64 logTerm1, .int .u64 commit1, .int .u64 round1, .bool ok1, .bool force1, .slice eo1 el1.length ec1, .int .u64 si1, .int .u64 st1, .slice mo1 ml1.length mc1, .slice ao1 d1.length ac1] 49 (0, 0)) := by rw [hW1]; exact heap_alloc_new _ _
  have g1 := hx.below hB1
  have hcw : ∀ W', Below W1.heap.size W1 W' → W'.heap[w.heap.size]? = some (.cells #[.int .i64 kind1, .int .i64 frm1, .int .i64 dst1, .int .u64 term1, .int .u64 index1, .int .u64 logTerm1, .int .u64 commit1, .int .u64 round1, .bool ok1, .bool force1, .slice eo1 el1.length ec1, .int .u64 si1, .int .u64 st1, .slice mo1 ml1.length mc1, .slice ao1 d1.length ac1] 49 (0, 0)) := fun W' hb => (hb.block _ (Array.getElem?_eq_some_iff.1 k1).1).trans k1
  have Hcw := Lib.hid hcw
  clear hcw
  go_enter Try.func10, Try.ntmps10
  go_upto_region 1 with fail
  rw [← hW1]
  clear hW1
  have p0 : W1.cell? ⟨w.heap.size, 0, none⟩ = some (.int .i64 kind1) := block_cell k1 0
  have p1 : W1.cell? ⟨w.heap.size, 1, none⟩ = some (.int .i64 frm1) := block_cell k1 1
  have p2 : W1.cell? ⟨w.heap.size, 2, none⟩ = some (.int .i64 dst1) := block_cell k1 2
  have p3 : W1.cell? ⟨w.heap.size, 3, none⟩ = some (.int .u64 term1) := block_cell k1 3
  have p4 : W1.cell? ⟨w.heap.size, 4, none⟩ = some (.int .u64 index1) := block_cell k1 4
  have p5 : W1.cell? ⟨w.heap.size, 5, none⟩ = some (.int .u64 logTerm1) := block_cell k1 5
  have p6 : W1.cell? ⟨w.heap.size, 6, none⟩ = some (.int .u64 commit1) := block_cell k1 6
  have p7 : W1.cell? ⟨w.heap.size, 7, none⟩ = some (.int .u64 round1) := block_cell k1 7
  have p8 : W1.cell? ⟨w.heap.size, 8, none⟩ = some (.bool ok1) := block_cell k1 8
  have p9 : W1.cell? ⟨w.heap.size, 9, none⟩ = some (.bool force1) := block_cell k1 9
  have p10 : W1.cell? ⟨w.heap.size, 10, none⟩ = some (.slice eo1 el1.length ec1) := block_cell k1 10
  have p11 : W1.cell? ⟨w.heap.size, 11, none⟩ = some (.int .u64 si1) := block_cell k1 11
  have p12 : W1.cell? ⟨w.heap.size, 12, none⟩ = some (.int .u64 st1) := block_cell k1 12
  have p13 : W1.cell? ⟨w.heap.size, 13, none⟩ = some (.slice mo1 ml1.length mc1) := block_cell k1 13
  have p14 : W1.cell? ⟨w.heap.size, 14, none⟩ = some (.slice ao1 d1.length ac1) := block_cell k1 14
  go_wp2_with fail
  refine (Hl1.out _ g1).mono ?_
  rintro e W2 ⟨rfl, hB2⟩
  clear p0 p1 p2 p3 p4 p5 p6 p7 p8 p9 p10 p11 p12 p13 p14
  have kW2 := Hcw.out W2 hB2
  have p0 : W2.cell? ⟨w.heap.size, 0, none⟩ = some (.int .i64 kind1) := block_cell kW2 0
  have p1 : W2.cell? ⟨w.heap.size, 1, none⟩ = some (.int .i64 frm1) := block_cell kW2 1
  have p2 : W2.cell? ⟨w.heap.size, 2, none⟩ = some (.int .i64 dst1) := block_cell kW2 2
  have p3 : W2.cell? ⟨w.heap.size, 3, none⟩ = some (.int .u64 term1) := block_cell kW2 3
  have p4 : W2.cell? ⟨w.heap.size, 4, none⟩ = some (.int .u64 index1) := block_cell kW2 4
  have p5 : W2.cell? ⟨w.heap.size, 5, none⟩ = some (.int .u64 logTerm1) := block_cell kW2 5
  have p6 : W2.cell? ⟨w.heap.size, 6, none⟩ = some (.int .u64 commit1) := block_cell kW2 6
  have p7 : W2.cell? ⟨w.heap.size, 7, none⟩ = some (.int .u64 round1) := block_cell kW2 7
  have p8 : W2.cell? ⟨w.heap.size, 8, none⟩ = some (.bool ok1) := block_cell kW2 8
  have p9 : W2.cell? ⟨w.heap.size, 9, none⟩ = some (.bool force1) := block_cell kW2 9
  have p10 : W2.cell? ⟨w.heap.size, 10, none⟩ = some (.slice eo1 el1.length ec1) := block_cell kW2 10
  have p11 : W2.cell? ⟨w.heap.size, 11, none⟩ = some (.int .u64 si1) := block_cell kW2 11
  have p12 : W2.cell? ⟨w.heap.size, 12, none⟩ = some (.int .u64 st1) := block_cell kW2 12
  have p13 : W2.cell? ⟨w.heap.size, 13, none⟩ = some (.slice mo1 ml1.length mc1) := block_cell kW2 13
  have p14 : W2.cell? ⟨w.heap.size, 14, none⟩ = some (.slice ao1 d1.length ac1) := block_cell kW2 14
  go_wp2_with fail
  refine (Hrs.out _ (g1.below hB2)).mono ?_
  rintro e W3 ⟨rfl, hB3'⟩
  have hB3 := below_on hB2 hB3' (Nat.le_refl _)
  clear p0 p1 p2 p3 p4 p5 p6 p7 p8 p9 p10 p11 p12 p13 p14
  have kW3 := Hcw.out W3 hB3
  have p0 : W3.cell? ⟨w.heap.size, 0, none⟩ = some (.int .i64 kind1) := block_cell kW3 0
  have p1 : W3.cell? ⟨w.heap.size, 1, none⟩ = some (.int .i64 frm1) := block_cell kW3 1
  have p2 : W3.cell? ⟨w.heap.size, 2, none⟩ = some (.int .i64 dst1) := block_cell kW3 2
  have p3 : W3.cell? ⟨w.heap.size, 3, none⟩ = some (.int .u64 term1) := block_cell kW3 3
  have p4 : W3.cell? ⟨w.heap.size, 4, none⟩ = some (.int .u64 index1) := block_cell kW3 4
  have p5 : W3.cell? ⟨w.heap.size, 5, none⟩ = some (.int .u64 logTerm1) := block_cell kW3 5
  have p6 : W3.cell? ⟨w.heap.size, 6, none⟩ = some (.int .u64 commit1) := block_cell kW3 6
  have p7 : W3.cell? ⟨w.heap.size, 7, none⟩ = some (.int .u64 round1) := block_cell kW3 7
  have p8 : W3.cell? ⟨w.heap.size, 8, none⟩ = some (.bool ok1) := block_cell kW3 8
  have p9 : W3.cell? ⟨w.heap.size, 9, none⟩ = some (.bool force1) := block_cell kW3 9
  have p10 : W3.cell? ⟨w.heap.size, 10, none⟩ = some (.slice eo1 el1.length ec1) := block_cell kW3 10
  have p11 : W3.cell? ⟨w.heap.size, 11, none⟩ = some (.int .u64 si1) := block_cell kW3 11
  have p12 : W3.cell? ⟨w.heap.size, 12, none⟩ = some (.int .u64 st1) := block_cell kW3 12
  have p13 : W3.cell? ⟨w.heap.size, 13, none⟩ = some (.slice mo1 ml1.length mc1) := block_cell kW3 13
  have p14 : W3.cell? ⟨w.heap.size, 14, none⟩ = some (.slice ao1 d1.length ac1) := block_cell kW3 14
  go_wp2_with fail
  refine (Hby.out _ (g1.below hB3)).mono ?_
  rintro e W4 ⟨a4, c4, rfl, hf4⟩
  have hB4 := below_on hB3 hf4.bel (Nat.le_refl _)
  have hBw4 := below_on hB1 hB4 (Nat.le_refl _)
  have hown4 := hf4.own
  have hc4 := (Bs.of_own hown4).le
  have hTb : Bs W4 a4 c4 (B.take m) := (Bs.of_own hown4).take m (Nat.le_of_lt Hmlt.out)
  have m2 : (m : Int) ≤ (c4 : Int) := by have := Hmlt.out; omega
  have hrdc := Hrd.out a4 c4 W4 hTb
  have Hrdc := Lib.hid hrdc
  have hw3 : w.heap.size ≤ W3.heap.size := (below_on hB1 hB3 (Nat.le_refl _)).size
  clear p0 p1 p2 p3 p4 p5 p6 p7 p8 p9 p10 p11 p12 p13 p14 hrdc hTb hB4 hB3 hB2 hf4 hc4 Hcw kW2 kW3 k1 g1 hB3'
  go_wp2_with fail
  refine Hrdc.out.mono ?_
  rintro e V5 ⟨y, rfl, -, -, hB5'⟩
  simp only
  obtain ⟨kind2, frm2, dst2, term2, index2, logTerm2, commit2, round2, ok2, force2, eo2, ec2, el2, si2, st2, mo2, mc2, ml2, ao2, ac2, d2⟩ := y
  dsimp only [mpA]
  obtain ⟨q5, hq5⟩ : ∃ q, q = V5.heap.size := ⟨_, rfl⟩
  obtain ⟨W5, hW5⟩ : ∃ W, W = V5.alloc (.cells #[.int .i64 kind2, .int .i64 frm2, .int .i64 dst2, .int .u64 term2, .int .u64 index2, .int .u64 logTerm2, .int .u64 commit2, .int .u64 round2, .bool ok2, .bool force2, .slice eo2 el2.length ec2, .int .u64 si2, .int .u64 st2, .slice mo2 ml2.length mc2, .slice ao2 d2.length ac2] 49) := ⟨_, rfl⟩
  have hC5 : Below V5.heap.size V5 W5 := by rw [hW5]; exact below_new _ _
  have k2 : W5.heap[q5]? = some (.cells #[.int .i64 kind2, .int .i64 frm2, .int .i64 dst2, .int .u64 term2, .int .u64 index2, .int .u64 logTerm2, .int .u64 commit2, .int .u64 round2, .bool ok2, .bool force2, .slice eo2 el2.length ec2, .int .u64 si2, .int .u64 st2, .slice mo2 ml2.length mc2, .slice ao2 d2.length ac2] 49 (0, 0)) := by rw [hW5, hq5]; exact heap_alloc_new _ _
  have hB45 := below_on hB5' hC5 (Nat.le_refl _)
  have hown5 := own_below hown4 hB45
  have hBw5 := below_on hBw4 hB45 (Nat.le_refl _)
  clear m2 s1 s2 s3
  go_upto_region 7 with fail
  rw [← hW5, ← hq5]
  clear hW5 hq5 hC5 hB5' hB45 hown4 hBw4 k2 Hrdc Hrd Hby Hrs Hl1
  by_cases ht : turn % 16777216 = 0
  · rw [ht] at s8
    go_wp2_with fail
    refine (lives30_any _).mono ?_
    rintro e W6 ⟨rfl, hB6⟩
    go_wp2_with fail
    go_ret
    exact ⟨rfl, below_on hBw5 hB6 (Nat.le_refl _)⟩
  · have t9 : (((turn % 16777216 : Nat) : Int) == 0) = false := by simp; omega
    obtain ⟨TT, hTT⟩ : ∃ TT, TT = turn % 16777216 := ⟨_, rfl⟩
    rw [← hTT] at s8 t9
    go_upto_region 12 with fail
    clear s4 s5 s6 s7 s8 t9
    obtain ⟨g, rfl⟩ : ∃ g, a4 = some ⟨g, 0, none⟩ := by
      rcases hown5.2 with ⟨_, hn⟩ | ⟨g, cap', cur, hv, _⟩
      · have := Hb1.out; omega
      · simp only [Value.slice.injEq] at hv
        exact ⟨g, hv.1⟩
    have i2 : k + 2 < B.length := by have := HD.out; have := Hklt.out; omega
    have i1 : k + 1 < B.length := by omega
    have i0 : k < B.length := by omega
    have q0 : W5.cell? ⟨g, k, none⟩ = some (.int .u8 (B[k].toNat : Int)) := by
      have hc := hown5.cellAt k (by omega)
      rw [List.getElem?_map, List.getElem?_eq_getElem i0] at hc
      exact hc
    have q1 : W5.cell? ⟨g, k + 1, none⟩ = some (.int .u8 (B[k + 1].toNat : Int)) := by
      have hc := hown5.cellAt (k + 1) (by omega)
      rw [List.getElem?_map, List.getElem?_eq_getElem i1] at hc
      exact hc
    have q2 : W5.cell? ⟨g, k + 2, none⟩ = some (.int .u8 (B[k + 2].toNat : Int)) := by
      have hc := hown5.cellAt (k + 2) (by omega)
      rw [List.getElem?_map, List.getElem?_eq_getElem i2] at hc
      exact hc
    have j0 : (0 : Int) ≤ (k : Int) := by omega
    have j1 : (k : Int) < (B.length : Int) := by omega
    have j2 : (k : Int) + 1 < (B.length : Int) := by omega
    have j3 : (k : Int) + 2 < (B.length : Int) := by omega
    have j4 : (B.length : Int) ≤ 34000 := by have := Hb2.out; omega
    have f0 := hown5.frozenAt k
    have f1 := hown5.frozenAt (k + 1)
    have f2 := hown5.frozenAt (k + 2)
    obtain ⟨v0, hv0⟩ : ∃ v, v = B[k] := ⟨_, rfl⟩
    obtain ⟨v1, hv1⟩ : ∃ v, v = B[k + 1] := ⟨_, rfl⟩
    obtain ⟨v2, hv2⟩ : ∃ v, v = B[k + 2] := ⟨_, rfl⟩
    rw [← hv0] at q0
    rw [← hv1] at q1
    rw [← hv2] at q2
    have Hv0 := Lib.hid hv0
    have Hv1 := Lib.hid hv1
    have Hv2 := Lib.hid hv2
    have Hht := Lib.hid ht
    clear hv0 hv1 hv2 hTT ht
    go_wp2_with fail
    clear q0 q1 q2 f0 f1 f2
    obtain ⟨dd0, hd0⟩ : ∃ d : UInt8, d = UInt8.ofNat (turn / 65536 % 256) := ⟨_, rfl⟩
    obtain ⟨dd1, hd1⟩ : ∃ d : UInt8, d = UInt8.ofNat (turn / 256 % 256) := ⟨_, rfl⟩
    obtain ⟨dd2, hd2⟩ : ∃ d : UInt8, d = UInt8.ofNat (turn % 256) := ⟨_, rfl⟩
    have ex0 : bits BinOp.xor IntKind.u8 (v0.toNat : Int) ((turn : Int) / 65536 % 256) = ((v0 ^^^ dd0).toNat : Int) := by
      rw [hd0, show (turn : Int) / 65536 % 256 = ((turn / 65536 % 256 : Nat) : Int) from by omega]; exact xor_nat8 _ _ (by omega)
    have ex1 : bits BinOp.xor IntKind.u8 (v1.toNat : Int) ((turn : Int) / 256 % 256) = ((v1 ^^^ dd1).toNat : Int) := by
      rw [hd1, show (turn : Int) / 256 % 256 = ((turn / 256 % 256 : Nat) : Int) from by omega]; exact xor_nat8 _ _ (by omega)
    have ex2 : bits BinOp.xor IntKind.u8 (v2.toNat : Int) ((turn : Int) % 256) = ((v2 ^^^ dd2).toNat : Int) := by
      rw [hd2, show (turn : Int) % 256 = ((turn % 256 : Nat) : Int) from by omega]; exact xor_nat8 _ _ (by omega)
    rw [ex0, ex1, ex2]
    have hne : ¬ (dd0 = 0 ∧ dd1 = 0 ∧ dd2 = 0) := by
      rintro ⟨e0, e1, e2⟩
      rw [hd0] at e0
      rw [hd1] at e1
      rw [hd2] at e2
      have e0 := congrArg UInt8.toNat e0
      have e1 := congrArg UInt8.toNat e1
      have e2 := congrArg UInt8.toNat e2
      simp only [UInt8.toNat_ofNat', Nat.reducePow] at e0 e1 e2
      apply Hht.out
      have z0 : (0 : UInt8).toNat = 0 := rfl
      omega
    have hon := on_three B k i2 dd0 dd1 dd2 HBz.out hne
    rw [← Hv0.out, ← Hv1.out, ← Hv2.out] at hon
    clear ex0 ex1 ex2 hne hd0 hd1 hd2
    obtain ⟨W10, hW10⟩ : ∃ W, W = ((W5.setCell ⟨g, k, none⟩ (.int .u8 ((v0 ^^^ dd0).toNat : Int))).setCell ⟨g, k + 1, none⟩ (.int .u8 ((v1 ^^^ dd1).toNat : Int))).setCell ⟨g, k + 2, none⟩ (.int .u8 ((v2 ^^^ dd2).toNat : Int)) := ⟨_, rfl⟩
    have hown10 : W10.ownsRow W3.heap.size 5 1 (.slice (some ⟨g, 0, none⟩) B.length c4) B.length ((((B.set k (v0 ^^^ dd0)).set (k + 1) (v1 ^^^ dd1)).set (k + 2) (v2 ^^^ dd2)).map u8) := by
      rw [hW10, List.map_set, List.map_set, List.map_set]
      exact (((hown5.stored k _).1.stored (k + 1) _).1.stored (k + 2) _).1
    have hg9 : w.heap.size ≤ g := Nat.le_trans hw3 (hown5.lt g rfl).1
    have hB10 : Below w.heap.size w W10 := by rw [hW10]; exact ((hBw5.setCell hg9 _).setCell hg9 _).setCell hg9 _
    rw [← hW10]
    clear hW10
    have hSl : (((B.set k (v0 ^^^ dd0)).set (k + 1) (v1 ^^^ dd1)).set (k + 2) (v2 ^^^ dd2)).length = B.length := by simp
    obtain ⟨S, hS⟩ : ∃ S, S = ((B.set k (v0 ^^^ dd0)).set (k + 1) (v1 ^^^ dd1)).set (k + 2) (v2 ^^^ dd2) := ⟨_, rfl⟩
    rw [← hS] at hon hSl hown10
    clear hS hown5
    rw [← hSl] at hown10
    have hrd2 := wireRead_any (some ⟨g, 0, none⟩) c4 S W10 (Bs.of_own hown10) (by have := Hb2.out; omega)
    rw [wire_turned 6 S hon, hSl] at hrd2
    have Hrd2 := Lib.hid hrd2
    clear hrd2 hon hSl
    refine Hrd2.out.mono ?_
    rintro e V11 ⟨z, rfl, -, -, hB11⟩
    simp only
    obtain ⟨kind3, frm3, dst3, term3, index3, logTerm3, commit3, round3, ok3, force3, eo3, ec3, el3, si3, st3, mo3, mc3, ml3, ao3, ac3, d3⟩ := z
    dsimp only [mpA]
    have hBw11 := below_on hB10 hB11 (Nat.le_refl _)
    have hC11 := below_new V11 (.cells #[.int .i64 kind3, .int .i64 frm3, .int .i64 dst3, .int .u64 term3, .int .u64 index3, .int .u64 logTerm3, .int .u64 commit3, .int .u64 round3, .bool ok3, .bool force3, .slice eo3 el3.length ec3, .int .u64 si3, .int .u64 st3, .slice mo3 ml3.length mc3, .slice ao3 d3.length ac3] 49)
    have hBw12 := below_on hBw11 hC11 (Nat.le_refl _)
    go_wp2_with fail
    refine (lives30_any _).mono ?_
    rintro e W12 ⟨rfl, hB12⟩
    go_wp2_with fail
    go_ret
    exact ⟨rfl, below_on hBw12 hB12 (Nat.le_refl _)⟩
theorem wireTorn_walk (x : Mp) (cut at_ turn : Int) (w : World) (hx : MpAt w x) (h0 : MsgOk x) (c0 : 0 ≤ cut) (c1 : cut ≤ 65535) (a0 : 0 ≤ at_) (a1 : at_ ≤ 65535) (t0 : 0 ≤ turn) (t1 : turn ≤ 4294967295) :
    Calls Try.prog 10 #[.agg (mpA x), .int .u16 cut, .int .u16 at_, .int .u32 turn] w fun e w' => e = .returned (.bool true) ∧ Below w.heap.size w w' := by
  by_cases hl : LightM x
  · cases hs : soundM x.v with
    | true =>
      obtain ⟨C, rfl⟩ := Int.eq_ofNat_of_zero_le c0
      obtain ⟨A, rfl⟩ := Int.eq_ofNat_of_zero_le a0
      obtain ⟨T, rfl⟩ := Int.eq_ofNat_of_zero_le t0
      exact wireTorn_some x C A T w hx h0 hl hs (by omega) (by omega) (by omega)
    | false => exact wireTorn_none x cut at_ turn w hx h0 hl hs
  · exact wireTorn_far x cut at_ turn w hx hl
end Go.Proofs.Ytlphpjgiaflfkaa
