/- Lemmas for WireReads (Nm). No statement of the seat is proved here. -/
import Derived.Test.YtlphpjgiaflfkaaWv15
namespace Go.Proofs.Ytlphpjgiaflfkaa
set_option linter.unusedVariables false
set_option linter.unusedSimpArgs false
set_option linter.unusedSectionVars false
open Go Go.RowKit Go.Shelf
set_option maxRecDepth 100000 in
set_option maxHeartbeats 16000000 in
theorem refBody_1 (F D T I L C R : Nat) (ok force : Bool) (eo mo ao : Option Addr) (ec mc ac : Nat) (el : List Ep) (si st : Int) (ml : List Int) (d : List UInt8) (w : World) (hF : F ≤ 6) (hD : D ≤ 6) (hT : T ≤ 1152921504606846976) (hI : I ≤ 1152921504606846976) (hL : L ≤ 1152921504606846976) (hC : C ≤ 1152921504606846976) (hR : R ≤ 1152921504606846976) :
    Calls Try.prog 78 #[.agg #[.int .i64 1, .int .i64 (F : Int), .int .i64 (D : Int), .int .u64 (T : Int), .int .u64 (I : Int), .int .u64 (L : Int), .int .u64 (C : Int), .int .u64 (R : Int), .bool ok, .bool force, .slice eo el.length ec, .int .u64 si, .int .u64 st, .slice mo ml.length mc, .slice ao d.length ac]] w fun e w' => ∃ a c l, e = .returned (.slice a l.length c) ∧ Hid (l = bodyB ⟨1, (F : Int), (D : Int), (T : Int), (I : Int), (L : Int), (C : Int), (R : Int), ok, force, el.map Ep.e, ⟨si, st, ml, d⟩⟩) ∧ Bs w' a c l ∧ Below w.heap.size w w' := by
  obtain ⟨P, hP⟩ : ∃ P, P = bodyB ⟨1, (F : Int), (D : Int), (T : Int), (I : Int), (L : Int), (C : Int), (R : Int), ok, force, el.map Ep.e, ⟨si, st, ml, d⟩⟩ := ⟨_, rfl⟩
  rw [← hP]
  have HP := Lib.hid hP
  clear hP
  have hK : ∀ W, Calls Try.prog 47 #[.int .u64 1] W fun e W' => ∃ ao cap, e = .returned (.slice ao (numB 1).length cap) ∧ W'.ownsRow W.heap.size 5 1 (.slice ao (numB 1).length cap) (numB 1).length (u8s (numB 1)) ∧ Below W.heap.size W W' := fun W => refNumB_any 1 (by decide) W
  obtain ⟨nK, hnK⟩ : ∃ n, n = numB 1 := ⟨_, rfl⟩
  have lK : nK.length ≤ 9 := by rw [hnK]; exact numB_len _ (by decide)
  rw [← hnK] at hK
  have HK := Lib.hid hK
  have NK := Lib.hid hnK
  clear hK hnK
  have hF' := fun W => refNumB_any F (by omega) W
  obtain ⟨nF, hnF⟩ : ∃ n, n = numB F := ⟨_, rfl⟩
  have lF : nF.length ≤ 9 := by rw [hnF]; exact numB_len _ (by omega)
  have wF : IntKind.u64.wrap (F : Int) = (F : Int) := IntWalk.u64_in _ (by omega)
  rw [← hnF] at hF'
  have HF := Lib.hid hF'
  have NF := Lib.hid hnF
  clear hF' hnF
  have hD' := fun W => refNumB_any D (by omega) W
  obtain ⟨nD, hnD⟩ : ∃ n, n = numB D := ⟨_, rfl⟩
  have lD : nD.length ≤ 9 := by rw [hnD]; exact numB_len _ (by omega)
  have wD : IntKind.u64.wrap (D : Int) = (D : Int) := IntWalk.u64_in _ (by omega)
  rw [← hnD] at hD'
  have HD := Lib.hid hD'
  have ND := Lib.hid hnD
  clear hD' hnD
  have hT' := fun W => refNumB_any T (by omega) W
  obtain ⟨nT, hnT⟩ : ∃ n, n = numB T := ⟨_, rfl⟩
  have lT : nT.length ≤ 9 := by rw [hnT]; exact numB_len _ (by omega)
  have wT : IntKind.u64.wrap (T : Int) = (T : Int) := IntWalk.u64_in _ (by omega)
  rw [← hnT] at hT'
  have HT := Lib.hid hT'
  have NT := Lib.hid hnT
  clear hT' hnT
  have hI' := fun W => refNumB_any I (by omega) W
  obtain ⟨nI, hnI⟩ : ∃ n, n = numB I := ⟨_, rfl⟩
  have lI : nI.length ≤ 9 := by rw [hnI]; exact numB_len _ (by omega)
  have wI : IntKind.u64.wrap (I : Int) = (I : Int) := IntWalk.u64_in _ (by omega)
  rw [← hnI] at hI'
  have HI := Lib.hid hI'
  have NI := Lib.hid hnI
  clear hI' hnI
  have hL' := fun W => refNumB_any L (by omega) W
  obtain ⟨nL, hnL⟩ : ∃ n, n = numB L := ⟨_, rfl⟩
  have lL : nL.length ≤ 9 := by rw [hnL]; exact numB_len _ (by omega)
  have wL : IntKind.u64.wrap (L : Int) = (L : Int) := IntWalk.u64_in _ (by omega)
  rw [← hnL] at hL'
  have HL := Lib.hid hL'
  have NL := Lib.hid hnL
  clear hL' hnL
  have hC' := fun W => refNumB_any C (by omega) W
  obtain ⟨nC, hnC⟩ : ∃ n, n = numB C := ⟨_, rfl⟩
  have lC : nC.length ≤ 9 := by rw [hnC]; exact numB_len _ (by omega)
  have wC : IntKind.u64.wrap (C : Int) = (C : Int) := IntWalk.u64_in _ (by omega)
  rw [← hnC] at hC'
  have HC := Lib.hid hC'
  have NC := Lib.hid hnC
  clear hC' hnC
  have hR' := fun W => refNumB_any R (by omega) W
  obtain ⟨nR, hnR⟩ : ∃ n, n = numB R := ⟨_, rfl⟩
  have lR : nR.length ≤ 9 := by rw [hnR]; exact numB_len _ (by omega)
  have wR : IntKind.u64.wrap (R : Int) = (R : Int) := IntWalk.u64_in _ (by omega)
  rw [← hnR] at hR'
  have HR := Lib.hid hR'
  have NR := Lib.hid hnR
  clear hR' hnR
  have hO := fun W => refFlag_any ok W
  obtain ⟨nO, hnO⟩ : ∃ n, n = flagB ok := ⟨_, rfl⟩
  have lO : nO.length ≤ 9 := by rw [hnO]; exact numB_len _ (by split <;> omega)
  rw [← hnO] at hO
  have HO := Lib.hid hO
  have NO := Lib.hid hnO
  clear hO hnO
  have hX := fun W => refFlag_any force W
  obtain ⟨nX, hnX⟩ : ∃ n, n = flagB force := ⟨_, rfl⟩
  have lX : nX.length ≤ 9 := by rw [hnX]; exact numB_len _ (by split <;> omega)
  rw [← hnX] at hX
  have HX := Lib.hid hX
  have NX := Lib.hid hnX
  clear hX hnX
  clear hF hD hT hI hL hC hR
  obtain ⟨W1, hW1⟩ : ∃ W1, W1 = w.alloc (.cells #[.int .i64 1, .int .i64 (F : Int), .int .i64 (D : Int), .int .u64 (T : Int), .int .u64 (I : Int), .int .u64 (L : Int), .int .u64 (C : Int), .int .u64 (R : Int), .bool ok, .bool force, .slice eo el.length ec, .int .u64 si, .int .u64 st, .slice mo ml.length mc, .slice ao d.length ac] 52) := ⟨_, rfl⟩
  have hB1 : Below w.heap.size w W1 := by rw [hW1]; exact below_new _ _
  have k1 : W1.heap[w.heap.size]? = some (.cells #[.int .i64 1, .int .i64 (F : Int), .int .i64 (D : Int), .int .u64 (T : Int), .int .u64 (I : Int), .int .u64 (L : Int), .int .u64 (C : Int), .int .u64 (R : Int), .bool ok, .bool force, .slice eo el.length ec, .int .u64 si, .int .u64 st, .slice mo ml.length mc, .slice ao d.length ac] 52 (0, 0)) := by rw [hW1]; exact heap_alloc_new _ _
  have z1 := (Array.getElem?_eq_some_iff.1 k1).1
  have hcw : ∀ W', Below W1.heap.size W1 W' → (W'.cell? ⟨w.heap.size, 0, none⟩ = some (.int .i64 1) ∧ W'.cell? ⟨w.heap.size, 1, none⟩ = some (.int .i64 (F : Int)) ∧ W'.cell? ⟨w.heap.size, 2, none⟩ = some (.int .i64 (D : Int)) ∧ W'.cell? ⟨w.heap.size, 3, none⟩ = some (.int .u64 (T : Int)) ∧ W'.cell? ⟨w.heap.size, 4, none⟩ = some (.int .u64 (I : Int)) ∧ W'.cell? ⟨w.heap.size, 5, none⟩ = some (.int .u64 (L : Int)) ∧ W'.cell? ⟨w.heap.size, 6, none⟩ = some (.int .u64 (C : Int)) ∧ W'.cell? ⟨w.heap.size, 7, none⟩ = some (.int .u64 (R : Int)) ∧ W'.cell? ⟨w.heap.size, 8, none⟩ = some (.bool ok) ∧ W'.cell? ⟨w.heap.size, 9, none⟩ = some (.bool force) ∧ W'.cell? ⟨w.heap.size, 10, none⟩ = some (.slice eo el.length ec) ∧ W'.cell? ⟨w.heap.size, 11, none⟩ = some (.int .u64 si) ∧ W'.cell? ⟨w.heap.size, 12, none⟩ = some (.int .u64 st) ∧ W'.cell? ⟨w.heap.size, 13, none⟩ = some (.slice mo ml.length mc) ∧ W'.cell? ⟨w.heap.size, 14, none⟩ = some (.slice ao d.length ac)) := fun W' hb => by
    have hk := (hb.block _ (Array.getElem?_eq_some_iff.1 k1).1).trans k1
    exact ⟨block_cell hk 0, block_cell hk 1, block_cell hk 2, block_cell hk 3, block_cell hk 4, block_cell hk 5, block_cell hk 6, block_cell hk 7, block_cell hk 8, block_cell hk 9, block_cell hk 10, block_cell hk 11, block_cell hk 12, block_cell hk 13, block_cell hk 14⟩
  have Hcw := Lib.hid hcw
  obtain ⟨p0, p1, p2, p3, p4, p5, p6, p7, p8, p9, p10, p11, p12, p13, p14⟩ := Hcw.out W1 (Below.refl _ _)
  clear hcw k1
  go_enter Try.func78, Try.ntmps78
  go_upto_region 1 with fail
  rw [← hW1]
  clear hW1
  go_wp2_with fail
  refine (HK.out _).mono ?_
  rintro e W2 ⟨a2, c2, rfl, hown2, hB2⟩
  clear p0 p1 p2 p3 p4 p5 p6 p7 p8 p9 p10 p11 p12 p13 p14
  obtain ⟨p0, p1, p2, p3, p4, p5, p6, p7, p8, p9, p10, p11, p12, p13, p14⟩ := Hcw.out W2 hB2
  have hl2 : Hid (nK = nK) := rfl
  go_wp2_with fail
  refine (HF.out _).mono ?_
  rintro e V3 ⟨ax3, cx3, rfl, how3, hb3⟩
  have hownx3 := own_below hown2 hb3
  have hBx3 := below_on hB2 hb3 (Nat.le_refl _)
  clear hown2 hb3 hB2 p0 p1 p2 p3 p4 p5 p6 p7 p8 p9 p10 p11 p12 p13 p14
  go_wp2_with (at_builtin; refine wpl_append_bs rfl (.tmp 10) (.tmp 14) 22 rfl W1.heap.size 5 infoUB Try.underlying22 _ _ nK rfl hownx3 _ _ nF rfl (Bs.of_own how3) ?_ ?_ ?_; omega; (exact hBx3.size); intro a3 c3 l3 W3 hl3 hown3 hg3; have hB3 := below_app hBx3 hg3 hownx3 (Nat.le_refl _) hBx3.size; obtain ⟨p0, p1, p2, p3, p4, p5, p6, p7, p8, p9, p10, p11, p12, p13, p14⟩ := Hcw.out W3 hB3)
  have hl3n : l3.length ≤ 18 := by rw [hl3.out]; simp; omega
  have hl3' : Hid (l3 = nK ++ nF) := hl3
  clear hl3 hg3 hownx3 hBx3
  go_wp2_with fail
  refine (HD.out _).mono ?_
  rintro e V4 ⟨ax4, cx4, rfl, how4, hb4⟩
  have hownx4 := own_below hown3 hb4
  have hBx4 := below_on hB3 hb4 (Nat.le_refl _)
  clear hown3 hb4 hB3 p0 p1 p2 p3 p4 p5 p6 p7 p8 p9 p10 p11 p12 p13 p14
  go_wp2_with (at_builtin; refine wpl_append_bs rfl (.tmp 16) (.tmp 20) 22 rfl W1.heap.size 5 infoUB Try.underlying22 _ _ l3 rfl hownx4 _ _ nD rfl (Bs.of_own how4) ?_ ?_ ?_; omega; (exact hBx4.size); intro a4 c4 l4 W4 hl4 hown4 hg4; have hB4 := below_app hBx4 hg4 hownx4 (Nat.le_refl _) hBx4.size; obtain ⟨p0, p1, p2, p3, p4, p5, p6, p7, p8, p9, p10, p11, p12, p13, p14⟩ := Hcw.out W4 hB4)
  have hl4n : l4.length ≤ 27 := by rw [hl4.out]; simp; omega
  have hl4' : Hid (l4 = nK ++ nF ++ nD) := by show _ = _; rw [hl4.out, hl3'.out]
  clear hl4 hg4 hownx4 hBx4
  go_wp2_with fail
  refine (HT.out _).mono ?_
  rintro e V5 ⟨ax5, cx5, rfl, how5, hb5⟩
  have hownx5 := own_below hown4 hb5
  have hBx5 := below_on hB4 hb5 (Nat.le_refl _)
  clear hown4 hb5 hB4 p0 p1 p2 p3 p4 p5 p6 p7 p8 p9 p10 p11 p12 p13 p14
  go_wp2_with (at_builtin; refine wpl_append_bs rfl (.tmp 22) (.tmp 25) 22 rfl W1.heap.size 5 infoUB Try.underlying22 _ _ l4 rfl hownx5 _ _ nT rfl (Bs.of_own how5) ?_ ?_ ?_; omega; (exact hBx5.size); intro a5 c5 l5 W5 hl5 hown5 hg5; have hB5 := below_app hBx5 hg5 hownx5 (Nat.le_refl _) hBx5.size; obtain ⟨p0, p1, p2, p3, p4, p5, p6, p7, p8, p9, p10, p11, p12, p13, p14⟩ := Hcw.out W5 hB5)
  have hl5n : l5.length ≤ 36 := by rw [hl5.out]; simp; omega
  have hl5' : Hid (l5 = nK ++ nF ++ nD ++ nT) := by show _ = _; rw [hl5.out, hl4'.out]
  clear hl5 hg5 hownx5 hBx5
  go_wp2_with fail
  refine (HI.out _).mono ?_
  rintro e V6 ⟨ax6, cx6, rfl, how6, hb6⟩
  have hownx6 := own_below hown5 hb6
  have hBx6 := below_on hB5 hb6 (Nat.le_refl _)
  clear hown5 hb6 hB5 p0 p1 p2 p3 p4 p5 p6 p7 p8 p9 p10 p11 p12 p13 p14
  go_wp2_with (at_builtin; refine wpl_append_bs rfl (.tmp 40) (.tmp 43) 22 rfl W1.heap.size 5 infoUB Try.underlying22 _ _ l5 rfl hownx6 _ _ nI rfl (Bs.of_own how6) ?_ ?_ ?_; omega; (exact hBx6.size); intro a6 c6 l6 W6 hl6 hown6 hg6; have hB6 := below_app hBx6 hg6 hownx6 (Nat.le_refl _) hBx6.size; obtain ⟨p0, p1, p2, p3, p4, p5, p6, p7, p8, p9, p10, p11, p12, p13, p14⟩ := Hcw.out W6 hB6)
  have hl6n : l6.length ≤ 45 := by rw [hl6.out]; simp; omega
  have hl6' : Hid (l6 = nK ++ nF ++ nD ++ nT ++ nI) := by show _ = _; rw [hl6.out, hl5'.out]
  clear hl6 hg6 hownx6 hBx6
  go_wp2_with fail
  refine (HL.out _).mono ?_
  rintro e V7 ⟨ax7, cx7, rfl, how7, hb7⟩
  have hownx7 := own_below hown6 hb7
  have hBx7 := below_on hB6 hb7 (Nat.le_refl _)
  clear hown6 hb7 hB6 p0 p1 p2 p3 p4 p5 p6 p7 p8 p9 p10 p11 p12 p13 p14
  go_wp2_with (at_builtin; refine wpl_append_bs rfl (.tmp 45) (.tmp 48) 22 rfl W1.heap.size 5 infoUB Try.underlying22 _ _ l6 rfl hownx7 _ _ nL rfl (Bs.of_own how7) ?_ ?_ ?_; omega; (exact hBx7.size); intro a7 c7 l7 W7 hl7 hown7 hg7; have hB7 := below_app hBx7 hg7 hownx7 (Nat.le_refl _) hBx7.size; obtain ⟨p0, p1, p2, p3, p4, p5, p6, p7, p8, p9, p10, p11, p12, p13, p14⟩ := Hcw.out W7 hB7)
  have hl7' : Hid (l7 = nK ++ nF ++ nD ++ nT ++ nI ++ nL) := by show _ = _; rw [hl7.out, hl6'.out]
  go_ret
  exact ⟨a7, c7, l7, rfl, by show _ = _; rw [hl7'.out, HP.out, NK.out, NF.out, ND.out, NT.out, NI.out, NL.out]; simp [bodyB, fieldsB, numsB], Bs.of_own hown7, below_on hB1 hB7 (Nat.le_refl _)⟩
set_option maxRecDepth 100000 in
set_option maxHeartbeats 16000000 in
theorem refBody_2 (F D T I L C R : Nat) (ok force : Bool) (eo mo ao : Option Addr) (ec mc ac : Nat) (el : List Ep) (si st : Int) (ml : List Int) (d : List UInt8) (w : World) (hF : F ≤ 6) (hD : D ≤ 6) (hT : T ≤ 1152921504606846976) (hI : I ≤ 1152921504606846976) (hL : L ≤ 1152921504606846976) (hC : C ≤ 1152921504606846976) (hR : R ≤ 1152921504606846976) :
    Calls Try.prog 78 #[.agg #[.int .i64 2, .int .i64 (F : Int), .int .i64 (D : Int), .int .u64 (T : Int), .int .u64 (I : Int), .int .u64 (L : Int), .int .u64 (C : Int), .int .u64 (R : Int), .bool ok, .bool force, .slice eo el.length ec, .int .u64 si, .int .u64 st, .slice mo ml.length mc, .slice ao d.length ac]] w fun e w' => ∃ a c l, e = .returned (.slice a l.length c) ∧ Hid (l = bodyB ⟨2, (F : Int), (D : Int), (T : Int), (I : Int), (L : Int), (C : Int), (R : Int), ok, force, el.map Ep.e, ⟨si, st, ml, d⟩⟩) ∧ Bs w' a c l ∧ Below w.heap.size w w' := by
  obtain ⟨P, hP⟩ : ∃ P, P = bodyB ⟨2, (F : Int), (D : Int), (T : Int), (I : Int), (L : Int), (C : Int), (R : Int), ok, force, el.map Ep.e, ⟨si, st, ml, d⟩⟩ := ⟨_, rfl⟩
  rw [← hP]
  have HP := Lib.hid hP
  clear hP
  have hK : ∀ W, Calls Try.prog 47 #[.int .u64 2] W fun e W' => ∃ ao cap, e = .returned (.slice ao (numB 2).length cap) ∧ W'.ownsRow W.heap.size 5 1 (.slice ao (numB 2).length cap) (numB 2).length (u8s (numB 2)) ∧ Below W.heap.size W W' := fun W => refNumB_any 2 (by decide) W
  obtain ⟨nK, hnK⟩ : ∃ n, n = numB 2 := ⟨_, rfl⟩
  have lK : nK.length ≤ 9 := by rw [hnK]; exact numB_len _ (by decide)
  rw [← hnK] at hK
  have HK := Lib.hid hK
  have NK := Lib.hid hnK
  clear hK hnK
  have hF' := fun W => refNumB_any F (by omega) W
  obtain ⟨nF, hnF⟩ : ∃ n, n = numB F := ⟨_, rfl⟩
  have lF : nF.length ≤ 9 := by rw [hnF]; exact numB_len _ (by omega)
  have wF : IntKind.u64.wrap (F : Int) = (F : Int) := IntWalk.u64_in _ (by omega)
  rw [← hnF] at hF'
  have HF := Lib.hid hF'
  have NF := Lib.hid hnF
  clear hF' hnF
  have hD' := fun W => refNumB_any D (by omega) W
  obtain ⟨nD, hnD⟩ : ∃ n, n = numB D := ⟨_, rfl⟩
  have lD : nD.length ≤ 9 := by rw [hnD]; exact numB_len _ (by omega)
  have wD : IntKind.u64.wrap (D : Int) = (D : Int) := IntWalk.u64_in _ (by omega)
  rw [← hnD] at hD'
  have HD := Lib.hid hD'
  have ND := Lib.hid hnD
  clear hD' hnD
  have hT' := fun W => refNumB_any T (by omega) W
  obtain ⟨nT, hnT⟩ : ∃ n, n = numB T := ⟨_, rfl⟩
  have lT : nT.length ≤ 9 := by rw [hnT]; exact numB_len _ (by omega)
  have wT : IntKind.u64.wrap (T : Int) = (T : Int) := IntWalk.u64_in _ (by omega)
  rw [← hnT] at hT'
  have HT := Lib.hid hT'
  have NT := Lib.hid hnT
  clear hT' hnT
  have hI' := fun W => refNumB_any I (by omega) W
  obtain ⟨nI, hnI⟩ : ∃ n, n = numB I := ⟨_, rfl⟩
  have lI : nI.length ≤ 9 := by rw [hnI]; exact numB_len _ (by omega)
  have wI : IntKind.u64.wrap (I : Int) = (I : Int) := IntWalk.u64_in _ (by omega)
  rw [← hnI] at hI'
  have HI := Lib.hid hI'
  have NI := Lib.hid hnI
  clear hI' hnI
  have hL' := fun W => refNumB_any L (by omega) W
  obtain ⟨nL, hnL⟩ : ∃ n, n = numB L := ⟨_, rfl⟩
  have lL : nL.length ≤ 9 := by rw [hnL]; exact numB_len _ (by omega)
  have wL : IntKind.u64.wrap (L : Int) = (L : Int) := IntWalk.u64_in _ (by omega)
  rw [← hnL] at hL'
  have HL := Lib.hid hL'
  have NL := Lib.hid hnL
  clear hL' hnL
  have hC' := fun W => refNumB_any C (by omega) W
  obtain ⟨nC, hnC⟩ : ∃ n, n = numB C := ⟨_, rfl⟩
  have lC : nC.length ≤ 9 := by rw [hnC]; exact numB_len _ (by omega)
  have wC : IntKind.u64.wrap (C : Int) = (C : Int) := IntWalk.u64_in _ (by omega)
  rw [← hnC] at hC'
  have HC := Lib.hid hC'
  have NC := Lib.hid hnC
  clear hC' hnC
  have hR' := fun W => refNumB_any R (by omega) W
  obtain ⟨nR, hnR⟩ : ∃ n, n = numB R := ⟨_, rfl⟩
  have lR : nR.length ≤ 9 := by rw [hnR]; exact numB_len _ (by omega)
  have wR : IntKind.u64.wrap (R : Int) = (R : Int) := IntWalk.u64_in _ (by omega)
  rw [← hnR] at hR'
  have HR := Lib.hid hR'
  have NR := Lib.hid hnR
  clear hR' hnR
  have hO := fun W => refFlag_any ok W
  obtain ⟨nO, hnO⟩ : ∃ n, n = flagB ok := ⟨_, rfl⟩
  have lO : nO.length ≤ 9 := by rw [hnO]; exact numB_len _ (by split <;> omega)
  rw [← hnO] at hO
  have HO := Lib.hid hO
  have NO := Lib.hid hnO
  clear hO hnO
  have hX := fun W => refFlag_any force W
  obtain ⟨nX, hnX⟩ : ∃ n, n = flagB force := ⟨_, rfl⟩
  have lX : nX.length ≤ 9 := by rw [hnX]; exact numB_len _ (by split <;> omega)
  rw [← hnX] at hX
  have HX := Lib.hid hX
  have NX := Lib.hid hnX
  clear hX hnX
  clear hF hD hT hI hL hC hR
  obtain ⟨W1, hW1⟩ : ∃ W1, W1 = w.alloc (.cells #[.int .i64 2, .int .i64 (F : Int), .int .i64 (D : Int), .int .u64 (T : Int), .int .u64 (I : Int), .int .u64 (L : Int), .int .u64 (C : Int), .int .u64 (R : Int), .bool ok, .bool force, .slice eo el.length ec, .int .u64 si, .int .u64 st, .slice mo ml.length mc, .slice ao d.length ac] 52) := ⟨_, rfl⟩
  have hB1 : Below w.heap.size w W1 := by rw [hW1]; exact below_new _ _
  have k1 : W1.heap[w.heap.size]? = some (.cells #[.int .i64 2, .int .i64 (F : Int), .int .i64 (D : Int), .int .u64 (T : Int), .int .u64 (I : Int), .int .u64 (L : Int), .int .u64 (C : Int), .int .u64 (R : Int), .bool ok, .bool force, .slice eo el.length ec, .int .u64 si, .int .u64 st, .slice mo ml.length mc, .slice ao d.length ac] 52 (0, 0)) := by rw [hW1]; exact heap_alloc_new _ _
  have z1 := (Array.getElem?_eq_some_iff.1 k1).1
  have hcw : ∀ W', Below W1.heap.size W1 W' → (W'.cell? ⟨w.heap.size, 0, none⟩ = some (.int .i64 2) ∧ W'.cell? ⟨w.heap.size, 1, none⟩ = some (.int .i64 (F : Int)) ∧ W'.cell? ⟨w.heap.size, 2, none⟩ = some (.int .i64 (D : Int)) ∧ W'.cell? ⟨w.heap.size, 3, none⟩ = some (.int .u64 (T : Int)) ∧ W'.cell? ⟨w.heap.size, 4, none⟩ = some (.int .u64 (I : Int)) ∧ W'.cell? ⟨w.heap.size, 5, none⟩ = some (.int .u64 (L : Int)) ∧ W'.cell? ⟨w.heap.size, 6, none⟩ = some (.int .u64 (C : Int)) ∧ W'.cell? ⟨w.heap.size, 7, none⟩ = some (.int .u64 (R : Int)) ∧ W'.cell? ⟨w.heap.size, 8, none⟩ = some (.bool ok) ∧ W'.cell? ⟨w.heap.size, 9, none⟩ = some (.bool force) ∧ W'.cell? ⟨w.heap.size, 10, none⟩ = some (.slice eo el.length ec) ∧ W'.cell? ⟨w.heap.size, 11, none⟩ = some (.int .u64 si) ∧ W'.cell? ⟨w.heap.size, 12, none⟩ = some (.int .u64 st) ∧ W'.cell? ⟨w.heap.size, 13, none⟩ = some (.slice mo ml.length mc) ∧ W'.cell? ⟨w.heap.size, 14, none⟩ = some (.slice ao d.length ac)) := fun W' hb => by
    have hk := (hb.block _ (Array.getElem?_eq_some_iff.1 k1).1).trans k1
    exact ⟨block_cell hk 0, block_cell hk 1, block_cell hk 2, block_cell hk 3, block_cell hk 4, block_cell hk 5, block_cell hk 6, block_cell hk 7, block_cell hk 8, block_cell hk 9, block_cell hk 10, block_cell hk 11, block_cell hk 12, block_cell hk 13, block_cell hk 14⟩
  have Hcw := Lib.hid hcw
  obtain ⟨p0, p1, p2, p3, p4, p5, p6, p7, p8, p9, p10, p11, p12, p13, p14⟩ := Hcw.out W1 (Below.refl _ _)
  clear hcw k1
  go_enter Try.func78, Try.ntmps78
  go_upto_region 1 with fail
  rw [← hW1]
  clear hW1
  go_wp2_with fail
  refine (HK.out _).mono ?_
  rintro e W2 ⟨a2, c2, rfl, hown2, hB2⟩
  clear p0 p1 p2 p3 p4 p5 p6 p7 p8 p9 p10 p11 p12 p13 p14
  obtain ⟨p0, p1, p2, p3, p4, p5, p6, p7, p8, p9, p10, p11, p12, p13, p14⟩ := Hcw.out W2 hB2
  have hl2 : Hid (nK = nK) := rfl
  go_wp2_with fail
  refine (HF.out _).mono ?_
  rintro e V3 ⟨ax3, cx3, rfl, how3, hb3⟩
  have hownx3 := own_below hown2 hb3
  have hBx3 := below_on hB2 hb3 (Nat.le_refl _)
  clear hown2 hb3 hB2 p0 p1 p2 p3 p4 p5 p6 p7 p8 p9 p10 p11 p12 p13 p14
  go_wp2_with (at_builtin; refine wpl_append_bs rfl (.tmp 10) (.tmp 14) 22 rfl W1.heap.size 5 infoUB Try.underlying22 _ _ nK rfl hownx3 _ _ nF rfl (Bs.of_own how3) ?_ ?_ ?_; omega; (exact hBx3.size); intro a3 c3 l3 W3 hl3 hown3 hg3; have hB3 := below_app hBx3 hg3 hownx3 (Nat.le_refl _) hBx3.size; obtain ⟨p0, p1, p2, p3, p4, p5, p6, p7, p8, p9, p10, p11, p12, p13, p14⟩ := Hcw.out W3 hB3)
  have hl3n : l3.length ≤ 18 := by rw [hl3.out]; simp; omega
  have hl3' : Hid (l3 = nK ++ nF) := hl3
  clear hl3 hg3 hownx3 hBx3
  go_wp2_with fail
  refine (HD.out _).mono ?_
  rintro e V4 ⟨ax4, cx4, rfl, how4, hb4⟩
  have hownx4 := own_below hown3 hb4
  have hBx4 := below_on hB3 hb4 (Nat.le_refl _)
  clear hown3 hb4 hB3 p0 p1 p2 p3 p4 p5 p6 p7 p8 p9 p10 p11 p12 p13 p14
  go_wp2_with (at_builtin; refine wpl_append_bs rfl (.tmp 16) (.tmp 20) 22 rfl W1.heap.size 5 infoUB Try.underlying22 _ _ l3 rfl hownx4 _ _ nD rfl (Bs.of_own how4) ?_ ?_ ?_; omega; (exact hBx4.size); intro a4 c4 l4 W4 hl4 hown4 hg4; have hB4 := below_app hBx4 hg4 hownx4 (Nat.le_refl _) hBx4.size; obtain ⟨p0, p1, p2, p3, p4, p5, p6, p7, p8, p9, p10, p11, p12, p13, p14⟩ := Hcw.out W4 hB4)
  have hl4n : l4.length ≤ 27 := by rw [hl4.out]; simp; omega
  have hl4' : Hid (l4 = nK ++ nF ++ nD) := by show _ = _; rw [hl4.out, hl3'.out]
  clear hl4 hg4 hownx4 hBx4
  go_wp2_with fail
  refine (HT.out _).mono ?_
  rintro e V5 ⟨ax5, cx5, rfl, how5, hb5⟩
  have hownx5 := own_below hown4 hb5
  have hBx5 := below_on hB4 hb5 (Nat.le_refl _)
  clear hown4 hb5 hB4 p0 p1 p2 p3 p4 p5 p6 p7 p8 p9 p10 p11 p12 p13 p14
  go_wp2_with (at_builtin; refine wpl_append_bs rfl (.tmp 22) (.tmp 25) 22 rfl W1.heap.size 5 infoUB Try.underlying22 _ _ l4 rfl hownx5 _ _ nT rfl (Bs.of_own how5) ?_ ?_ ?_; omega; (exact hBx5.size); intro a5 c5 l5 W5 hl5 hown5 hg5; have hB5 := below_app hBx5 hg5 hownx5 (Nat.le_refl _) hBx5.size; obtain ⟨p0, p1, p2, p3, p4, p5, p6, p7, p8, p9, p10, p11, p12, p13, p14⟩ := Hcw.out W5 hB5)
  have hl5n : l5.length ≤ 36 := by rw [hl5.out]; simp; omega
  have hl5' : Hid (l5 = nK ++ nF ++ nD ++ nT) := by show _ = _; rw [hl5.out, hl4'.out]
  clear hl5 hg5 hownx5 hBx5
  go_wp2_with fail
  refine (HO.out _).mono ?_
  rintro e V6 ⟨ax6, cx6, rfl, how6, hb6⟩
  have hownx6 := own_below hown5 hb6
  have hBx6 := below_on hB5 hb6 (Nat.le_refl _)
  clear hown5 hb6 hB5 p0 p1 p2 p3 p4 p5 p6 p7 p8 p9 p10 p11 p12 p13 p14
  go_wp2_with (at_builtin; refine wpl_append_bs rfl (.tmp 55) (.tmp 58) 22 rfl W1.heap.size 5 infoUB Try.underlying22 _ _ l5 rfl hownx6 _ _ nO rfl (Bs.of_own how6) ?_ ?_ ?_; omega; (exact hBx6.size); intro a6 c6 l6 W6 hl6 hown6 hg6; have hB6 := below_app hBx6 hg6 hownx6 (Nat.le_refl _) hBx6.size; obtain ⟨p0, p1, p2, p3, p4, p5, p6, p7, p8, p9, p10, p11, p12, p13, p14⟩ := Hcw.out W6 hB6)
  have hl6' : Hid (l6 = nK ++ nF ++ nD ++ nT ++ nO) := by show _ = _; rw [hl6.out, hl5'.out]
  go_ret
  exact ⟨a6, c6, l6, rfl, by show _ = _; rw [hl6'.out, HP.out, NK.out, NF.out, ND.out, NT.out, NO.out]; simp [bodyB, fieldsB, numsB], Bs.of_own hown6, below_on hB1 hB6 (Nat.le_refl _)⟩
set_option maxRecDepth 100000 in
set_option maxHeartbeats 16000000 in
theorem refBody_4 (F D T I L C R : Nat) (ok force : Bool) (eo mo ao : Option Addr) (ec mc ac : Nat) (el : List Ep) (si st : Int) (ml : List Int) (d : List UInt8) (w : World) (hF : F ≤ 6) (hD : D ≤ 6) (hT : T ≤ 1152921504606846976) (hI : I ≤ 1152921504606846976) (hL : L ≤ 1152921504606846976) (hC : C ≤ 1152921504606846976) (hR : R ≤ 1152921504606846976) :
    Calls Try.prog 78 #[.agg #[.int .i64 4, .int .i64 (F : Int), .int .i64 (D : Int), .int .u64 (T : Int), .int .u64 (I : Int), .int .u64 (L : Int), .int .u64 (C : Int), .int .u64 (R : Int), .bool ok, .bool force, .slice eo el.length ec, .int .u64 si, .int .u64 st, .slice mo ml.length mc, .slice ao d.length ac]] w fun e w' => ∃ a c l, e = .returned (.slice a l.length c) ∧ Hid (l = bodyB ⟨4, (F : Int), (D : Int), (T : Int), (I : Int), (L : Int), (C : Int), (R : Int), ok, force, el.map Ep.e, ⟨si, st, ml, d⟩⟩) ∧ Bs w' a c l ∧ Below w.heap.size w w' := by
  obtain ⟨P, hP⟩ : ∃ P, P = bodyB ⟨4, (F : Int), (D : Int), (T : Int), (I : Int), (L : Int), (C : Int), (R : Int), ok, force, el.map Ep.e, ⟨si, st, ml, d⟩⟩ := ⟨_, rfl⟩
  rw [← hP]
  have HP := Lib.hid hP
  clear hP
  have hK : ∀ W, Calls Try.prog 47 #[.int .u64 4] W fun e W' => ∃ ao cap, e = .returned (.slice ao (numB 4).length cap) ∧ W'.ownsRow W.heap.size 5 1 (.slice ao (numB 4).length cap) (numB 4).length (u8s (numB 4)) ∧ Below W.heap.size W W' := fun W => refNumB_any 4 (by decide) W
  obtain ⟨nK, hnK⟩ : ∃ n, n = numB 4 := ⟨_, rfl⟩
  have lK : nK.length ≤ 9 := by rw [hnK]; exact numB_len _ (by decide)
  rw [← hnK] at hK
  have HK := Lib.hid hK
  have NK := Lib.hid hnK
  clear hK hnK
  have hF' := fun W => refNumB_any F (by omega) W
  obtain ⟨nF, hnF⟩ : ∃ n, n = numB F := ⟨_, rfl⟩
  have lF : nF.length ≤ 9 := by rw [hnF]; exact numB_len _ (by omega)
  have wF : IntKind.u64.wrap (F : Int) = (F : Int) := IntWalk.u64_in _ (by omega)
  rw [← hnF] at hF'
  have HF := Lib.hid hF'
  have NF := Lib.hid hnF
  clear hF' hnF
  have hD' := fun W => refNumB_any D (by omega) W
  obtain ⟨nD, hnD⟩ : ∃ n, n = numB D := ⟨_, rfl⟩
  have lD : nD.length ≤ 9 := by rw [hnD]; exact numB_len _ (by omega)
  have wD : IntKind.u64.wrap (D : Int) = (D : Int) := IntWalk.u64_in _ (by omega)
  rw [← hnD] at hD'
  have HD := Lib.hid hD'
  have ND := Lib.hid hnD
  clear hD' hnD
  have hT' := fun W => refNumB_any T (by omega) W
  obtain ⟨nT, hnT⟩ : ∃ n, n = numB T := ⟨_, rfl⟩
  have lT : nT.length ≤ 9 := by rw [hnT]; exact numB_len _ (by omega)
  have wT : IntKind.u64.wrap (T : Int) = (T : Int) := IntWalk.u64_in _ (by omega)
  rw [← hnT] at hT'
  have HT := Lib.hid hT'
  have NT := Lib.hid hnT
  clear hT' hnT
  have hI' := fun W => refNumB_any I (by omega) W
  obtain ⟨nI, hnI⟩ : ∃ n, n = numB I := ⟨_, rfl⟩
  have lI : nI.length ≤ 9 := by rw [hnI]; exact numB_len _ (by omega)
  have wI : IntKind.u64.wrap (I : Int) = (I : Int) := IntWalk.u64_in _ (by omega)
  rw [← hnI] at hI'
  have HI := Lib.hid hI'
  have NI := Lib.hid hnI
  clear hI' hnI
  have hL' := fun W => refNumB_any L (by omega) W
  obtain ⟨nL, hnL⟩ : ∃ n, n = numB L := ⟨_, rfl⟩
  have lL : nL.length ≤ 9 := by rw [hnL]; exact numB_len _ (by omega)
  have wL : IntKind.u64.wrap (L : Int) = (L : Int) := IntWalk.u64_in _ (by omega)
  rw [← hnL] at hL'
  have HL := Lib.hid hL'
  have NL := Lib.hid hnL
  clear hL' hnL
  have hC' := fun W => refNumB_any C (by omega) W
  obtain ⟨nC, hnC⟩ : ∃ n, n = numB C := ⟨_, rfl⟩
  have lC : nC.length ≤ 9 := by rw [hnC]; exact numB_len _ (by omega)
  have wC : IntKind.u64.wrap (C : Int) = (C : Int) := IntWalk.u64_in _ (by omega)
  rw [← hnC] at hC'
  have HC := Lib.hid hC'
  have NC := Lib.hid hnC
  clear hC' hnC
  have hR' := fun W => refNumB_any R (by omega) W
  obtain ⟨nR, hnR⟩ : ∃ n, n = numB R := ⟨_, rfl⟩
  have lR : nR.length ≤ 9 := by rw [hnR]; exact numB_len _ (by omega)
  have wR : IntKind.u64.wrap (R : Int) = (R : Int) := IntWalk.u64_in _ (by omega)
  rw [← hnR] at hR'
  have HR := Lib.hid hR'
  have NR := Lib.hid hnR
  clear hR' hnR
  have hO := fun W => refFlag_any ok W
  obtain ⟨nO, hnO⟩ : ∃ n, n = flagB ok := ⟨_, rfl⟩
  have lO : nO.length ≤ 9 := by rw [hnO]; exact numB_len _ (by split <;> omega)
  rw [← hnO] at hO
  have HO := Lib.hid hO
  have NO := Lib.hid hnO
  clear hO hnO
  have hX := fun W => refFlag_any force W
  obtain ⟨nX, hnX⟩ : ∃ n, n = flagB force := ⟨_, rfl⟩
  have lX : nX.length ≤ 9 := by rw [hnX]; exact numB_len _ (by split <;> omega)
  rw [← hnX] at hX
  have HX := Lib.hid hX
  have NX := Lib.hid hnX
  clear hX hnX
  clear hF hD hT hI hL hC hR
  obtain ⟨W1, hW1⟩ : ∃ W1, W1 = w.alloc (.cells #[.int .i64 4, .int .i64 (F : Int), .int .i64 (D : Int), .int .u64 (T : Int), .int .u64 (I : Int), .int .u64 (L : Int), .int .u64 (C : Int), .int .u64 (R : Int), .bool ok, .bool force, .slice eo el.length ec, .int .u64 si, .int .u64 st, .slice mo ml.length mc, .slice ao d.length ac] 52) := ⟨_, rfl⟩
  have hB1 : Below w.heap.size w W1 := by rw [hW1]; exact below_new _ _
  have k1 : W1.heap[w.heap.size]? = some (.cells #[.int .i64 4, .int .i64 (F : Int), .int .i64 (D : Int), .int .u64 (T : Int), .int .u64 (I : Int), .int .u64 (L : Int), .int .u64 (C : Int), .int .u64 (R : Int), .bool ok, .bool force, .slice eo el.length ec, .int .u64 si, .int .u64 st, .slice mo ml.length mc, .slice ao d.length ac] 52 (0, 0)) := by rw [hW1]; exact heap_alloc_new _ _
  have z1 := (Array.getElem?_eq_some_iff.1 k1).1
  have hcw : ∀ W', Below W1.heap.size W1 W' → (W'.cell? ⟨w.heap.size, 0, none⟩ = some (.int .i64 4) ∧ W'.cell? ⟨w.heap.size, 1, none⟩ = some (.int .i64 (F : Int)) ∧ W'.cell? ⟨w.heap.size, 2, none⟩ = some (.int .i64 (D : Int)) ∧ W'.cell? ⟨w.heap.size, 3, none⟩ = some (.int .u64 (T : Int)) ∧ W'.cell? ⟨w.heap.size, 4, none⟩ = some (.int .u64 (I : Int)) ∧ W'.cell? ⟨w.heap.size, 5, none⟩ = some (.int .u64 (L : Int)) ∧ W'.cell? ⟨w.heap.size, 6, none⟩ = some (.int .u64 (C : Int)) ∧ W'.cell? ⟨w.heap.size, 7, none⟩ = some (.int .u64 (R : Int)) ∧ W'.cell? ⟨w.heap.size, 8, none⟩ = some (.bool ok) ∧ W'.cell? ⟨w.heap.size, 9, none⟩ = some (.bool force) ∧ W'.cell? ⟨w.heap.size, 10, none⟩ = some (.slice eo el.length ec) ∧ W'.cell? ⟨w.heap.size, 11, none⟩ = some (.int .u64 si) ∧ W'.cell? ⟨w.heap.size, 12, none⟩ = some (.int .u64 st) ∧ W'.cell? ⟨w.heap.size, 13, none⟩ = some (.slice mo ml.length mc) ∧ W'.cell? ⟨w.heap.size, 14, none⟩ = some (.slice ao d.length ac)) := fun W' hb => by
    have hk := (hb.block _ (Array.getElem?_eq_some_iff.1 k1).1).trans k1
    exact ⟨block_cell hk 0, block_cell hk 1, block_cell hk 2, block_cell hk 3, block_cell hk 4, block_cell hk 5, block_cell hk 6, block_cell hk 7, block_cell hk 8, block_cell hk 9, block_cell hk 10, block_cell hk 11, block_cell hk 12, block_cell hk 13, block_cell hk 14⟩
  have Hcw := Lib.hid hcw
  obtain ⟨p0, p1, p2, p3, p4, p5, p6, p7, p8, p9, p10, p11, p12, p13, p14⟩ := Hcw.out W1 (Below.refl _ _)
  clear hcw k1
  go_enter Try.func78, Try.ntmps78
  go_upto_region 1 with fail
  rw [← hW1]
  clear hW1
  go_wp2_with fail
  refine (HK.out _).mono ?_
  rintro e W2 ⟨a2, c2, rfl, hown2, hB2⟩
  clear p0 p1 p2 p3 p4 p5 p6 p7 p8 p9 p10 p11 p12 p13 p14
  obtain ⟨p0, p1, p2, p3, p4, p5, p6, p7, p8, p9, p10, p11, p12, p13, p14⟩ := Hcw.out W2 hB2
  have hl2 : Hid (nK = nK) := rfl
  go_wp2_with fail
  refine (HF.out _).mono ?_
  rintro e V3 ⟨ax3, cx3, rfl, how3, hb3⟩
  have hownx3 := own_below hown2 hb3
  have hBx3 := below_on hB2 hb3 (Nat.le_refl _)
  clear hown2 hb3 hB2 p0 p1 p2 p3 p4 p5 p6 p7 p8 p9 p10 p11 p12 p13 p14
  go_wp2_with (at_builtin; refine wpl_append_bs rfl (.tmp 10) (.tmp 14) 22 rfl W1.heap.size 5 infoUB Try.underlying22 _ _ nK rfl hownx3 _ _ nF rfl (Bs.of_own how3) ?_ ?_ ?_; omega; (exact hBx3.size); intro a3 c3 l3 W3 hl3 hown3 hg3; have hB3 := below_app hBx3 hg3 hownx3 (Nat.le_refl _) hBx3.size; obtain ⟨p0, p1, p2, p3, p4, p5, p6, p7, p8, p9, p10, p11, p12, p13, p14⟩ := Hcw.out W3 hB3)
  have hl3n : l3.length ≤ 18 := by rw [hl3.out]; simp; omega
  have hl3' : Hid (l3 = nK ++ nF) := hl3
  clear hl3 hg3 hownx3 hBx3
  go_wp2_with fail
  refine (HD.out _).mono ?_
  rintro e V4 ⟨ax4, cx4, rfl, how4, hb4⟩
  have hownx4 := own_below hown3 hb4
  have hBx4 := below_on hB3 hb4 (Nat.le_refl _)
  clear hown3 hb4 hB3 p0 p1 p2 p3 p4 p5 p6 p7 p8 p9 p10 p11 p12 p13 p14
  go_wp2_with (at_builtin; refine wpl_append_bs rfl (.tmp 16) (.tmp 20) 22 rfl W1.heap.size 5 infoUB Try.underlying22 _ _ l3 rfl hownx4 _ _ nD rfl (Bs.of_own how4) ?_ ?_ ?_; omega; (exact hBx4.size); intro a4 c4 l4 W4 hl4 hown4 hg4; have hB4 := below_app hBx4 hg4 hownx4 (Nat.le_refl _) hBx4.size; obtain ⟨p0, p1, p2, p3, p4, p5, p6, p7, p8, p9, p10, p11, p12, p13, p14⟩ := Hcw.out W4 hB4)
  have hl4n : l4.length ≤ 27 := by rw [hl4.out]; simp; omega
  have hl4' : Hid (l4 = nK ++ nF ++ nD) := by show _ = _; rw [hl4.out, hl3'.out]
  clear hl4 hg4 hownx4 hBx4
  go_wp2_with fail
  refine (HT.out _).mono ?_
  rintro e V5 ⟨ax5, cx5, rfl, how5, hb5⟩
  have hownx5 := own_below hown4 hb5
  have hBx5 := below_on hB4 hb5 (Nat.le_refl _)
  clear hown4 hb5 hB4 p0 p1 p2 p3 p4 p5 p6 p7 p8 p9 p10 p11 p12 p13 p14
  go_wp2_with (at_builtin; refine wpl_append_bs rfl (.tmp 22) (.tmp 25) 22 rfl W1.heap.size 5 infoUB Try.underlying22 _ _ l4 rfl hownx5 _ _ nT rfl (Bs.of_own how5) ?_ ?_ ?_; omega; (exact hBx5.size); intro a5 c5 l5 W5 hl5 hown5 hg5; have hB5 := below_app hBx5 hg5 hownx5 (Nat.le_refl _) hBx5.size; obtain ⟨p0, p1, p2, p3, p4, p5, p6, p7, p8, p9, p10, p11, p12, p13, p14⟩ := Hcw.out W5 hB5)
  have hl5n : l5.length ≤ 36 := by rw [hl5.out]; simp; omega
  have hl5' : Hid (l5 = nK ++ nF ++ nD ++ nT) := by show _ = _; rw [hl5.out, hl4'.out]
  clear hl5 hg5 hownx5 hBx5
  go_wp2_with fail
  refine (HO.out _).mono ?_
  rintro e V6 ⟨ax6, cx6, rfl, how6, hb6⟩
  have hownx6 := own_below hown5 hb6
  have hBx6 := below_on hB5 hb6 (Nat.le_refl _)
  clear hown5 hb6 hB5 p0 p1 p2 p3 p4 p5 p6 p7 p8 p9 p10 p11 p12 p13 p14
  go_wp2_with (at_builtin; refine wpl_append_bs rfl (.tmp 55) (.tmp 58) 22 rfl W1.heap.size 5 infoUB Try.underlying22 _ _ l5 rfl hownx6 _ _ nO rfl (Bs.of_own how6) ?_ ?_ ?_; omega; (exact hBx6.size); intro a6 c6 l6 W6 hl6 hown6 hg6; have hB6 := below_app hBx6 hg6 hownx6 (Nat.le_refl _) hBx6.size; obtain ⟨p0, p1, p2, p3, p4, p5, p6, p7, p8, p9, p10, p11, p12, p13, p14⟩ := Hcw.out W6 hB6)
  have hl6' : Hid (l6 = nK ++ nF ++ nD ++ nT ++ nO) := by show _ = _; rw [hl6.out, hl5'.out]
  go_ret
  exact ⟨a6, c6, l6, rfl, by show _ = _; rw [hl6'.out, HP.out, NK.out, NF.out, ND.out, NT.out, NO.out]; simp [bodyB, fieldsB, numsB], Bs.of_own hown6, below_on hB1 hB6 (Nat.le_refl _)⟩
set_option maxRecDepth 100000 in
set_option maxHeartbeats 16000000 in
theorem refBody_3 (F D T I L C R : Nat) (ok force : Bool) (eo mo ao : Option Addr) (ec mc ac : Nat) (el : List Ep) (si st : Int) (ml : List Int) (d : List UInt8) (w : World) (hF : F ≤ 6) (hD : D ≤ 6) (hT : T ≤ 1152921504606846976) (hI : I ≤ 1152921504606846976) (hL : L ≤ 1152921504606846976) (hC : C ≤ 1152921504606846976) (hR : R ≤ 1152921504606846976) :
    Calls Try.prog 78 #[.agg #[.int .i64 3, .int .i64 (F : Int), .int .i64 (D : Int), .int .u64 (T : Int), .int .u64 (I : Int), .int .u64 (L : Int), .int .u64 (C : Int), .int .u64 (R : Int), .bool ok, .bool force, .slice eo el.length ec, .int .u64 si, .int .u64 st, .slice mo ml.length mc, .slice ao d.length ac]] w fun e w' => ∃ a c l, e = .returned (.slice a l.length c) ∧ Hid (l = bodyB ⟨3, (F : Int), (D : Int), (T : Int), (I : Int), (L : Int), (C : Int), (R : Int), ok, force, el.map Ep.e, ⟨si, st, ml, d⟩⟩) ∧ Bs w' a c l ∧ Below w.heap.size w w' := by
  obtain ⟨P, hP⟩ : ∃ P, P = bodyB ⟨3, (F : Int), (D : Int), (T : Int), (I : Int), (L : Int), (C : Int), (R : Int), ok, force, el.map Ep.e, ⟨si, st, ml, d⟩⟩ := ⟨_, rfl⟩
  rw [← hP]
  have HP := Lib.hid hP
  clear hP
  have hK : ∀ W, Calls Try.prog 47 #[.int .u64 3] W fun e W' => ∃ ao cap, e = .returned (.slice ao (numB 3).length cap) ∧ W'.ownsRow W.heap.size 5 1 (.slice ao (numB 3).length cap) (numB 3).length (u8s (numB 3)) ∧ Below W.heap.size W W' := fun W => refNumB_any 3 (by decide) W
  obtain ⟨nK, hnK⟩ : ∃ n, n = numB 3 := ⟨_, rfl⟩
  have lK : nK.length ≤ 9 := by rw [hnK]; exact numB_len _ (by decide)
  rw [← hnK] at hK
  have HK := Lib.hid hK
  have NK := Lib.hid hnK
  clear hK hnK
  have hF' := fun W => refNumB_any F (by omega) W
  obtain ⟨nF, hnF⟩ : ∃ n, n = numB F := ⟨_, rfl⟩
  have lF : nF.length ≤ 9 := by rw [hnF]; exact numB_len _ (by omega)
  have wF : IntKind.u64.wrap (F : Int) = (F : Int) := IntWalk.u64_in _ (by omega)
  rw [← hnF] at hF'
  have HF := Lib.hid hF'
  have NF := Lib.hid hnF
  clear hF' hnF
  have hD' := fun W => refNumB_any D (by omega) W
  obtain ⟨nD, hnD⟩ : ∃ n, n = numB D := ⟨_, rfl⟩
  have lD : nD.length ≤ 9 := by rw [hnD]; exact numB_len _ (by omega)
  have wD : IntKind.u64.wrap (D : Int) = (D : Int) := IntWalk.u64_in _ (by omega)
  rw [← hnD] at hD'
  have HD := Lib.hid hD'
  have ND := Lib.hid hnD
  clear hD' hnD
  have hT' := fun W => refNumB_any T (by omega) W
  obtain ⟨nT, hnT⟩ : ∃ n, n = numB T := ⟨_, rfl⟩
  have lT : nT.length ≤ 9 := by rw [hnT]; exact numB_len _ (by omega)
  have wT : IntKind.u64.wrap (T : Int) = (T : Int) := IntWalk.u64_in _ (by omega)
  rw [← hnT] at hT'
  have HT := Lib.hid hT'
  have NT := Lib.hid hnT
  clear hT' hnT
  have hI' := fun W => refNumB_any I (by omega) W
  obtain ⟨nI, hnI⟩ : ∃ n, n = numB I := ⟨_, rfl⟩
  have lI : nI.length ≤ 9 := by rw [hnI]; exact numB_len _ (by omega)
  have wI : IntKind.u64.wrap (I : Int) = (I : Int) := IntWalk.u64_in _ (by omega)
  rw [← hnI] at hI'
  have HI := Lib.hid hI'
  have NI := Lib.hid hnI
  clear hI' hnI
  have hL' := fun W => refNumB_any L (by omega) W
  obtain ⟨nL, hnL⟩ : ∃ n, n = numB L := ⟨_, rfl⟩
  have lL : nL.length ≤ 9 := by rw [hnL]; exact numB_len _ (by omega)
  have wL : IntKind.u64.wrap (L : Int) = (L : Int) := IntWalk.u64_in _ (by omega)
  rw [← hnL] at hL'
  have HL := Lib.hid hL'
  have NL := Lib.hid hnL
  clear hL' hnL
  have hC' := fun W => refNumB_any C (by omega) W
  obtain ⟨nC, hnC⟩ : ∃ n, n = numB C := ⟨_, rfl⟩
  have lC : nC.length ≤ 9 := by rw [hnC]; exact numB_len _ (by omega)
  have wC : IntKind.u64.wrap (C : Int) = (C : Int) := IntWalk.u64_in _ (by omega)
  rw [← hnC] at hC'
  have HC := Lib.hid hC'
  have NC := Lib.hid hnC
  clear hC' hnC
  have hR' := fun W => refNumB_any R (by omega) W
  obtain ⟨nR, hnR⟩ : ∃ n, n = numB R := ⟨_, rfl⟩
  have lR : nR.length ≤ 9 := by rw [hnR]; exact numB_len _ (by omega)
  have wR : IntKind.u64.wrap (R : Int) = (R : Int) := IntWalk.u64_in _ (by omega)
  rw [← hnR] at hR'
  have HR := Lib.hid hR'
  have NR := Lib.hid hnR
  clear hR' hnR
  have hO := fun W => refFlag_any ok W
  obtain ⟨nO, hnO⟩ : ∃ n, n = flagB ok := ⟨_, rfl⟩
  have lO : nO.length ≤ 9 := by rw [hnO]; exact numB_len _ (by split <;> omega)
  rw [← hnO] at hO
  have HO := Lib.hid hO
  have NO := Lib.hid hnO
  clear hO hnO
  have hX := fun W => refFlag_any force W
  obtain ⟨nX, hnX⟩ : ∃ n, n = flagB force := ⟨_, rfl⟩
  have lX : nX.length ≤ 9 := by rw [hnX]; exact numB_len _ (by split <;> omega)
  rw [← hnX] at hX
  have HX := Lib.hid hX
  have NX := Lib.hid hnX
  clear hX hnX
  clear hF hD hT hI hL hC hR
  obtain ⟨W1, hW1⟩ : ∃ W1, W1 = w.alloc (.cells #[.int .i64 3, .int .i64 (F : Int), .int .i64 (D : Int), .int .u64 (T : Int), .int .u64 (I : Int), .int .u64 (L : Int), .int .u64 (C : Int), .int .u64 (R : Int), .bool ok, .bool force, .slice eo el.length ec, .int .u64 si, .int .u64 st, .slice mo ml.length mc, .slice ao d.length ac] 52) := ⟨_, rfl⟩
  have hB1 : Below w.heap.size w W1 := by rw [hW1]; exact below_new _ _
  have k1 : W1.heap[w.heap.size]? = some (.cells #[.int .i64 3, .int .i64 (F : Int), .int .i64 (D : Int), .int .u64 (T : Int), .int .u64 (I : Int), .int .u64 (L : Int), .int .u64 (C : Int), .int .u64 (R : Int), .bool ok, .bool force, .slice eo el.length ec, .int .u64 si, .int .u64 st, .slice mo ml.length mc, .slice ao d.length ac] 52 (0, 0)) := by rw [hW1]; exact heap_alloc_new _ _
  have z1 := (Array.getElem?_eq_some_iff.1 k1).1
  have hcw : ∀ W', Below W1.heap.size W1 W' → (W'.cell? ⟨w.heap.size, 0, none⟩ = some (.int .i64 3) ∧ W'.cell? ⟨w.heap.size, 1, none⟩ = some (.int .i64 (F : Int)) ∧ W'.cell? ⟨w.heap.size, 2, none⟩ = some (.int .i64 (D : Int)) ∧ W'.cell? ⟨w.heap.size, 3, none⟩ = some (.int .u64 (T : Int)) ∧ W'.cell? ⟨w.heap.size, 4, none⟩ = some (.int .u64 (I : Int)) ∧ W'.cell? ⟨w.heap.size, 5, none⟩ = some (.int .u64 (L : Int)) ∧ W'.cell? ⟨w.heap.size, 6, none⟩ = some (.int .u64 (C : Int)) ∧ W'.cell? ⟨w.heap.size, 7, none⟩ = some (.int .u64 (R : Int)) ∧ W'.cell? ⟨w.heap.size, 8, none⟩ = some (.bool ok) ∧ W'.cell? ⟨w.heap.size, 9, none⟩ = some (.bool force) ∧ W'.cell? ⟨w.heap.size, 10, none⟩ = some (.slice eo el.length ec) ∧ W'.cell? ⟨w.heap.size, 11, none⟩ = some (.int .u64 si) ∧ W'.cell? ⟨w.heap.size, 12, none⟩ = some (.int .u64 st) ∧ W'.cell? ⟨w.heap.size, 13, none⟩ = some (.slice mo ml.length mc) ∧ W'.cell? ⟨w.heap.size, 14, none⟩ = some (.slice ao d.length ac)) := fun W' hb => by
    have hk := (hb.block _ (Array.getElem?_eq_some_iff.1 k1).1).trans k1
    exact ⟨block_cell hk 0, block_cell hk 1, block_cell hk 2, block_cell hk 3, block_cell hk 4, block_cell hk 5, block_cell hk 6, block_cell hk 7, block_cell hk 8, block_cell hk 9, block_cell hk 10, block_cell hk 11, block_cell hk 12, block_cell hk 13, block_cell hk 14⟩
  have Hcw := Lib.hid hcw
  obtain ⟨p0, p1, p2, p3, p4, p5, p6, p7, p8, p9, p10, p11, p12, p13, p14⟩ := Hcw.out W1 (Below.refl _ _)
  clear hcw k1
  go_enter Try.func78, Try.ntmps78
  go_upto_region 1 with fail
  rw [← hW1]
  clear hW1
  go_wp2_with fail
  refine (HK.out _).mono ?_
  rintro e W2 ⟨a2, c2, rfl, hown2, hB2⟩
  clear p0 p1 p2 p3 p4 p5 p6 p7 p8 p9 p10 p11 p12 p13 p14
  obtain ⟨p0, p1, p2, p3, p4, p5, p6, p7, p8, p9, p10, p11, p12, p13, p14⟩ := Hcw.out W2 hB2
  have hl2 : Hid (nK = nK) := rfl
  go_wp2_with fail
  refine (HF.out _).mono ?_
  rintro e V3 ⟨ax3, cx3, rfl, how3, hb3⟩
  have hownx3 := own_below hown2 hb3
  have hBx3 := below_on hB2 hb3 (Nat.le_refl _)
  clear hown2 hb3 hB2 p0 p1 p2 p3 p4 p5 p6 p7 p8 p9 p10 p11 p12 p13 p14
  go_wp2_with (at_builtin; refine wpl_append_bs rfl (.tmp 10) (.tmp 14) 22 rfl W1.heap.size 5 infoUB Try.underlying22 _ _ nK rfl hownx3 _ _ nF rfl (Bs.of_own how3) ?_ ?_ ?_; omega; (exact hBx3.size); intro a3 c3 l3 W3 hl3 hown3 hg3; have hB3 := below_app hBx3 hg3 hownx3 (Nat.le_refl _) hBx3.size; obtain ⟨p0, p1, p2, p3, p4, p5, p6, p7, p8, p9, p10, p11, p12, p13, p14⟩ := Hcw.out W3 hB3)
  have hl3n : l3.length ≤ 18 := by rw [hl3.out]; simp; omega
  have hl3' : Hid (l3 = nK ++ nF) := hl3
  clear hl3 hg3 hownx3 hBx3
  go_wp2_with fail
  refine (HD.out _).mono ?_
  rintro e V4 ⟨ax4, cx4, rfl, how4, hb4⟩
  have hownx4 := own_below hown3 hb4
  have hBx4 := below_on hB3 hb4 (Nat.le_refl _)
  clear hown3 hb4 hB3 p0 p1 p2 p3 p4 p5 p6 p7 p8 p9 p10 p11 p12 p13 p14
  go_wp2_with (at_builtin; refine wpl_append_bs rfl (.tmp 16) (.tmp 20) 22 rfl W1.heap.size 5 infoUB Try.underlying22 _ _ l3 rfl hownx4 _ _ nD rfl (Bs.of_own how4) ?_ ?_ ?_; omega; (exact hBx4.size); intro a4 c4 l4 W4 hl4 hown4 hg4; have hB4 := below_app hBx4 hg4 hownx4 (Nat.le_refl _) hBx4.size; obtain ⟨p0, p1, p2, p3, p4, p5, p6, p7, p8, p9, p10, p11, p12, p13, p14⟩ := Hcw.out W4 hB4)
  have hl4n : l4.length ≤ 27 := by rw [hl4.out]; simp; omega
  have hl4' : Hid (l4 = nK ++ nF ++ nD) := by show _ = _; rw [hl4.out, hl3'.out]
  clear hl4 hg4 hownx4 hBx4
  go_wp2_with fail
  refine (HT.out _).mono ?_
  rintro e V5 ⟨ax5, cx5, rfl, how5, hb5⟩
  have hownx5 := own_below hown4 hb5
  have hBx5 := below_on hB4 hb5 (Nat.le_refl _)
  clear hown4 hb5 hB4 p0 p1 p2 p3 p4 p5 p6 p7 p8 p9 p10 p11 p12 p13 p14
  go_wp2_with (at_builtin; refine wpl_append_bs rfl (.tmp 22) (.tmp 25) 22 rfl W1.heap.size 5 infoUB Try.underlying22 _ _ l4 rfl hownx5 _ _ nT rfl (Bs.of_own how5) ?_ ?_ ?_; omega; (exact hBx5.size); intro a5 c5 l5 W5 hl5 hown5 hg5; have hB5 := below_app hBx5 hg5 hownx5 (Nat.le_refl _) hBx5.size; obtain ⟨p0, p1, p2, p3, p4, p5, p6, p7, p8, p9, p10, p11, p12, p13, p14⟩ := Hcw.out W5 hB5)
  have hl5n : l5.length ≤ 36 := by rw [hl5.out]; simp; omega
  have hl5' : Hid (l5 = nK ++ nF ++ nD ++ nT) := by show _ = _; rw [hl5.out, hl4'.out]
  clear hl5 hg5 hownx5 hBx5
  go_wp2_with fail
  refine (HI.out _).mono ?_
  rintro e V6 ⟨ax6, cx6, rfl, how6, hb6⟩
  have hownx6 := own_below hown5 hb6
  have hBx6 := below_on hB5 hb6 (Nat.le_refl _)
  clear hown5 hb6 hB5 p0 p1 p2 p3 p4 p5 p6 p7 p8 p9 p10 p11 p12 p13 p14
  go_wp2_with (at_builtin; refine wpl_append_bs rfl (.tmp 40) (.tmp 43) 22 rfl W1.heap.size 5 infoUB Try.underlying22 _ _ l5 rfl hownx6 _ _ nI rfl (Bs.of_own how6) ?_ ?_ ?_; omega; (exact hBx6.size); intro a6 c6 l6 W6 hl6 hown6 hg6; have hB6 := below_app hBx6 hg6 hownx6 (Nat.le_refl _) hBx6.size; obtain ⟨p0, p1, p2, p3, p4, p5, p6, p7, p8, p9, p10, p11, p12, p13, p14⟩ := Hcw.out W6 hB6)
  have hl6n : l6.length ≤ 45 := by rw [hl6.out]; simp; omega
  have hl6' : Hid (l6 = nK ++ nF ++ nD ++ nT ++ nI) := by show _ = _; rw [hl6.out, hl5'.out]
  clear hl6 hg6 hownx6 hBx6
  go_wp2_with fail
  refine (HL.out _).mono ?_
  rintro e V7 ⟨ax7, cx7, rfl, how7, hb7⟩
  have hownx7 := own_below hown6 hb7
  have hBx7 := below_on hB6 hb7 (Nat.le_refl _)
  clear hown6 hb7 hB6 p0 p1 p2 p3 p4 p5 p6 p7 p8 p9 p10 p11 p12 p13 p14
  go_wp2_with (at_builtin; refine wpl_append_bs rfl (.tmp 45) (.tmp 48) 22 rfl W1.heap.size 5 infoUB Try.underlying22 _ _ l6 rfl hownx7 _ _ nL rfl (Bs.of_own how7) ?_ ?_ ?_; omega; (exact hBx7.size); intro a7 c7 l7 W7 hl7 hown7 hg7; have hB7 := below_app hBx7 hg7 hownx7 (Nat.le_refl _) hBx7.size; obtain ⟨p0, p1, p2, p3, p4, p5, p6, p7, p8, p9, p10, p11, p12, p13, p14⟩ := Hcw.out W7 hB7)
  have hl7n : l7.length ≤ 54 := by rw [hl7.out]; simp; omega
  have hl7' : Hid (l7 = nK ++ nF ++ nD ++ nT ++ nI ++ nL) := by show _ = _; rw [hl7.out, hl6'.out]
  clear hl7 hg7 hownx7 hBx7
  go_wp2_with fail
  refine (HX.out _).mono ?_
  rintro e V8 ⟨ax8, cx8, rfl, how8, hb8⟩
  have hownx8 := own_below hown7 hb8
  have hBx8 := below_on hB7 hb8 (Nat.le_refl _)
  clear hown7 hb8 hB7 p0 p1 p2 p3 p4 p5 p6 p7 p8 p9 p10 p11 p12 p13 p14
  go_wp2_with (at_builtin; refine wpl_append_bs rfl (.tmp 62) (.tmp 65) 22 rfl W1.heap.size 5 infoUB Try.underlying22 _ _ l7 rfl hownx8 _ _ nX rfl (Bs.of_own how8) ?_ ?_ ?_; omega; (exact hBx8.size); intro a8 c8 l8 W8 hl8 hown8 hg8; have hB8 := below_app hBx8 hg8 hownx8 (Nat.le_refl _) hBx8.size; obtain ⟨p0, p1, p2, p3, p4, p5, p6, p7, p8, p9, p10, p11, p12, p13, p14⟩ := Hcw.out W8 hB8)
  have hl8' : Hid (l8 = nK ++ nF ++ nD ++ nT ++ nI ++ nL ++ nX) := by show _ = _; rw [hl8.out, hl7'.out]
  go_ret
  exact ⟨a8, c8, l8, rfl, by show _ = _; rw [hl8'.out, HP.out, NK.out, NF.out, ND.out, NT.out, NI.out, NL.out, NX.out]; simp [bodyB, fieldsB, numsB], Bs.of_own hown8, below_on hB1 hB8 (Nat.le_refl _)⟩
set_option maxRecDepth 100000 in
set_option maxHeartbeats 16000000 in
theorem refBody_6 (F D T I L C R : Nat) (ok force : Bool) (eo mo ao : Option Addr) (ec mc ac : Nat) (el : List Ep) (si st : Int) (ml : List Int) (d : List UInt8) (w : World) (hF : F ≤ 6) (hD : D ≤ 6) (hT : T ≤ 1152921504606846976) (hI : I ≤ 1152921504606846976) (hL : L ≤ 1152921504606846976) (hC : C ≤ 1152921504606846976) (hR : R ≤ 1152921504606846976) :
    Calls Try.prog 78 #[.agg #[.int .i64 6, .int .i64 (F : Int), .int .i64 (D : Int), .int .u64 (T : Int), .int .u64 (I : Int), .int .u64 (L : Int), .int .u64 (C : Int), .int .u64 (R : Int), .bool ok, .bool force, .slice eo el.length ec, .int .u64 si, .int .u64 st, .slice mo ml.length mc, .slice ao d.length ac]] w fun e w' => ∃ a c l, e = .returned (.slice a l.length c) ∧ Hid (l = bodyB ⟨6, (F : Int), (D : Int), (T : Int), (I : Int), (L : Int), (C : Int), (R : Int), ok, force, el.map Ep.e, ⟨si, st, ml, d⟩⟩) ∧ Bs w' a c l ∧ Below w.heap.size w w' := by
  obtain ⟨P, hP⟩ : ∃ P, P = bodyB ⟨6, (F : Int), (D : Int), (T : Int), (I : Int), (L : Int), (C : Int), (R : Int), ok, force, el.map Ep.e, ⟨si, st, ml, d⟩⟩ := ⟨_, rfl⟩
  rw [← hP]
  have HP := Lib.hid hP
  clear hP
  have hK : ∀ W, Calls Try.prog 47 #[.int .u64 6] W fun e W' => ∃ ao cap, e = .returned (.slice ao (numB 6).length cap) ∧ W'.ownsRow W.heap.size 5 1 (.slice ao (numB 6).length cap) (numB 6).length (u8s (numB 6)) ∧ Below W.heap.size W W' := fun W => refNumB_any 6 (by decide) W
  obtain ⟨nK, hnK⟩ : ∃ n, n = numB 6 := ⟨_, rfl⟩
  have lK : nK.length ≤ 9 := by rw [hnK]; exact numB_len _ (by decide)
  rw [← hnK] at hK
  have HK := Lib.hid hK
  have NK := Lib.hid hnK
  clear hK hnK
  have hF' := fun W => refNumB_any F (by omega) W
  obtain ⟨nF, hnF⟩ : ∃ n, n = numB F := ⟨_, rfl⟩
  have lF : nF.length ≤ 9 := by rw [hnF]; exact numB_len _ (by omega)
  have wF : IntKind.u64.wrap (F : Int) = (F : Int) := IntWalk.u64_in _ (by omega)
  rw [← hnF] at hF'
  have HF := Lib.hid hF'
  have NF := Lib.hid hnF
  clear hF' hnF
  have hD' := fun W => refNumB_any D (by omega) W
  obtain ⟨nD, hnD⟩ : ∃ n, n = numB D := ⟨_, rfl⟩
  have lD : nD.length ≤ 9 := by rw [hnD]; exact numB_len _ (by omega)
  have wD : IntKind.u64.wrap (D : Int) = (D : Int) := IntWalk.u64_in _ (by omega)
  rw [← hnD] at hD'
  have HD := Lib.hid hD'
  have ND := Lib.hid hnD
  clear hD' hnD
  have hT' := fun W => refNumB_any T (by omega) W
  obtain ⟨nT, hnT⟩ : ∃ n, n = numB T := ⟨_, rfl⟩
  have lT : nT.length ≤ 9 := by rw [hnT]; exact numB_len _ (by omega)
  have wT : IntKind.u64.wrap (T : Int) = (T : Int) := IntWalk.u64_in _ (by omega)
  rw [← hnT] at hT'
  have HT := Lib.hid hT'
  have NT := Lib.hid hnT
  clear hT' hnT
  have hI' := fun W => refNumB_any I (by omega) W
  obtain ⟨nI, hnI⟩ : ∃ n, n = numB I := ⟨_, rfl⟩
  have lI : nI.length ≤ 9 := by rw [hnI]; exact numB_len _ (by omega)
  have wI : IntKind.u64.wrap (I : Int) = (I : Int) := IntWalk.u64_in _ (by omega)
  rw [← hnI] at hI'
  have HI := Lib.hid hI'
  have NI := Lib.hid hnI
  clear hI' hnI
  have hL' := fun W => refNumB_any L (by omega) W
  obtain ⟨nL, hnL⟩ : ∃ n, n = numB L := ⟨_, rfl⟩
  have lL : nL.length ≤ 9 := by rw [hnL]; exact numB_len _ (by omega)
  have wL : IntKind.u64.wrap (L : Int) = (L : Int) := IntWalk.u64_in _ (by omega)
  rw [← hnL] at hL'
  have HL := Lib.hid hL'
  have NL := Lib.hid hnL
  clear hL' hnL
  have hC' := fun W => refNumB_any C (by omega) W
  obtain ⟨nC, hnC⟩ : ∃ n, n = numB C := ⟨_, rfl⟩
  have lC : nC.length ≤ 9 := by rw [hnC]; exact numB_len _ (by omega)
  have wC : IntKind.u64.wrap (C : Int) = (C : Int) := IntWalk.u64_in _ (by omega)
  rw [← hnC] at hC'
  have HC := Lib.hid hC'
  have NC := Lib.hid hnC
  clear hC' hnC
  have hR' := fun W => refNumB_any R (by omega) W
  obtain ⟨nR, hnR⟩ : ∃ n, n = numB R := ⟨_, rfl⟩
  have lR : nR.length ≤ 9 := by rw [hnR]; exact numB_len _ (by omega)
  have wR : IntKind.u64.wrap (R : Int) = (R : Int) := IntWalk.u64_in _ (by omega)
  rw [← hnR] at hR'
  have HR := Lib.hid hR'
  have NR := Lib.hid hnR
  clear hR' hnR
  have hO := fun W => refFlag_any ok W
  obtain ⟨nO, hnO⟩ : ∃ n, n = flagB ok := ⟨_, rfl⟩
  have lO : nO.length ≤ 9 := by rw [hnO]; exact numB_len _ (by split <;> omega)
  rw [← hnO] at hO
  have HO := Lib.hid hO
  have NO := Lib.hid hnO
  clear hO hnO
  have hX := fun W => refFlag_any force W
  obtain ⟨nX, hnX⟩ : ∃ n, n = flagB force := ⟨_, rfl⟩
  have lX : nX.length ≤ 9 := by rw [hnX]; exact numB_len _ (by split <;> omega)
  rw [← hnX] at hX
  have HX := Lib.hid hX
  have NX := Lib.hid hnX
  clear hX hnX
  clear hF hD hT hI hL hC hR
  obtain ⟨W1, hW1⟩ : ∃ W1, W1 = w.alloc (.cells #[.int .i64 6, .int .i64 (F : Int), .int .i64 (D : Int), .int .u64 (T : Int), .int .u64 (I : Int), .int .u64 (L : Int), .int .u64 (C : Int), .int .u64 (R : Int), .bool ok, .bool force, .slice eo el.length ec, .int .u64 si, .int .u64 st, .slice mo ml.length mc, .slice ao d.length ac] 52) := ⟨_, rfl⟩
  have hB1 : Below w.heap.size w W1 := by rw [hW1]; exact below_new _ _
  have k1 : W1.heap[w.heap.size]? = some (.cells #[.int .i64 6, .int .i64 (F : Int), .int .i64 (D : Int), .int .u64 (T : Int), .int .u64 (I : Int), .int .u64 (L : Int), .int .u64 (C : Int), .int .u64 (R : Int), .bool ok, .bool force, .slice eo el.length ec, .int .u64 si, .int .u64 st, .slice mo ml.length mc, .slice ao d.length ac] 52 (0, 0)) := by rw [hW1]; exact heap_alloc_new _ _
  have z1 := (Array.getElem?_eq_some_iff.1 k1).1
  have hcw : ∀ W', Below W1.heap.size W1 W' → (W'.cell? ⟨w.heap.size, 0, none⟩ = some (.int .i64 6) ∧ W'.cell? ⟨w.heap.size, 1, none⟩ = some (.int .i64 (F : Int)) ∧ W'.cell? ⟨w.heap.size, 2, none⟩ = some (.int .i64 (D : Int)) ∧ W'.cell? ⟨w.heap.size, 3, none⟩ = some (.int .u64 (T : Int)) ∧ W'.cell? ⟨w.heap.size, 4, none⟩ = some (.int .u64 (I : Int)) ∧ W'.cell? ⟨w.heap.size, 5, none⟩ = some (.int .u64 (L : Int)) ∧ W'.cell? ⟨w.heap.size, 6, none⟩ = some (.int .u64 (C : Int)) ∧ W'.cell? ⟨w.heap.size, 7, none⟩ = some (.int .u64 (R : Int)) ∧ W'.cell? ⟨w.heap.size, 8, none⟩ = some (.bool ok) ∧ W'.cell? ⟨w.heap.size, 9, none⟩ = some (.bool force) ∧ W'.cell? ⟨w.heap.size, 10, none⟩ = some (.slice eo el.length ec) ∧ W'.cell? ⟨w.heap.size, 11, none⟩ = some (.int .u64 si) ∧ W'.cell? ⟨w.heap.size, 12, none⟩ = some (.int .u64 st) ∧ W'.cell? ⟨w.heap.size, 13, none⟩ = some (.slice mo ml.length mc) ∧ W'.cell? ⟨w.heap.size, 14, none⟩ = some (.slice ao d.length ac)) := fun W' hb => by
    have hk := (hb.block _ (Array.getElem?_eq_some_iff.1 k1).1).trans k1
    exact ⟨block_cell hk 0, block_cell hk 1, block_cell hk 2, block_cell hk 3, block_cell hk 4, block_cell hk 5, block_cell hk 6, block_cell hk 7, block_cell hk 8, block_cell hk 9, block_cell hk 10, block_cell hk 11, block_cell hk 12, block_cell hk 13, block_cell hk 14⟩
  have Hcw := Lib.hid hcw
  obtain ⟨p0, p1, p2, p3, p4, p5, p6, p7, p8, p9, p10, p11, p12, p13, p14⟩ := Hcw.out W1 (Below.refl _ _)
  clear hcw k1
  go_enter Try.func78, Try.ntmps78
  go_upto_region 1 with fail
  rw [← hW1]
  clear hW1
  go_wp2_with fail
  refine (HK.out _).mono ?_
  rintro e W2 ⟨a2, c2, rfl, hown2, hB2⟩
  clear p0 p1 p2 p3 p4 p5 p6 p7 p8 p9 p10 p11 p12 p13 p14
  obtain ⟨p0, p1, p2, p3, p4, p5, p6, p7, p8, p9, p10, p11, p12, p13, p14⟩ := Hcw.out W2 hB2
  have hl2 : Hid (nK = nK) := rfl
  go_wp2_with fail
  refine (HF.out _).mono ?_
  rintro e V3 ⟨ax3, cx3, rfl, how3, hb3⟩
  have hownx3 := own_below hown2 hb3
  have hBx3 := below_on hB2 hb3 (Nat.le_refl _)
  clear hown2 hb3 hB2 p0 p1 p2 p3 p4 p5 p6 p7 p8 p9 p10 p11 p12 p13 p14
  go_wp2_with (at_builtin; refine wpl_append_bs rfl (.tmp 10) (.tmp 14) 22 rfl W1.heap.size 5 infoUB Try.underlying22 _ _ nK rfl hownx3 _ _ nF rfl (Bs.of_own how3) ?_ ?_ ?_; omega; (exact hBx3.size); intro a3 c3 l3 W3 hl3 hown3 hg3; have hB3 := below_app hBx3 hg3 hownx3 (Nat.le_refl _) hBx3.size; obtain ⟨p0, p1, p2, p3, p4, p5, p6, p7, p8, p9, p10, p11, p12, p13, p14⟩ := Hcw.out W3 hB3)
  have hl3n : l3.length ≤ 18 := by rw [hl3.out]; simp; omega
  have hl3' : Hid (l3 = nK ++ nF) := hl3
  clear hl3 hg3 hownx3 hBx3
  go_wp2_with fail
  refine (HD.out _).mono ?_
  rintro e V4 ⟨ax4, cx4, rfl, how4, hb4⟩
  have hownx4 := own_below hown3 hb4
  have hBx4 := below_on hB3 hb4 (Nat.le_refl _)
  clear hown3 hb4 hB3 p0 p1 p2 p3 p4 p5 p6 p7 p8 p9 p10 p11 p12 p13 p14
  go_wp2_with (at_builtin; refine wpl_append_bs rfl (.tmp 16) (.tmp 20) 22 rfl W1.heap.size 5 infoUB Try.underlying22 _ _ l3 rfl hownx4 _ _ nD rfl (Bs.of_own how4) ?_ ?_ ?_; omega; (exact hBx4.size); intro a4 c4 l4 W4 hl4 hown4 hg4; have hB4 := below_app hBx4 hg4 hownx4 (Nat.le_refl _) hBx4.size; obtain ⟨p0, p1, p2, p3, p4, p5, p6, p7, p8, p9, p10, p11, p12, p13, p14⟩ := Hcw.out W4 hB4)
  have hl4n : l4.length ≤ 27 := by rw [hl4.out]; simp; omega
  have hl4' : Hid (l4 = nK ++ nF ++ nD) := by show _ = _; rw [hl4.out, hl3'.out]
  clear hl4 hg4 hownx4 hBx4
  go_wp2_with fail
  refine (HT.out _).mono ?_
  rintro e V5 ⟨ax5, cx5, rfl, how5, hb5⟩
  have hownx5 := own_below hown4 hb5
  have hBx5 := below_on hB4 hb5 (Nat.le_refl _)
  clear hown4 hb5 hB4 p0 p1 p2 p3 p4 p5 p6 p7 p8 p9 p10 p11 p12 p13 p14
  go_wp2_with (at_builtin; refine wpl_append_bs rfl (.tmp 22) (.tmp 25) 22 rfl W1.heap.size 5 infoUB Try.underlying22 _ _ l4 rfl hownx5 _ _ nT rfl (Bs.of_own how5) ?_ ?_ ?_; omega; (exact hBx5.size); intro a5 c5 l5 W5 hl5 hown5 hg5; have hB5 := below_app hBx5 hg5 hownx5 (Nat.le_refl _) hBx5.size; obtain ⟨p0, p1, p2, p3, p4, p5, p6, p7, p8, p9, p10, p11, p12, p13, p14⟩ := Hcw.out W5 hB5)
  have hl5n : l5.length ≤ 36 := by rw [hl5.out]; simp; omega
  have hl5' : Hid (l5 = nK ++ nF ++ nD ++ nT) := by show _ = _; rw [hl5.out, hl4'.out]
  clear hl5 hg5 hownx5 hBx5
  go_wp2_with fail
  refine (HO.out _).mono ?_
  rintro e V6 ⟨ax6, cx6, rfl, how6, hb6⟩
  have hownx6 := own_below hown5 hb6
  have hBx6 := below_on hB5 hb6 (Nat.le_refl _)
  clear hown5 hb6 hB5 p0 p1 p2 p3 p4 p5 p6 p7 p8 p9 p10 p11 p12 p13 p14
  go_wp2_with (at_builtin; refine wpl_append_bs rfl (.tmp 117) (.tmp 120) 22 rfl W1.heap.size 5 infoUB Try.underlying22 _ _ l5 rfl hownx6 _ _ nO rfl (Bs.of_own how6) ?_ ?_ ?_; omega; (exact hBx6.size); intro a6 c6 l6 W6 hl6 hown6 hg6; have hB6 := below_app hBx6 hg6 hownx6 (Nat.le_refl _) hBx6.size; obtain ⟨p0, p1, p2, p3, p4, p5, p6, p7, p8, p9, p10, p11, p12, p13, p14⟩ := Hcw.out W6 hB6)
  have hl6n : l6.length ≤ 45 := by rw [hl6.out]; simp; omega
  have hl6' : Hid (l6 = nK ++ nF ++ nD ++ nT ++ nO) := by show _ = _; rw [hl6.out, hl5'.out]
  clear hl6 hg6 hownx6 hBx6
  go_wp2_with fail
  refine (HI.out _).mono ?_
  rintro e V7 ⟨ax7, cx7, rfl, how7, hb7⟩
  have hownx7 := own_below hown6 hb7
  have hBx7 := below_on hB6 hb7 (Nat.le_refl _)
  clear hown6 hb7 hB6 p0 p1 p2 p3 p4 p5 p6 p7 p8 p9 p10 p11 p12 p13 p14
  go_wp2_with (at_builtin; refine wpl_append_bs rfl (.tmp 122) (.tmp 125) 22 rfl W1.heap.size 5 infoUB Try.underlying22 _ _ l6 rfl hownx7 _ _ nI rfl (Bs.of_own how7) ?_ ?_ ?_; omega; (exact hBx7.size); intro a7 c7 l7 W7 hl7 hown7 hg7; have hB7 := below_app hBx7 hg7 hownx7 (Nat.le_refl _) hBx7.size; obtain ⟨p0, p1, p2, p3, p4, p5, p6, p7, p8, p9, p10, p11, p12, p13, p14⟩ := Hcw.out W7 hB7)
  have hl7n : l7.length ≤ 54 := by rw [hl7.out]; simp; omega
  have hl7' : Hid (l7 = nK ++ nF ++ nD ++ nT ++ nO ++ nI) := by show _ = _; rw [hl7.out, hl6'.out]
  clear hl7 hg7 hownx7 hBx7
  go_wp2_with fail
  refine (HR.out _).mono ?_
  rintro e V8 ⟨ax8, cx8, rfl, how8, hb8⟩
  have hownx8 := own_below hown7 hb8
  have hBx8 := below_on hB7 hb8 (Nat.le_refl _)
  clear hown7 hb8 hB7 p0 p1 p2 p3 p4 p5 p6 p7 p8 p9 p10 p11 p12 p13 p14
  go_wp2_with (at_builtin; refine wpl_append_bs rfl (.tmp 127) (.tmp 130) 22 rfl W1.heap.size 5 infoUB Try.underlying22 _ _ l7 rfl hownx8 _ _ nR rfl (Bs.of_own how8) ?_ ?_ ?_; omega; (exact hBx8.size); intro a8 c8 l8 W8 hl8 hown8 hg8; have hB8 := below_app hBx8 hg8 hownx8 (Nat.le_refl _) hBx8.size; obtain ⟨p0, p1, p2, p3, p4, p5, p6, p7, p8, p9, p10, p11, p12, p13, p14⟩ := Hcw.out W8 hB8)
  have hl8' : Hid (l8 = nK ++ nF ++ nD ++ nT ++ nO ++ nI ++ nR) := by show _ = _; rw [hl8.out, hl7'.out]
  go_ret
  exact ⟨a8, c8, l8, rfl, by show _ = _; rw [hl8'.out, HP.out, NK.out, NF.out, ND.out, NT.out, NO.out, NI.out, NR.out]; simp [bodyB, fieldsB, numsB], Bs.of_own hown8, below_on hB1 hB8 (Nat.le_refl _)⟩
set_option maxRecDepth 100000 in
set_option maxHeartbeats 16000000 in
theorem refBody_8 (F D T I L C R : Nat) (ok force : Bool) (eo mo ao : Option Addr) (ec mc ac : Nat) (el : List Ep) (si st : Int) (ml : List Int) (d : List UInt8) (w : World) (hF : F ≤ 6) (hD : D ≤ 6) (hT : T ≤ 1152921504606846976) (hI : I ≤ 1152921504606846976) (hL : L ≤ 1152921504606846976) (hC : C ≤ 1152921504606846976) (hR : R ≤ 1152921504606846976) :
    Calls Try.prog 78 #[.agg #[.int .i64 8, .int .i64 (F : Int), .int .i64 (D : Int), .int .u64 (T : Int), .int .u64 (I : Int), .int .u64 (L : Int), .int .u64 (C : Int), .int .u64 (R : Int), .bool ok, .bool force, .slice eo el.length ec, .int .u64 si, .int .u64 st, .slice mo ml.length mc, .slice ao d.length ac]] w fun e w' => ∃ a c l, e = .returned (.slice a l.length c) ∧ Hid (l = bodyB ⟨8, (F : Int), (D : Int), (T : Int), (I : Int), (L : Int), (C : Int), (R : Int), ok, force, el.map Ep.e, ⟨si, st, ml, d⟩⟩) ∧ Bs w' a c l ∧ Below w.heap.size w w' := by
  obtain ⟨P, hP⟩ : ∃ P, P = bodyB ⟨8, (F : Int), (D : Int), (T : Int), (I : Int), (L : Int), (C : Int), (R : Int), ok, force, el.map Ep.e, ⟨si, st, ml, d⟩⟩ := ⟨_, rfl⟩
  rw [← hP]
  have HP := Lib.hid hP
  clear hP
  have hK : ∀ W, Calls Try.prog 47 #[.int .u64 8] W fun e W' => ∃ ao cap, e = .returned (.slice ao (numB 8).length cap) ∧ W'.ownsRow W.heap.size 5 1 (.slice ao (numB 8).length cap) (numB 8).length (u8s (numB 8)) ∧ Below W.heap.size W W' := fun W => refNumB_any 8 (by decide) W
  obtain ⟨nK, hnK⟩ : ∃ n, n = numB 8 := ⟨_, rfl⟩
  have lK : nK.length ≤ 9 := by rw [hnK]; exact numB_len _ (by decide)
  rw [← hnK] at hK
  have HK := Lib.hid hK
  have NK := Lib.hid hnK
  clear hK hnK
  have hF' := fun W => refNumB_any F (by omega) W
  obtain ⟨nF, hnF⟩ : ∃ n, n = numB F := ⟨_, rfl⟩
  have lF : nF.length ≤ 9 := by rw [hnF]; exact numB_len _ (by omega)
  have wF : IntKind.u64.wrap (F : Int) = (F : Int) := IntWalk.u64_in _ (by omega)
  rw [← hnF] at hF'
  have HF := Lib.hid hF'
  have NF := Lib.hid hnF
  clear hF' hnF
  have hD' := fun W => refNumB_any D (by omega) W
  obtain ⟨nD, hnD⟩ : ∃ n, n = numB D := ⟨_, rfl⟩
  have lD : nD.length ≤ 9 := by rw [hnD]; exact numB_len _ (by omega)
  have wD : IntKind.u64.wrap (D : Int) = (D : Int) := IntWalk.u64_in _ (by omega)
  rw [← hnD] at hD'
  have HD := Lib.hid hD'
  have ND := Lib.hid hnD
  clear hD' hnD
  have hT' := fun W => refNumB_any T (by omega) W
  obtain ⟨nT, hnT⟩ : ∃ n, n = numB T := ⟨_, rfl⟩
  have lT : nT.length ≤ 9 := by rw [hnT]; exact numB_len _ (by omega)
  have wT : IntKind.u64.wrap (T : Int) = (T : Int) := IntWalk.u64_in _ (by omega)
  rw [← hnT] at hT'
  have HT := Lib.hid hT'
  have NT := Lib.hid hnT
  clear hT' hnT
  have hI' := fun W => refNumB_any I (by omega) W
  obtain ⟨nI, hnI⟩ : ∃ n, n = numB I := ⟨_, rfl⟩
  have lI : nI.length ≤ 9 := by rw [hnI]; exact numB_len _ (by omega)
  have wI : IntKind.u64.wrap (I : Int) = (I : Int) := IntWalk.u64_in _ (by omega)
  rw [← hnI] at hI'
  have HI := Lib.hid hI'
  have NI := Lib.hid hnI
  clear hI' hnI
  have hL' := fun W => refNumB_any L (by omega) W
  obtain ⟨nL, hnL⟩ : ∃ n, n = numB L := ⟨_, rfl⟩
  have lL : nL.length ≤ 9 := by rw [hnL]; exact numB_len _ (by omega)
  have wL : IntKind.u64.wrap (L : Int) = (L : Int) := IntWalk.u64_in _ (by omega)
  rw [← hnL] at hL'
  have HL := Lib.hid hL'
  have NL := Lib.hid hnL
  clear hL' hnL
  have hC' := fun W => refNumB_any C (by omega) W
  obtain ⟨nC, hnC⟩ : ∃ n, n = numB C := ⟨_, rfl⟩
  have lC : nC.length ≤ 9 := by rw [hnC]; exact numB_len _ (by omega)
  have wC : IntKind.u64.wrap (C : Int) = (C : Int) := IntWalk.u64_in _ (by omega)
  rw [← hnC] at hC'
  have HC := Lib.hid hC'
  have NC := Lib.hid hnC
  clear hC' hnC
  have hR' := fun W => refNumB_any R (by omega) W
  obtain ⟨nR, hnR⟩ : ∃ n, n = numB R := ⟨_, rfl⟩
  have lR : nR.length ≤ 9 := by rw [hnR]; exact numB_len _ (by omega)
  have wR : IntKind.u64.wrap (R : Int) = (R : Int) := IntWalk.u64_in _ (by omega)
  rw [← hnR] at hR'
  have HR := Lib.hid hR'
  have NR := Lib.hid hnR
  clear hR' hnR
  have hO := fun W => refFlag_any ok W
  obtain ⟨nO, hnO⟩ : ∃ n, n = flagB ok := ⟨_, rfl⟩
  have lO : nO.length ≤ 9 := by rw [hnO]; exact numB_len _ (by split <;> omega)
  rw [← hnO] at hO
  have HO := Lib.hid hO
  have NO := Lib.hid hnO
  clear hO hnO
  have hX := fun W => refFlag_any force W
  obtain ⟨nX, hnX⟩ : ∃ n, n = flagB force := ⟨_, rfl⟩
  have lX : nX.length ≤ 9 := by rw [hnX]; exact numB_len _ (by split <;> omega)
  rw [← hnX] at hX
  have HX := Lib.hid hX
  have NX := Lib.hid hnX
  clear hX hnX
  clear hF hD hT hI hL hC hR
  obtain ⟨W1, hW1⟩ : ∃ W1, W1 = w.alloc (.cells #[.int .i64 8, .int .i64 (F : Int), .int .i64 (D : Int), .int .u64 (T : Int), .int .u64 (I : Int), .int .u64 (L : Int), .int .u64 (C : Int), .int .u64 (R : Int), .bool ok, .bool force, .slice eo el.length ec, .int .u64 si, .int .u64 st, .slice mo ml.length mc, .slice ao d.length ac] 52) := ⟨_, rfl⟩
  have hB1 : Below w.heap.size w W1 := by rw [hW1]; exact below_new _ _
  have k1 : W1.heap[w.heap.size]? = some (.cells #[.int .i64 8, .int .i64 (F : Int), .int .i64 (D : Int), .int .u64 (T : Int), .int .u64 (I : Int), .int .u64 (L : Int), .int .u64 (C : Int), .int .u64 (R : Int), .bool ok, .bool force, .slice eo el.length ec, .int .u64 si, .int .u64 st, .slice mo ml.length mc, .slice ao d.length ac] 52 (0, 0)) := by rw [hW1]; exact heap_alloc_new _ _
  have z1 := (Array.getElem?_eq_some_iff.1 k1).1
  have hcw : ∀ W', Below W1.heap.size W1 W' → (W'.cell? ⟨w.heap.size, 0, none⟩ = some (.int .i64 8) ∧ W'.cell? ⟨w.heap.size, 1, none⟩ = some (.int .i64 (F : Int)) ∧ W'.cell? ⟨w.heap.size, 2, none⟩ = some (.int .i64 (D : Int)) ∧ W'.cell? ⟨w.heap.size, 3, none⟩ = some (.int .u64 (T : Int)) ∧ W'.cell? ⟨w.heap.size, 4, none⟩ = some (.int .u64 (I : Int)) ∧ W'.cell? ⟨w.heap.size, 5, none⟩ = some (.int .u64 (L : Int)) ∧ W'.cell? ⟨w.heap.size, 6, none⟩ = some (.int .u64 (C : Int)) ∧ W'.cell? ⟨w.heap.size, 7, none⟩ = some (.int .u64 (R : Int)) ∧ W'.cell? ⟨w.heap.size, 8, none⟩ = some (.bool ok) ∧ W'.cell? ⟨w.heap.size, 9, none⟩ = some (.bool force) ∧ W'.cell? ⟨w.heap.size, 10, none⟩ = some (.slice eo el.length ec) ∧ W'.cell? ⟨w.heap.size, 11, none⟩ = some (.int .u64 si) ∧ W'.cell? ⟨w.heap.size, 12, none⟩ = some (.int .u64 st) ∧ W'.cell? ⟨w.heap.size, 13, none⟩ = some (.slice mo ml.length mc) ∧ W'.cell? ⟨w.heap.size, 14, none⟩ = some (.slice ao d.length ac)) := fun W' hb => by
    have hk := (hb.block _ (Array.getElem?_eq_some_iff.1 k1).1).trans k1
    exact ⟨block_cell hk 0, block_cell hk 1, block_cell hk 2, block_cell hk 3, block_cell hk 4, block_cell hk 5, block_cell hk 6, block_cell hk 7, block_cell hk 8, block_cell hk 9, block_cell hk 10, block_cell hk 11, block_cell hk 12, block_cell hk 13, block_cell hk 14⟩
  have Hcw := Lib.hid hcw
  obtain ⟨p0, p1, p2, p3, p4, p5, p6, p7, p8, p9, p10, p11, p12, p13, p14⟩ := Hcw.out W1 (Below.refl _ _)
  clear hcw k1
  go_enter Try.func78, Try.ntmps78
  go_upto_region 1 with fail
  rw [← hW1]
  clear hW1
  go_wp2_with fail
  refine (HK.out _).mono ?_
  rintro e W2 ⟨a2, c2, rfl, hown2, hB2⟩
  clear p0 p1 p2 p3 p4 p5 p6 p7 p8 p9 p10 p11 p12 p13 p14
  obtain ⟨p0, p1, p2, p3, p4, p5, p6, p7, p8, p9, p10, p11, p12, p13, p14⟩ := Hcw.out W2 hB2
  have hl2 : Hid (nK = nK) := rfl
  go_wp2_with fail
  refine (HF.out _).mono ?_
  rintro e V3 ⟨ax3, cx3, rfl, how3, hb3⟩
  have hownx3 := own_below hown2 hb3
  have hBx3 := below_on hB2 hb3 (Nat.le_refl _)
  clear hown2 hb3 hB2 p0 p1 p2 p3 p4 p5 p6 p7 p8 p9 p10 p11 p12 p13 p14
  go_wp2_with (at_builtin; refine wpl_append_bs rfl (.tmp 10) (.tmp 14) 22 rfl W1.heap.size 5 infoUB Try.underlying22 _ _ nK rfl hownx3 _ _ nF rfl (Bs.of_own how3) ?_ ?_ ?_; omega; (exact hBx3.size); intro a3 c3 l3 W3 hl3 hown3 hg3; have hB3 := below_app hBx3 hg3 hownx3 (Nat.le_refl _) hBx3.size; obtain ⟨p0, p1, p2, p3, p4, p5, p6, p7, p8, p9, p10, p11, p12, p13, p14⟩ := Hcw.out W3 hB3)
  have hl3n : l3.length ≤ 18 := by rw [hl3.out]; simp; omega
  have hl3' : Hid (l3 = nK ++ nF) := hl3
  clear hl3 hg3 hownx3 hBx3
  go_wp2_with fail
  refine (HD.out _).mono ?_
  rintro e V4 ⟨ax4, cx4, rfl, how4, hb4⟩
  have hownx4 := own_below hown3 hb4
  have hBx4 := below_on hB3 hb4 (Nat.le_refl _)
  clear hown3 hb4 hB3 p0 p1 p2 p3 p4 p5 p6 p7 p8 p9 p10 p11 p12 p13 p14
  go_wp2_with (at_builtin; refine wpl_append_bs rfl (.tmp 16) (.tmp 20) 22 rfl W1.heap.size 5 infoUB Try.underlying22 _ _ l3 rfl hownx4 _ _ nD rfl (Bs.of_own how4) ?_ ?_ ?_; omega; (exact hBx4.size); intro a4 c4 l4 W4 hl4 hown4 hg4; have hB4 := below_app hBx4 hg4 hownx4 (Nat.le_refl _) hBx4.size; obtain ⟨p0, p1, p2, p3, p4, p5, p6, p7, p8, p9, p10, p11, p12, p13, p14⟩ := Hcw.out W4 hB4)
  have hl4n : l4.length ≤ 27 := by rw [hl4.out]; simp; omega
  have hl4' : Hid (l4 = nK ++ nF ++ nD) := by show _ = _; rw [hl4.out, hl3'.out]
  clear hl4 hg4 hownx4 hBx4
  go_wp2_with fail
  refine (HT.out _).mono ?_
  rintro e V5 ⟨ax5, cx5, rfl, how5, hb5⟩
  have hownx5 := own_below hown4 hb5
  have hBx5 := below_on hB4 hb5 (Nat.le_refl _)
  clear hown4 hb5 hB4 p0 p1 p2 p3 p4 p5 p6 p7 p8 p9 p10 p11 p12 p13 p14
  go_wp2_with (at_builtin; refine wpl_append_bs rfl (.tmp 22) (.tmp 25) 22 rfl W1.heap.size 5 infoUB Try.underlying22 _ _ l4 rfl hownx5 _ _ nT rfl (Bs.of_own how5) ?_ ?_ ?_; omega; (exact hBx5.size); intro a5 c5 l5 W5 hl5 hown5 hg5; have hB5 := below_app hBx5 hg5 hownx5 (Nat.le_refl _) hBx5.size; obtain ⟨p0, p1, p2, p3, p4, p5, p6, p7, p8, p9, p10, p11, p12, p13, p14⟩ := Hcw.out W5 hB5)
  have hl5' : Hid (l5 = nK ++ nF ++ nD ++ nT) := by show _ = _; rw [hl5.out, hl4'.out]
  go_ret
  exact ⟨a5, c5, l5, rfl, by show _ = _; rw [hl5'.out, HP.out, NK.out, NF.out, ND.out, NT.out]; simp [bodyB, fieldsB, numsB], Bs.of_own hown5, below_on hB1 hB5 (Nat.le_refl _)⟩
set_option maxRecDepth 100000 in
set_option maxHeartbeats 16000000 in
theorem refBody_7 (F D T I L C R : Nat) (ok force : Bool) (eo mo ao : Option Addr) (ec mc ac : Nat) (el : List Ep) (si st : Int) (ml : List Int) (d : List UInt8) (w : World) (hF : F ≤ 6) (hD : D ≤ 6) (hT : T ≤ 1152921504606846976) (hI : I ≤ 1152921504606846976) (hL : L ≤ 1152921504606846976) (hC : C ≤ 1152921504606846976) (hR : R ≤ 1152921504606846976) (hm : Iz w .i64 mo mc ml) (hd : Bs w ao ac d) (hs : soundSn ⟨si, st, ml, d⟩ = true) :
    Calls Try.prog 78 #[.agg #[.int .i64 7, .int .i64 (F : Int), .int .i64 (D : Int), .int .u64 (T : Int), .int .u64 (I : Int), .int .u64 (L : Int), .int .u64 (C : Int), .int .u64 (R : Int), .bool ok, .bool force, .slice eo el.length ec, .int .u64 si, .int .u64 st, .slice mo ml.length mc, .slice ao d.length ac]] w fun e w' => ∃ a c l, e = .returned (.slice a l.length c) ∧ Hid (l = bodyB ⟨7, (F : Int), (D : Int), (T : Int), (I : Int), (L : Int), (C : Int), (R : Int), ok, force, el.map Ep.e, ⟨si, st, ml, d⟩⟩) ∧ Bs w' a c l ∧ Below w.heap.size w w' := by
  obtain ⟨P, hP⟩ : ∃ P, P = bodyB ⟨7, (F : Int), (D : Int), (T : Int), (I : Int), (L : Int), (C : Int), (R : Int), ok, force, el.map Ep.e, ⟨si, st, ml, d⟩⟩ := ⟨_, rfl⟩
  rw [← hP]
  have HP := Lib.hid hP
  clear hP
  have hK : ∀ W, Calls Try.prog 47 #[.int .u64 7] W fun e W' => ∃ ao cap, e = .returned (.slice ao (numB 7).length cap) ∧ W'.ownsRow W.heap.size 5 1 (.slice ao (numB 7).length cap) (numB 7).length (u8s (numB 7)) ∧ Below W.heap.size W W' := fun W => refNumB_any 7 (by decide) W
  obtain ⟨nK, hnK⟩ : ∃ n, n = numB 7 := ⟨_, rfl⟩
  have lK : nK.length ≤ 9 := by rw [hnK]; exact numB_len _ (by decide)
  rw [← hnK] at hK
  have HK := Lib.hid hK
  have NK := Lib.hid hnK
  clear hK hnK
  have hF' := fun W => refNumB_any F (by omega) W
  obtain ⟨nF, hnF⟩ : ∃ n, n = numB F := ⟨_, rfl⟩
  have lF : nF.length ≤ 9 := by rw [hnF]; exact numB_len _ (by omega)
  have wF : IntKind.u64.wrap (F : Int) = (F : Int) := IntWalk.u64_in _ (by omega)
  rw [← hnF] at hF'
  have HF := Lib.hid hF'
  have NF := Lib.hid hnF
  clear hF' hnF
  have hD' := fun W => refNumB_any D (by omega) W
  obtain ⟨nD, hnD⟩ : ∃ n, n = numB D := ⟨_, rfl⟩
  have lD : nD.length ≤ 9 := by rw [hnD]; exact numB_len _ (by omega)
  have wD : IntKind.u64.wrap (D : Int) = (D : Int) := IntWalk.u64_in _ (by omega)
  rw [← hnD] at hD'
  have HD := Lib.hid hD'
  have ND := Lib.hid hnD
  clear hD' hnD
  have hT' := fun W => refNumB_any T (by omega) W
  obtain ⟨nT, hnT⟩ : ∃ n, n = numB T := ⟨_, rfl⟩
  have lT : nT.length ≤ 9 := by rw [hnT]; exact numB_len _ (by omega)
  have wT : IntKind.u64.wrap (T : Int) = (T : Int) := IntWalk.u64_in _ (by omega)
  rw [← hnT] at hT'
  have HT := Lib.hid hT'
  have NT := Lib.hid hnT
  clear hT' hnT
  have hI' := fun W => refNumB_any I (by omega) W
  obtain ⟨nI, hnI⟩ : ∃ n, n = numB I := ⟨_, rfl⟩
  have lI : nI.length ≤ 9 := by rw [hnI]; exact numB_len _ (by omega)
  have wI : IntKind.u64.wrap (I : Int) = (I : Int) := IntWalk.u64_in _ (by omega)
  rw [← hnI] at hI'
  have HI := Lib.hid hI'
  have NI := Lib.hid hnI
  clear hI' hnI
  have hL' := fun W => refNumB_any L (by omega) W
  obtain ⟨nL, hnL⟩ : ∃ n, n = numB L := ⟨_, rfl⟩
  have lL : nL.length ≤ 9 := by rw [hnL]; exact numB_len _ (by omega)
  have wL : IntKind.u64.wrap (L : Int) = (L : Int) := IntWalk.u64_in _ (by omega)
  rw [← hnL] at hL'
  have HL := Lib.hid hL'
  have NL := Lib.hid hnL
  clear hL' hnL
  have hC' := fun W => refNumB_any C (by omega) W
  obtain ⟨nC, hnC⟩ : ∃ n, n = numB C := ⟨_, rfl⟩
  have lC : nC.length ≤ 9 := by rw [hnC]; exact numB_len _ (by omega)
  have wC : IntKind.u64.wrap (C : Int) = (C : Int) := IntWalk.u64_in _ (by omega)
  rw [← hnC] at hC'
  have HC := Lib.hid hC'
  have NC := Lib.hid hnC
  clear hC' hnC
  have hR' := fun W => refNumB_any R (by omega) W
  obtain ⟨nR, hnR⟩ : ∃ n, n = numB R := ⟨_, rfl⟩
  have lR : nR.length ≤ 9 := by rw [hnR]; exact numB_len _ (by omega)
  have wR : IntKind.u64.wrap (R : Int) = (R : Int) := IntWalk.u64_in _ (by omega)
  rw [← hnR] at hR'
  have HR := Lib.hid hR'
  have NR := Lib.hid hnR
  clear hR' hnR
  have hO := fun W => refFlag_any ok W
  obtain ⟨nO, hnO⟩ : ∃ n, n = flagB ok := ⟨_, rfl⟩
  have lO : nO.length ≤ 9 := by rw [hnO]; exact numB_len _ (by split <;> omega)
  rw [← hnO] at hO
  have HO := Lib.hid hO
  have NO := Lib.hid hnO
  clear hO hnO
  have hX := fun W => refFlag_any force W
  obtain ⟨nX, hnX⟩ : ∃ n, n = flagB force := ⟨_, rfl⟩
  have lX : nX.length ≤ 9 := by rw [hnX]; exact numB_len _ (by split <;> omega)
  rw [← hnX] at hX
  have HX := Lib.hid hX
  have NX := Lib.hid hnX
  clear hX hnX
  clear hF hD hT hI hL hC hR
  obtain ⟨W1, hW1⟩ : ∃ W1, W1 = w.alloc (.cells #[.int .i64 7, .int .i64 (F : Int), .int .i64 (D : Int), .int .u64 (T : Int), .int .u64 (I : Int), .int .u64 (L : Int), .int .u64 (C : Int), .int .u64 (R : Int), .bool ok, .bool force, .slice eo el.length ec, .int .u64 si, .int .u64 st, .slice mo ml.length mc, .slice ao d.length ac] 52) := ⟨_, rfl⟩
  have hB1 : Below w.heap.size w W1 := by rw [hW1]; exact below_new _ _
  have k1 : W1.heap[w.heap.size]? = some (.cells #[.int .i64 7, .int .i64 (F : Int), .int .i64 (D : Int), .int .u64 (T : Int), .int .u64 (I : Int), .int .u64 (L : Int), .int .u64 (C : Int), .int .u64 (R : Int), .bool ok, .bool force, .slice eo el.length ec, .int .u64 si, .int .u64 st, .slice mo ml.length mc, .slice ao d.length ac] 52 (0, 0)) := by rw [hW1]; exact heap_alloc_new _ _
  have z1 := (Array.getElem?_eq_some_iff.1 k1).1
  have hcw : ∀ W', Below W1.heap.size W1 W' → (W'.cell? ⟨w.heap.size, 0, none⟩ = some (.int .i64 7) ∧ W'.cell? ⟨w.heap.size, 1, none⟩ = some (.int .i64 (F : Int)) ∧ W'.cell? ⟨w.heap.size, 2, none⟩ = some (.int .i64 (D : Int)) ∧ W'.cell? ⟨w.heap.size, 3, none⟩ = some (.int .u64 (T : Int)) ∧ W'.cell? ⟨w.heap.size, 4, none⟩ = some (.int .u64 (I : Int)) ∧ W'.cell? ⟨w.heap.size, 5, none⟩ = some (.int .u64 (L : Int)) ∧ W'.cell? ⟨w.heap.size, 6, none⟩ = some (.int .u64 (C : Int)) ∧ W'.cell? ⟨w.heap.size, 7, none⟩ = some (.int .u64 (R : Int)) ∧ W'.cell? ⟨w.heap.size, 8, none⟩ = some (.bool ok) ∧ W'.cell? ⟨w.heap.size, 9, none⟩ = some (.bool force) ∧ W'.cell? ⟨w.heap.size, 10, none⟩ = some (.slice eo el.length ec) ∧ W'.cell? ⟨w.heap.size, 11, none⟩ = some (.int .u64 si) ∧ W'.cell? ⟨w.heap.size, 12, none⟩ = some (.int .u64 st) ∧ W'.cell? ⟨w.heap.size, 13, none⟩ = some (.slice mo ml.length mc) ∧ W'.cell? ⟨w.heap.size, 14, none⟩ = some (.slice ao d.length ac)) := fun W' hb => by
    have hk := (hb.block _ (Array.getElem?_eq_some_iff.1 k1).1).trans k1
    exact ⟨block_cell hk 0, block_cell hk 1, block_cell hk 2, block_cell hk 3, block_cell hk 4, block_cell hk 5, block_cell hk 6, block_cell hk 7, block_cell hk 8, block_cell hk 9, block_cell hk 10, block_cell hk 11, block_cell hk 12, block_cell hk 13, block_cell hk 14⟩
  have Hcw := Lib.hid hcw
  obtain ⟨p0, p1, p2, p3, p4, p5, p6, p7, p8, p9, p10, p11, p12, p13, p14⟩ := Hcw.out W1 (Below.refl _ _)
  clear hcw k1
  go_enter Try.func78, Try.ntmps78
  go_upto_region 1 with fail
  rw [← hW1]
  clear hW1
  go_wp2_with fail
  refine (HK.out _).mono ?_
  rintro e W2 ⟨a2, c2, rfl, hown2, hB2⟩
  clear p0 p1 p2 p3 p4 p5 p6 p7 p8 p9 p10 p11 p12 p13 p14
  obtain ⟨p0, p1, p2, p3, p4, p5, p6, p7, p8, p9, p10, p11, p12, p13, p14⟩ := Hcw.out W2 hB2
  have hl2 : Hid (nK = nK) := rfl
  go_wp2_with fail
  refine (HF.out _).mono ?_
  rintro e V3 ⟨ax3, cx3, rfl, how3, hb3⟩
  have hownx3 := own_below hown2 hb3
  have hBx3 := below_on hB2 hb3 (Nat.le_refl _)
  clear hown2 hb3 hB2 p0 p1 p2 p3 p4 p5 p6 p7 p8 p9 p10 p11 p12 p13 p14
  go_wp2_with (at_builtin; refine wpl_append_bs rfl (.tmp 10) (.tmp 14) 22 rfl W1.heap.size 5 infoUB Try.underlying22 _ _ nK rfl hownx3 _ _ nF rfl (Bs.of_own how3) ?_ ?_ ?_; omega; (exact hBx3.size); intro a3 c3 l3 W3 hl3 hown3 hg3; have hB3 := below_app hBx3 hg3 hownx3 (Nat.le_refl _) hBx3.size; obtain ⟨p0, p1, p2, p3, p4, p5, p6, p7, p8, p9, p10, p11, p12, p13, p14⟩ := Hcw.out W3 hB3)
  have hl3n : l3.length ≤ 18 := by rw [hl3.out]; simp; omega
  have hl3' : Hid (l3 = nK ++ nF) := hl3
  clear hl3 hg3 hownx3 hBx3
  go_wp2_with fail
  refine (HD.out _).mono ?_
  rintro e V4 ⟨ax4, cx4, rfl, how4, hb4⟩
  have hownx4 := own_below hown3 hb4
  have hBx4 := below_on hB3 hb4 (Nat.le_refl _)
  clear hown3 hb4 hB3 p0 p1 p2 p3 p4 p5 p6 p7 p8 p9 p10 p11 p12 p13 p14
  go_wp2_with (at_builtin; refine wpl_append_bs rfl (.tmp 16) (.tmp 20) 22 rfl W1.heap.size 5 infoUB Try.underlying22 _ _ l3 rfl hownx4 _ _ nD rfl (Bs.of_own how4) ?_ ?_ ?_; omega; (exact hBx4.size); intro a4 c4 l4 W4 hl4 hown4 hg4; have hB4 := below_app hBx4 hg4 hownx4 (Nat.le_refl _) hBx4.size; obtain ⟨p0, p1, p2, p3, p4, p5, p6, p7, p8, p9, p10, p11, p12, p13, p14⟩ := Hcw.out W4 hB4)
  have hl4n : l4.length ≤ 27 := by rw [hl4.out]; simp; omega
  have hl4' : Hid (l4 = nK ++ nF ++ nD) := by show _ = _; rw [hl4.out, hl3'.out]
  clear hl4 hg4 hownx4 hBx4
  go_wp2_with fail
  refine (HT.out _).mono ?_
  rintro e V5 ⟨ax5, cx5, rfl, how5, hb5⟩
  have hownx5 := own_below hown4 hb5
  have hBx5 := below_on hB4 hb5 (Nat.le_refl _)
  clear hown4 hb5 hB4 p0 p1 p2 p3 p4 p5 p6 p7 p8 p9 p10 p11 p12 p13 p14
  go_wp2_with (at_builtin; refine wpl_append_bs rfl (.tmp 22) (.tmp 25) 22 rfl W1.heap.size 5 infoUB Try.underlying22 _ _ l4 rfl hownx5 _ _ nT rfl (Bs.of_own how5) ?_ ?_ ?_; omega; (exact hBx5.size); intro a5 c5 l5 W5 hl5 hown5 hg5; have hB5 := below_app hBx5 hg5 hownx5 (Nat.le_refl _) hBx5.size; obtain ⟨p0, p1, p2, p3, p4, p5, p6, p7, p8, p9, p10, p11, p12, p13, p14⟩ := Hcw.out W5 hB5)
  have hl5n : l5.length ≤ 36 := by rw [hl5.out]; simp; omega
  have hl5' : Hid (l5 = nK ++ nF ++ nD ++ nT) := by show _ = _; rw [hl5.out, hl4'.out]
  clear hl5 hg5 hownx5 hBx5
  go_wp2_with fail
  refine (HR.out _).mono ?_
  rintro e V6 ⟨ax6, cx6, rfl, how6, hb6⟩
  have hownx6 := own_below hown5 hb6
  have hBx6 := below_on hB5 hb6 (Nat.le_refl _)
  clear hown5 hb6 hB5 p0 p1 p2 p3 p4 p5 p6 p7 p8 p9 p10 p11 p12 p13 p14
  go_wp2_with (at_builtin; refine wpl_append_bs rfl (.tmp 134) (.tmp 137) 22 rfl W1.heap.size 5 infoUB Try.underlying22 _ _ l5 rfl hownx6 _ _ nR rfl (Bs.of_own how6) ?_ ?_ ?_; omega; (exact hBx6.size); intro a6 c6 l6 W6 hl6 hown6 hg6; have hB6 := below_app hBx6 hg6 hownx6 (Nat.le_refl _) hBx6.size; obtain ⟨p0, p1, p2, p3, p4, p5, p6, p7, p8, p9, p10, p11, p12, p13, p14⟩ := Hcw.out W6 hB6)
  have hl6n : l6.length ≤ 45 := by rw [hl6.out]; simp; omega
  have hl6' : Hid (l6 = nK ++ nF ++ nD ++ nT ++ nR) := by show _ = _; rw [hl6.out, hl5'.out]
  clear hl6 hg6 hownx6 hBx6
  have Hsb := Lib.hid (refSnapBytes_any si st mo ao mc ac ml d W6 ((hm.below hB1).below hB6) ((hd.below hB1).below hB6) hs)
  have hsl := snBody_len _ hs
  have hsl2 : (snB ⟨si, st, ml, d⟩).length ≤ 33008 := by unfold snB; rw [Fr.wrapped_length]; omega
  obtain ⟨S, hS⟩ : ∃ S, S = snB ⟨si, st, ml, d⟩ := ⟨_, rfl⟩
  rw [← hS] at Hsb hsl2
  have HSn := Lib.hid hS
  clear hs hS hsl hm hd
  go_wp2_with fail
  refine Hsb.out.mono ?_
  rintro e X7 ⟨a7, c7, rfl, hfr7⟩
  have hownS := own_below hown6 hfr7.bel
  have hBS := below_on hB6 hfr7.bel (Nat.le_refl _)
  have hcv := conv_any (Bs.of_own hfr7.own)
  have HTx := Lib.hid (refTextB_any S (by omega))
  have lS := numB_len S.length (by omega)
  clear p0 p1 p2 p3 p4 p5 p6 p7 p8 p9 p10 p11 p12 p13 p14 Hsb
  clear hown6 hB6
  have hown6 := hownS
  have hB6 := hBS
  clear hownS hBS
  go_wp2_with fail
  clear hcv
  refine (HTx.out _).mono ?_
  rintro e V7 ⟨ax7, cx7, lx7, rfl, hx7, how7, hb7⟩
  have Hx7 := Lib.hid hx7
  have lx7n : lx7.length ≤ 33017 := by rw [hx7]; simp; omega
  clear hx7
  have hownx7 := own_below hown6 hb7
  have hBx7 := below_on hB6 hb7 (Nat.le_refl _)
  clear hown6 hb7 hB6
  go_wp2_with (at_builtin; refine wpl_append_bs rfl (.tmp 139) (.tmp 144) 22 rfl W1.heap.size 5 infoUB Try.underlying22 _ _ l6 rfl hownx7 _ _ lx7 rfl (Bs.of_own how7) ?_ ?_ ?_; omega; (exact hBx7.size); intro a7 c7 l7 W7 hl7 hown7 hg7; have hB7 := below_app hBx7 hg7 hownx7 (Nat.le_refl _) hBx7.size; obtain ⟨p0, p1, p2, p3, p4, p5, p6, p7, p8, p9, p10, p11, p12, p13, p14⟩ := Hcw.out W7 hB7)
  have hl7' : Hid (l7 = nK ++ nF ++ nD ++ nT ++ nR ++ lx7) := by show _ = _; rw [hl7.out, hl6'.out]
  go_ret
  exact ⟨a7, c7, l7, rfl, by show _ = _; rw [hl7'.out, HP.out, NK.out, NF.out, ND.out, NT.out, NR.out, Hx7.out, HSn.out]; simp [bodyB, fieldsB, numsB, HSn.out], Bs.of_own hown7, below_on hB1 hB7 (Nat.le_refl _)⟩
end Go.Proofs.Ytlphpjgiaflfkaa
