/- Lemmas for WireReads (Nm2). No statement of the seat is proved here. -/
import Derived.Test.YtlphpjgiaflfkaaWv37
namespace Go.Proofs.Ytlphpjgiaflfkaa
set_option linter.unusedVariables false
set_option linter.unusedSimpArgs false
set_option linter.unusedSectionVars false
open Go Go.RowKit Go.Shelf
theorem box_kept {w w' : World} {b base n : Nat} {cs : Array Value} {T : TypeId} {v : Value} {xs : List Value} (hk : w.heap[b]? = some (.cells cs T (0, 0))) (ho : w.ownsRow base 5 1 v n xs) (hg : w.grownBy w' v.ownBlock) (hT : T ≠ 5) : w'.heap[b]? = some (.cells cs T (0, 0)) :=
  (hg.block b (Array.getElem?_eq_some_iff.1 hk).1 (fun e => by
    have := own_elemE ho b e.symm
    rw [elem?_of hk] at this
    exact hT (by simpa using this))).trans hk
set_option maxRecDepth 100000 in
set_option maxHeartbeats 16000000 in
theorem refBody_5 (F D T I L C R : Nat) (ok force : Bool) (eo mo ao : Option Addr) (ec mc ac : Nat) (el : List Ep) (si st : Int) (ml : List Int) (d : List UInt8) (w : World) (hF : F ≤ 6) (hD : D ≤ 6) (hT : T ≤ 1152921504606846976) (hI : I ≤ 1152921504606846976) (hL : L ≤ 1152921504606846976) (hC : C ≤ 1152921504606846976) (hR : R ≤ 1152921504606846976) (hens : Ens w eo ec el) (hel : el.length ≤ 8) (hse : ∀ e ∈ el.map Ep.e, soundE e = true) :
    Calls Try.prog 78 #[.agg #[.int .i64 5, .int .i64 (F : Int), .int .i64 (D : Int), .int .u64 (T : Int), .int .u64 (I : Int), .int .u64 (L : Int), .int .u64 (C : Int), .int .u64 (R : Int), .bool ok, .bool force, .slice eo el.length ec, .int .u64 si, .int .u64 st, .slice mo ml.length mc, .slice ao d.length ac]] w fun e w' => ∃ a c l, e = .returned (.slice a l.length c) ∧ Hid (l = bodyB ⟨5, (F : Int), (D : Int), (T : Int), (I : Int), (L : Int), (C : Int), (R : Int), ok, force, el.map Ep.e, ⟨si, st, ml, d⟩⟩) ∧ Bs w' a c l ∧ Below w.heap.size w w' := by
  obtain ⟨P, hP⟩ : ∃ P, P = bodyB ⟨5, (F : Int), (D : Int), (T : Int), (I : Int), (L : Int), (C : Int), (R : Int), ok, force, el.map Ep.e, ⟨si, st, ml, d⟩⟩ := ⟨_, rfl⟩
  rw [← hP]
  have HP := Lib.hid hP
  clear hP
  have hK : ∀ W, Calls Try.prog 47 #[.int .u64 5] W fun e W' => ∃ ao cap, e = .returned (.slice ao (numB 5).length cap) ∧ W'.ownsRow W.heap.size 5 1 (.slice ao (numB 5).length cap) (numB 5).length (u8s (numB 5)) ∧ Below W.heap.size W W' := fun W => refNumB_any 5 (by decide) W
  obtain ⟨nK, hnK⟩ : ∃ n, n = numB 5 := ⟨_, rfl⟩
  have lK : nK.length ≤ 9 := by rw [hnK]; exact numB_len _ (by decide)
  rw [← hnK] at hK
  have HK := Lib.hid hK
  have NK := Lib.hid hnK
  clear hK hnK
  have hF' := fun W => refNumB_any F (by omega) W
  obtain ⟨nF, hnF⟩ : ∃ n, n = numB F := ⟨_, rfl⟩
  have lF : nF.length ≤ 9 := by rw [hnF]; exact numB_len _ (by omega)
  have wF : IntKind.u64.wrap (F : Int) = (F : Int) := IntWalk.u64_in _ (by omega)
  rw [← hnF] at hF'
  have HF := Lib.hid hF'
  have NF := Lib.hid hnF
  clear hF' hnF
  have hD' := fun W => refNumB_any D (by omega) W
  obtain ⟨nD, hnD⟩ : ∃ n, n = numB D := ⟨_, rfl⟩
  have lD : nD.length ≤ 9 := by rw [hnD]; exact numB_len _ (by omega)
  have wD : IntKind.u64.wrap (D : Int) = (D : Int) := IntWalk.u64_in _ (by omega)
  rw [← hnD] at hD'
  have HD := Lib.hid hD'
  have ND := Lib.hid hnD
  clear hD' hnD
  have hT' := fun W => refNumB_any T (by omega) W
  obtain ⟨nT, hnT⟩ : ∃ n, n = numB T := ⟨_, rfl⟩
  have lT : nT.length ≤ 9 := by rw [hnT]; exact numB_len _ (by omega)
  have wT : IntKind.u64.wrap (T : Int) = (T : Int) := IntWalk.u64_in _ (by omega)
  rw [← hnT] at hT'
  have HT := Lib.hid hT'
  have NT := Lib.hid hnT
  clear hT' hnT
  have hI' := fun W => refNumB_any I (by omega) W
  obtain ⟨nI, hnI⟩ : ∃ n, n = numB I := ⟨_, rfl⟩
  have lI : nI.length ≤ 9 := by rw [hnI]; exact numB_len _ (by omega)
  have wI : IntKind.u64.wrap (I : Int) = (I : Int) := IntWalk.u64_in _ (by omega)
  rw [← hnI] at hI'
  have HI := Lib.hid hI'
  have NI := Lib.hid hnI
  clear hI' hnI
  have hL' := fun W => refNumB_any L (by omega) W
  obtain ⟨nL, hnL⟩ : ∃ n, n = numB L := ⟨_, rfl⟩
  have lL : nL.length ≤ 9 := by rw [hnL]; exact numB_len _ (by omega)
  have wL : IntKind.u64.wrap (L : Int) = (L : Int) := IntWalk.u64_in _ (by omega)
  rw [← hnL] at hL'
  have HL := Lib.hid hL'
  have NL := Lib.hid hnL
  clear hL' hnL
  have hC' := fun W => refNumB_any C (by omega) W
  obtain ⟨nC, hnC⟩ : ∃ n, n = numB C := ⟨_, rfl⟩
  have lC : nC.length ≤ 9 := by rw [hnC]; exact numB_len _ (by omega)
  have wC : IntKind.u64.wrap (C : Int) = (C : Int) := IntWalk.u64_in _ (by omega)
  rw [← hnC] at hC'
  have HC := Lib.hid hC'
  have NC := Lib.hid hnC
  clear hC' hnC
  have hR' := fun W => refNumB_any R (by omega) W
  obtain ⟨nR, hnR⟩ : ∃ n, n = numB R := ⟨_, rfl⟩
  have lR : nR.length ≤ 9 := by rw [hnR]; exact numB_len _ (by omega)
  have wR : IntKind.u64.wrap (R : Int) = (R : Int) := IntWalk.u64_in _ (by omega)
  rw [← hnR] at hR'
  have HR := Lib.hid hR'
  have NR := Lib.hid hnR
  clear hR' hnR
  have hO := fun W => refFlag_any ok W
  obtain ⟨nO, hnO⟩ : ∃ n, n = flagB ok := ⟨_, rfl⟩
  have lO : nO.length ≤ 9 := by rw [hnO]; exact numB_len _ (by split <;> omega)
  rw [← hnO] at hO
  have HO := Lib.hid hO
  have NO := Lib.hid hnO
  clear hO hnO
  have hX := fun W => refFlag_any force W
  obtain ⟨nX, hnX⟩ : ∃ n, n = flagB force := ⟨_, rfl⟩
  have lX : nX.length ≤ 9 := by rw [hnX]; exact numB_len _ (by split <;> omega)
  rw [← hnX] at hX
  have HX := Lib.hid hX
  have NX := Lib.hid hnX
  clear hX hnX
  have hN := fun W => refNumB_any el.length (by omega) W
  obtain ⟨nN, hnN⟩ : ∃ n, n = numB el.length := ⟨_, rfl⟩
  have lN : nN.length ≤ 9 := by rw [hnN]; exact numB_len _ (by omega)
  have wN : IntKind.u64.wrap (el.length : Int) = (el.length : Int) := IntWalk.u64_in _ (by omega)
  rw [← hnN] at hN
  have HN := Lib.hid hN
  have NN := Lib.hid hnN
  clear hN hnN
  have HE := Lib.hid hse
  clear hse
  clear hF hD hT hI hL hC hR
  obtain ⟨W1, hW1⟩ : ∃ W1, W1 = w.alloc (.cells #[.int .i64 5, .int .i64 (F : Int), .int .i64 (D : Int), .int .u64 (T : Int), .int .u64 (I : Int), .int .u64 (L : Int), .int .u64 (C : Int), .int .u64 (R : Int), .bool ok, .bool force, .slice eo el.length ec, .int .u64 si, .int .u64 st, .slice mo ml.length mc, .slice ao d.length ac] 52) := ⟨_, rfl⟩
  have hB1 : Below w.heap.size w W1 := by rw [hW1]; exact below_new _ _
  have k1 : W1.heap[w.heap.size]? = some (.cells #[.int .i64 5, .int .i64 (F : Int), .int .i64 (D : Int), .int .u64 (T : Int), .int .u64 (I : Int), .int .u64 (L : Int), .int .u64 (C : Int), .int .u64 (R : Int), .bool ok, .bool force, .slice eo el.length ec, .int .u64 si, .int .u64 st, .slice mo ml.length mc, .slice ao d.length ac] 52 (0, 0)) := by rw [hW1]; exact heap_alloc_new _ _
  have z1 := (Array.getElem?_eq_some_iff.1 k1).1
  have hcw : ∀ W', Below W1.heap.size W1 W' → (W'.cell? ⟨w.heap.size, 0, none⟩ = some (.int .i64 5) ∧ W'.cell? ⟨w.heap.size, 1, none⟩ = some (.int .i64 (F : Int)) ∧ W'.cell? ⟨w.heap.size, 2, none⟩ = some (.int .i64 (D : Int)) ∧ W'.cell? ⟨w.heap.size, 3, none⟩ = some (.int .u64 (T : Int)) ∧ W'.cell? ⟨w.heap.size, 4, none⟩ = some (.int .u64 (I : Int)) ∧ W'.cell? ⟨w.heap.size, 5, none⟩ = some (.int .u64 (L : Int)) ∧ W'.cell? ⟨w.heap.size, 6, none⟩ = some (.int .u64 (C : Int)) ∧ W'.cell? ⟨w.heap.size, 7, none⟩ = some (.int .u64 (R : Int)) ∧ W'.cell? ⟨w.heap.size, 8, none⟩ = some (.bool ok) ∧ W'.cell? ⟨w.heap.size, 9, none⟩ = some (.bool force) ∧ W'.cell? ⟨w.heap.size, 10, none⟩ = some (.slice eo el.length ec) ∧ W'.cell? ⟨w.heap.size, 11, none⟩ = some (.int .u64 si) ∧ W'.cell? ⟨w.heap.size, 12, none⟩ = some (.int .u64 st) ∧ W'.cell? ⟨w.heap.size, 13, none⟩ = some (.slice mo ml.length mc) ∧ W'.cell? ⟨w.heap.size, 14, none⟩ = some (.slice ao d.length ac)) := fun W' hb => by
    have hk := (hb.block _ (Array.getElem?_eq_some_iff.1 k1).1).trans k1
    exact ⟨block_cell hk 0, block_cell hk 1, block_cell hk 2, block_cell hk 3, block_cell hk 4, block_cell hk 5, block_cell hk 6, block_cell hk 7, block_cell hk 8, block_cell hk 9, block_cell hk 10, block_cell hk 11, block_cell hk 12, block_cell hk 13, block_cell hk 14⟩
  have Hcw := Lib.hid hcw
  obtain ⟨p0, p1, p2, p3, p4, p5, p6, p7, p8, p9, p10, p11, p12, p13, p14⟩ := Hcw.out W1 (Below.refl _ _)
  clear hcw k1
  go_enter Try.func78, Try.ntmps78
  go_upto_region 1 with fail
  rw [← hW1]
  clear hW1
  go_wp2_with fail
  refine (HK.out _).mono ?_
  rintro e W2 ⟨a2, c2, rfl, hown2, hB2⟩
  clear p0 p1 p2 p3 p4 p5 p6 p7 p8 p9 p10 p11 p12 p13 p14
  obtain ⟨p0, p1, p2, p3, p4, p5, p6, p7, p8, p9, p10, p11, p12, p13, p14⟩ := Hcw.out W2 hB2
  have hl2 : Hid (nK = nK) := rfl
  go_wp2_with fail
  refine (HF.out _).mono ?_
  rintro e V3 ⟨ax3, cx3, rfl, how3, hb3⟩
  have hownx3 := own_below hown2 hb3
  have hBx3 := below_on hB2 hb3 (Nat.le_refl _)
  clear hown2 hb3 hB2 p0 p1 p2 p3 p4 p5 p6 p7 p8 p9 p10 p11 p12 p13 p14
  go_wp2_with (at_builtin; refine wpl_append_bs rfl (.tmp 10) (.tmp 14) 22 rfl W1.heap.size 5 infoUB Try.underlying22 _ _ nK rfl hownx3 _ _ nF rfl (Bs.of_own how3) ?_ ?_ ?_; omega; (exact hBx3.size); intro a3 c3 l3 W3 hl3 hown3 hg3; have hB3 := below_app hBx3 hg3 hownx3 (Nat.le_refl _) hBx3.size; obtain ⟨p0, p1, p2, p3, p4, p5, p6, p7, p8, p9, p10, p11, p12, p13, p14⟩ := Hcw.out W3 hB3)
  have hl3n : l3.length ≤ 18 := by rw [hl3.out]; simp; omega
  have hl3' : Hid (l3 = nK ++ nF) := hl3
  clear hl3 hg3 hownx3 hBx3
  go_wp2_with fail
  refine (HD.out _).mono ?_
  rintro e V4 ⟨ax4, cx4, rfl, how4, hb4⟩
  have hownx4 := own_below hown3 hb4
  have hBx4 := below_on hB3 hb4 (Nat.le_refl _)
  clear hown3 hb4 hB3 p0 p1 p2 p3 p4 p5 p6 p7 p8 p9 p10 p11 p12 p13 p14
  go_wp2_with (at_builtin; refine wpl_append_bs rfl (.tmp 16) (.tmp 20) 22 rfl W1.heap.size 5 infoUB Try.underlying22 _ _ l3 rfl hownx4 _ _ nD rfl (Bs.of_own how4) ?_ ?_ ?_; omega; (exact hBx4.size); intro a4 c4 l4 W4 hl4 hown4 hg4; have hB4 := below_app hBx4 hg4 hownx4 (Nat.le_refl _) hBx4.size; obtain ⟨p0, p1, p2, p3, p4, p5, p6, p7, p8, p9, p10, p11, p12, p13, p14⟩ := Hcw.out W4 hB4)
  have hl4n : l4.length ≤ 27 := by rw [hl4.out]; simp; omega
  have hl4' : Hid (l4 = nK ++ nF ++ nD) := by show _ = _; rw [hl4.out, hl3'.out]
  clear hl4 hg4 hownx4 hBx4
  go_wp2_with fail
  refine (HT.out _).mono ?_
  rintro e V5 ⟨ax5, cx5, rfl, how5, hb5⟩
  have hownx5 := own_below hown4 hb5
  have hBx5 := below_on hB4 hb5 (Nat.le_refl _)
  clear hown4 hb5 hB4 p0 p1 p2 p3 p4 p5 p6 p7 p8 p9 p10 p11 p12 p13 p14
  go_wp2_with (at_builtin; refine wpl_append_bs rfl (.tmp 22) (.tmp 25) 22 rfl W1.heap.size 5 infoUB Try.underlying22 _ _ l4 rfl hownx5 _ _ nT rfl (Bs.of_own how5) ?_ ?_ ?_; omega; (exact hBx5.size); intro a5 c5 l5 W5 hl5 hown5 hg5; have hB5 := below_app hBx5 hg5 hownx5 (Nat.le_refl _) hBx5.size; obtain ⟨p0, p1, p2, p3, p4, p5, p6, p7, p8, p9, p10, p11, p12, p13, p14⟩ := Hcw.out W5 hB5)
  have hl5n : l5.length ≤ 36 := by rw [hl5.out]; simp; omega
  have hl5' : Hid (l5 = nK ++ nF ++ nD ++ nT) := by show _ = _; rw [hl5.out, hl4'.out]
  clear hl5 hg5 hownx5 hBx5
  go_wp2_with fail
  refine (HI.out _).mono ?_
  rintro e V6 ⟨ax6, cx6, rfl, how6, hb6⟩
  have hownx6 := own_below hown5 hb6
  have hBx6 := below_on hB5 hb6 (Nat.le_refl _)
  clear hown5 hb6 hB5 p0 p1 p2 p3 p4 p5 p6 p7 p8 p9 p10 p11 p12 p13 p14
  go_wp2_with (at_builtin; refine wpl_append_bs rfl (.tmp 40) (.tmp 43) 22 rfl W1.heap.size 5 infoUB Try.underlying22 _ _ l5 rfl hownx6 _ _ nI rfl (Bs.of_own how6) ?_ ?_ ?_; omega; (exact hBx6.size); intro a6 c6 l6 W6 hl6 hown6 hg6; have hB6 := below_app hBx6 hg6 hownx6 (Nat.le_refl _) hBx6.size; obtain ⟨p0, p1, p2, p3, p4, p5, p6, p7, p8, p9, p10, p11, p12, p13, p14⟩ := Hcw.out W6 hB6)
  have hl6n : l6.length ≤ 45 := by rw [hl6.out]; simp; omega
  have hl6' : Hid (l6 = nK ++ nF ++ nD ++ nT ++ nI) := by show _ = _; rw [hl6.out, hl5'.out]
  clear hl6 hg6 hownx6 hBx6
  go_wp2_with fail
  refine (HL.out _).mono ?_
  rintro e V7 ⟨ax7, cx7, rfl, how7, hb7⟩
  have hownx7 := own_below hown6 hb7
  have hBx7 := below_on hB6 hb7 (Nat.le_refl _)
  clear hown6 hb7 hB6 p0 p1 p2 p3 p4 p5 p6 p7 p8 p9 p10 p11 p12 p13 p14
  go_wp2_with (at_builtin; refine wpl_append_bs rfl (.tmp 45) (.tmp 48) 22 rfl W1.heap.size 5 infoUB Try.underlying22 _ _ l6 rfl hownx7 _ _ nL rfl (Bs.of_own how7) ?_ ?_ ?_; omega; (exact hBx7.size); intro a7 c7 l7 W7 hl7 hown7 hg7; have hB7 := below_app hBx7 hg7 hownx7 (Nat.le_refl _) hBx7.size; obtain ⟨p0, p1, p2, p3, p4, p5, p6, p7, p8, p9, p10, p11, p12, p13, p14⟩ := Hcw.out W7 hB7)
  have hl7n : l7.length ≤ 54 := by rw [hl7.out]; simp; omega
  have hl7' : Hid (l7 = nK ++ nF ++ nD ++ nT ++ nI ++ nL) := by show _ = _; rw [hl7.out, hl6'.out]
  clear hl7 hg7 hownx7 hBx7
  go_wp2_with fail
  refine (HC.out _).mono ?_
  rintro e V8 ⟨ax8, cx8, rfl, how8, hb8⟩
  have hownx8 := own_below hown7 hb8
  have hBx8 := below_on hB7 hb8 (Nat.le_refl _)
  clear hown7 hb8 hB7 p0 p1 p2 p3 p4 p5 p6 p7 p8 p9 p10 p11 p12 p13 p14
  go_wp2_with (at_builtin; refine wpl_append_bs rfl (.tmp 69) (.tmp 72) 22 rfl W1.heap.size 5 infoUB Try.underlying22 _ _ l7 rfl hownx8 _ _ nC rfl (Bs.of_own how8) ?_ ?_ ?_; omega; (exact hBx8.size); intro a8 c8 l8 W8 hl8 hown8 hg8; have hB8 := below_app hBx8 hg8 hownx8 (Nat.le_refl _) hBx8.size; obtain ⟨p0, p1, p2, p3, p4, p5, p6, p7, p8, p9, p10, p11, p12, p13, p14⟩ := Hcw.out W8 hB8)
  have hl8n : l8.length ≤ 63 := by rw [hl8.out]; simp; omega
  have hl8' : Hid (l8 = nK ++ nF ++ nD ++ nT ++ nI ++ nL ++ nC) := by show _ = _; rw [hl8.out, hl7'.out]
  clear hl8 hg8 hownx8 hBx8
  go_wp2_with fail
  refine (HR.out _).mono ?_
  rintro e V9 ⟨ax9, cx9, rfl, how9, hb9⟩
  have hownx9 := own_below hown8 hb9
  have hBx9 := below_on hB8 hb9 (Nat.le_refl _)
  clear hown8 hb9 hB8 p0 p1 p2 p3 p4 p5 p6 p7 p8 p9 p10 p11 p12 p13 p14
  go_wp2_with (at_builtin; refine wpl_append_bs rfl (.tmp 74) (.tmp 77) 22 rfl W1.heap.size 5 infoUB Try.underlying22 _ _ l8 rfl hownx9 _ _ nR rfl (Bs.of_own how9) ?_ ?_ ?_; omega; (exact hBx9.size); intro a9 c9 l9 W9 hl9 hown9 hg9; have hB9 := below_app hBx9 hg9 hownx9 (Nat.le_refl _) hBx9.size; obtain ⟨p0, p1, p2, p3, p4, p5, p6, p7, p8, p9, p10, p11, p12, p13, p14⟩ := Hcw.out W9 hB9)
  have hl9n : l9.length ≤ 72 := by rw [hl9.out]; simp; omega
  have hl9' : Hid (l9 = nK ++ nF ++ nD ++ nT ++ nI ++ nL ++ nC ++ nR) := by show _ = _; rw [hl9.out, hl8'.out]
  clear hl9 hg9 hownx9 hBx9
  go_wp2_with fail
  refine (HN.out _).mono ?_
  rintro e V10 ⟨ax10, cx10, rfl, how10, hb10⟩
  have hownx10 := own_below hown9 hb10
  have hBx10 := below_on hB9 hb10 (Nat.le_refl _)
  clear hown9 hb10 hB9 p0 p1 p2 p3 p4 p5 p6 p7 p8 p9 p10 p11 p12 p13 p14
  go_wp2_with (at_builtin; refine wpl_append_bs rfl (.tmp 79) (.tmp 84) 22 rfl W1.heap.size 5 infoUB Try.underlying22 _ _ l9 rfl hownx10 _ _ nN rfl (Bs.of_own how10) ?_ ?_ ?_; omega; (exact hBx10.size); intro a10 c10 l10 W10 hl10 hown10 hg10; have hB10 := below_app hBx10 hg10 hownx10 (Nat.le_refl _) hBx10.size; obtain ⟨p0, p1, p2, p3, p4, p5, p6, p7, p8, p9, p10, p11, p12, p13, p14⟩ := Hcw.out W10 hB10)
  have hl10n : l10.length ≤ 81 := by rw [hl10.out]; simp; omega
  have hl10' : Hid (l10 = nK ++ nF ++ nD ++ nT ++ nI ++ nL ++ nC ++ nR ++ nN) := by show _ = _; rw [hl10.out, hl9'.out]
  clear hl10 hg10 hownx10 hBx10
  obtain ⟨A, hA⟩ : ∃ A, A = nK ++ nF ++ nD ++ nT ++ nI ++ nL ++ nC ++ nR ++ nN := ⟨_, rfl⟩
  have hlA : Hid (l10 = A) := by show _ = _; rw [hl10'.out, hA]
  have HA := Lib.hid hA
  clear hA hl10'
  clear p0 p1 p2 p3 p4 p5 p6 p7 p8 p9 p10 p11 p12 p13 p14
  go_loopw [3, 4] (fun b u wr => ∃ (k : Nat) (a' : Option Addr) (c' : Nat) (l' : List UInt8), u = .int .i64 (k : Nat) ∧ b = .slice a' l'.length c' ∧ k ≤ el.length ∧ Hid (l' = A ++ entsB ((el.take k).map Ep.e)) ∧ l'.length ≤ 81 + 5000 * k ∧ wr.ownsRow W1.heap.size 5 1 (.slice a' l'.length c') l'.length (u8s l') ∧ Below W1.heap.size W1 wr) (fun _ u _ => el.length - (intOf u).toNat)
  case atStart => exact ⟨0, a10, c10, l10, rfl, rfl, by omega, by show _ = _; rw [hlA.out]; simp [entsB], by omega, hown10, hB10⟩
  case round =>
    obtain ⟨k, a', c', l', rfl, rfl, hk, hl', hl'n, hown, hB⟩ := hrel
    obtain ⟨p0, p1, p2, p3, p4, p5, p6, p7, p8, p9, p10, p11, p12, p13, p14⟩ := Hcw.out wr hB
    by_cases hlt : k < el.length
    · have hst := entsB_take el k hlt
      have hse := HE.out el[k].e (List.mem_map.2 ⟨el[k], List.getElem_mem hlt, rfl⟩)
      have hensr := (hens.below hB1).below hB
      obtain ⟨b1, o1, rfl, c0, c1, c2⟩ := hensr.get k hlt
      have hd0 := (hens.below hB1).data _ (List.getElem_mem hlt)
      obtain ⟨y, hy⟩ : ∃ y, y = el[k] := ⟨_, rfl⟩
      rw [← hy] at c0 c1 c2 hd0 hse hst
      clear hy
      obtain ⟨⟨x1, x2, xd⟩, xa, xc⟩ := y
      simp only at c0 c1 c2 hd0 hse hst
      obtain ⟨s1, s2, s3, s4, s5⟩ := soundE_iff.1 hse
      simp only at s1 s2 s3 s4 s5
      clear hse
      obtain ⟨z1, rfl⟩ : ∃ z : Nat, x1 = (z : Int) := ⟨x1.toNat, by omega⟩
      obtain ⟨z2, rfl⟩ : ∃ z : Nat, x2 = (z : Int) := ⟨x2.toNat, by omega⟩
      have hst2 : entE ⟨(z1 : Int), (z2 : Int), xd⟩ = numB z1 ++ numB z2 ++ (numB xd.length ++ xd) := by simp [entE, numsB]
      rw [hst2] at hst
      clear hst2
      have hz1 := fun W => refNumB_any z1 (by omega) W
      have hz2 := fun W => refNumB_any z2 (by omega) W
      have Hxd := Lib.hid (refTextB_any xd (by omega))
      have l1 := numB_len z1 (by omega)
      have l2 := numB_len z2 (by omega)
      have l3 := numB_len xd.length (by omega)
      obtain ⟨m1, hm1⟩ : ∃ m, m = numB z1 := ⟨_, rfl⟩
      obtain ⟨m2, hm2⟩ : ∃ m, m = numB z2 := ⟨_, rfl⟩
      rw [← hm1, ← hm2] at hst
      rw [← hm1] at hz1 l1
      rw [← hm2] at hz2 l2
      have Hz1 := Lib.hid hz1
      have Hz2 := Lib.hid hz2
      have Hst := Lib.hid hst
      have wx : IntKind.u64.wrap (z2 : Int) = (z2 : Int) := IntWalk.u64_in _ (by omega)
      have i0 : (0 : Int) ≤ (k : Int) := by omega
      have i1 : (k : Int) < (el.length : Int) := by omega
      have hxd : xd.length ≤ 4096 := by omega
      clear hz1 hz2 hst hm1 hm2 s1 s2 s3 s4 s5
      have hba := below_new wr (.cells #[.int .u64 (z1 : Int), .int .i64 (z2 : Int), .slice xa xd.length xc] 38)
      have kk : (wr.alloc (.cells #[.int .u64 (z1 : Int), .int .i64 (z2 : Int), .slice xa xd.length xc] 38)).heap[wr.heap.size]? = some (.cells #[.int .u64 (z1 : Int), .int .i64 (z2 : Int), .slice xa xd.length xc] 38 (0, 0)) := heap_alloc_new _ _
      obtain ⟨X1, hX1⟩ : ∃ X1, X1 = wr.alloc (.cells #[.int .u64 (z1 : Int), .int .i64 (z2 : Int), .slice xa xd.length xc] 38) := ⟨_, rfl⟩
      have eX : X1.heap.size = wr.heap.size + 1 := by rw [hX1]; exact World.size_alloc _ _
      rw [← hX1] at hba kk
      have Hyc := Lib.hid (fun (W : World) (hk : W.heap[wr.heap.size]? = some (.cells #[.int .u64 (z1 : Int), .int .i64 (z2 : Int), .slice xa xd.length xc] 38 (0, 0))) => (⟨block_cell hk 0, block_cell hk 1, block_cell hk 2⟩ : W.cell? ⟨wr.heap.size, 0, none⟩ = some (.int .u64 (z1 : Int)) ∧ W.cell? ⟨wr.heap.size, 1, none⟩ = some (.int .i64 (z2 : Int)) ∧ W.cell? ⟨wr.heap.size, 2, none⟩ = some (.slice xa xd.length xc)))
      obtain ⟨y0, y1, y2⟩ := Hyc.out X1 kk
      have hBX := below_on hB hba (Nat.le_refl _)
      have hownX := own_below hown hba
      go_upto_region 22 with fail
      rw [← hX1]
      clear hX1 c0 c1 c2 hba eX
      clear p0 p1 p2 p3 p4 p5 p6 p7 p8 p9 p10 p11 p12 p13 p14
      go_wp2_with fail
      refine (Hz1.out _).mono ?_
      rintro e Y2 ⟨ay2, cy2, rfl, hw2, hq2⟩
      have ho2 := own_below hownX hq2
      have hBY2 := below_on hBX hq2 (Nat.le_refl _)
      have kk2 := (hq2.block _ (Array.getElem?_eq_some_iff.1 kk).1).trans kk
      clear y0 y1 y2 hownX hBX hq2
      go_wp2_with (at_builtin; refine wpl_append_bs rfl (.tmp 98) (.tmp 101) 22 rfl W1.heap.size 5 infoUB Try.underlying22 _ _ l' rfl ho2 _ _ m1 rfl (Bs.of_own hw2) ?_ ?_ ?_; omega; (exact hBY2.size); intro a3 c3 t3 X3 ht3 hown3 hg3; have hBX3 := below_app hBY2 hg3 ho2 (Nat.le_refl _) hBY2.size; have kk3 := box_kept kk2 ho2 hg3 (by decide); obtain ⟨y0, y1, y2⟩ := Hyc.out _ kk3)
      refine (Hz2.out _).mono ?_
      rintro e Y4 ⟨ay4, cy4, rfl, hw4, hq4⟩
      have ho4 := own_below hown3 hq4
      have hBY4 := below_on hBX3 hq4 (Nat.le_refl _)
      have kk4 := (hq4.block _ (Array.getElem?_eq_some_iff.1 kk3).1).trans kk3
      have ht3n : t3.length ≤ 90 + 5000 * k := by rw [ht3.out]; simp; omega
      clear y0 y1 y2 hown3 hBX3 hq4 hg3 hBY2 ho2 hw2 kk2
      go_wp2_with (at_builtin; refine wpl_append_bs rfl (.tmp 103) (.tmp 107) 22 rfl W1.heap.size 5 infoUB Try.underlying22 _ _ t3 rfl ho4 _ _ m2 rfl (Bs.of_own hw4) ?_ ?_ ?_; omega; (exact hBY4.size); intro a5 c5 t5 X5 ht5 hown5 hg5; have hBX5 := below_app hBY4 hg5 ho4 (Nat.le_refl _) hBY4.size; have kk5 := box_kept kk4 ho4 hg5 (by decide); obtain ⟨y0, y1, y2⟩ := Hyc.out _ kk5; have hcv := conv_any (hd0.below hBX5))
      refine (Hxd.out _).mono ?_
      rintro e Y6 ⟨ay6, cy6, ly6, rfl, hly6, hw6, hq6⟩
      have ho6 := own_below hown5 hq6
      have hBY6 := below_on hBX5 hq6 (Nat.le_refl _)
      have ht5n : t5.length ≤ 99 + 5000 * k := by rw [ht5.out]; simp; omega
      have hly6n : ly6.length ≤ 9 + xd.length := by rw [hly6]; simp; omega
      have Hly6 := Lib.hid hly6
      clear y0 y1 y2 hown5 hBX5 hq6 hg5 hBY4 ho4 hw4 kk4 kk5 hly6 hcv
      go_wp2_with (at_builtin; refine wpl_append_bs rfl (.tmp 109) (.tmp 113) 22 rfl W1.heap.size 5 infoUB Try.underlying22 _ _ t5 rfl ho6 _ _ ly6 rfl (Bs.of_own hw6) ?_ ?_ ?_; omega; (exact hBY6.size); intro a7 c7 t7 X7 ht7 hown7 hg7)
      have hBX7 := below_app hBY6 hg7 ho6 (Nat.le_refl _) hBY6.size
      have ht7n : t7.length ≤ 81 + 5000 * (k + 1) := by rw [ht7.out]; simp; omega
      have ht7' : Hid (t7 = A ++ entsB ((el.take (k + 1)).map Ep.e)) := by show _ = _; rw [ht7.out, ht5.out, ht3.out, hl'.out, Hst.out, Hly6.out]; simp
      go_roundw
      case rel => exact ⟨k + 1, a7, c7, t7, by simp, rfl, by omega, ht7', ht7n, hown7, hBX7⟩
      case measure => simp [intOf]; omega
    · have hkk : k = el.length := by omega
      subst hkk
      rw [List.take_length] at hl'
      go_wp2_with fail
      go_ret
      exact ⟨a', c', l', rfl, by show _ = _; rw [hl'.out, HA.out, HP.out, NK.out, NF.out, ND.out, NT.out, NI.out, NL.out, NC.out, NR.out, NN.out]; simp [bodyB, fieldsB, numsB], Bs.of_own hown, below_on hB1 hB (Nat.le_refl _)⟩
theorem refBody_any (x : Mp) (w : World) (h : MpAt w x) (h0 : 0 ≤ x.index ∧ 0 ≤ x.logTerm ∧ 0 ≤ x.commit ∧ 0 ≤ x.round) (hs : soundM x.v = true) :
    Calls Try.prog 78 #[.agg (mpA x)] w fun e w' => ∃ a c l, e = .returned (.slice a l.length c) ∧ Hid (l = bodyB x.v) ∧ Bs w' a c l ∧ Below w.heap.size w w' := by
  obtain ⟨⟨hk1, hk2⟩, ⟨hf1, hf2⟩, ⟨hg1, hg2⟩, ⟨ht1, ht2⟩, hcm, hrd, hlg, hix, he8, hents, hsnap, hplain⟩ := soundM_ok hs
  clear hplain
  have hel : x.el.length ≤ 8 := by simpa [Mp.v] using he8
  obtain ⟨hi0, hl0, hc0, hr0⟩ := h0
  clear hs he8
  obtain ⟨kind, frm, dst, term, index, logTerm, commit, round, ok, force, eo, ec, el, si, st, mo, mc, ml, ao, ac, d⟩ := x
  obtain ⟨hens, hmem, hdat⟩ := h
  dsimp only [mpA, Mp.v] at *
  obtain ⟨F, rfl⟩ : ∃ F : Nat, frm = (F : Int) := ⟨frm.toNat, by omega⟩
  obtain ⟨D, rfl⟩ : ∃ F : Nat, dst = (F : Int) := ⟨dst.toNat, by omega⟩
  obtain ⟨T, rfl⟩ : ∃ F : Nat, term = (F : Int) := ⟨term.toNat, by omega⟩
  obtain ⟨I, rfl⟩ : ∃ F : Nat, index = (F : Int) := ⟨index.toNat, by omega⟩
  obtain ⟨L, rfl⟩ : ∃ F : Nat, logTerm = (F : Int) := ⟨logTerm.toNat, by omega⟩
  obtain ⟨C, rfl⟩ : ∃ F : Nat, commit = (F : Int) := ⟨commit.toNat, by omega⟩
  obtain ⟨R, rfl⟩ : ∃ F : Nat, round = (F : Int) := ⟨round.toNat, by omega⟩
  by_cases q1 : kind = 1
  · subst q1
    exact refBody_1 F D T I L C R ok force eo mo ao ec mc ac el si st ml d w (by omega) (by omega) (by omega) (by omega) (by omega) (by omega) (by omega)
  by_cases q2 : kind = 2
  · subst q2
    exact refBody_2 F D T I L C R ok force eo mo ao ec mc ac el si st ml d w (by omega) (by omega) (by omega) (by omega) (by omega) (by omega) (by omega)
  by_cases q3 : kind = 3
  · subst q3
    exact refBody_3 F D T I L C R ok force eo mo ao ec mc ac el si st ml d w (by omega) (by omega) (by omega) (by omega) (by omega) (by omega) (by omega)
  by_cases q4 : kind = 4
  · subst q4
    exact refBody_4 F D T I L C R ok force eo mo ao ec mc ac el si st ml d w (by omega) (by omega) (by omega) (by omega) (by omega) (by omega) (by omega)
  by_cases q5 : kind = 5
  · subst q5
    exact refBody_5 F D T I L C R ok force eo mo ao ec mc ac el si st ml d w (by omega) (by omega) (by omega) (by omega) (by omega) (by omega) (by omega) hens hel hents
  by_cases q6 : kind = 6
  · subst q6
    exact refBody_6 F D T I L C R ok force eo mo ao ec mc ac el si st ml d w (by omega) (by omega) (by omega) (by omega) (by omega) (by omega) (by omega)
  by_cases q7 : kind = 7
  · subst q7
    exact refBody_7 F D T I L C R ok force eo mo ao ec mc ac el si st ml d w (by omega) (by omega) (by omega) (by omega) (by omega) (by omega) (by omega) hmem hdat (hsnap (by trivial))
  by_cases q8 : kind = 8
  · subst q8
    exact refBody_8 F D T I L C R ok force eo mo ao ec mc ac el si st ml d w (by omega) (by omega) (by omega) (by omega) (by omega) (by omega) (by omega)
  omega
set_option maxRecDepth 100000 in
set_option maxHeartbeats 4000000 in
theorem refBytes_any (x : Mp) (w : World) (h : MpAt w x) (h0 : 0 ≤ x.index ∧ 0 ≤ x.logTerm ∧ 0 ≤ x.commit ∧ 0 ≤ x.round) (hs : soundM x.v = true) :
    Calls Try.prog 37 #[.agg (mpA x)] w fun e w' => ∃ a c, e = .returned (.slice a (wireB x.v).length c) ∧ Fresh w w' a c (wireB x.v) := by
  have hlen := bodyB_len _ hs (by exact h0)
  have Hbd := Lib.hid (fun W hW => refBody_any x W hW h0 hs)
  have Hat := Lib.hid (fun W hb => h.below (W' := W) hb)
  unfold wireB
  obtain ⟨B, hB⟩ : ∃ B, B = bodyB x.v := ⟨_, rfl⟩
  rw [← hB] at hlen Hbd ⊢
  clear hs hB h h0
  obtain ⟨kind, frm, dst, term, index, logTerm, commit, round, ok, force, eo, ec, el, si, st, mo, mc, ml, ao, ac, d⟩ := x
  dsimp only [mpA] at Hbd Hat ⊢
  have hB1 := below_new w (.cells #[.int .i64 kind, .int .i64 frm, .int .i64 dst, .int .u64 term, .int .u64 index, .int .u64 logTerm, .int .u64 commit, .int .u64 round, .bool ok, .bool force, .slice eo el.length ec, .int .u64 si, .int .u64 st, .slice mo ml.length mc, .slice ao d.length ac] 52)
  go_enter Try.func37, Try.ntmps37
  go_wp2_with fail
  refine (Hbd.out _ (Hat.out _ hB1)).mono ?_
  rintro e W2 ⟨a2, c2, l2, rfl, hl2, hb2, hB2⟩
  have hll : l2 = B := hl2.out
  subst hll
  have hBw2 := below_on hB1 hB2 (Nat.le_refl _)
  have hwrap := bytes_any 5 a2 c2 l2 W2 hb2 (by omega)
  rw [show (((5 : UInt8).toNat : Nat) : Int) = 5 from rfl] at hwrap
  have Hwrap := Lib.hid hwrap
  clear hwrap
  go_wp2_with fail
  refine Hwrap.out.mono ?_
  rintro e W9 ⟨a9, c9, rfl, hfr9⟩
  go_wp2_with fail
  go_ret
  exact ⟨a9, c9, rfl, own_base hfr9.own hBw2.size, below_on hBw2 hfr9.bel (Nat.le_refl _)⟩
end Go.Proofs.Ytlphpjgiaflfkaa
