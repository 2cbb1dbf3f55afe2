/- Lemmas for WireReads (Ni3 Wr Mq). No statement of the seat is proved here. -/
import Derived.Test.YtlphpjgiaflfkaaWv7
import Derived.Test.YtlphpjgiaflfkaaWv15
import Derived.Test.YtlphpjgiaflfkaaWv16
import Derived.Test.YtlphpjgiaflfkaaWv20
namespace Go.Proofs.Ytlphpjgiaflfkaa
set_option linter.unusedVariables false
set_option linter.unusedSimpArgs false
set_option linter.unusedSectionVars false
open Go Go.RowKit Go.Shelf
theorem set15 {w : World} {b : Nat} {u0 u1 u2 u3 u4 u5 u6 u7 u8 u9 u10 u11 u12 u13 u14 : Value} {T : TypeId} (h : w.heap[b]? = some (.cells #[u0, u1, u2, u3, u4, u5, u6, u7, u8, u9, u10, u11, u12, u13, u14] T (0, 0))) (v0 v1 v2 v3 v4 v5 v6 v7 v8 v9 v10 v11 v12 v13 v14 : Value) : (((((((((((((((w.setCell ⟨b, 0, none⟩ v0).setCell ⟨b, 1, none⟩ v1).setCell ⟨b, 2, none⟩ v2).setCell ⟨b, 3, none⟩ v3).setCell ⟨b, 4, none⟩ v4).setCell ⟨b, 5, none⟩ v5).setCell ⟨b, 6, none⟩ v6).setCell ⟨b, 7, none⟩ v7).setCell ⟨b, 8, none⟩ v8).setCell ⟨b, 9, none⟩ v9).setCell ⟨b, 10, none⟩ v10).setCell ⟨b, 11, none⟩ v11).setCell ⟨b, 12, none⟩ v12).setCell ⟨b, 13, none⟩ v13).setCell ⟨b, 14, none⟩ v14).heap[b]? = some (.cells #[v0, v1, v2, v3, v4, v5, v6, v7, v8, v9, v10, v11, v12, v13, v14] T (0, 0)) ∧ w.grownBy (((((((((((((((w.setCell ⟨b, 0, none⟩ v0).setCell ⟨b, 1, none⟩ v1).setCell ⟨b, 2, none⟩ v2).setCell ⟨b, 3, none⟩ v3).setCell ⟨b, 4, none⟩ v4).setCell ⟨b, 5, none⟩ v5).setCell ⟨b, 6, none⟩ v6).setCell ⟨b, 7, none⟩ v7).setCell ⟨b, 8, none⟩ v8).setCell ⟨b, 9, none⟩ v9).setCell ⟨b, 10, none⟩ v10).setCell ⟨b, 11, none⟩ v11).setCell ⟨b, 12, none⟩ v12).setCell ⟨b, 13, none⟩ v13).setCell ⟨b, 14, none⟩ v14) (some b) := by
  have h0 := (block_set (block_set (block_set (block_set (block_set (block_set (block_set (block_set (block_set (block_set (block_set (block_set (block_set (block_set (block_set h 0 v0) 1 v1) 2 v2) 3 v3) 4 v4) 5 v5) 6 v6) 7 v7) 8 v8) 9 v9) 10 v10) 11 v11) 12 v12) 13 v13) 14 v14)
  simp only [List.setIfInBounds_toArray, List.set_cons_zero, List.set_cons_succ] at h0
  refine ⟨h0, ?_⟩
  iterate 14 (refine grown_trans ?_ (grown_set _ _ _ _))
  exact grown_set _ _ _ _
theorem snR_small (mx : Nat) (l : List UInt8) : (snR mx l).1.members.length ≤ 7 := by
  cases h : (snR mx l).2 with
  | false => rw [snR_none mx l h]; simp [sn0]
  | true => exact (mOk_all (soundSn_iff.1 (snR_inv mx l h).1).2.2.2.2.1).2.1
theorem gFields_small (K F D T : Int) (s : St) : (gFields (mI K F D T) s).1.es.length ≤ 8 ∧ (gFields (mI K F D T) s).1.sn.members.length ≤ 7 ∧ 0 ≤ (gFields (mI K F D T) s).1.index := by
  refine ⟨?_, ?_, (gFields_nat _ _ (by simp [mI])).1⟩
  · unfold gFields
    split
    · simp [mI]
    split
    · simp [mI]
    split
    · simp [mI]
    split
    · simp only [gEnts_len]; exact gN_le 8 _
    split
    · simp [mI]
    split
    · simp [mI]
    · simp [mI]
  · unfold gFields
    split
    · simp [mI, sn0]
    split
    · simp [mI, sn0]
    split
    · simp [mI, sn0]
    split
    · simp [mI, sn0]
    split
    · simp [mI, sn0]
    split
    · exact snR_small 6 _
    · simp [mI, sn0]
/-- what Read of a message tells -/
def MsgTold (R : Ms × Bool) (w : World) (e : Ending) (w' : World) : Prop := ∃ x : Mp, e = .returned (.tuple #[.agg (mpA x), .bool R.2]) ∧ x.v = R.1 ∧ MpAt w' x ∧ Below w.heap.size w w'
def mp0 : Mp := ⟨0, 0, 0, 0, 0, 0, 0, 0, false, false, none, 0, [], 0, 0, none, 0, [], none, 0, []⟩
theorem mp0_v : mp0.v = ms0 := by simp [mp0, Mp.v, ms0, m0, sn0]
theorem mp0_at (w : World) : MpAt w mp0 := ⟨⟨⟨by simp [mp0], by simp [mp0], by decide, fun _ => rfl, fun j u hu => by simp [mp0] at hu⟩, fun x hx => by simp [mp0] at hx⟩, Iz.nil w .i64, Bs.nil w⟩
theorem told_none (w w' : World) (h : Below w.heap.size w w') : MsgTold (ms0, false) w (.returned (.tuple #[.agg #[.int .i64 0, .int .i64 0, .int .i64 0, .int .u64 0, .int .u64 0, .int .u64 0, .int .u64 0, .int .u64 0, .bool false, .bool false, .slice none 0 0, .int .u64 0, .int .u64 0, .slice none 0 0, .slice none 0 0], .bool false])) w' := ⟨mp0, rfl, mp0_v, mp0_at w', h⟩
theorem MsgA.at {T : TypeId} {W0 W : World} {q : Nat} {x : Mp} (h : MsgA T W0 W q x) : MpAt W x := ⟨h.ens.ens, h.mem.1, h.dat.1⟩
set_option maxRecDepth 100000 in
theorem next_any (most : Nat) (hm : most < 9223372036854775808) {W0 W : World} {B p : Nat} {s : St} (h : RdS 131 W0 W p s) (hq : W.cell? ⟨B, 0, none⟩ = some (.pointer (some ⟨p, 0, none⟩))) :
    Calls Try.prog 74 #[.int .u64 (most : Int), .pointer (some ⟨B, 0, none⟩)] W fun e W' => e = .returned (.int .i64 ((gN most s).1 : Nat)) ∧ RdS 131 W0 W' p (gN most s).2 ∧ W.grownBy W' (some p) := by
  have hle := gN_le most s
  have Hn := Lib.hid (rds_num most (by omega) h)
  obtain ⟨x, hx⟩ : ∃ x, x = (gN most s).1 := ⟨_, rfl⟩
  rw [← hx] at hle Hn ⊢
  clear hx
  have w1 : IntKind.i64.wrap (x : Int) = (x : Int) := IntWalk.i64_in _ (by omega)
  clear hm hle
  go_enter Try.func74, Try.ntmps74
  go_wp2_with fail
  refine Hn.out.mono ?_
  rintro e W2 ⟨rfl, hr, hg⟩
  go_wp2_with fail
  go_ret
  exact ⟨rfl, hr, hg⟩
end Go.Proofs.Ytlphpjgiaflfkaa
namespace Go.Proofs.Ytlphpjgiaflfkaa
set_option linter.unusedVariables false
set_option linter.unusedSimpArgs false
set_option linter.unusedSectionVars false
open Go Go.RowKit Go.Shelf
theorem ld_takeW {P : Program} {T : TypeId} {p : Nat} {v : Value} {W : World} {ρ : Operand → Value} {o : Oper} {x : Operand} (ho : o.op = .load T x) (h : (Instr.loadAt T (.pointer (some ⟨p, 0, none⟩))).run P W = .ok v W) (hx : ρ x = .pointer (some ⟨p, 0, none⟩)) : (execOp ρ o).run P W = .ok (.value v) W := by
  unfold execOp
  simp [ho, hx, h]
set_option maxRecDepth 100000 in
theorem ld_msgW {W : World} {p : Nat} {x : Mp} (h : W.heap[p]? = some (.cells (mpA x) 49 (0, 0))) : (Instr.loadAt 49 (.pointer (some ⟨p, 0, none⟩))).run Try.prog W = .ok (.agg (mpA x)) W := by
  have p0 := block_cell h 0
  have p1 := block_cell h 1
  have p2 := block_cell h 2
  have p3 := block_cell h 3
  have p4 := block_cell h 4
  have p5 := block_cell h 5
  have p6 := block_cell h 6
  have p7 := block_cell h 7
  have p8 := block_cell h 8
  have p9 := block_cell h 9
  have p10 := block_cell h 10
  have p11 := block_cell h 11
  have p12 := block_cell h 12
  have p13 := block_cell h 13
  have p14 := block_cell h 14
  simp at p0 p1 p2 p3 p4 p5 p6 p7 p8 p9 p10 p11 p12 p13 p14
  go_simp
theorem cv_take {P : Program} {T U : TypeId} {v s : Value} {W : World} {ρ : Operand → Value} {o : Oper} {x : Operand} (ho : o.op = .convert T U x) (h : (convert T U v).run P W = .ok s W) (hx : ρ x = v) : (execOp ρ o).run P W = .ok (.value s) W := by
  unfold execOp
  simp [ho, hx, h]
theorem same_lens {x : Mp} {m : Ms} (h : x.v = m) (h1 : m.es.length ≤ 8) (h2 : m.sn.members.length ≤ 7) : x.el.length ≤ 8 ∧ x.ml.length ≤ 7 := by
  subst h
  exact ⟨by simpa [Mp.v] using h1, h2⟩
theorem wireR_small (mx : Nat) (l : List UInt8) : (wireR mx l).1.es.length ≤ 8 ∧ (wireR mx l).1.sn.members.length ≤ 7 := by
  unfold wireR
  split
  · split
    · unfold gMsg
      exact ⟨(gFields_small _ _ _ _ _).1, (gFields_small _ _ _ _ _).2.1⟩
    · simp [ms0, m0, sn0]
  · simp [ms0, m0, sn0]
theorem ms0_bad : soundM ms0 = false := by
  cases h : soundM ms0 with
  | false => rfl
  | true => have := (soundM_ok h).kind; simp [ms0, m0] at this
end Go.Proofs.Ytlphpjgiaflfkaa
namespace Go.Proofs.Ytlphpjgiaflfkaa
set_option linter.unusedVariables false
set_option linter.unusedSimpArgs false
set_option linter.unusedSectionVars false
open Go Go.RowKit Go.Shelf
set_option maxRecDepth 100000 in
set_option maxHeartbeats 16000000 in
theorem refMsgSame_any (x y : Mp) (w : World) (h1 : MpAt w x) (h2 : MpAt w y) (hx1 : x.el.length ≤ 1000000) (hx2 : x.ml.length ≤ 1000000) (hy1 : y.el.length ≤ 1000000) (hy2 : y.ml.length ≤ 1000000) :
    Calls Try.prog 28 #[.agg (mpA x), .agg (mpA y)] w fun e w' => e = .returned (.bool (decide (x.v = y.v))) ∧ Below w.heap.size w w' := by
  obtain ⟨c, hc⟩ : ∃ c, c = decide (x.v = y.v) := ⟨_, rfl⟩
  have hiff : c = true ↔ (x.kind = y.kind ∧ x.frm = y.frm ∧ x.dst = y.dst ∧ x.term = y.term ∧ x.index = y.index ∧ x.logTerm = y.logTerm ∧ x.commit = y.commit ∧ x.round = y.round ∧ x.ok = y.ok ∧ x.force = y.force ∧ x.el.map Ep.e = y.el.map Ep.e ∧ (⟨x.si, x.st, x.ml, x.d⟩ : Sn) = ⟨y.si, y.st, y.ml, y.d⟩) := by
    rw [hc]; simp only [Mp.v, decide_eq_true_eq, Ms.mk.injEq]
  rw [← hc]
  have Hc := Lib.hid hiff
  clear hc hiff
  have Hes := Lib.hid (fun W hW1 hW2 => segRefSame_any x.eo y.eo x.ec y.ec x.el y.el W hW1 hW2 hx1 hy1)
  have Hsn := Lib.hid (fun W a1 a2 a3 a4 => refSnapSame_any x.si x.st y.si y.st x.mo x.ao y.mo y.ao x.mc x.ac y.mc y.ac x.ml y.ml x.d y.d W a1 a2 a3 a4 hx2 hy2)
  obtain ⟨rs, hrs⟩ : ∃ rs, rs = decide ((⟨x.si, x.st, x.ml, x.d⟩ : Sn) = ⟨y.si, y.st, y.ml, y.d⟩) := ⟨_, rfl⟩
  rw [← hrs] at Hsn
  have HR := Lib.hid hrs
  clear hrs
  obtain ⟨kind1, frm1, dst1, term1, index1, logTerm1, commit1, round1, ok1, force1, eo1, ec1, el1, si1, st1, mo1, mc1, ml1, ao1, ac1, d1⟩ := x
  obtain ⟨kind2, frm2, dst2, term2, index2, logTerm2, commit2, round2, ok2, force2, eo2, ec2, el2, si2, st2, mo2, mc2, ml2, ao2, ac2, d2⟩ := y
  dsimp only [mpA, Mp.v] at Hc Hes Hsn HR h1 h2 hx1 hx2 hy1 hy2 ⊢
  obtain ⟨W1, hW1⟩ : ∃ W1, W1 = w.alloc (.cells #[.int .i64 kind1, .int .i64 frm1, .int .i64 dst1, .int .u64 term1, .int .u64 index1, .int .u64 logTerm1, .int .u64 commit1, .int .u64 round1, .bool ok1, .bool force1, .slice eo1 el1.length ec1, .int .u64 si1, .int .u64 st1, .slice mo1 ml1.length mc1, .slice ao1 d1.length ac1] 52) := ⟨_, rfl⟩
  have hB1 : Below w.heap.size w W1 := by rw [hW1]; exact below_new _ _
  have k1 : W1.heap[w.heap.size]? = some (.cells #[.int .i64 kind1, .int .i64 frm1, .int .i64 dst1, .int .u64 term1, .int .u64 index1, .int .u64 logTerm1, .int .u64 commit1, .int .u64 round1, .bool ok1, .bool force1, .slice eo1 el1.length ec1, .int .u64 si1, .int .u64 st1, .slice mo1 ml1.length mc1, .slice ao1 d1.length ac1] 52) := by rw [hW1]; exact heap_alloc_new _ _
  have z1 : W1.heap.size = w.heap.size + 1 := by rw [hW1]; exact World.size_alloc _ _
  obtain ⟨W2, hW2⟩ : ∃ W2, W2 = W1.alloc (.cells #[.int .i64 kind2, .int .i64 frm2, .int .i64 dst2, .int .u64 term2, .int .u64 index2, .int .u64 logTerm2, .int .u64 commit2, .int .u64 round2, .bool ok2, .bool force2, .slice eo2 el2.length ec2, .int .u64 si2, .int .u64 st2, .slice mo2 ml2.length mc2, .slice ao2 d2.length ac2] 52) := ⟨_, rfl⟩
  have hB2 : Below W1.heap.size W1 W2 := by rw [hW2]; exact below_new _ _
  have m2 : W2.heap[w.heap.size + 1]? = some (.cells #[.int .i64 kind2, .int .i64 frm2, .int .i64 dst2, .int .u64 term2, .int .u64 index2, .int .u64 logTerm2, .int .u64 commit2, .int .u64 round2, .bool ok2, .bool force2, .slice eo2 el2.length ec2, .int .u64 si2, .int .u64 st2, .slice mo2 ml2.length mc2, .slice ao2 d2.length ac2] 52) := by rw [hW2, ← z1]; exact heap_alloc_new _ _
  have k2 := (hB2.block w.heap.size (by omega)).trans k1
  have hBw2 := below_on hB1 hB2 (by omega)
  have g1 := h1.below hBw2
  have g2 := h2.below hBw2
  have HB := Lib.hid hBw2
  have K2 := Lib.hid k2
  have M2 := Lib.hid m2
  clear k1 z1 hB1 hB2 hBw2
  go_enter Try.func28, Try.ntmps28
  go_upto_region 1 with fail
  rw [← hW1, ← hW2]
  clear hW1 hW2 k2 m2
  have p0 : W2.cell? ⟨w.heap.size, 0, none⟩ = some (.int .i64 kind1) := block_cell K2.out 0
  have q0 : W2.cell? ⟨w.heap.size + 1, 0, none⟩ = some (.int .i64 kind2) := block_cell M2.out 0
  have p1 : W2.cell? ⟨w.heap.size, 1, none⟩ = some (.int .i64 frm1) := block_cell K2.out 1
  have q1 : W2.cell? ⟨w.heap.size + 1, 1, none⟩ = some (.int .i64 frm2) := block_cell M2.out 1
  have p2 : W2.cell? ⟨w.heap.size, 2, none⟩ = some (.int .i64 dst1) := block_cell K2.out 2
  have q2 : W2.cell? ⟨w.heap.size + 1, 2, none⟩ = some (.int .i64 dst2) := block_cell M2.out 2
  have p3 : W2.cell? ⟨w.heap.size, 3, none⟩ = some (.int .u64 term1) := block_cell K2.out 3
  have q3 : W2.cell? ⟨w.heap.size + 1, 3, none⟩ = some (.int .u64 term2) := block_cell M2.out 3
  have p4 : W2.cell? ⟨w.heap.size, 4, none⟩ = some (.int .u64 index1) := block_cell K2.out 4
  have q4 : W2.cell? ⟨w.heap.size + 1, 4, none⟩ = some (.int .u64 index2) := block_cell M2.out 4
  have p5 : W2.cell? ⟨w.heap.size, 5, none⟩ = some (.int .u64 logTerm1) := block_cell K2.out 5
  have q5 : W2.cell? ⟨w.heap.size + 1, 5, none⟩ = some (.int .u64 logTerm2) := block_cell M2.out 5
  have p6 : W2.cell? ⟨w.heap.size, 6, none⟩ = some (.int .u64 commit1) := block_cell K2.out 6
  have q6 : W2.cell? ⟨w.heap.size + 1, 6, none⟩ = some (.int .u64 commit2) := block_cell M2.out 6
  have p7 : W2.cell? ⟨w.heap.size, 7, none⟩ = some (.int .u64 round1) := block_cell K2.out 7
  have q7 : W2.cell? ⟨w.heap.size + 1, 7, none⟩ = some (.int .u64 round2) := block_cell M2.out 7
  have p8 : W2.cell? ⟨w.heap.size, 8, none⟩ = some (.bool ok1) := block_cell K2.out 8
  have q8 : W2.cell? ⟨w.heap.size + 1, 8, none⟩ = some (.bool ok2) := block_cell M2.out 8
  have p9 : W2.cell? ⟨w.heap.size, 9, none⟩ = some (.bool force1) := block_cell K2.out 9
  have q9 : W2.cell? ⟨w.heap.size + 1, 9, none⟩ = some (.bool force2) := block_cell M2.out 9
  have p10 : W2.cell? ⟨w.heap.size, 10, none⟩ = some (.slice eo1 el1.length ec1) := block_cell K2.out 10
  have q10 : W2.cell? ⟨w.heap.size + 1, 10, none⟩ = some (.slice eo2 el2.length ec2) := block_cell M2.out 10
  have p11 : W2.cell? ⟨w.heap.size, 11, none⟩ = some (.int .u64 si1) := block_cell K2.out 11
  have q11 : W2.cell? ⟨w.heap.size + 1, 11, none⟩ = some (.int .u64 si2) := block_cell M2.out 11
  have p12 : W2.cell? ⟨w.heap.size, 12, none⟩ = some (.int .u64 st1) := block_cell K2.out 12
  have q12 : W2.cell? ⟨w.heap.size + 1, 12, none⟩ = some (.int .u64 st2) := block_cell M2.out 12
  have p13 : W2.cell? ⟨w.heap.size, 13, none⟩ = some (.slice mo1 ml1.length mc1) := block_cell K2.out 13
  have q13 : W2.cell? ⟨w.heap.size + 1, 13, none⟩ = some (.slice mo2 ml2.length mc2) := block_cell M2.out 13
  have p14 : W2.cell? ⟨w.heap.size, 14, none⟩ = some (.slice ao1 d1.length ac1) := block_cell K2.out 14
  have q14 : W2.cell? ⟨w.heap.size + 1, 14, none⟩ = some (.slice ao2 d2.length ac2) := block_cell M2.out 14
  by_cases r0 : kind1 = kind2
  rotate_left
  · have Hf : Hid (c = false) := by show _ = _; rw [Bool.eq_false_iff, ne_eq, Hc.out]; simp [r0]
    have e0 : (kind1 == kind2) = false := by simpa using r0
    clear r0
    refine WL.start ?_
    iterate 83 (first | (refine WL.skip (by rfl) ?_; simp only [Act.put, List.getElem_toArray, List.getElem_cons_zero, List.getElem_cons_succ, List.setIfInBounds_toArray, List.set_cons_zero, List.set_cons_succ]) | (refine WL.val (v := ?_) (by rfl) ?_ ?_; rotate_left; (focus (go_simp; (try with_reducible rfl))); simp only [Act.put, List.getElem_toArray, List.getElem_cons_zero, List.getElem_cons_succ, List.setIfInBounds_toArray, List.set_cons_zero, List.set_cons_succ]))
    refine WL.nil ?_
    go_wp2_with fail
    go_ret
    exact ⟨by rw [Hf.out]; rfl, HB.out⟩
  have e0 : (kind1 == kind2) = true := by simp [r0]
  have R0 := Lib.hid r0
  clear r0
  by_cases r1 : frm1 = frm2
  rotate_left
  · have Hf : Hid (c = false) := by show _ = _; rw [Bool.eq_false_iff, ne_eq, Hc.out]; simp [r1]
    have e1 : (frm1 == frm2) = false := by simpa using r1
    clear r1
    refine WL.start ?_
    iterate 83 (first | (refine WL.skip (by rfl) ?_; simp only [Act.put, List.getElem_toArray, List.getElem_cons_zero, List.getElem_cons_succ, List.setIfInBounds_toArray, List.set_cons_zero, List.set_cons_succ]) | (refine WL.val (v := ?_) (by rfl) ?_ ?_; rotate_left; (focus (go_simp; (try with_reducible rfl))); simp only [Act.put, List.getElem_toArray, List.getElem_cons_zero, List.getElem_cons_succ, List.setIfInBounds_toArray, List.set_cons_zero, List.set_cons_succ]))
    refine WL.nil ?_
    go_wp2_with fail
    go_ret
    exact ⟨by rw [Hf.out]; rfl, HB.out⟩
  have e1 : (frm1 == frm2) = true := by simp [r1]
  have R1 := Lib.hid r1
  clear r1
  by_cases r2 : dst1 = dst2
  rotate_left
  · have Hf : Hid (c = false) := by show _ = _; rw [Bool.eq_false_iff, ne_eq, Hc.out]; simp [r2]
    have e2 : (dst1 == dst2) = false := by simpa using r2
    clear r2
    refine WL.start ?_
    iterate 83 (first | (refine WL.skip (by rfl) ?_; simp only [Act.put, List.getElem_toArray, List.getElem_cons_zero, List.getElem_cons_succ, List.setIfInBounds_toArray, List.set_cons_zero, List.set_cons_succ]) | (refine WL.val (v := ?_) (by rfl) ?_ ?_; rotate_left; (focus (go_simp; (try with_reducible rfl))); simp only [Act.put, List.getElem_toArray, List.getElem_cons_zero, List.getElem_cons_succ, List.setIfInBounds_toArray, List.set_cons_zero, List.set_cons_succ]))
    refine WL.nil ?_
    go_wp2_with fail
    go_ret
    exact ⟨by rw [Hf.out]; rfl, HB.out⟩
  have e2 : (dst1 == dst2) = true := by simp [r2]
  have R2 := Lib.hid r2
  clear r2
  by_cases r3 : term1 = term2
  rotate_left
  · have Hf : Hid (c = false) := by show _ = _; rw [Bool.eq_false_iff, ne_eq, Hc.out]; simp [r3]
    have e3 : (term1 == term2) = false := by simpa using r3
    clear r3
    refine WL.start ?_
    iterate 83 (first | (refine WL.skip (by rfl) ?_; simp only [Act.put, List.getElem_toArray, List.getElem_cons_zero, List.getElem_cons_succ, List.setIfInBounds_toArray, List.set_cons_zero, List.set_cons_succ]) | (refine WL.val (v := ?_) (by rfl) ?_ ?_; rotate_left; (focus (go_simp; (try with_reducible rfl))); simp only [Act.put, List.getElem_toArray, List.getElem_cons_zero, List.getElem_cons_succ, List.setIfInBounds_toArray, List.set_cons_zero, List.set_cons_succ]))
    refine WL.nil ?_
    go_wp2_with fail
    go_ret
    exact ⟨by rw [Hf.out]; rfl, HB.out⟩
  have e3 : (term1 == term2) = true := by simp [r3]
  have R3 := Lib.hid r3
  clear r3
  by_cases r4 : index1 = index2
  rotate_left
  · have Hf : Hid (c = false) := by show _ = _; rw [Bool.eq_false_iff, ne_eq, Hc.out]; simp [r4]
    have e4 : (index1 == index2) = false := by simpa using r4
    clear r4
    refine WL.start ?_
    iterate 83 (first | (refine WL.skip (by rfl) ?_; simp only [Act.put, List.getElem_toArray, List.getElem_cons_zero, List.getElem_cons_succ, List.setIfInBounds_toArray, List.set_cons_zero, List.set_cons_succ]) | (refine WL.val (v := ?_) (by rfl) ?_ ?_; rotate_left; (focus (go_simp; (try with_reducible rfl))); simp only [Act.put, List.getElem_toArray, List.getElem_cons_zero, List.getElem_cons_succ, List.setIfInBounds_toArray, List.set_cons_zero, List.set_cons_succ]))
    refine WL.nil ?_
    go_wp2_with fail
    go_ret
    exact ⟨by rw [Hf.out]; rfl, HB.out⟩
  have e4 : (index1 == index2) = true := by simp [r4]
  have R4 := Lib.hid r4
  clear r4
  by_cases r5 : logTerm1 = logTerm2
  rotate_left
  · have Hf : Hid (c = false) := by show _ = _; rw [Bool.eq_false_iff, ne_eq, Hc.out]; simp [r5]
    have e5 : (logTerm1 == logTerm2) = false := by simpa using r5
    clear r5
    refine WL.start ?_
    iterate 83 (first | (refine WL.skip (by rfl) ?_; simp only [Act.put, List.getElem_toArray, List.getElem_cons_zero, List.getElem_cons_succ, List.setIfInBounds_toArray, List.set_cons_zero, List.set_cons_succ]) | (refine WL.val (v := ?_) (by rfl) ?_ ?_; rotate_left; (focus (go_simp; (try with_reducible rfl))); simp only [Act.put, List.getElem_toArray, List.getElem_cons_zero, List.getElem_cons_succ, List.setIfInBounds_toArray, List.set_cons_zero, List.set_cons_succ]))
    refine WL.nil ?_
    go_wp2_with fail
    go_ret
    exact ⟨by rw [Hf.out]; rfl, HB.out⟩
  have e5 : (logTerm1 == logTerm2) = true := by simp [r5]
  have R5 := Lib.hid r5
  clear r5
  by_cases r6 : commit1 = commit2
  rotate_left
  · have Hf : Hid (c = false) := by show _ = _; rw [Bool.eq_false_iff, ne_eq, Hc.out]; simp [r6]
    have e6 : (commit1 == commit2) = false := by simpa using r6
    clear r6
    refine WL.start ?_
    iterate 83 (first | (refine WL.skip (by rfl) ?_; simp only [Act.put, List.getElem_toArray, List.getElem_cons_zero, List.getElem_cons_succ, List.setIfInBounds_toArray, List.set_cons_zero, List.set_cons_succ]) | (refine WL.val (v := ?_) (by rfl) ?_ ?_; rotate_left; (focus (go_simp; (try with_reducible rfl))); simp only [Act.put, List.getElem_toArray, List.getElem_cons_zero, List.getElem_cons_succ, List.setIfInBounds_toArray, List.set_cons_zero, List.set_cons_succ]))
    refine WL.nil ?_
    go_wp2_with fail
    go_ret
    exact ⟨by rw [Hf.out]; rfl, HB.out⟩
  have e6 : (commit1 == commit2) = true := by simp [r6]
  have R6 := Lib.hid r6
  clear r6
  by_cases r7 : round1 = round2
  rotate_left
  · have Hf : Hid (c = false) := by show _ = _; rw [Bool.eq_false_iff, ne_eq, Hc.out]; simp [r7]
    have e7 : (round1 == round2) = false := by simpa using r7
    clear r7
    refine WL.start ?_
    iterate 83 (first | (refine WL.skip (by rfl) ?_; simp only [Act.put, List.getElem_toArray, List.getElem_cons_zero, List.getElem_cons_succ, List.setIfInBounds_toArray, List.set_cons_zero, List.set_cons_succ]) | (refine WL.val (v := ?_) (by rfl) ?_ ?_; rotate_left; (focus (go_simp; (try with_reducible rfl))); simp only [Act.put, List.getElem_toArray, List.getElem_cons_zero, List.getElem_cons_succ, List.setIfInBounds_toArray, List.set_cons_zero, List.set_cons_succ]))
    refine WL.nil ?_
    go_wp2_with fail
    go_ret
    exact ⟨by rw [Hf.out]; rfl, HB.out⟩
  have e7 : (round1 == round2) = true := by simp [r7]
  have R7 := Lib.hid r7
  clear r7
  by_cases r8 : ok1 = ok2
  rotate_left
  · have Hf : Hid (c = false) := by show _ = _; rw [Bool.eq_false_iff, ne_eq, Hc.out]; simp [r8]
    have e8 : (ok1 == ok2) = false := by simpa using r8
    clear r8
    refine WL.start ?_
    iterate 83 (first | (refine WL.skip (by rfl) ?_; simp only [Act.put, List.getElem_toArray, List.getElem_cons_zero, List.getElem_cons_succ, List.setIfInBounds_toArray, List.set_cons_zero, List.set_cons_succ]) | (refine WL.val (v := ?_) (by rfl) ?_ ?_; rotate_left; (focus (go_simp; (try with_reducible rfl))); simp only [Act.put, List.getElem_toArray, List.getElem_cons_zero, List.getElem_cons_succ, List.setIfInBounds_toArray, List.set_cons_zero, List.set_cons_succ]))
    refine WL.nil ?_
    go_wp2_with fail
    go_ret
    exact ⟨by rw [Hf.out]; rfl, HB.out⟩
  have e8 : (ok1 == ok2) = true := by simp [r8]
  have R8 := Lib.hid r8
  clear r8
  by_cases r9 : force1 = force2
  rotate_left
  · have Hf : Hid (c = false) := by show _ = _; rw [Bool.eq_false_iff, ne_eq, Hc.out]; simp [r9]
    have e9 : (force1 == force2) = false := by simpa using r9
    clear r9
    refine WL.start ?_
    iterate 83 (first | (refine WL.skip (by rfl) ?_; simp only [Act.put, List.getElem_toArray, List.getElem_cons_zero, List.getElem_cons_succ, List.setIfInBounds_toArray, List.set_cons_zero, List.set_cons_succ]) | (refine WL.val (v := ?_) (by rfl) ?_ ?_; rotate_left; (focus (go_simp; (try with_reducible rfl))); simp only [Act.put, List.getElem_toArray, List.getElem_cons_zero, List.getElem_cons_succ, List.setIfInBounds_toArray, List.set_cons_zero, List.set_cons_succ]))
    refine WL.nil ?_
    go_wp2_with fail
    go_ret
    exact ⟨by rw [Hf.out]; rfl, HB.out⟩
  have e9 : (force1 == force2) = true := by simp [r9]
  have R9 := Lib.hid r9
  clear r9
  refine WL.start ?_
  iterate 73 (first | (refine WL.skip (by rfl) ?_; simp only [Act.put, List.getElem_toArray, List.getElem_cons_zero, List.getElem_cons_succ, List.setIfInBounds_toArray, List.set_cons_zero, List.set_cons_succ]) | (refine WL.val (v := ?_) (by rfl) ?_ ?_; rotate_left; (focus (go_simp; (try with_reducible rfl))); simp only [Act.put, List.getElem_toArray, List.getElem_cons_zero, List.getElem_cons_succ, List.setIfInBounds_toArray, List.set_cons_zero, List.set_cons_succ]))
  refine WL.any (by rfl) (fun K hK => ?_)
  go_simp
  go_at_call 14
  refine (Hes.out _ g1.ens g2.ens).mono ?_
  rintro e w3 ⟨rfl, hb3⟩
  refine hK.out _ _ ?_
  clear hK K
  try simp only [Act.put, List.getElem_toArray, List.getElem_cons_zero, List.getElem_cons_succ, List.setIfInBounds_toArray, List.set_cons_zero, List.set_cons_succ]
  have hB3 := below_on HB.out hb3 (Nat.le_refl _)
  by_cases r10 : el1.map Ep.e = el2.map Ep.e
  rotate_left
  · have Hf : Hid (c = false) := by show _ = _; rw [Bool.eq_false_iff, ne_eq, Hc.out]; simp [r10]
    rw [decide_eq_false r10]
    clear r10
    iterate 9 (first | (refine WL.skip (by rfl) ?_; simp only [Act.put, List.getElem_toArray, List.getElem_cons_zero, List.getElem_cons_succ, List.setIfInBounds_toArray, List.set_cons_zero, List.set_cons_succ]) | (refine WL.val (v := ?_) (by rfl) ?_ ?_; rotate_left; (focus (go_simp; (try with_reducible rfl))); simp only [Act.put, List.getElem_toArray, List.getElem_cons_zero, List.getElem_cons_succ, List.setIfInBounds_toArray, List.set_cons_zero, List.set_cons_succ]))
    refine WL.nil ?_
    go_wp2_with fail
    go_ret
    exact ⟨by rw [Hf.out]; rfl, hB3⟩
  rw [decide_eq_true r10]
  have R10 := Lib.hid r10
  clear r10
  have K3 := (hb3.block _ (Array.getElem?_eq_some_iff.1 K2.out).1).trans K2.out
  have M3 := (hb3.block _ (Array.getElem?_eq_some_iff.1 M2.out).1).trans M2.out
  have u11 : w3.cell? ⟨w.heap.size, 11, none⟩ = some (.int .u64 si1) := block_cell K3 11
  have v11 : w3.cell? ⟨w.heap.size + 1, 11, none⟩ = some (.int .u64 si2) := block_cell M3 11
  have u12 : w3.cell? ⟨w.heap.size, 12, none⟩ = some (.int .u64 st1) := block_cell K3 12
  have v12 : w3.cell? ⟨w.heap.size + 1, 12, none⟩ = some (.int .u64 st2) := block_cell M3 12
  have u13 : w3.cell? ⟨w.heap.size, 13, none⟩ = some (.slice mo1 ml1.length mc1) := block_cell K3 13
  have v13 : w3.cell? ⟨w.heap.size + 1, 13, none⟩ = some (.slice mo2 ml2.length mc2) := block_cell M3 13
  have u14 : w3.cell? ⟨w.heap.size, 14, none⟩ = some (.slice ao1 d1.length ac1) := block_cell K3 14
  have v14 : w3.cell? ⟨w.heap.size + 1, 14, none⟩ = some (.slice ao2 d2.length ac2) := block_cell M3 14
  iterate 6 (first | (refine WL.skip (by rfl) ?_; simp only [Act.put, List.getElem_toArray, List.getElem_cons_zero, List.getElem_cons_succ, List.setIfInBounds_toArray, List.set_cons_zero, List.set_cons_succ]) | (refine WL.val (v := ?_) (by rfl) ?_ ?_; rotate_left; (focus (go_simp; (try with_reducible rfl))); simp only [Act.put, List.getElem_toArray, List.getElem_cons_zero, List.getElem_cons_succ, List.setIfInBounds_toArray, List.set_cons_zero, List.set_cons_succ]))
  refine WL.any (by rfl) (fun K hK => ?_)
  go_simp
  go_at_call 60
  refine (Hsn.out _ (g1.mem.below hb3) (g2.mem.below hb3) (g1.dat.below hb3) (g2.dat.below hb3)).mono ?_
  rintro e w4 ⟨rfl, hb4⟩
  refine hK.out _ _ ?_
  clear hK K
  try simp only [Act.put, List.getElem_toArray, List.getElem_cons_zero, List.getElem_cons_succ, List.setIfInBounds_toArray, List.set_cons_zero, List.set_cons_succ]
  have Hf : Hid (c = rs) := by
    show _ = _
    rw [Bool.eq_iff_iff, Hc.out, HR.out, decide_eq_true_eq]
    constructor
    · rintro ⟨_, _, _, _, _, _, _, _, _, _, _, h⟩; exact h
    · intro h; exact ⟨R0.out, R1.out, R2.out, R3.out, R4.out, R5.out, R6.out, R7.out, R8.out, R9.out, R10.out, h⟩
  iterate 2 (first | (refine WL.skip (by rfl) ?_; simp only [Act.put, List.getElem_toArray, List.getElem_cons_zero, List.getElem_cons_succ, List.setIfInBounds_toArray, List.set_cons_zero, List.set_cons_succ]) | (refine WL.val (v := ?_) (by rfl) ?_ ?_; rotate_left; (focus (go_simp; (try with_reducible rfl))); simp only [Act.put, List.getElem_toArray, List.getElem_cons_zero, List.getElem_cons_succ, List.setIfInBounds_toArray, List.set_cons_zero, List.set_cons_succ]))
  refine WL.nil ?_
  go_wp2_with fail
  go_ret
  exact ⟨by rw [Hf.out]; rfl, below_on hB3 hb4 (Nat.le_refl _)⟩
end Go.Proofs.Ytlphpjgiaflfkaa
