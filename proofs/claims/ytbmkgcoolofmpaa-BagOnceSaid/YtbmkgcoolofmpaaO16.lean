/- Lemmas for BagOnce (Ni3 Bc Br). No statement of the seat is proved here. -/
import Derived.Great.BuildSlice
import Derived.Laws.Tables
import Derived.Test.YtbmkgcoolofmpaaO4
import Derived.Test.YtbmkgcoolofmpaaO6
import Derived.Test.YtbmkgcoolofmpaaO9
import Derived.Test.YtbmkgcoolofmpaaO15
namespace Go.Proofs.Ytbmkgcoolofmpaa
set_option linter.unusedVariables false
set_option linter.unusedSimpArgs false
set_option linter.unusedSectionVars false
open Go Go.RowKit Go.Shelf
theorem set15 {w : World} {b : Nat} {u0 u1 u2 u3 u4 u5 u6 u7 u8 u9 u10 u11 u12 u13 u14 : Value} {T : TypeId} (h : w.heap[b]? = some (.cells #[u0, u1, u2, u3, u4, u5, u6, u7, u8, u9, u10, u11, u12, u13, u14] T (0, 0))) (v0 v1 v2 v3 v4 v5 v6 v7 v8 v9 v10 v11 v12 v13 v14 : Value) : (((((((((((((((w.setCell ⟨b, 0, none⟩ v0).setCell ⟨b, 1, none⟩ v1).setCell ⟨b, 2, none⟩ v2).setCell ⟨b, 3, none⟩ v3).setCell ⟨b, 4, none⟩ v4).setCell ⟨b, 5, none⟩ v5).setCell ⟨b, 6, none⟩ v6).setCell ⟨b, 7, none⟩ v7).setCell ⟨b, 8, none⟩ v8).setCell ⟨b, 9, none⟩ v9).setCell ⟨b, 10, none⟩ v10).setCell ⟨b, 11, none⟩ v11).setCell ⟨b, 12, none⟩ v12).setCell ⟨b, 13, none⟩ v13).setCell ⟨b, 14, none⟩ v14).heap[b]? = some (.cells #[v0, v1, v2, v3, v4, v5, v6, v7, v8, v9, v10, v11, v12, v13, v14] T (0, 0)) ∧ w.grownBy (((((((((((((((w.setCell ⟨b, 0, none⟩ v0).setCell ⟨b, 1, none⟩ v1).setCell ⟨b, 2, none⟩ v2).setCell ⟨b, 3, none⟩ v3).setCell ⟨b, 4, none⟩ v4).setCell ⟨b, 5, none⟩ v5).setCell ⟨b, 6, none⟩ v6).setCell ⟨b, 7, none⟩ v7).setCell ⟨b, 8, none⟩ v8).setCell ⟨b, 9, none⟩ v9).setCell ⟨b, 10, none⟩ v10).setCell ⟨b, 11, none⟩ v11).setCell ⟨b, 12, none⟩ v12).setCell ⟨b, 13, none⟩ v13).setCell ⟨b, 14, none⟩ v14) (some b) := by
  have h0 := (block_set (block_set (block_set (block_set (block_set (block_set (block_set (block_set (block_set (block_set (block_set (block_set (block_set (block_set (block_set h 0 v0) 1 v1) 2 v2) 3 v3) 4 v4) 5 v5) 6 v6) 7 v7) 8 v8) 9 v9) 10 v10) 11 v11) 12 v12) 13 v13) 14 v14)
  simp only [List.setIfInBounds_toArray, List.set_cons_zero, List.set_cons_succ] at h0
  refine ⟨h0, ?_⟩
  iterate 14 (refine grown_trans ?_ (grown_set _ _ _ _))
  exact grown_set _ _ _ _
theorem snR_small (mx : Nat) (l : List UInt8) : (snR mx l).1.members.length ≤ 7 := by
  cases h : (snR mx l).2 with
  | false => rw [snR_none mx l h]; simp [sn0]
  | true => exact (mOk_all (soundSn_iff.1 (snR_inv mx l h).1).2.2.2.2.1).2.1
theorem gFields_small (K F D T : Int) (s : St) : (gFields (mI K F D T) s).1.es.length ≤ 8 ∧ (gFields (mI K F D T) s).1.sn.members.length ≤ 7 ∧ 0 ≤ (gFields (mI K F D T) s).1.index := by
  refine ⟨?_, ?_, (gFields_nat _ _ (by simp [mI])).1⟩
  · unfold gFields
    split
    · simp [mI]
    split
    · simp [mI]
    split
    · simp [mI]
    split
    · simp only [gEnts_len]; exact gN_le 8 _
    split
    · simp [mI]
    split
    · simp [mI]
    · simp [mI]
  · unfold gFields
    split
    · simp [mI, sn0]
    split
    · simp [mI, sn0]
    split
    · simp [mI, sn0]
    split
    · simp [mI, sn0]
    split
    · simp [mI, sn0]
    split
    · exact snR_small 6 _
    · simp [mI, sn0]
def mp0 : Mp := ⟨0, 0, 0, 0, 0, 0, 0, 0, false, false, none, 0, [], 0, 0, none, 0, [], none, 0, []⟩
theorem mp0_v : mp0.v = ms0 := by simp [mp0, Mp.v, ms0, m0, sn0]
theorem MsgA.at {T : TypeId} {W0 W : World} {q : Nat} {x : Mp} (h : MsgA T W0 W q x) : MpAt W x := ⟨h.ens.ens, h.mem.1, h.dat.1⟩
set_option maxRecDepth 100000 in
theorem next_any (most : Nat) (hm : most < 9223372036854775808) {W0 W : World} {B p : Nat} {s : St} (h : RdS 123 W0 W p s) (hq : W.cell? ⟨B, 0, none⟩ = some (.pointer (some ⟨p, 0, none⟩))) :
    Calls Try.prog 48 #[.int .u64 (most : Int), .pointer (some ⟨B, 0, none⟩)] W fun e W' => e = .returned (.int .i64 ((gN most s).1 : Nat)) ∧ RdS 123 W0 W' p (gN most s).2 ∧ W.grownBy W' (some p) := by
  have hle := gN_le most s
  have Hn := Lib.hid (rds_num most (by omega) h)
  obtain ⟨x, hx⟩ : ∃ x, x = (gN most s).1 := ⟨_, rfl⟩
  rw [← hx] at hle Hn ⊢
  clear hx
  have w1 : IntKind.i64.wrap (x : Int) = (x : Int) := IntWalk.i64_in _ (by omega)
  clear hm hle
  go_enter Try.func48, Try.ntmps48
  go_wp2_with fail
  refine Hn.out.mono ?_
  rintro e W2 ⟨rfl, hr, hg⟩
  go_wp2_with fail
  go_ret
  exact ⟨rfl, hr, hg⟩
end Go.Proofs.Ytbmkgcoolofmpaa
namespace Go.Proofs.Ytbmkgcoolofmpaa
set_option linter.unusedVariables false
set_option linter.unusedSimpArgs false
set_option linter.unusedSectionVars false
open Go Go.RowKit Go.Maps Go.Shelf
abbrev mgT : TypeId := 37
abbrev rmT : TypeId := 62
/-- a message's cells, closed -/
def mC (x : Mp) : Array Value := mpA x
theorem mC_eq (x : Mp) : mC x = mpA x := rfl
set_option maxRecDepth 100000 in
theorem ld_mg {W : World} {p : Nat} {x : Mp} (T : TypeId) (hT : T = mgT ∨ T = rmT) {b o : Nat} (h : ∀ j u, (mpA x)[j]? = some u → W.cell? ⟨b, o + j, none⟩ = some u) : (Instr.loadAt T (.pointer (some ⟨b, o, none⟩))).run Try.prog W = .ok (.agg (mC x)) W := by
  have p0 := h 0 _ rfl
  have p1 := h 1 _ rfl
  have p2 := h 2 _ rfl
  have p3 := h 3 _ rfl
  have p4 := h 4 _ rfl
  have p5 := h 5 _ rfl
  have p6 := h 6 _ rfl
  have p7 := h 7 _ rfl
  have p8 := h 8 _ rfl
  have p9 := h 9 _ rfl
  have p10 := h 10 _ rfl
  have p11 := h 11 _ rfl
  have p12 := h 12 _ rfl
  have p13 := h 13 _ rfl
  have p14 := h 14 _ rfl
  rw [mC_eq]
  clear h
  simp at p0 p1 p2 p3 p4 p5 p6 p7 p8 p9 p10 p11 p12 p13 p14
  rcases hT with rfl | rfl
  · go_simp
  · go_simp
theorem ld_mbox {W : World} {x : Mp} (T U : TypeId) (hT : T = mgT ∨ T = rmT) {b : Nat} (h : W.heap[b]? = some (.cells (mC x) U (0, 0))) : (Instr.loadAt T (.pointer (some ⟨b, 0, none⟩))).run Try.prog W = .ok (.agg (mC x)) W :=
  ld_mg (p := 0) T hT (fun j u hu => by rw [Nat.zero_add, block_cell h j]; exact hu)
/-- a load whose run is known -/
theorem wpl_ldT {P : Program} {W : World} {ops : Array Oper} {rest : List Oper} {o : Oper} {a : Act} {Q : Exit → Act → World → Prop} (hw : Region.wanted o (yielded ops a.tmps) = true) {T : TypeId} {x : Operand} (hop : o.op = .load T x) {b i : Nat} {v : Value} (hx : a.eval x = .pointer (some ⟨b, i, none⟩))
    (hl : (Instr.loadAt T (.pointer (some ⟨b, i, none⟩))).run P W = .ok v W) (h : wpList P ops Q rest (a.put o.dst v) W) : wpList P ops Q (o :: rest) a W :=
  wpl_of hw fun K hK => by
    unfold Oper.wp
    simp [execOp, hop, hx, hl, Result.andThen]
    exact hK _ _ h
theorem mC_one (x : Mp) : (mC x).all (·.oneCell') = true := by simp [mC, Value.oneCell']
theorem mC_size (x : Mp) : (mC x).size = 15 := rfl
theorem infoMg : (Try.prog.info? mgT).map (fun i => (i.zero, i.size, i.bytes)) = some (some (.agg (mC mp0)), 15, 160) := by kernel_rfl
section
variable {ops : Array Oper} {rest : List Oper} {o : Oper} {a : Act} {W : World} {Q : Exit → Act → World → Prop}
/-- a message is stored into its box -/
theorem wpl_stM (hg : o.guard = none) {T : TypeId} (hT : T = mgT ∨ T = rmT) {x y : Operand} (hop : o.op = .store T x y) {b : Nat} {z : Mp} (hx : a.eval x = .pointer (some ⟨b, 0, none⟩)) (hy : a.eval y = .agg (mC z))
    {old : Array Value} (hb : W.heap[b]? = some (.cells old T (0, 0))) (hold : old.size = 15)
    (h : ∀ W', W'.heap[b]? = some (.cells (mC z) T (0, 0)) → W.grownBy W' (some b) → W'.heap.size = W.heap.size → wpList Try.prog ops Q rest (a.put o.dst undef) W') : wpList Try.prog ops Q (o :: rest) a W := by
  refine wpList_store_row hg T x y hop b (mC z) hx hy T old hb ?_ (by rw [hold, mC_size]) (mC_one z) (h _ (setRow_heap W b old _ T _ hb) ⟨rfl, rfl, rfl, by simp, fun k _ hk => setRow_other W b k _ (fun e => hk (by simp [e]))⟩ (by simp))
  rw [mC_size]
  rcases hT with rfl | rfl
  · kernel_rfl
  · kernel_rfl
/-- an empty message -/
theorem wpl_buM (hg : o.guard = none) {T : TypeId} (hT : T = mgT ∨ T = rmT) (hop : o.op = .build T #[])
    (h : wpList Try.prog ops Q rest (a.put o.dst (.agg (mC mp0))) W) : wpList Try.prog ops Q (o :: rest) a W := by
  have e : Try.prog.built T [] = some (mC mp0) := by rcases hT with rfl | rfl <;> kernel_rfl
  refine wpList_build hg T #[] hop (by simp [e]) ?_
  simpa [e] using h
/-- a box for a message -/
theorem wpl_alM (hg : o.guard = none) {T : TypeId} (hT : T = mgT ∨ T = rmT) (hop : o.op = .alloc T)
    (h : ∀ p W', p = W.heap.size → Below W.heap.size W W' → W'.heap[p]? = some (.cells (mC mp0) T (0, 0)) → W'.heap.size = W.heap.size + 1 → wpList Try.prog ops Q rest (a.put o.dst (.pointer (some ⟨p, 0, none⟩))) W') : wpList Try.prog ops Q (o :: rest) a W := by
  refine wpList_plain hg fun K hK => ?_
  have hrun : (newVar T (.agg (mC mp0))).run Try.prog W = .ok ⟨W.heap.size, 0, none⟩ (W.alloc (.cells (mC mp0) T)) := by simp [newVar, newRow, go_sem, Value.cells]
  have hz : (zeroValue T).run Try.prog W = .ok (.agg (mC mp0)) W := by rcases hT with rfl | rfl <;> kernel_rfl
  unfold Oper.wp
  simp [execOp, hop, Result.andThen, go_sem, hz, Value.cells]
  exact hK _ _ (h W.heap.size _ rfl (below_new _ _) (heap_alloc_new _ _) (by simp))
end
theorem lv_mbox {W : World} {x : Mp} (T U : TypeId) (hT : T = mgT ∨ T = rmT) {b : Nat} (h : W.heap[b]? = some (.cells (mC x) U (0, 0))) : (loadVar T ⟨b, 0, none⟩).run Try.prog W = .ok (.agg (mC x)) W := by
  have := ld_mbox T U hT h
  simpa [Instr.loadAt, Instr.sureAddr] using this
/-- what comes back: a boxed value and another one -/
theorem results_2 {P : Program} {fn : Func} {tm : Array Value} {W : World} {c t : Nat} {T : TypeId} {ad : Addr} {v u : Value} (hf : fn.results = #[.cell c T, .tmp t]) (hc : tm.getD c undef = .pointer (some ad)) (ht : tm.getD t undef = u) (hl : (loadVar T ad).run P W = .ok v W) :
    (results fn tm).run P W = .ok (.tuple #[v, u]) W := by
  unfold results
  rw [hf]
  rw [Array.getD_eq_getD_getElem?] at hc ht
  simp [Result.andThen, asAddr, hc, ht, hl]
set_option maxRecDepth 100000 in
theorem has_o (W : World) (ao : Option Addr) (cap : Nat) (A : List Int) (k : Int) (h : Iz W .i64 ao cap A) :
    Calls Try.prog 21 #[.slice ao A.length cap, .int .i64 k] W fun e W' => e = .returned (.bool (decide (k ∈ A))) ∧ W' = W := by
  obtain ⟨c, hc⟩ : ∃ c, c = decide (k ∈ A) := ⟨_, rfl⟩
  rw [← hc]
  have hmx : A.length ≤ maxLen := Nat.le_trans h.le h.max
  have Hc := Lib.hid hc
  clear hc
  go_enter Try.func21, Try.ntmps21
  go_wp2_with fail
  go_loopw [5] (fun u wr => ∃ i : Nat, u = .int .i64 (i : Nat) ∧ i ≤ A.length ∧ Hid (k ∉ A.take i) ∧ wr = W) (fun u _ => A.length - (intOf u).toNat)
  case atStart => exact ⟨0, rfl, Nat.zero_le _, Lib.hid (by simp), rfl⟩
  case round =>
    obtain ⟨i, rfl, hi, Hinv, rfl⟩ := hrel
    by_cases hlt : i < A.length
    · obtain ⟨b1, o1, rfl, p0⟩ := h.get i hlt
      have i0 : (0 : Int) ≤ (i : Int) := by omega
      have i1 : (i : Int) < (A.length : Int) := by omega
      have hnx : A[i] ≠ k → k ∉ A.take (i + 1) := fun hne => by
        rw [List.take_succ_eq_append_getElem hlt]
        simp only [List.mem_append, List.mem_singleton, not_or]
        exact ⟨Hinv.out, fun e => hne e.symm⟩
      have hyes : A[i] = k → c = true := fun e => by
        rw [Hc.out]; exact decide_eq_true (e ▸ List.getElem_mem hlt)
      obtain ⟨x, hx⟩ : ∃ x, x = A[i] := ⟨_, rfl⟩
      rw [← hx] at p0 hnx hyes
      have Hnx := Lib.hid hnx
      have Hyes := Lib.hid hyes
      clear hx hnx hyes
      unfold maxLen at hmx
      by_cases he : x = k
      · have eb : (x == k) = true := by simp [he]
        have Hct := Lib.hid (Hyes.out he)
        clear he Hyes Hnx
        go_wp2_with fail
        go_ret
        exact ⟨by rw [Hct.out]; rfl, rfl⟩
      · have eb : (x == k) = false := by simp [he]
        have Hct := Lib.hid (Hnx.out he)
        clear he Hyes Hnx
        go_wp2_with fail
        go_roundw
        case rel => exact ⟨i + 1, by simp, by omega, Hct, trivial⟩
        case measure => simp [intOf]; omega
    · have hii : i = A.length := by omega
      subst hii
      have Hct : Hid (c = false) := (by rw [Hc.out]; have := Hinv.out; rw [List.take_length] at this; exact decide_eq_false this : c = false)
      clear hlt
      go_wp2_with fail
      go_ret
      exact ⟨by rw [Hct.out]; rfl, rfl⟩
end Go.Proofs.Ytbmkgcoolofmpaa
namespace Go.Proofs.Ytbmkgcoolofmpaa
set_option linter.unusedVariables false
set_option linter.unusedSimpArgs false
set_option linter.unusedSectionVars false
open Go Go.RowKit Go.Maps Go.Shelf
structure MpT (W : World) (x : Mp) : Prop where
  ens : ∃ base, EnsO W base (.slice x.eo x.el.length x.ec) x.el
  mem : IzT W x.mo x.mc x.ml
  dat : BsT W x.ao x.ac x.d
theorem MpT.at {W : World} {x : Mp} (h : MpT W x) : MpAt W x := by
  obtain ⟨base, h1⟩ := h.ens
  exact ⟨h1.ens, h.mem.1, h.dat.1⟩
theorem MpT.gr {W W' : World} {x : Mp} {H : Nat → Prop} (h : MpT W x) (hg : Gr H W W') (h1 : ∀ i, H i → elem? W i ≠ some 5) (h2 : ∀ i, H i → elem? W i ≠ some 88) (h3 : ∀ i, H i → elem? W i ≠ some 3) : MpT W' x := by
  obtain ⟨base, he⟩ := h.ens
  refine ⟨⟨base, own_gr he.own hg (fun g hg2 hf => h2 g hf (own_elemE he.own g hg2)), fun y hy => (he.data y hy).kept (fun b hb => hg.block b (elem?_lt hb) (fun hf => h1 b hf hb))⟩, h.mem.kept (fun b hb => hg.block b (elem?_lt hb) (fun hf => h3 b hf hb)), h.dat.kept (fun b hb => hg.block b (elem?_lt hb) (fun hf => h1 b hf hb))⟩
theorem MpT.below {W W' : World} {x : Mp} (h : MpT W x) (hb : Below W.heap.size W W') : MpT W' x := h.gr (H := fun _ => False) (Gr.below hb) (fun _ h => h.elim) (fun _ h => h.elim) (fun _ h => h.elim)
theorem mp0_T (w : World) : MpT w mp0 := ⟨⟨0, EnsO.nil w 0⟩, IzT.nil w, ⟨Bs.nil w, fun b off s e => by cases e⟩⟩
/-- what Read of a message tells; its rows lie in blocks of their types -/
def MsgTold2 (R : Ms × Bool) (w : World) (e : Ending) (w' : World) : Prop := ∃ x : Mp, e = .returned (.tuple #[.agg (mpA x), .bool R.2]) ∧ x.v = R.1 ∧ MpT w' x ∧ Below w.heap.size w w'
theorem told_none2 (w w' : World) (h : Below w.heap.size w w') : MsgTold2 (ms0, false) w (.returned (.tuple #[.agg #[.int .i64 0, .int .i64 0, .int .i64 0, .int .u64 0, .int .u64 0, .int .u64 0, .int .u64 0, .int .u64 0, .bool false, .bool false, .slice none 0 0, .int .u64 0, .int .u64 0, .slice none 0 0, .slice none 0 0], .bool false])) w' := ⟨mp0, rfl, mp0_v, mp0_T w', h⟩
end Go.Proofs.Ytbmkgcoolofmpaa
