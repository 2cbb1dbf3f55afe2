/- Lemmas for BagOnce (Ne Bd Bf Rk). No statement of the seat is proved here. -/
import Derived.Laws.CopyOwn
import Derived.Laws.MakeOwn
import Derived.Laws.OwnMore
import Derived.Deep.RegionHeld
import Derived.Test.YtbmkgcoolofmpaaO1
import Derived.Test.YtbmkgcoolofmpaaO15
import Derived.Test.YtbmkgcoolofmpaaO16
import Derived.Test.YtbmkgcoolofmpaaO17
namespace Go.Proofs.Ytbmkgcoolofmpaa
set_option linter.unusedVariables false
set_option linter.unusedSimpArgs false
set_option linter.unusedSectionVars false
open Go Go.RowKit Go.Shelf
/-- the example's message -/
def exM : Mp := ⟨8, 0, 1, 3, 0, 0, 0, 0, false, false, none, 0, [], 0, 0, none, 0, [], none, 0, []⟩
theorem exM_sound : soundM exM.v = true := by decide +kernel
/-- the numbers of an argument are no less than 0 -/
def MsgOk (x : Mp) : Prop := 0 ≤ x.index ∧ 0 ≤ x.logTerm ∧ 0 ≤ x.commit ∧ 0 ≤ x.round
def LightM (x : Mp) : Prop := (∀ y ∈ x.el, y.e.data.length ≤ 5000) ∧ x.el.length ≤ 20 ∧ x.ml.length ≤ 30 ∧ x.d.length ≤ 33000
instance (x : Mp) : Decidable (LightM x) := by unfold LightM; exact inferInstance
set_option maxRecDepth 100000 in
set_option maxHeartbeats 4000000 in
theorem light30_any (x : Mp) (w : World) (h : MpAt w x) :
    Calls Try.prog 22 #[.agg (mpA x)] w fun e w' => e = .returned (.bool (decide (LightM x))) ∧ Below w.heap.size w w' := by
  obtain ⟨c, hc⟩ : ∃ c, c = decide (LightM x) := ⟨_, rfl⟩
  rw [← hc]
  have hiff : c = true ↔ ((∀ y ∈ x.el, y.e.data.length ≤ 5000) ∧ x.el.length ≤ 20 ∧ x.ml.length ≤ 30 ∧ x.d.length ≤ 33000) := by rw [hc]; exact decide_eq_true_iff
  have Hc := Lib.hid hiff
  clear hc hiff
  obtain ⟨hens, hmem, hdat⟩ := h
  have hmx : x.el.length ≤ maxLen := Nat.le_trans hens.sl.le hens.sl.max
  unfold maxLen at hmx
  clear hmem hdat
  obtain ⟨kind, frm, dst, term, index, logTerm, commit, round, ok, force, eo, ec, el, si, st, mo, mc, ml, ao, ac, d⟩ := x
  dsimp only [mpA] at Hc hens hmx ⊢
  obtain ⟨W1, hW1⟩ : ∃ W1, W1 = w.alloc (.cells #[.int .i64 kind, .int .i64 frm, .int .i64 dst, .int .u64 term, .int .u64 index, .int .u64 logTerm, .int .u64 commit, .int .u64 round, .bool ok, .bool force, .slice eo el.length ec, .int .u64 si, .int .u64 st, .slice mo ml.length mc, .slice ao d.length ac] 37) := ⟨_, rfl⟩
  have hB1 : Below w.heap.size w W1 := by rw [hW1]; exact below_new _ _
  have k1 : W1.heap[w.heap.size]? = some (.cells #[.int .i64 kind, .int .i64 frm, .int .i64 dst, .int .u64 term, .int .u64 index, .int .u64 logTerm, .int .u64 commit, .int .u64 round, .bool ok, .bool force, .slice eo el.length ec, .int .u64 si, .int .u64 st, .slice mo ml.length mc, .slice ao d.length ac] 37) := by rw [hW1]; exact heap_alloc_new _ _
  have z1 : w.heap.size < W1.heap.size := (Array.getElem?_eq_some_iff.1 k1).1
  have hens1 := hens.below hB1
  have p10 : W1.cell? ⟨w.heap.size, 10, none⟩ = some (.slice eo el.length ec) := block_cell k1 10
  go_enter Try.func22, Try.ntmps22
  go_upto_region 1 with fail
  rw [← hW1]
  clear hW1
  go_wp2_with fail
  clear p10
  go_loopw [8] (fun u wr => ∃ i : Nat, u = .int .i64 (i : Nat) ∧ i ≤ el.length ∧ Hid (∀ x ∈ el.take i, x.e.data.length ≤ 5000) ∧ Below W1.heap.size W1 wr) (fun u _ => el.length - (intOf u).toNat)
  case atStart => exact ⟨0, rfl, Nat.zero_le _, Lib.hid (by simp), Below.refl _ _⟩
  case round =>
    obtain ⟨i, rfl, hi, Hinv, hB⟩ := hrel
    by_cases hlt : i < el.length
    · have g1 := hens1.below hB
      obtain ⟨b1, o1, rfl, p0, p1, p2⟩ := g1.get i hlt
      have i0 : (0 : Int) ≤ (i : Int) := by omega
      have i1 : (i : Int) < (el.length : Int) := by omega
      have hz := hB.size
      by_cases h5 : el[i].e.data.length ≤ 5000
      · have h5b : ¬ (5000 : Int) < (el[i].e.data.length : Int) := by omega
        have hnext : ∀ x ∈ el.take (i + 1), x.e.data.length ≤ 5000 := by
          rw [List.take_succ_eq_append_getElem hlt]
          intro x hx
          rcases List.mem_append.1 hx with hx | hx
          · exact Hinv.out x hx
          · simp at hx; subst hx; exact h5
        have Hnext := Lib.hid hnext
        clear hnext h5
        go_wp2_with fail
        go_roundw
        case rel => exact ⟨i + 1, by simp, by omega, Hnext, hB.alloc hz _⟩
        case measure => simp [intOf]; omega
      · have h5b : (5000 : Int) < (el[i].e.data.length : Int) := by omega
        have hcf : Hid (c = false) := by
          show _ = _
          rw [Bool.eq_false_iff, ne_eq, Hc.out]
          intro hl
          exact h5 (hl.1 _ (List.getElem_mem hlt))
        clear h5
        go_wp2_with fail
        go_ret
        exact ⟨by rw [hcf.out]; rfl, below_on hB1 (hB.alloc hz _) (Nat.le_refl _)⟩
    · have hii : i = el.length := by omega
      subst hii
      have hcl : Hid (c = true ↔ (el.length ≤ 20 ∧ ml.length ≤ 30 ∧ d.length ≤ 33000)) := by
        show _ ↔ _
        rw [Hc.out]
        have hh := Hinv.out
        rw [List.take_length] at hh
        exact ⟨fun h => h.2, fun h => ⟨hh, h⟩⟩
      have kr := (hB.block _ z1).trans k1
      obtain ⟨p10, p13, p14⟩ := (⟨block_cell kr 10, block_cell kr 13, block_cell kr 14⟩ : wr.cell? ⟨w.heap.size, 10, none⟩ = some (.slice eo el.length ec) ∧ wr.cell? ⟨w.heap.size, 13, none⟩ = some (.slice mo ml.length mc) ∧ wr.cell? ⟨w.heap.size, 14, none⟩ = some (.slice ao d.length ac))
      have hBw := below_on hB1 hB (Nat.le_refl _)
      clear hlt Hinv
      by_cases q1 : el.length ≤ 20
      · have r1 : (el.length : Int) ≤ 20 := by omega
        by_cases q2 : ml.length ≤ 30
        · have r2 : (ml.length : Int) ≤ 30 := by omega
          by_cases q3 : d.length ≤ 33000
          · have r3 : (d.length : Int) ≤ 33000 := by omega
            go_wp2_with fail
            go_ret
            exact ⟨ret_bool (by simp; exact (hcl.out.2 ⟨q1, q2, q3⟩)), hBw⟩
          · have r3 : ¬ (d.length : Int) ≤ 33000 := by omega
            have hf : Hid (c = false) := by show _ = _; rw [Bool.eq_false_iff, ne_eq, hcl.out]; omega
            go_wp2_with fail
            go_ret
            exact ⟨by rw [hf.out]; rfl, hBw⟩
        · have r2 : ¬ (ml.length : Int) ≤ 30 := by omega
          have hf : Hid (c = false) := by show _ = _; rw [Bool.eq_false_iff, ne_eq, hcl.out]; omega
          go_wp2_with fail
          go_ret
          exact ⟨by rw [hf.out]; rfl, hBw⟩
      · have r1 : ¬ (el.length : Int) ≤ 20 := by omega
        have hf : Hid (c = false) := by show _ = _; rw [Bool.eq_false_iff, ne_eq, hcl.out]; omega
        go_wp2_with fail
        go_ret
        exact ⟨by rw [hf.out]; rfl, hBw⟩
end Go.Proofs.Ytbmkgcoolofmpaa
namespace Go.Proofs.Ytbmkgcoolofmpaa
set_option linter.unusedVariables false
set_option linter.unusedSimpArgs false
set_option linter.unusedSectionVars false
open Go Go.RowKit Go.Maps Go.Shelf
/-- a message's box is none of its rows -/
theorem MpT.box {W W' : World} {x : Mp} {p : Nat} {cs : Array Value} {U : TypeId} (h : MpT W x) (hb : W.heap[p]? = some (.cells cs U (0, 0))) (hU : U = mgT ∨ U = rmT ∨ U = bgT ∨ U = ltT) (hg : W.grownBy W' (some p)) : MpT W' x := by
  have e := elem?_of hb
  refine h.gr (H := fun i => i = p) (Gr.one hg (fun b e => (Option.some.inj e).symm)) ?_ ?_ ?_
  all_goals (rintro i rfl hi; rw [e] at hi; rcases hU with rfl | rfl | rfl | rfl <;> exact absurd hi (by decide))
theorem lt_rows {W : World} {base cap : Nat} {ao : Option Addr} {l : List Lt} (h : W.ownsRow base ltT 3 (.slice ao l.length cap) l.length (ltFlat l)) : Rw W ltT 3 ao l.length cap (l.map ltCells) :=
  Rw.of_own h (by simp) (fun r hr => by obtain ⟨x, _, rfl⟩ := List.mem_map.1 hr; rfl)
theorem lt_cells {W : World} {base cap : Nat} {ao : Option Addr} {l : List Lt} (h : W.ownsRow base ltT 3 (.slice ao l.length cap) l.length (ltFlat l)) (k : Nat) (hk : k < l.length) :
    ∃ g fx, ao = some ⟨g, fx, none⟩ ∧ g < W.heap.size ∧ W.cell? ⟨g, fx + k * 3, none⟩ = some (.int .i64 l[k].m.frm) ∧ W.cell? ⟨g, fx + k * 3 + 1, none⟩ = some (.int .i64 l[k].m.dst) ∧ W.cell? ⟨g, fx + k * 3 + 2, none⟩ = some (.slice l[k].ao (wireB l[k].m).length l[k].ac) := by
  obtain ⟨b, off, rfl, hc⟩ := (lt_rows h).get (by decide) k hk
  have h0 := hc 0 (by simp [ltCells])
  have h1 := hc 1 (by simp [ltCells])
  have h2 := hc 2 (by simp [ltCells])
  simp [ltCells] at h0 h1 h2
  exact ⟨b, off, rfl, (h.lt b rfl).2, h0, h1, h2⟩
theorem wireB_len {m : Ms} (h : MsFit m) : (wireB m).length ≤ 33608 := by
  unfold wireB
  rw [Fr.wrapped_length]
  have := bodyB_len m h.snd h.num
  omega
theorem key_small {k : Int} (h : -100 ≤ k ∧ k ≤ 1000) : KeyOk k := by
  show (Lit.int .i64 k).wf = true
  simp [Lit.wf, IntKind.min, IntKind.max, IntKind.signed, IntKind.bits]; omega
theorem MsFit.keys {m : Ms} (h : MsFit m) : KeyOk m.frm ∧ KeyOk m.dst := by
  obtain ⟨_, h1, h2, _⟩ := soundM_ok h.snd
  exact ⟨key_small (by omega), key_small (by omega)⟩
/-- a letter's bytes, read -/
theorem ltread_o {W : World} {x : Lt} (h : LtOk W x) : Calls Try.prog 32 #[.slice x.ao (wireB x.m).length x.ac] W fun e W' => ∃ y : Mp, e = .returned (.tuple #[.agg (mC y), .bool true]) ∧ y.v = x.m ∧ MpT W' y ∧ Below W.heap.size W W' := by
  have hen := wireR_enc 6 (by decide) (by decide) x.m h.fit.snd h.fit.num
  refine (wireReadT_true x.ao x.ac (wireB x.m) W h.dat.1 (by have := wireB_len h.fit; omega) (wholeF_wrapped 5 _ (by decide) (by have := bodyB_len x.m h.fit.snd h.fit.num; omega)).1 (by rw [hen])).mono fun e W' hp => ?_
  obtain ⟨y, he, hy, ha, hb⟩ := hp
  rw [hen] at he hy
  exact ⟨y, he, hy, ha, hb⟩
/-- the message at a place -/
def lookM (l : List Lt) (k : Int) : Ms := if 0 ≤ k then (match l[k.toNat]? with | some x => x.m | none => ms0) else ms0
theorem lookM_yes {l : List Lt} {k : Nat} (hk : k < l.length) : lookM l (k : Int) = l[k].m := by
  unfold lookM
  rw [if_pos (by omega), Int.toNat_natCast, List.getElem?_eq_getElem hk]
theorem lookM_no {l : List Lt} {k : Int} (hk : ¬ (0 ≤ k ∧ k < (l.length : Nat))) : lookM l k = ms0 := by
  unfold lookM
  split
  · rw [List.getElem?_eq_none (by omega)]
  · rfl
/-- what a call that tells a message tells -/
def TellM (m : Ms) (ok : Bool) (e : Ending) (W' : World) : Prop := ∃ y : Mp, e = .returned (.tuple #[.agg (mC y), .bool ok]) ∧ y.v = m ∧ MpT W' y
section
variable {base : Nat} {W W' : World} {F : Nat → Prop} {b room : Nat} {T : Int → Bool} {l : List Lt}
theorem blook_no (h : Bg base W F b room T l) (k : Int) (hk : ¬ (0 ≤ k ∧ k < (l.length : Nat))) : Calls Try.prog 13 #[.pointer (some ⟨b, 0, none⟩), .int .i64 k] W fun e W' => TellM ms0 false e W' ∧ Below W.heap.size W W' := by
  have Hh := Lib.hid (fun V (hb : Below W.heap.size W V) => bhas_o (h.below hb) k)
  rw [decide_eq_false hk] at Hh
  clear hk h
  go_enter Try.func13, Try.ntmps13
  go_wp2_with (refine wpl_alM rfl (.inl rfl) rfl ?_; intro p1 W1 hp1 hb1 hx1 hz1; clear hz1; have hp2 := Lib.hid (Nat.le_of_eq hp1.symm); clear hp1)
  refine (Hh.out _ hb1).mono ?_
  rintro e V1 ⟨rfl, hv⟩
  subst V1
  go_wp2_with (first | (refine wpl_buM rfl (.inl rfl) rfl ?_) | (refine wpl_stM rfl (.inl rfl) rfl rfl rfl hx1 rfl ?_; intro W2 hx2 hg2 hz2))
  exact bodyPost_ret (v := .tuple #[.agg (mC mp0), .bool false]) (results_2 Try.results13 rfl rfl (lv_mbox _ _ (.inl rfl) hx2)) rfl ⟨⟨mp0, rfl, mp0_v, mp0_T _⟩, below_grown hb1 hg2 hp2.out hb1.size⟩
set_option maxRecDepth 100000 in
set_option maxHeartbeats 2000000 in
theorem blook_yes (h : Bg base W F b room T l) (k : Nat) (hk : k < l.length) : Calls Try.prog 13 #[.pointer (some ⟨b, 0, none⟩), .int .i64 (k : Nat)] W fun e W' => TellM l[k].m true e W' ∧ Below W.heap.size W W' := by
  have Hh := Lib.hid (fun V (hb : Below W.heap.size W V) => bhas_o (h.below hb) (k : Nat))
  rw [decide_eq_true (⟨by omega, by omega⟩ : (0 : Int) ≤ (k : Nat) ∧ ((k : Nat) : Int) < (l.length : Nat))] at Hh
  have Hrd := Lib.hid (fun V (hb : Below W.heap.size W V) => ltread_o ((h.below hb).ok _ (List.getElem_mem hk)))
  obtain ⟨m, n, ao, cap, h1, h2, h3, h4, h5, h6, h7, h8, h9⟩ := h
  obtain ⟨g, fx, rfl, hgl, c0, c1, c2⟩ := lt_cells h2 k hk
  have e2 := block_cell h1 2
  simp at e2
  have el := bx_lt h1
  obtain ⟨⟨xm, xa, xc⟩, hx⟩ : ∃ x, x = l[k] := ⟨_, rfl⟩
  rw [← hx] at c2 Hrd ⊢
  obtain ⟨B, hB⟩ : ∃ B, B = wireB xm := ⟨_, rfl⟩
  simp only [← hB] at c2 Hrd
  have i0 : (0 : Int) ≤ (k : Nat) := by omega
  have i1 : ((k : Nat) : Int) < (l.length : Nat) := by omega
  have HE := Lib.hid (And.intro e2 (And.intro el (And.intro hgl c2)))
  clear h1 h2 h3 h4 h5 h6 h7 h8 h9 c0 c1 c2 e2 el hgl hx hB
  go_enter Try.func13, Try.ntmps13
  go_wp2_with (refine wpl_alM rfl (.inl rfl) rfl ?_; intro p1 W1 hp1 hb1 hx1 hz1; clear hz1; have hp2 := Lib.hid (Nat.le_of_eq hp1.symm); clear hp1)
  refine (Hh.out _ hb1).mono ?_
  rintro e V1 ⟨rfl, hv⟩
  subst V1
  have e2 := (hb1.cell (p := ⟨b, 2, none⟩) HE.out.2.1).trans HE.out.1
  have el := Nat.lt_of_lt_of_le HE.out.2.1 hb1.size
  have c2 := (hb1.cell (p := ⟨g, fx + k * 3 + 2, none⟩) HE.out.2.2.1).trans HE.out.2.2.2
  have gl := Nat.lt_of_lt_of_le HE.out.2.2.1 hb1.size
  go_wp2_with fail
  refine (show Calls _ _ _ _ _ from Hrd.out _ hb1).mono ?_
  rintro e V2 ⟨y, rfl, hy, hya, hb2⟩
  have hx2 := bx_below hb2 hx1
  clear e2 el c2 gl
  go_wp2_with (refine wpl_stM rfl (.inl rfl) rfl rfl rfl hx2 rfl ?_; intro W2 hx3 hg2 hz2)
  exact bodyPost_ret (v := .tuple #[.agg (mC y), .bool true]) (results_2 Try.results13 rfl rfl (lv_mbox _ _ (.inl rfl) hx3)) rfl ⟨⟨y, rfl, hy, hya.box hx2 (.inl rfl) hg2⟩, below_grown (below_on hb1 hb2 (Nat.le_refl _)) hg2 hp2.out (below_on hb1 hb2 (Nat.le_refl _)).size⟩
end
end Go.Proofs.Ytbmkgcoolofmpaa
namespace Go.Proofs.Ytbmkgcoolofmpaa
set_option linter.unusedVariables false
set_option linter.unusedSimpArgs false
set_option linter.unusedSectionVars false
open Go Go.RowKit Go.Maps Go.Shelf
/-- copy(d, s) of elements of k cells into a row of one's own -/
theorem run_copyk {P : Program} (w : World) (dT sT elem : TypeId) (k g o dLen dCap : Nat) (dp sp : Option Addr) (sLen sCap m : Nat) (cur : List Value) (t : TypeId) (cs : List Value)
    (hu : P.underlying dT = some (.slice elem)) (hs : (P.info? elem).map (·.size) = some k) (hg : w.heap[g]? = some (.cells cur.toArray t (0, 0))) (hm : Nat.min sLen dLen = m) (hn : cs.length = m * k)
    (hpos : 0 < m → dp = some ⟨g, o, none⟩ ∧ ∃ a, sp = some a ∧ ∀ j v, cs[j]? = some v → w.cell? (a.add j) = some v) (hfit : o + cs.length ≤ cur.length) (h1 : ∀ v ∈ cs, v.oneCell' = true) :
    ∃ w', (∀ ty, (Builtin.copy_ #[dT, sT] ty #[.slice dp dLen dCap, .slice sp sLen sCap]).run P w = .ok (.int .i64 (m : Nat)) w') ∧ w'.heap[g]? = some (.cells (splice cur o cs).toArray t (0, 0)) ∧ w.grownBy w' (some g) := by
  cases hq : P.info? elem with
  | none => simp [hq] at hs
  | some i =>
    have hi : i.size = k := by simpa [hq] using hs
    by_cases h0 : m = 0
    · subst h0
      obtain rfl : cs = [] := List.eq_nil_of_length_eq_zero (by simpa using hn)
      have hl : ∀ (x : Addr), (loadCells x 0).run P w = .ok #[] w := fun x => by simpa using run_loadCells_list (P := P) w x [] (by simp)
      refine ⟨w, fun ty => ?_, by simpa [splice] using hg, World.grownBy.refl _ _⟩
      cases dp <;> cases sp <;> simp [Builtin.copy_, run_underlying hu, Builtin.lenOf, Builtin.firstCells, sizeOf, typeInfo, hq, hm, storeCells, hl, goInt]
    · obtain ⟨rfl, a, rfl, hsrc⟩ := hpos (by omega)
      have hl := run_loadCells_list (P := P) w a cs hsrc
      have hst := run_storeCells_at P g o t cs 0 cur.toArray w hg (by simpa using hfit) h1
      refine ⟨w.setRow g (splice cur o cs).toArray, fun ty => ?_, setRow_heap w g _ _ t _ hg, ⟨rfl, rfl, rfl, by simp [World.setRow], fun j hj hne => setRow_other w g j _ (fun e => hne (by rw [e]))⟩⟩
      rw [hn] at hl
      simp [Builtin.copy_, run_underlying hu, Builtin.lenOf, Builtin.firstCells, sizeOf, typeInfo, hq, hi, hm, hl, hst, goInt, splice]
theorem ltFlat_two (a b : List Lt) : ltFlat (a ++ b) = ltFlat a ++ ltFlat b := by simp [ltFlat]
structure CutC (T : List Lt) (i M : Nat) (A B : List Value) : Prop where
  lA : A.length = i * 3
  lB : B.length = (M - i) * 3
  inA : ∀ j v, A[j]? = some v → (ltFlat T)[0 + j]? = some v
  inB : ∀ j v, B[j]? = some v → (ltFlat T)[(i + 1) * 3 + j]? = some v
  both : ltFlat (T.take i ++ T.drop (i + 1)) = A ++ B
  len : (T.take i ++ T.drop (i + 1)).length = M
  one : (∀ v ∈ A, v.oneCell' = true) ∧ ∀ v ∈ B, v.oneCell' = true
theorem cut_cells (T : List Lt) (i M : Nat) (hT : T.length = M + 1) (hi : i ≤ M) : CutC T i M (ltFlat (T.take i)) (ltFlat (T.drop (i + 1))) := by
  have l1 : (T.take i).length = i := by rw [List.length_take]; omega
  have l2 : (T.drop (i + 1)).length = M - i := by rw [List.length_drop]; omega
  have l3 : (T.take (i + 1)).length = i + 1 := by rw [List.length_take]; omega
  refine ⟨by rw [ltFlat_len, l1], by rw [ltFlat_len, l2], fun j v hv => ?_, fun j v hv => ?_, ltFlat_two _ _, by rw [List.length_append, l1, l2]; omega, lts_one _, lts_one _⟩
  · rw [← List.take_append_drop i T, ltFlat_two, Nat.zero_add]
    rw [List.getElem?_append_left (by exact (List.getElem?_eq_some_iff.1 hv).1)]
    simpa using hv
  · rw [← List.take_append_drop (i + 1) T, ltFlat_two, List.getElem?_append_right (by rw [ltFlat_len, l3]; omega), ltFlat_len, l3, Nat.add_sub_cancel_left]
    simpa using hv
theorem splice_two (cur A B : List Value) (h : cur.length = A.length + B.length) : splice (splice cur 0 A) A.length B = A ++ B := by
  unfold splice
  simp
  omega
theorem drop_mem (W3 : World) (base g cap N M i : Nat) (T : List Lt) (hN : N = T.length) (hM : N = M + 1) (hi : i ≤ M) (hN1 : N ≤ 1000000) (ho : W3.ownsRow base ltT 3 (.slice (some ⟨g, 0, none⟩) N cap) N (ltFlat T)) :
    ∃ W4 W5 W6 dp2 sp3, (Instr.makeSlice ltsT (.int .i64 ((N : Int) - 1)) (.int .i64 ((N : Int) - 1))).run Try.prog W3 = .ok (.slice (some ⟨W3.heap.size, 0, none⟩) M M) W4 ∧
      (∀ W, (Instr.sliceAt ltsT (.slice (some ⟨g, 0, none⟩) N cap) none (some (.int .i64 (i : Nat))) none).run Try.prog W = .ok (.slice (some ⟨g, 0, none⟩) i cap) W) ∧
      (∀ ty, (Builtin.copy_ #[ltsT, ltsT] ty #[.slice (some ⟨W3.heap.size, 0, none⟩) M M, .slice (some ⟨g, 0, none⟩) i cap]).run Try.prog W4.drew = .ok (.int .i64 (i : Nat)) W5) ∧
      (∀ W, (Instr.sliceAt ltsT (.slice (some ⟨W3.heap.size, 0, none⟩) M M) (some (.int .i64 (i : Nat))) none none).run Try.prog W = .ok (.slice dp2 (M - i) (M - i)) W) ∧
      (∀ W, (Instr.sliceAt ltsT (.slice (some ⟨g, 0, none⟩) N cap) (some (.int .i64 ((i : Int) + 1))) none none).run Try.prog W = .ok (.slice sp3 (N - (i + 1)) (cap - (i + 1))) W) ∧
      (∀ ty, (Builtin.copy_ #[ltsT, ltsT] ty #[.slice dp2 (M - i) (M - i), .slice sp3 (N - (i + 1)) (cap - (i + 1))]).run Try.prog W5 = .ok (.int .i64 ((M - i : Nat) : Int)) W6) ∧
      Below W3.heap.size W3 W6 ∧ W6.ownsRow W3.heap.size ltT 3 (.slice (some ⟨W3.heap.size, 0, none⟩) M M) M (ltFlat (T.take i ++ T.drop (i + 1))) ∧ (∀ q, q < W3.heap.size → W4.drew.heap[q]? = W3.heap[q]?) ∧ ∀ q, q < W3.heap.size → W5.heap[q]? = W3.heap[q]? := by
  have hC := cut_cells T i M (by omega) hi
  generalize ltFlat (T.take i) = A at hC
  generalize ltFlat (T.drop (i + 1)) = B at hC
  obtain ⟨ii, hii1, hii2, hii3, hii4⟩ := info_parts infoLt
  have hsz3 : (Try.prog.info? ltT).map (·.size) = some 3 := by rw [hii1]; simp [hii3]
  have hNM : (N : Int) - 1 = (M : Int) := by omega
  obtain ⟨hcapN, hgl⟩ : N ≤ cap ∧ g < W3.heap.size := by
    refine ⟨?_, (ho.lt g rfl).2⟩
    rcases ho.2 with ⟨h0, _⟩ | ⟨g', cap', cur, hv, _, _, hle, _⟩
    · cases h0
    · simp only [Value.slice.injEq, Option.some.injEq, Addr.mk.injEq, true_and, and_true] at hv; omega
  obtain ⟨W4, hmk, ho4, hg4⟩ := run_makeSlice_full (P := Try.prog) (w := W3) W3.heap.size ltsT ltT ii _ 3 Try.underlying46 hii1 hii2 hii3 .i64 .i64 M (by omega) (by rw [hii4]; omega) (by unfold maxLen; omega) (Nat.le_refl _)
  obtain ⟨cur, hcur, lcur⟩ : ∃ cur : List Value, W4.heap[W3.heap.size]? = some (.cells cur.toArray ltT (0, 0)) ∧ cur.length = M * 3 := by
    rcases ho4.2 with ⟨h0, _⟩ | ⟨g', cap', cu, hv, _, hh, _, _, hsz, _⟩
    · cases h0
    · simp only [Value.slice.injEq, Option.some.injEq, Addr.mk.injEq, true_and, and_true] at hv
      obtain ⟨rfl, rfl⟩ := hv
      exact ⟨cu.toList, by simpa using hh, by simpa using hsz⟩
  have ho4' : W4.drew.ownsRow base ltT 3 (.slice (some ⟨g, 0, none⟩) N cap) N (ltFlat T) := ho.kept (grown_drew hg4) (.inr (by simp [Value.ownBlock]))
  obtain ⟨W5, hcp1, hb5, hg5⟩ := run_copyk (P := Try.prog) W4.drew ltsT ltsT ltT 3 W3.heap.size 0 M M (some ⟨W3.heap.size, 0, none⟩) (some ⟨g, 0, none⟩) i cap i cur ltT A Try.underlying46 hsz3 hcur (Nat.min_eq_left hi) hC.lA
    (fun _ => ⟨rfl, _, rfl, fun j v hv => ho4'.cells rfl j v (by have := hC.inA j v hv; rwa [Nat.zero_add] at this)⟩) (by rw [hC.lA, lcur]; omega) hC.one.1
  have ho5 : W5.ownsRow base ltT 3 (.slice (some ⟨g, 0, none⟩) N cap) N (ltFlat T) := ho4'.kept hg5 (.inr (by simp [Value.ownBlock]; omega))
  have hs2 := fun W => run_slice_sl (P := Try.prog) (w := W) Try.underlying46 hsz3 (some ⟨W3.heap.size, 0, none⟩) M M (some (.int .i64 (i : Nat))) none i M (.inl rfl) (.inr ⟨rfl, rfl⟩) hi (Nat.le_refl _)
  have hs3 := fun W => run_slice_sl (P := Try.prog) (w := W) Try.underlying46 hsz3 (some ⟨g, 0, none⟩) N cap (some (.int .i64 ((i + 1 : Nat) : Int))) none (i + 1) N (.inl rfl) (.inr ⟨rfl, rfl⟩) (by omega) hcapN
  have hs1 := fun W => run_slice_sl (P := Try.prog) (w := W) Try.underlying46 hsz3 (some ⟨g, 0, none⟩) N cap none (some (.int .i64 (i : Nat))) 0 i (.inr ⟨rfl, rfl⟩) (.inl rfl) (Nat.zero_le _) (by omega)
  obtain ⟨dp2, hdp2⟩ : ∃ dp2, dp2 = (if M = i then (some ⟨W3.heap.size, 0, none⟩ : Option Addr) else (some ⟨W3.heap.size, 0, none⟩ : Option Addr).map (·.add (i * 3))) := ⟨_, rfl⟩
  obtain ⟨sp3, hsp3⟩ : ∃ sp3, sp3 = (if cap = i + 1 then (some ⟨g, 0, none⟩ : Option Addr) else (some ⟨g, 0, none⟩ : Option Addr).map (·.add ((i + 1) * 3))) := ⟨_, rfl⟩
  rw [← hdp2] at hs2
  rw [← hsp3] at hs3
  obtain ⟨W6, hcp2, hb6, hg6⟩ := run_copyk (P := Try.prog) W5 ltsT ltsT ltT 3 W3.heap.size (i * 3) (M - i) (M - i) dp2 sp3 (N - (i + 1)) (cap - (i + 1)) (M - i) (splice cur 0 A) ltT B Try.underlying46 hsz3 hb5 (Nat.min_eq_right (by omega)) hC.lB
    (fun hp => ⟨by rw [hdp2, if_neg (by omega)]; simp [Addr.add_none], ⟨g, (i + 1) * 3, none⟩, by rw [hsp3, if_neg (by omega)]; simp [Addr.add_none], fun j v hv => by
      have := ho5.cells rfl ((i + 1) * 3 + j) v (hC.inB j v hv)
      rw [Addr.add_none] at this ⊢
      simpa using this⟩) (by rw [length_splice _ _ _ (by rw [hC.lA, lcur]; omega), hC.lB, lcur]; omega) hC.one.2
  refine ⟨W4, W5, W6, dp2, sp3, by rw [hNM]; exact hmk, fun W => by rw [hs1 W]; simp [Addr.add_none], hcp1, hs2, fun W => by have := hs3 W; simpa using this, hcp2, ?_, ?_⟩
  · have b4 : Below W3.heap.size W3 W4 := ⟨hg4.os, hg4.tape, hg4.output, hg4.size, fun q hq => hg4.block q hq (by simp)⟩
    have b5 : Below W3.heap.size W3 W5 := below_grown b4.drew hg5 (Nat.le_refl _) b4.size
    exact below_grown b5 hg6 (Nat.le_refl _) b5.size
  · have e1 : splice (splice cur 0 A) (i * 3) B = A ++ B := by
      rw [← hC.lA]
      exact splice_two cur A B (by rw [lcur, hC.lA, hC.lB]; omega)
    rw [e1] at hb6
    rw [hC.both]
    refine ⟨⟨by rw [List.length_append, hC.lA, hC.lB]; omega, .inr ⟨W3.heap.size, M, (A ++ B).toArray, rfl, Nat.le_refl _, hb6, Nat.le_refl _, by unfold maxLen; omega, by simp [hC.lA, hC.lB]; omega, ?_⟩⟩, fun q hq => hg4.block q hq (by simp), fun q hq => (hg5.block q (Nat.lt_of_lt_of_le hq hg4.size) (by simp; omega)).trans (hg4.block q hq (by simp))⟩
    rw [List.take_of_length_le]
    simp [hC.lA, hC.lB]; omega
theorem ldSl {W : World} {b o : Nat} {ao : Option Addr} {n cap : Nat} (h : W.cell? ⟨b, o, none⟩ = some (.slice ao n cap)) : (Instr.loadAt ltsT (.pointer (some ⟨b, o, none⟩))).run Try.prog W = .ok (.slice ao n cap) W := by go_simp
theorem ldLt {W : World} {b : Nat} {u0 u1 u2 : Value} (h : W.heap[b]? = some (.cells #[u0, u1, u2] ltT (0, 0))) : (Instr.loadAt ltT (.pointer (some ⟨b, 0, none⟩))).run Try.prog W = .ok (.agg #[u0, u1, u2]) W := by
  have p0 := block_cell h 0
  have p1 := block_cell h 1
  have p2 := block_cell h 2
  simp at p0 p1 p2
  go_simp
/-! operations of a drawn region, whose runs are known -/
theorem sl_hi {P : Program} {T : TypeId} {v a c : Value} {W : World} {ρ : Operand → Value} {o : Oper} {x z : Operand} (ho : o.op = .slice T x none (some z) none) (h : (Instr.sliceAt T a none (some c) none).run P W = .ok v W) (hx : ρ x = a) (hz : ρ z = c) : (execOp ρ o).run P W = .ok (.value v) W := by
  unfold execOp
  simp [ho, hx, hz, h]
theorem sl_lo {P : Program} {T : TypeId} {v a b : Value} {W : World} {ρ : Operand → Value} {o : Oper} {x y : Operand} (ho : o.op = .slice T x (some y) none none) (h : (Instr.sliceAt T a (some b) none none).run P W = .ok v W) (hx : ρ x = a) (hy : ρ y = b) : (execOp ρ o).run P W = .ok (.value v) W := by
  unfold execOp
  simp [ho, hx, hy, h]
theorem bin_take {P : Program} {op : BinOp} {T U : TypeId} {v a b : Value} {W : World} {ρ : Operand → Value} {o : Oper} {x y : Operand} (ho : o.op = .binOp op T x y U) (hg : (eqGuard op T x y a b).run P W = .ok () W) (h : (binOp op T a b).run P W = .ok v W) (hx : ρ x = a) (hy : ρ y = b) : (execOp ρ o).run P W = .ok (.value v) W := by
  unfold execOp
  simp [ho, hx, hy, h, hg, Result.andThen]
theorem wrap_s (i : Nat) (h : i ≤ 10000) : IntKind.i64.wrap ((i : Int) + 1) = (i : Int) + 1 := by simp [IntKind.wrap, IntKind.signed, IntKind.bits]; omega
theorem add_one (i : Nat) (h : i ≤ 10000) (V : World) : (binOp .add 3 (.int .i64 (i : Nat)) (.int .i64 1)).run Try.prog V = .ok (.int .i64 ((i : Int) + 1)) V := by
  have := wrap_s i h
  go_simp
theorem cp_wpo {P : Program} {W W' : World} {o : Oper} {a : Act} {K : Act → World → Prop} {Q : Exit → Act → World → Prop} {d s : Operand} {t t' : TypeId} (ho : o.op = .call { callee := .builtin .copy, args := #[d, s], argTypes := #[t, t'] }) {v u x : Value} (hd : a.eval d = v) (hs : a.eval s = u)
    (hr : (Builtin.copy_ #[t, t'] o.type #[v, u]).run P W = .ok x W') (h : K (a.put o.dst x) W') : o.wp P a W K Q := by
  unfold Oper.wp execOp
  simp only [ho, resolve, invoke, builtin, Sem.run_bind, Sem.run_pure, Result.andThen_ok, List.map_toArray, List.map_cons, List.map_nil, hd, hs, hr]
  exact h
/-- the bag's row is another one now -/
theorem bg_setrow {base : Nat} {W : World} {b m n room : Nat} {T : Int → Bool} {v : Value} {ao : Option Addr} {cap : Nat} {l : List Lt} (h1 : W.heap[b]? = some (.cells #[.int .i64 (room : Nat), .map (some m), v] bgT (0, 0)))
    (ho : W.ownsRow base ltT 3 (.slice ao l.length cap) l.length (ltFlat l)) (h3 : Ap W m n T) (hn : n ≤ 1000) (h4 : ∀ x ∈ l, LtOk W x) (hb : base ≤ b) (hm : base ≤ m) (hl : l.length ≤ room) (hr : room ≤ 512) :
    Bg base (W.setCell ⟨b, 2, none⟩ (.slice ao l.length cap)) (fun i => i = b ∨ i = m ∨ (Value.slice ao l.length cap).ownBlock = some i) b room T l := by
  have hg := grown_set W b 2 (.slice ao l.length cap)
  have hx := block_set h1 2 (.slice ao l.length cap)
  simp only [List.setIfInBounds_toArray, List.set_cons_zero, List.set_cons_succ] at hx
  have hne : m ≠ b := fun e => h3.elem bgT (by rw [e]; exact elem?_of h1)
  have hnr : ∀ g, (Value.slice ao l.length cap).ownBlock = some g → g ≠ b := fun g hg2 e => by
    have := own_elemL ho g hg2
    rw [e, elem?_of h1] at this
    exact absurd this (by decide)
  refine ⟨m, n, ao, cap, hx, own_gr ho (Gr.one (F := fun i => i = b) hg (fun i e => (Option.some.inj e).symm)) hnr, ⟨h3.kept (hg.block m h3.lt (fun e => hne (Option.some.inj e))), hn⟩, fun x hx2 => ⟨(h4 x hx2).dat.grown hg (elem?_of h1) (by decide), (h4 x hx2).fit⟩, fun i => Iff.rfl, hb, hm, hl, hr⟩
end Go.Proofs.Ytbmkgcoolofmpaa
namespace Go.Proofs.Ytbmkgcoolofmpaa
set_option linter.unusedVariables false
set_option linter.unusedSimpArgs false
set_option linter.unusedSectionVars false
open Go
section
variable {P : Program} {ops : Array Oper} {Q : Exit → Act → World → Prop} {md : Region.Mode} {S : World → Prop} {k : Nat}
/-- whatever order; S holds till number k has come up -/
def wpLate (P : Program) (md : Region.Mode) (ops : Array Oper) (Q : Exit → Act → World → Prop) (S : World → Prop) (k : Nat) : Nat → Array Bool → Act → World → Prop
  | 0, L, a, w => Region.ready md ops L = [] ∧ Q .normal a w
  | n + 1, L, a, w => (Region.ready md ops L = [] → Q .normal a w) ∧
      ∀ i ∈ Region.ready md ops L, wpOp P ops Q i (fun a' w' => ((L.setIfInBounds i true).getD k true = false → S w') ∧ wpLate P md ops Q S k n (L.setIfInBounds i true) a' w') a w
theorem wpAny_of_late : ∀ (n : Nat) (L : Array Bool) (a : Act) (w : World), wpLate P md ops Q S k n L a w → wpAny P md ops Q n L a w
  | 0, _, _, _, h => h
  | n + 1, L, _, _, h => ⟨h.1, fun i hi => wpOp_mono (fun a' w' h' => wpAny_of_late n _ a' w' h'.2) (h.2 i hi)⟩
theorem getD_back {L : Array Bool} {i j : Nat} (h : (L.setIfInBounds i true).getD j true = false) : L.getD j true = false := by
  by_cases e : i = j
  · subst e
    simp only [Array.getD_eq_getD_getElem?, Array.getElem?_setIfInBounds_self] at h
    split at h <;> simp at h
  · rwa [getD_set_ne true e] at h
theorem late_first {S0 : World → Prop} {U : Array Bool → Prop} {i : Nat} {oi : Oper} {v : Value} (hi : ops[i]? = some oi) (hsel : ∀ (j : Nat) (o : Oper) cs b, ops[j]? = some o → o.op ≠ .select cs b)
    (hQ : ∀ c a w, Q (.panic c) (a.put oi.dst v) w → Q (.panic c) a w) (hik : i ≠ k)
    (hU : ∀ L j, U L → i ∈ Region.ready md ops L → j ∈ Region.ready md ops L → j ≠ i → U (L.setIfInBounds j true))
    (hS0 : ∀ L w', U L → (L.getD k true = false → S w') → S0 w') :
    ∀ (n : Nat) (L : Array Bool) (a : Act) (w : World),
      (∀ j oj, ops[j]? = some oj → j ≠ i → L.getD j true = false → (∀ e ∈ oj.after, Region.binds md e = true → e.on ≠ i) → oi.apart ops oj = true) →
      i ∈ Region.ready md ops L → U L → YieldsIf P ops S0 oi v a → (L.getD k true = false → S w) →
      wpLate P md ops Q S k n (L.setIfInBounds i true) (a.put oi.dst v) w → wpLate P md ops Q S k (n + 1) L a w
  | 0, L, a, w => fun _ hr hu hy hS H => by
    refine ⟨fun h => (by rw [h] at hr; cases hr), fun j hj => ?_⟩
    rcases Nat.decEq j i with e | e
    · have := ready_mono hj e
      rw [H.1] at this
      cases this
    · subst e
      exact hy.wpOp hi (hS0 L w hu hS) ⟨fun h => hS (getD_back h), H⟩
  | n + 1, L, a, w => fun hap hr hu hy hS H => by
    refine ⟨fun h => (by rw [h] at hr; cases hr), fun j hj => ?_⟩
    rcases Nat.decEq j i with e | e
    · obtain ⟨hjl, oj, hoj, hjall⟩ := mem_ready.1 hj
      have hnw : ∀ d ∈ oj.after, Region.binds md d = true → d.on ≠ i := fun d hd hb heq => by
        have h1 := hjall d hd hb
        have h0 := (mem_ready.1 hr).1
        rw [heq] at h1
        simp only [Array.getD_eq_getD_getElem?] at h0 h1
        cases hx : L[i]? with
        | none => rw [hx] at h1; cases h1
        | some x => rw [hx] at h0 h1; simp only [Option.getD_some] at h0 h1; rw [h0] at h1; cases h1
      have hrest := wpOp_putIf hoj (hap j oj hoj e hjl hnw) (fun cs b => hsel i oi cs b hi) (fun cs b => hsel j oj cs b hoj) hQ hy (H.2 j (ready_mono hj e))
      have hu' := hU L j hu hr hj e
      refine wpOp_mono (fun a' w' hp => ?_) hrest
      obtain ⟨hy', hc, hW⟩ := hp
      have hc' : (L.setIfInBounds j true).getD k true = false → S w' := fun h => hc (by rw [Array.setIfInBounds_comm _ _ (Ne.symm e), getD_set_ne true hik]; exact h)
      refine ⟨hc', late_first hi hsel hQ hik hU hS0 n (L.setIfInBounds j true) a' w' (fun m om hom hmi hml hno => hap m om hom hmi (getD_back hml) hno) (ready_mono hr (Ne.symm e)) hu' hy' hc' ?_⟩
      rw [Array.setIfInBounds_comm _ _ e]
      exact hW
    · subst e
      exact hy.wpOp hi (hS0 L w hu hS) ⟨fun h => hS (getD_back h), H⟩
/-- each of the row waits for the one ahead of it -/
def waitsB (md : Region.Mode) (ops : Array Oper) : Nat → List Nat → Bool
  | _, [] => true
  | p, m :: c => (match ops[m]? with | some o => o.after.toList.any (fun e => Region.binds md e && e.on == p) | none => false) && waitsB md ops m c
theorem waits_out {j : Nat} {L : Array Bool} (hj : j ∈ Region.ready md ops L) : ∀ (c : List Nat) (p : Nat), waitsB md ops p c = true → L.getD p true = false → (∀ m ∈ c, L.getD m true = false) → ∀ m ∈ c, j ≠ m
  | [], _, _, _, _ => fun m hm => by cases hm
  | m :: c, p, hw, hp, hc => fun x hx => by
    unfold waitsB at hw
    simp only [Bool.and_eq_true] at hw
    rcases List.mem_cons.1 hx with rfl | hx
    · intro e
      subst e
      obtain ⟨-, oj, hoj, hall⟩ := mem_ready.1 hj
      rw [hoj] at hw
      simp only [List.any_eq_true, Bool.and_eq_true, beq_iff_eq] at hw
      obtain ⟨⟨d, hd, hb, hon⟩, -⟩ := hw
      have h1 := hall d (Array.mem_toList_iff.1 hd) hb
      rw [hon] at h1
      simp only [Array.getD_eq_getD_getElem?] at hp h1
      cases hx : L[p]? with
      | none => rw [hx] at h1; cases h1
      | some y => rw [hx] at hp h1; simp only [Option.getD_some] at hp h1; rw [hp] at h1; cases h1
    · exact waits_out hj c m hw.2 (hc m (List.mem_cons_self ..)) (fun y hy => hc y (List.mem_cons_of_mem _ hy)) x hx
/-- a load: c is a row of operations from it to the store k, each waiting for the one ahead -/
theorem wpLate_take (c : List Nat) {i : Nat} {oi : Oper} {v : Value} {n : Nat} {L : Array Bool} {a : Act} {w : World} (hi : ops[i]? = some oi)
    (hs : Region.noSelect ops = true) (hf : Region.free md ops L i = true) (hr : (Region.ready md ops L).contains i = true) (hik : (i == k) = false)
    (hc : (waitsB md ops i c && c.contains k && c.all (fun m => L.getD m true == false)) = true)
    (hQ : ∀ c a w, Q (.panic c) (a.put oi.dst v) w → Q (.panic c) a w) (hy : YieldsIf P ops S oi v a) (hS : S w)
    (h : wpLate P md ops Q S k n (L.setIfInBounds i true) (a.put oi.dst v) w) : wpLate P md ops Q S k (n + 1) L a w := by
  simp only [Bool.and_eq_true, List.all_eq_true, beq_iff_eq] at hc
  obtain ⟨⟨h1, h2⟩, h3⟩ := hc
  have hk : k ∈ c := by simpa using h2
  have hr2 : i ∈ Region.ready md ops L := by simpa using hr
  refine late_first (S0 := S) (U := fun L => ∀ m ∈ c, L.getD m true = false) hi (Region.noSelect_spec hs) hQ (by simpa using hik) ?_ (fun L w' hu hS => hS (hu k hk)) n L a w (Region.free_spec hi hf) hr2 h3 hy (fun _ => hS) h
  intro L j hu hri hrj hji m hm
  have hne := waits_out hrj c i h1 (mem_ready.1 hri).1 hu m hm
  rw [getD_set_ne true hne]
  exact hu m hm
/-- what yields in whatever world -/
theorem wpLate_pure {i : Nat} {oi : Oper} {v : Value} {n : Nat} {L : Array Bool} {a : Act} {w : World} (hi : ops[i]? = some oi)
    (hs : Region.noSelect ops = true) (hf : Region.free md ops L i = true) (hr : (Region.ready md ops L).contains i = true) (hik : (i == k) = false)
    (hQ : ∀ c a w, Q (.panic c) (a.put oi.dst v) w → Q (.panic c) a w) (hy : YieldsIf P ops (fun _ => True) oi v a) (hS : L.getD k true = false → S w)
    (h : wpLate P md ops Q S k n (L.setIfInBounds i true) (a.put oi.dst v) w) : wpLate P md ops Q S k (n + 1) L a w :=
  late_first (S0 := fun _ => True) (U := fun _ => True) hi (Region.noSelect_spec hs) hQ (by simpa using hik) (fun _ _ _ _ _ _ => trivial) (fun _ _ _ _ => trivial) n L a w (Region.free_spec hi hf) (by simpa using hr) trivial hy hS h
def AllLate (P : Program) (md : Region.Mode) (ops : Array Oper) (Q : Exit → Act → World → Prop) (S : World → Prop) (k n : Nat) (L : Array Bool) (a : Act) (w : World) (rs : List Nat) : Prop :=
  ∀ i ∈ rs, wpOp P ops Q i (fun a' w' => ((L.setIfInBounds i true).getD k true = false → S w') ∧ wpLate P md ops Q S k n (L.setIfInBounds i true) a' w') a w
theorem AllLate.nil {n : Nat} {L : Array Bool} {a : Act} {w : World} : AllLate P md ops Q S k n L a w [] := fun _ h => by cases h
theorem AllLate.cons {n : Nat} {L : Array Bool} {a : Act} {w : World} {i : Nat} {o : Oper} {rs : List Nat} (ho : ops[i]? = some o)
    (h : ∀ K' : Act → World → Prop, Shut (∀ a w, S w → (S w → wpLate P md ops Q S k n (L.setIfInBounds i true) a w) → K' a w) → if Region.wanted o (yielded ops a.tmps) = true then Oper.wp P o a w K' Q else K' (a.put o.dst undef) w)
    (hs : AllLate P md ops Q S k n L a w rs) : AllLate P md ops Q S k n L a w (i :: rs) := fun j hj => by
  rcases List.mem_cons.1 hj with rfl | hj
  · exact wpOp_step ho (fun K' hK => h K' (fun a w hS hW => hK a w ⟨fun _ => hS, hW hS⟩))
  · exact hs j hj
/-- the store itself -/
theorem AllLate.store {n : Nat} {L : Array Bool} {a : Act} {w : World} {o : Oper} (ho : ops[k]? = some o)
    (h : ∀ K' : Act → World → Prop, Shut (∀ a w, wpLate P md ops Q S k n (L.setIfInBounds k true) a w → K' a w) → if Region.wanted o (yielded ops a.tmps) = true then Oper.wp P o a w K' Q else K' (a.put o.dst undef) w) : AllLate P md ops Q S k n L a w [k] := fun j hj => by
  rcases List.mem_cons.1 hj with rfl | hj
  · refine wpOp_step ho (fun K' hK => h K' (fun a w hW => hK a w ⟨fun e => ?_, hW⟩))
    exfalso
    simp only [Array.getD_eq_getD_getElem?, Array.getElem?_setIfInBounds_self] at e
    split at e <;> simp at e
  · cases hj
theorem wpLate_ready {rs : List Nat} {n : Nat} {L : Array Bool} {a : Act} {w : World} (hr : Region.ready md ops L = rs) (hne : rs ≠ [])
    (h : AllLate P md ops Q S k n L a w rs) : wpLate P md ops Q S k (n + 1) L a w := ⟨fun h0 => absurd (hr ▸ h0) hne, hr ▸ h⟩
theorem wpLate_done {L : Array Bool} {a : Act} {w : World} (hr : Region.ready md ops L = []) (h : Q .normal a w) : ∀ n, wpLate P md ops Q S k n L a w
  | 0 => ⟨hr, h⟩
  | _ + 1 => ⟨fun _ => h, by rw [hr]; simp⟩
theorem wp_region_late (k : Nat) {id : Nat} {a : Act} {w : World} (hm : P.follows .mixedOrders = true) (hS : S w.drew)
    (h : S w.drew → wpLate P .any ops Q S k ops.size (Array.replicate ops.size false) a w.drew) : (Code.region id ops true).wp P Q a w :=
  wp_region_any hm (wpAny_of_late _ _ _ _ (h hS))
end
end Go.Proofs.Ytbmkgcoolofmpaa
