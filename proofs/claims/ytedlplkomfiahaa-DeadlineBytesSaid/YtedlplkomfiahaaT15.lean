/- Lemmas for DeadlineBytes (Xj). No statement of the seat is proved here. -/
import Derived.Test.YtedlplkomfiahaaT14
namespace Go.Proofs.Ytedlplkomfiahaa
set_option linter.unusedVariables false
set_option linter.unusedSimpArgs false
set_option linter.unusedSectionVars false
open Go Go.RowKit Go.Maps
abbrev wpT : TypeId := 59
abbrev i64T : TypeId := 2
/-- the wheel in a turn, and what the closure shares with it -/
structure Tst (B : Nat) (W : World) (F : Nat → Prop) (G : Nat → Nat → Prop) (w : Nat) (b : Int) (rs : Nat → Nat) (pf mf n : Nat) (R : Nat → RLs) (far : List Th) (cT cL cW : Nat) (ao : Option Addr) (cap : Nat) (late : List Th) : Prop where
  wh : Whm W F G w b rs pf mf n R far
  tc : W.heap[cT]? = some (.cells #[.int .i64 b] i64T (0, 0))
  lc : W.heap[cL]? = some (.cells #[.slice ao late.length cap] thsT (0, 0))
  wc : W.heap[cW]? = some (.cells #[.pointer (some ⟨w, 0, none⟩)] wpT (0, 0))
  row : W.ownsRow B thT 3 (.slice ao late.length cap) late.length (thFlat late)
  out : ¬ F cT ∧ ¬ F cL ∧ ¬ F cW ∧ ∀ g, (Value.slice ao late.length cap).ownBlock = some g → ¬ F g
  base : B ≤ cT ∧ B ≤ cL ∧ B ≤ cW ∧ B ≤ W.heap.size
/-- what the closure may write -/
def Foot (F : Nat → Prop) (cL : Nat) (ao : Option Addr) (i : Nat) : Prop := F i ∨ i = cL ∨ ∃ a, ao = some a ∧ a.block = i
section
variable {B : Nat} {W W' : World} {F : Nat → Prop} {G : Nat → Nat → Prop} {w : Nat} {b : Int} {rs : Nat → Nat} {pf mf n : Nat} {R : Nat → RLs} {far : List Th} {cT cL cW : Nat} {ao : Option Addr} {cap : Nat} {late : List Th}
theorem own_ao {n : Nat} {i : Nat} (e : (Value.slice ao n cap).ownBlock = some i) : ∃ a, ao = some a ∧ a.block = i := by
  cases ao with
  | none => cases e
  | some a => simp only [Value.ownBlock, Option.some.injEq] at e; exact ⟨a, rfl, e⟩
theorem row_elem {base : Nat} {v : Value} {l : List Th} (h : W.ownsRow base thT 3 v l.length (thFlat l)) {g : Nat} (hg : v.ownBlock = some g) : ∃ cs, W.heap[g]? = some (.cells cs thT (0, 0)) :=
  TR.elem (F := fun _ => True) ⟨own_base h (Nat.zero_le _), fun _ _ => trivial⟩ hg
theorem Tst.ne (h : Tst B W F G w b rs pf mf n R far cT cL cW ao cap late) : cT ≠ cL ∧ cW ≠ cL ∧ ∀ g, (Value.slice ao late.length cap).ownBlock = some g → g ≠ cT ∧ g ≠ cL ∧ g ≠ cW := by
  refine ⟨fun e => ?_, fun e => ?_, fun g hg => ?_⟩
  · have a := h.tc; rw [e, h.lc] at a
    simp only [Option.some.injEq, Obj.cells.injEq] at a
    exact absurd a.2.1 (by decide)
  · have a := h.wc; rw [e, h.lc] at a
    simp only [Option.some.injEq, Obj.cells.injEq] at a
    exact absurd a.2.1 (by decide)
  · obtain ⟨cs, hc⟩ := row_elem h.row hg
    refine ⟨fun e => ?_, fun e => ?_, fun e => ?_⟩
    · have a := h.tc; rw [← e, hc] at a
      simp only [Option.some.injEq, Obj.cells.injEq] at a
      exact absurd a.2.1 (by decide)
    · have a := h.lc; rw [← e, hc] at a
      simp only [Option.some.injEq, Obj.cells.injEq] at a
      exact absurd a.2.1 (by decide)
    · have a := h.wc; rw [← e, hc] at a
      simp only [Option.some.injEq, Obj.cells.injEq] at a
      exact absurd a.2.1 (by decide)
theorem Tst.lt (h : Tst B W F G w b rs pf mf n R far cT cL cW ao cap late) : cT < W.heap.size ∧ cL < W.heap.size ∧ cW < W.heap.size :=
  ⟨(Array.getElem?_eq_some_iff.1 h.tc).1, (Array.getElem?_eq_some_iff.1 h.lc).1, (Array.getElem?_eq_some_iff.1 h.wc).1⟩
/-- the wheel has changed, the closure's cells have not -/
theorem Tst.turned {F' : Nat → Prop} {G' : Nat → Nat → Prop} {rs' : Nat → Nat} {pf' mf' n' : Nat} {R' : Nat → RLs} {far' : List Th} (h : Tst B W F G w b rs pf mf n R far cT cL cW ao cap late) (hw : Whm W' F' G' w b rs' pf' mf' n' R' far') (hg : Gr F W W') (hF : ∀ i, F' i → F i ∨ W.heap.size ≤ i) :
    Tst B W' F' G' w b rs' pf' mf' n' R' far' cT cL cW ao cap late := by
  obtain ⟨l1, l2, l3⟩ := h.lt
  obtain ⟨o1, o2, o3, o4⟩ := h.out
  have no : ∀ i, i < W.heap.size → ¬ F i → ¬ F' i := fun i hi hn e => (hF i e).elim hn (fun x => by omega)
  refine ⟨hw, (hg.block _ l1 o1).trans h.tc, (hg.block _ l2 o2).trans h.lc, (hg.block _ l3 o3).trans h.wc, ?_, ⟨no _ l1 o1, no _ l2 o2, no _ l3 o3, fun g hgb => no g (h.row.lt g hgb).2 (o4 g hgb)⟩, h.base.1, h.base.2.1, h.base.2.2.1, Nat.le_trans h.base.2.2.2 hg.size⟩
  refine ⟨h.row.1, ?_⟩
  rcases h.row.2 with hn | ⟨g, c1, cur, e, hb, hh, rest⟩
  · exact .inl hn
  · have hgb : (Value.slice ao late.length cap).ownBlock = some g := by rw [e]; rfl
    exact .inr ⟨g, c1, cur, e, hb, (hg.block g (h.row.lt g hgb).2 (o4 g hgb)).trans hh, rest⟩
theorem Tst.below (h : Tst B W F G w b rs pf mf n R far cT cL cW ao cap late) (hb : Below W.heap.size W W') : Tst B W' F G w b rs pf mf n R far cT cL cW ao cap late :=
  h.turned (h.wh.below hb) (Gr.below hb) fun i hi => .inl hi
/-- one more is late -/
theorem Tst.add {w4 : World} {g c4 : Nat} {t : Th} (h : Tst B W F G w b rs pf mf n R far cT cL cW ao cap late) (hg : W.grownBy w4 (Value.slice ao late.length cap).ownBlock)
    (hown : w4.ownsRow B thT 3 (.slice (some ⟨g, 0, none⟩) (late.length + 1) c4) (late.length + 1) (thFlat (late ++ [t]))) (hlie : (Value.slice ao late.length cap).ownBlock = some g ∨ W.heap.size ≤ g) :
    Tst B (w4.setCell ⟨cL, 0, none⟩ (.slice (some ⟨g, 0, none⟩) (late.length + 1) c4)) F G w b rs pf mf n R far cT cL cW (some ⟨g, 0, none⟩) c4 (late ++ [t]) ∧ Gr (Foot F cL ao) W (w4.setCell ⟨cL, 0, none⟩ (.slice (some ⟨g, 0, none⟩) (late.length + 1) c4)) ∧ ∀ i, Foot F cL (some ⟨g, 0, none⟩) i → Foot F cL ao i ∨ W.heap.size ≤ i := by
  obtain ⟨l1, l2, l3⟩ := h.lt
  obtain ⟨o1, o2, o3, o4⟩ := h.out
  obtain ⟨n1, n2, n3⟩ := h.ne
  obtain ⟨b1, b2, b3, b4⟩ := h.base
  have hgne : g ≠ cL := by
    rcases hlie with e | e
    · exact (n3 g e).2.1
    · omega
  have hblk : ∀ i, i < W.heap.size → (Value.slice ao late.length cap).ownBlock ≠ some i → w4.heap[i]? = W.heap[i]? := fun i hi hn => hg.block i hi (fun e => hn e.symm)
  have hcL : w4.heap[cL]? = some (.cells #[.slice ao late.length cap] thsT (0, 0)) := (hblk cL l2 (fun e => (n3 cL e).2.1 rfl)).trans h.lc
  have hst := block_set hcL 0 (.slice (some ⟨g, 0, none⟩) (late.length + 1) c4)
  simp only [List.setIfInBounds_toArray, List.set_cons_zero] at hst
  have hoth : ∀ i, i ≠ cL → (w4.setCell ⟨cL, 0, none⟩ (.slice (some ⟨g, 0, none⟩) (late.length + 1) c4)).heap[i]? = w4.heap[i]? := fun i hi => heap_setCell_other w4 ⟨cL, 0, none⟩ i _ hi
  have hgs := grown_set w4 cL 0 (.slice (some ⟨g, 0, none⟩) (late.length + 1) c4)
  have hsz := Nat.le_trans hg.size hgs.size
  have hrow := hown.kept hgs (.inr (fun e => by simp only [Value.ownBlock, Option.some.injEq] at e; exact hgne e))
  have hF : ∀ i, F i → (w4.setCell ⟨cL, 0, none⟩ (.slice (some ⟨g, 0, none⟩) (late.length + 1) c4)).heap[i]? = W.heap[i]? := fun i hi =>
    (hoth i (fun e => o2 (e ▸ hi))).trans (hblk i (h.wh.bd i hi) (fun e => o4 i e hi))
  have e1 : (late ++ [t]).length = late.length + 1 := by simp
  refine ⟨⟨h.wh.kept hsz hF, ((hoth cT n1).trans (hblk cT l1 (fun e => (n3 cT e).1 rfl))).trans h.tc, ?_, ((hoth cW n2).trans (hblk cW l3 (fun e => (n3 cW e).2.2 rfl))).trans h.wc, ?_, ⟨o1, o2, o3, fun q hq => ?_⟩, b1, b2, b3, Nat.le_trans b4 hsz⟩, ?_, ?_⟩
  · rw [e1]; exact hst
  · rw [e1]; exact hrow
  · simp only [Value.ownBlock, Option.some.injEq] at hq
    subst hq
    intro hFg
    rcases hlie with e | e
    · exact o4 g e hFg
    · have := h.wh.bd g hFg; omega
  · refine ⟨hgs.os.trans hg.os, hgs.tape.trans hg.tape, hgs.output.trans hg.output, hsz, fun i hi hn => ?_⟩
    have hne : i ≠ cL := fun e => hn (.inr (.inl e))
    exact (hoth i hne).trans (hblk i hi (fun e => hn (.inr (.inr (own_ao e)))))
  · intro i hi
    rcases hi with e | e | ⟨x, e, e2⟩
    · exact .inl (.inl e)
    · exact .inl (.inr (.inl e))
    · simp only [Option.some.injEq] at e
      subst e
      simp only at e2
      subst e2
      exact hlie.imp (fun e3 => .inr (.inr (own_ao e3))) id
theorem Tst.ne_row {base : Nat} {v : Value} {m : List Th} (h : Tst B W F G w b rs pf mf n R far cT cL cW ao cap late) (hr : W.ownsRow base thT 3 v m.length (thFlat m)) {g : Nat} (hg : v.ownBlock = some g) : g ≠ cL := by
  obtain ⟨cs, hc⟩ := row_elem hr hg
  intro e
  have a := h.lc; rw [← e, hc] at a
  simp only [Option.some.injEq, Obj.cells.injEq] at a
  exact absurd a.2.1 (by decide)
theorem Tst.lcAt {w4 : World} (h : Tst B W F G w b rs pf mf n R far cT cL cW ao cap late) (hg : W.grownBy w4 (Value.slice ao late.length cap).ownBlock) : w4.cell? ⟨cL, 0, none⟩ = some (.slice ao late.length cap) ∧ w4.frozen? ⟨cL, 0, none⟩ = false ∧ cL < w4.heap.size := by
  obtain ⟨l1, l2, l3⟩ := h.lt
  obtain ⟨n1, n2, n3⟩ := h.ne
  have hcL : w4.heap[cL]? = some (.cells #[.slice ao late.length cap] thsT (0, 0)) := (hg.block cL l2 (fun e => (n3 cL e.symm).2.1 rfl)).trans h.lc
  have a := block_cell hcL 0
  simp only [List.getElem?_toArray, List.getElem?_cons_zero] at a
  exact ⟨a, block_free hcL 0, Nat.lt_of_lt_of_le l2 hg.size⟩
theorem row_kept {base : Nat} {v : Value} {l : List Th} (h : W.ownsRow base thT 3 v l.length (thFlat l)) (hk : ∀ g, v.ownBlock = some g → W'.heap[g]? = W.heap[g]?) : W'.ownsRow base thT 3 v l.length (thFlat l) := by
  refine ⟨h.1, ?_⟩
  rcases h.2 with hn | ⟨g, cap, cur, rfl, hb, hg, rest⟩
  · exact .inl hn
  · exact .inr ⟨g, cap, cur, rfl, hb, (hk g rfl).trans hg, rest⟩
theorem Gr.after {P Q : Nat → Prop} {W1 W2 : World} (h : Gr P W W1) (h2 : Gr Q W1 W2) (hQ : ∀ i, Q i → P i ∨ W.heap.size ≤ i) : Gr P W W2 := Gr.then h h2 hQ
theorem foot_f {F' : Nat → Prop} (hF : ∀ i, F' i → F i ∨ W.heap.size ≤ i) : ∀ i, Foot F' cL ao i → Foot F cL ao i ∨ W.heap.size ≤ i := fun i hi => by
  rcases hi with e | e | e
  · exact (hF i e).imp .inl id
  · exact .inl (.inr (.inl e))
  · exact .inl (.inr (.inr e))
end
def DownIs (B : Nat) (W : World) (F : Nat → Prop) (w : Nat) (b : Int) (rs : Nat → Nat) (pf mf n : Nat) (R : Nat → RLs) (far : List Th) (cT cL cW : Nat) (ao : Option Addr) (late l : List Th) (W' : World) : Prop :=
  ∃ (F' : Nat → Prop) (G' : Nat → Nat → Prop) (n' : Nat) (ao' : Option Addr) (cap' : Nat), n' ≤ n + l.length ∧ Tst B W' F' G' w b rs pf mf n' (putsR R b l) (putsF far b l) cT cL cW ao' cap' (late ++ lateOf b l) ∧ Gr (Foot F cL ao) W W' ∧ ∀ i, Foot F' cL ao' i → Foot F cL ao i ∨ W.heap.size ≤ i
set_option maxRecDepth 100000 in
set_option maxHeartbeats 4000000 in
theorem down_any (B : Nat) (W : World) (F : Nat → Prop) (G : Nat → Nat → Prop) (w : Nat) (b : Int) (rs : Nat → Nat) (pf mf n : Nat) (R : Nat → RLs) (far : List Th) (cT cL cW : Nat) (ao : Option Addr) (cap : Nat) (late l : List Th) (lo : Option Addr) (lc : Nat)
    (h : Tst B W F G w b rs pf mf n R far cT cL cW ao cap late) (hb : Inst b) (hrow : W.ownsRow B thT 3 (.slice lo l.length lc) l.length (thFlat l)) (hap : ∀ g, (Value.slice lo l.length lc).ownBlock = some g → ¬ F g ∧ (Value.slice ao late.length cap).ownBlock ≠ some g)
    (hok : ∀ t ∈ l, Inst t.due ∧ IdOk t.id) (hids : Ids (Tot R far ++ l)) (hl : l.length ≤ 1000) (hla : late.length ≤ 1000) (hn : n ≤ 900000) :
    Calls Try.prog 86 #[.slice lo l.length lc, .pointer (some ⟨cT, 0, none⟩), .pointer (some ⟨cL, 0, none⟩), .pointer (some ⟨cW, 0, none⟩)] W fun e W' => e = .returned (.tuple #[]) ∧ DownIs B W F w b rs pf mf n R far cT cL cW ao late l W' := by
  have Hh := Lib.hid h
  have Hrow := Lib.hid hrow
  have Hap := Lib.hid hap
  have Hok := Lib.hid hok
  have Hids := Lib.hid hids
  have Hl := Lib.hid hl
  have Hla := Lib.hid hla
  have HN := Lib.hid hn
  clear h hrow hap hok hids hl hla hn
  go_enter Try.func86, Try.ntmps86
  go_wp2_with fail
  go_loopw [9] (fun u wr => ∃ (i : Nat) (F' : Nat → Prop) (G' : Nat → Nat → Prop) (n' : Nat) (ao' : Option Addr) (cap' : Nat), u = .int .i64 (i : Nat) ∧ i ≤ l.length ∧ Hid (n' ≤ n + i) ∧
    Hid (Tst B wr F' G' w b rs pf mf n' (putsR R b (l.take i)) (putsF far b (l.take i)) cT cL cW ao' cap' (late ++ lateOf b (l.take i))) ∧ Hid (Gr (Foot F cL ao) W wr) ∧ Hid (∀ i, Foot F' cL ao' i → Foot F cL ao i ∨ W.heap.size ≤ i) ∧
    Hid (wr.ownsRow B thT 3 (.slice lo l.length lc) l.length (thFlat l)) ∧ Hid (∀ g, (Value.slice lo l.length lc).ownBlock = some g → ¬ F' g ∧ (Value.slice ao' (late ++ lateOf b (l.take i)).length cap').ownBlock ≠ some g)) (fun u _ => l.length - (intOf u).toNat)
  case atStart =>
    refine ⟨0, F, G, n, ao, cap, rfl, Nat.zero_le _, (Nat.le_refl n : n ≤ n), ?_, Gr.refl _ W, (fun i hi => .inl hi : ∀ i, Foot F cL ao i → Foot F cL ao i ∨ W.heap.size ≤ i), Hrow, ?_⟩
    · show Tst B W F G w b rs pf mf n (putsR R b []) (putsF far b []) cT cL cW ao cap (late ++ lateOf b [])
      rw [show late ++ lateOf b [] = late from by simp [lateOf]]
      exact Hh.out
    · show ∀ g, _
      rw [show late ++ lateOf b (l.take 0) = late from by simp [lateOf]]
      exact Hap.out
  case round =>
    obtain ⟨i, F', G', n', ao', cap', rfl, hi, hn, hst, hgr, hF, hrow, hap⟩ := hrel
    by_cases hil : i < l.length
    · obtain ⟨x1, x2⟩ := i_nums i l.length hil
      have hi6 : i < 10000 := by have := Hl.out; omega
      have w1 : wrap64 ((i : Int) + 1) = (i : Int) + 1 := IntWalk.wrap64_in _ (by omega)
      obtain ⟨g, rfl⟩ : ∃ g, lo = some ⟨g, 0, none⟩ := by
        rcases hrow.out.2 with ⟨_, h0⟩ | ⟨g, cap, cur, hv, _⟩
        · omega
        · simp only [Value.slice.injEq] at hv; exact ⟨g, hv.1⟩
      have hsr : SR thT wr wr B g l.length lc l := ⟨hrow.out, World.grownBy.refl _ _, rfl⟩
      obtain ⟨c0, c1, c2⟩ := hsr.cells i hil
      have hgl := hsr.lt
      obtain ⟨t, ht⟩ : ∃ t, t = l[i] := ⟨_, rfl⟩
      have hokt := Hok.out l[i] (List.getElem_mem hil)
      have hnx := puts_apart (b := b) Hids.out i hil
      have htk : l.take (i + 1) = l.take i ++ [t] := by rw [ht]; exact (List.take_append_getElem hil).symm
      rw [← ht] at c0 c1 c2 hokt hnx
      have Htk := Lib.hid htk
      have Hnx := Lib.hid hnx
      have Hi := Lib.hid hil
      have Hokt := Lib.hid hokt
      obtain ⟨ti, tg, td⟩ := t
      obtain ⟨W1, hW1⟩ : ∃ W1, W1 = wr.alloc (.cells #[.int .u64 ti, .int .u64 tg, .int .i64 td] thT) := ⟨_, rfl⟩
      obtain ⟨q, hq⟩ : ∃ q, q = wr.heap.size := ⟨_, rfl⟩
      have hB1 : Below wr.heap.size wr W1 := by rw [hW1]; exact below_new _ _
      have hq1 : W1.heap[q]? = some (.cells #[.int .u64 ti, .int .u64 tg, .int .i64 td] thT (0, 0)) := by rw [hW1, hq]; exact heap_alloc_new _ _
      have hst1 := hst.out.below hB1
      have hrow1 := own_below hrow.out hB1
      obtain ⟨q0, q1, q2, -, -, -⟩ := set3_res (t := ⟨ti, tg, td⟩) hq1
      have hql := (Array.getElem?_eq_some_iff.1 hq1).1
      have hct := block_cell hst1.tc 0
      have hcl := block_cell hst1.lc 0
      have hcw := block_cell hst1.wc 0
      simp only [List.getElem?_toArray, List.getElem?_cons_zero] at hct hcl hcw
      have hfl := block_free hst1.lc 0
      obtain ⟨l1, l2, l3⟩ := hst1.lt
      have Hst1 := Lib.hid hst1
      have Hrow1 := Lib.hid hrow1
      have HB1 := Lib.hid hB1
      have Hq1 := Lib.hid hq1
      clear hst1 hrow1 hB1 hq1 hokt hnx htk ht hil hi hsr
      go_upto_region 3 with fail
      rw [← hW1, ← hq]
      clear hW1 hq c0 c1 c2 hgl
      by_cases hd : td ≤ b
      · have Hd := Lib.hid hd
        have hnl : (late ++ lateOf b (l.take i)).length ≤ 2000 := by
          have h1 : (lateOf b (l.take i)).length ≤ (l.take i).length := List.length_filter_le _ _
          rw [List.length_append]
          rw [List.length_take] at h1
          have := Hl.out
          have := Hla.out
          omega
        obtain ⟨LL, hLL⟩ : ∃ LL, LL = late ++ lateOf b (l.take i) := ⟨_, rfl⟩
        rw [← hLL] at Hst1 hcl hnl
        have hapL := hap.out
        rw [← hLL] at hapL
        have HapL := Lib.hid hapL
        have HLL := Lib.hid hLL
        have HnL := Lib.hid hnl
        clear hLL hapL
        go_upto_region 6 with (at_builtin; refine wpl_append_one rfl (.tmp 17) (.tmp 19) thsT rfl B thT infoTh Try.underlying35 rfl (by decide) (.slice ao' LL.length cap') LL.length (LL.map thCells) rfl (Hst1.out.row.alloc _) _ 1 (thCells ⟨ti, tg, td⟩) rfl rfl (news_at _ rfl) (th_one _) ?_ ?_ ?_ ?_; omega; (unfold maxLen; omega); (have := Hst1.out.base.2.2.2; simp; omega); intro g4 c4 w4 hown4 hg4 hlie; obtain ⟨hk4, hf4, hl4⟩ := (Hst1.out.below (below_new _ _)).lcAt hg4)
        rw [thFlat_app] at hown4
        have hadd := (Hst1.out.below (below_new W1 _)).add hg4 hown4 (hlie.imp id (fun e => Nat.le_of_eq e.symm))
        obtain ⟨W5, hW5⟩ : ∃ W5, W5 = w4.setCell ⟨cL, 0, none⟩ (.slice (some ⟨g4, 0, none⟩) (LL.length + 1) c4) := ⟨_, rfl⟩
        rw [← hW5] at hadd ⊢
        have e1 : putsR R b (l.take (i + 1)) = putsR R b (l.take i) := by rw [Htk.out, putsR_snoc, if_pos Hd.out]
        have e2 : putsF far b (l.take (i + 1)) = putsF far b (l.take i) := by rw [Htk.out, putsF_snoc, if_pos Hd.out]
        have e3 : late ++ lateOf b (l.take (i + 1)) = LL ++ [⟨ti, tg, td⟩] := by rw [Htk.out, lateOf_snoc, if_pos Hd.out, HLL.out, List.append_assoc]
        have hst2 := hadd.1
        rw [← e1, ← e2, ← e3] at hst2
        have hgr2 : Gr (Foot F cL ao) W W5 := Gr.after (Gr.trans hgr.out ((Gr.below HB1.out).trans (Gr.below (below_new W1 _)))) hadd.2.1 hF.out
        have hfo : ∀ j, Foot F' cL (some ⟨g4, 0, none⟩) j → Foot F cL ao j ∨ W.heap.size ≤ j := fun j hj => (hadd.2.2 j hj).elim (hF.out j) (fun x => .inr (Nat.le_trans (Nat.le_trans (Nat.le_trans hgr.out.size HB1.out.size) (below_new W1 _).size) x))
        have Hfo := Lib.hid hfo
        have hrow2 : W5.ownsRow B thT 3 (.slice (some ⟨g, 0, none⟩) l.length lc) l.length (thFlat l) := row_kept Hrow1.out fun q hq => by
          have hql := (Hrow1.out.lt q hq).2
          have hqc := Hst1.out.ne_row Hrow1.out hq
          have h1 := (below_new W1 (.cells #[.int .u64 ti, .int .u64 tg, .int .i64 td] thT)).block q hql
          have h2 := hg4.block q (by simp; omega) (fun e => (HapL.out q hq).2 e.symm)
          rw [hW5]
          exact ((heap_setCell_other w4 ⟨cL, 0, none⟩ q _ hqc).trans h2).trans h1
        have hap2 : ∀ q, (Value.slice (some ⟨g, 0, none⟩) l.length lc).ownBlock = some q → ¬ F' q ∧ (Value.slice (some ⟨g4, 0, none⟩) (late ++ lateOf b (l.take (i + 1))).length c4).ownBlock ≠ some q := fun q hq => by
          refine ⟨(HapL.out q hq).1, fun e => ?_⟩
          simp only [Value.ownBlock, Option.some.injEq] at e
          subst e
          rcases hlie with h1 | h1
          · exact (HapL.out _ hq).2 h1
          · have := (Hrow1.out.lt _ hq).2
            simp at h1
            omega
        have Hst2 := Lib.hid hst2
        have Hrow2 := Lib.hid hrow2
        have Hap2 := Lib.hid hap2
        have Hgr2 := Lib.hid hgr2
        have hn2 : n' ≤ n + (i + 1) := by have := hn.out; omega
        have Hn2 := Lib.hid hn2
        clear hst2 hrow2 hap2 hgr2 hn2 e1 e2 e3 hadd hown4 hg4 hlie hk4 hf4 hl4 hW5 hfo q0 q1 q2 hql hct hcl hcw hfl
        go_wp2_with fail
        go_roundw
        case rel => exact ⟨i + 1, F', G', n', some ⟨g4, 0, none⟩, c4, by first | rfl | rw [w1]; rfl, Hi.out, Hn2, Hst2, Hgr2, Hfo, Hrow2, Hap2⟩
        case measure =>
          first | rw [w1] | skip
          exact ts_meas l.length i Hi.out
      · have Hd2 := Lib.hid hd
        have i1 : ¬ (({ id := ti, gen := tg, due := td } : Th).due ≤ b) := hd
        have I1 := Lib.hid i1
        clear i1
        have hput := wput_any W1 F' G' w b rs pf mf n' _ _ ⟨ti, tg, td⟩ Hst1.out.wh hb Hokt.out.1 Hokt.out.2 (by have := hn.out; have := HN.out; have := Hl.out; omega) Hnx.out
        have Hput := Lib.hid hput
        unfold thVal at Hput
        clear hput
        go_wp2_with fail
        refine Hput.out.mono ?_
        rintro e W2 ⟨rfl, F2, G2, hw2, hg2, hF2⟩
        have hst2 := Hst1.out.turned hw2 hg2 hF2
        have i2 : ¬ (({ id := ti, gen := tg, due := td } : Th).due ≤ b) := by have h9 := I1.out; simp only; omega
        have e1 : putsR R b (l.take (i + 1)) = putR (putsR R b (l.take i)) b ⟨ti, tg, td⟩ := by rw [Htk.out, putsR_snoc, if_neg i2]
        have e2 : putsF far b (l.take (i + 1)) = putF (putsF far b (l.take i)) b ⟨ti, tg, td⟩ := by rw [Htk.out, putsF_snoc, if_neg i2]
        have e3 : lateOf b (l.take (i + 1)) = lateOf b (l.take i) := by rw [Htk.out, lateOf_snoc, if_neg i2]
        rw [← e1, ← e2, ← e3] at hst2
        have hsz1 := HB1.out.size
        have hrow2 : W2.ownsRow B thT 3 (.slice (some ⟨g, 0, none⟩) l.length lc) l.length (thFlat l) := row_kept Hrow1.out fun q hq => hg2.block q (Hrow1.out.lt q hq).2 (hap.out q hq).1
        have hF22 : ∀ j, Foot F2 cL ao' j → Foot F cL ao j ∨ W.heap.size ≤ j := fun j hj => (foot_f hF2 j hj).elim (hF.out j) (fun x => .inr (Nat.le_trans (Nat.le_trans hgr.out.size hsz1) x))
        have hap2 : ∀ q, (Value.slice (some ⟨g, 0, none⟩) l.length lc).ownBlock = some q → ¬ F2 q ∧ (Value.slice ao' (late ++ lateOf b (l.take (i + 1))).length cap').ownBlock ≠ some q := fun q hq => by
          rw [e3]
          exact ⟨fun e => (hF2 q e).elim (hap.out q hq).1 (fun x => by have := (Hrow1.out.lt q hq).2; omega), (hap.out q hq).2⟩
        have hgr2 : Gr (Foot F cL ao) W W2 := Gr.after (Gr.trans hgr.out (Gr.below HB1.out)) (Gr.mono hg2 fun j hj => (.inl hj : Foot F' cL ao' j)) hF.out
        have hn2 : n' + 1 ≤ n + (i + 1) := by have := hn.out; omega
        have Hst2 := Lib.hid hst2
        have Hrow2 := Lib.hid hrow2
        have HF22 := Lib.hid hF22
        have Hap2 := Lib.hid hap2
        have Hgr2 := Lib.hid hgr2
        have Hn2 := Lib.hid hn2
        clear i2 hst2 hrow2 hF22 hap2 hgr2 hn2 e1 e2 e3 hw2 hg2 hF2 hsz1
        go_wp2_with fail
        go_roundw
        case rel => exact ⟨i + 1, F2, G2, n' + 1, ao', cap', by first | rfl | rw [w1]; rfl, Hi.out, Hn2, Hst2, Hgr2, HF22, Hrow2, Hap2⟩
        case measure =>
          first | rw [w1] | skip
          exact ts_meas l.length i Hi.out
    · obtain rfl : i = l.length := Nat.le_antisymm hi (Nat.le_of_not_lt hil)
      have x1 : ¬ (l.length : Int) < (l.length : Int) := by omega
      rw [List.take_length] at hst
      clear hil hi
      go_wp2_with fail
      exact bodyPost_end (results_none rfl _ _ _) rfl ⟨rfl, F', G', n', ao', cap', hn.out, hst.out, hgr.out, hF.out⟩
end Go.Proofs.Ytedlplkomfiahaa
