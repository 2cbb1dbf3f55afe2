/- Lemmas for WheelPlays (Xr WheelFull OpenR OpenT Xs Xt). No statement of the seat is proved here. -/
import Derived.Deep.Slices
import Derived.Deep.Fields
import Derived.Deep.Strs
import Derived.ProofKit
import Derived.OpenShut
import Derived.ShutString
import Derived.ChangeOld
import Derived.Deep.Matrix
import Derived.ChangeKeysEq
import Derived.Stop.BytesEq
import Derived.Deep.OwnRows
import Derived.Test.YtadghaiengonoaaP1
import Derived.Test.YtadghaiengonoaaP11
import Derived.Test.YtadghaiengonoaaP17
namespace Go.Proofs.Ytadghaiengonoaa
set_option linter.unusedVariables false
set_option linter.unusedSimpArgs false
set_option linter.unusedSectionVars false
open Go Go.RowKit Go.Maps
/-- a wheel that the call made -/
structure Wo (W wr : World) (F : Nat → Prop) (w : Nat) (now : Int) (X : List Th) : Prop where
  whl : Whl wr F w now X
  up : ∀ i, F i → W.heap.size ≤ i
  bel : Below W.heap.size W wr
/-- behind a call that wrote it -/
def Wnx (W wr : World) (F : Nat → Prop) (w : Nat) (now : Int) (X : List Th) (W' : World) : Prop := ∃ F', Wo W W' F' w now X ∧ Gr F wr W' ∧ ∀ i, F' i → F i ∨ wr.heap.size ≤ i
section
variable {W wr wr' : World} {F : Nat → Prop} {w : Nat} {now : Int} {X : List Th}
theorem Wo.below (h : Wo W wr F w now X) (hb : Below wr.heap.size wr wr') : Wo W wr' F w now X := ⟨h.whl.below hb, h.up, below_on h.bel hb (Nat.le_refl _)⟩
theorem Wo.bd (h : Wo W wr F w now X) : ∀ i, F i → i < wr.heap.size := h.whl.bd
theorem Wo.st (h : Wo W wr F w now X) {now' : Int} {X' : List Th} (hs : Wst wr F w now' X' wr') : Wnx W wr F w now' X' wr' := by
  obtain ⟨F', h1, h2, h3⟩ := hs
  exact ⟨F', ⟨h1, fun i hi => (h3 i hi).elim (h.up i) (fun x => Nat.le_trans h.bel.size x), h.bel.trans (h2.above h.bel.size h.up)⟩, h2, h3⟩
theorem Wo.okX (h : Wo W wr F w now X) : Inst now ∧ Asc X ∧ Ids X ∧ (∀ t ∈ X, Inst t.due ∧ IdOk t.id) ∧ X.length ≤ 256 := by
  obtain ⟨G, rs, pf, mf, R, far, h1, h2, h3⟩ := h.whl
  exact ⟨h2, h3.asc, h3.ids, h3.ok, h3.len⟩
/-- what another one's call wrote -/
theorem Wo.beside {H : Nat → Prop} (h : Wo W wr F w now X) (hg : Gr H wr wr') (hd : ∀ i, F i → ¬ H i) (hH : ∀ i, H i → W.heap.size ≤ i) : Wo W wr' F w now X := ⟨h.whl.beside hg hd, h.up, h.bel.trans (hg.above h.bel.size hH)⟩
theorem arm_o (h : Wo W wr F w now X) (t : Th) (hw : IdOk t.id) :
    Calls Try.prog 10 #[.pointer (some ⟨w, 0, none⟩), thVal t] wr fun e W' => e = .returned (.int .i64 (armE X t)) ∧ Wnx W wr F w now (armX X t) W' := by
  refine (arm_any wr F w now X t h.whl hw).mono ?_
  rintro e W' ⟨rfl, hs⟩
  exact ⟨rfl, h.st hs⟩
theorem cancel_o (h : Wo W wr F w now X) (id : Int) (hw : IdOk id) :
    Calls Try.prog 16 #[.pointer (some ⟨w, 0, none⟩), .int .u64 id] wr fun e W' => CancelIs X id e ∧ Wnx W wr F w now (lessId X id) W' := by
  refine (cancel_any wr F w now X id h.whl hw).mono ?_
  rintro e W' ⟨he, hs⟩
  exact ⟨he, h.st hs⟩
theorem get_o (h : Wo W wr F w now X) (id : Int) (hw : IdOk id) :
    Calls Try.prog 22 #[.pointer (some ⟨w, 0, none⟩), .int .u64 id] wr fun e W' => CancelIs X id e ∧ Below wr.heap.size wr W' := by
  obtain ⟨G, rs, pf, mf, R, far, hm, hn, hi⟩ := h.whl
  refine (wget_any wr F G w now rs pf mf 256 R far id hm hw (by decide)).mono ?_
  rintro e W' ⟨hor, hb⟩
  refine ⟨?_, hb⟩
  rcases hor with ⟨t, ht, e1, e2⟩ | ⟨h4, e2⟩
  · exact .inl ⟨t, hi.perm.mem_iff.2 ht, e1, e2⟩
  · exact .inr ⟨fun u hu => h4 u (hi.perm.mem_iff.1 hu), e2⟩
theorem adv_o (h : Wo W wr F w now X) (tb : Int) :
    Calls Try.prog 11 #[.pointer (some ⟨w, 0, none⟩), .int .i64 tb] wr fun e W' => ∃ ao cap, e = .returned (.tuple #[.slice ao (advL now tb X).length cap, .int .i64 (advE now tb)]) ∧ Wnx W wr F w (advN now tb) (advX now tb X) W' ∧ Tt W' ao cap (advL now tb X) := by
  refine (adv_any wr F w now tb X h.whl).mono ?_
  rintro e W' ⟨ao, cap, rfl, hs, hrow⟩
  exact ⟨ao, cap, rfl, h.st hs, Tt.of_own hrow⟩
theorem fi_eq {a b : Nat → Nat} (h : ∀ k, k < 5 → a k = b k) : fiVal a = fiVal b := by
  unfold fiVal
  rw [h 0 (by decide), h 1 (by decide), h 2 (by decide), h 3 (by decide), h 4 (by decide)]
theorem spread_o (h : Wo W wr F w now X) :
    Calls Try.prog 14 #[.pointer (some ⟨w, 0, none⟩)] wr fun e W' => e = .returned (fiVal (cntR now X)) ∧ Below wr.heap.size wr W' := by
  obtain ⟨G, rs, pf, mf, R, far, hm, hn, hi⟩ := h.whl
  refine (spread_any wr F G w now rs pf mf 256 R far hm).mono ?_
  rintro e W' ⟨rfl, hb⟩
  exact ⟨by rw [fi_eq fun k hk => hi.cnt k hk], hb⟩
theorem len_o (h : Wo W wr F w now X) :
    Calls Try.prog 15 #[.pointer (some ⟨w, 0, none⟩)] wr fun e W' => e = .returned (.int .i64 (X.length : Nat)) ∧ Below wr.heap.size wr W' := by
  obtain ⟨G, rs, pf, mf, R, far, hm, hn, hi⟩ := h.whl
  have hl := hi.lenT
  refine (wlen_any wr F G w now rs pf mf 256 R far hm (by omega)).mono ?_
  rintro e W' ⟨rfl, hb⟩
  exact ⟨by rw [hi.perm.length_eq], hb⟩
theorem now_o (h : Wo W wr F w now X) :
    Calls Try.prog 18 #[.pointer (some ⟨w, 0, none⟩)] wr fun e W' => e = .returned (.int .i64 now) ∧ W' = wr := by
  obtain ⟨G, rs, pf, mf, R, far, hm, hn, hi⟩ := h.whl
  exact wnow_any wr F G w now rs pf mf 256 R far hm
theorem all_o (h : Wo W wr F w now X) :
    Calls Try.prog 13 #[.pointer (some ⟨w, 0, none⟩)] wr fun e W' => ∃ ao cap, e = .returned (.slice ao X.length cap) ∧ Tt W' ao cap X ∧ Below wr.heap.size wr W' := by
  refine (all_any wr F w now X h.whl).mono ?_
  rintro e W' ⟨ao, cap, rfl, hrow, hb⟩
  exact ⟨ao, cap, rfl, Tt.of_own hrow, hb⟩
end
theorem new_o (W wr : World) (now : Int) (h : Inst now) (hb : Below W.heap.size W wr) : Calls Try.prog 9 #[.int .i64 now] wr fun e W' => ∃ w F, e = .returned (.pointer (some ⟨w, 0, none⟩)) ∧ Wo W W' F w now [] ∧ Below wr.heap.size wr W' ∧ ∀ i, F i → wr.heap.size ≤ i := by
  refine (wnew_any wr now h).mono ?_
  rintro e W' ⟨w, F, rfl, h1, h2, h3⟩
  exact ⟨w, F, rfl, ⟨h1, fun i hi => Nat.le_trans hb.size (h2 i hi), below_on hb h3 (Nat.le_refl _)⟩, h3, h2⟩
theorem arm_is {X m : List Th} {t : Th} (hd : Inst t.due) (hn : ∀ u ∈ X, u.id ≠ t.id) (hl : X.length < 256) (hm : Asc m) (hi : Ids m) (hp : (X ++ [t]).Perm m) : armX X t = m ∧ armE X t = 0 := by
  have hne : ¬ ∃ u ∈ X, u.id = t.id := fun ⟨u, hu, e⟩ => hn u hu e
  constructor
  · unfold armX
    rw [if_pos hd, if_neg hne, if_neg (by omega)]
    exact srt_is hm hi hp
  · unfold armE
    rw [if_pos hd, if_neg hne, if_neg (by omega)]
set_option maxRecDepth 100000 in
set_option maxHeartbeats 2000000 in
theorem lives_wheel (W : World) : Calls Try.prog 8 #[] W fun e W' => e = .returned (.bool true) ∧ Below W.heap.size W W' := by
  have v1 : fiVal (cntR 0 [(⟨2, 0, 63⟩ : Th), ⟨1, 0, 100⟩]) = .agg #[.int .i64 1, .int .i64 1, .int .i64 0, .int .i64 0, .int .i64 0] := by kernel_rfl
  have v2 : fiVal (cntR 70 [(⟨1, 0, 100⟩ : Th)]) = .agg #[.int .i64 1, .int .i64 0, .int .i64 0, .int .i64 0, .int .i64 0] := by kernel_rfl
  have q1 : ∀ V, (binOp .eql fiT (.agg #[.int .i64 1, .int .i64 1, .int .i64 0, .int .i64 0, .int .i64 0]) (.agg #[.int .i64 1, .int .i64 1, .int .i64 0, .int .i64 0, .int .i64 0])).run Try.prog V = .ok (.bool true) V := fun V => by kernel_rfl
  have q2 : ∀ V, (binOp .eql fiT (.agg #[.int .i64 1, .int .i64 0, .int .i64 0, .int .i64 0, .int .i64 0]) (.agg #[.int .i64 1, .int .i64 0, .int .i64 0, .int .i64 0, .int .i64 0])).run Try.prog V = .ok (.bool true) V := fun V => by kernel_rfl
  go_enter Try.func8, Try.ntmps8
  go_wp2_with fail
  refine (new_o W W 0 (by decide) (Below.refl _ _)).mono ?_
  rintro e W1 ⟨w, F1, rfl, hu1, -, -⟩
  have a1 := Lib.hid (arm_o hu1 ⟨1, 0, 100⟩ ⟨by decide, by decide⟩)
  clear hu1
  go_wp2_with fail
  refine (show Calls _ _ _ _ _ from a1.out).mono ?_
  rintro e W2 ⟨rfl, F2, hu2, -, -⟩
  obtain ⟨x1, x2⟩ := arm_is (X := []) (m := [(⟨1, 0, 100⟩ : Th)]) (t := ⟨1, 0, 100⟩) (by decide) (by decide) (by decide) (List.pairwise_singleton _ _) (List.pairwise_singleton _ _) (List.Perm.refl _)
  rw [x2]
  rw [x1] at hu2
  clear x1 x2
  have a2 := Lib.hid (arm_o hu2 ⟨2, 0, 63⟩ ⟨by decide, by decide⟩)
  clear hu2
  go_wp2_with fail
  refine (show Calls _ _ _ _ _ from a2.out).mono ?_
  rintro e W3 ⟨rfl, F3, hu3, -, -⟩
  obtain ⟨x1, x2⟩ := arm_is (X := [(⟨1, 0, 100⟩ : Th)]) (m := [(⟨2, 0, 63⟩ : Th), ⟨1, 0, 100⟩]) (t := ⟨2, 0, 63⟩) (by decide) (by decide) (by decide) (List.Pairwise.cons (by decide) (List.pairwise_singleton _ _)) (List.Pairwise.cons (by decide) (List.pairwise_singleton _ _)) (List.Perm.swap _ _ _)
  rw [x2]
  rw [x1] at hu3
  clear x1 x2
  have a3 := spread_o hu3
  rw [v1] at a3
  have A3 := Lib.hid a3
  have Hu3 := Lib.hid hu3
  clear a1 a2 a3 hu3 v1
  go_wp2_with fail
  refine A3.out.mono ?_
  rintro e W4 ⟨rfl, hb4⟩
  obtain ⟨W5, hW5⟩ : ∃ W5, W5 = W4.alloc (.cells #[.int .i64 1, .int .i64 1, .int .i64 0, .int .i64 0, .int .i64 0] fiT) := ⟨_, rfl⟩
  obtain ⟨p, hp⟩ : ∃ p, p = W4.heap.size := ⟨_, rfl⟩
  have ht5 : W5.heap[p]? = some (.cells #[.int .i64 1, .int .i64 1, .int .i64 0, .int .i64 0, .int .i64 0] fiT (0, 0)) := by rw [hW5, hp]; exact heap_alloc_new _ _
  have hu4 := Hu3.out.below hb4
  have hu5 : Wo W W5 F3 w 0 [(⟨2, 0, 63⟩ : Th), ⟨1, 0, 100⟩] := hu4.below (by rw [hW5]; exact below_new _ _)
  have hpF : ¬ F3 p := fun e => by have := hu4.bd p e; omega
  have hbl := (Array.getElem?_eq_some_iff.1 ht5).1
  have a5 := adv_o hu5 70
  rw [show advL 0 70 [(⟨2, 0, 63⟩ : Th), ⟨1, 0, 100⟩] = [⟨2, 0, 63⟩] from by decide, show advE 0 70 = 0 from by decide, show advN 0 70 = 70 from by decide, show advX 0 70 [(⟨2, 0, 63⟩ : Th), ⟨1, 0, 100⟩] = [⟨1, 0, 100⟩] from by decide] at a5
  have A5 := Lib.hid a5
  have HpF := Lib.hid hpF
  have Ht5 := Lib.hid ht5
  clear a5 hu4 hu5 hpF ht5 hb4
  go_upto_region 5 with fail
  rw [← hW5, ← hp]
  clear hW5 hp
  go_wp2_with fail
  refine A5.out.mono ?_
  rintro e W6 ⟨ao, cap, rfl, ⟨F6, hu6, hg6, -⟩, htt⟩
  have ht6 := (hg6.block p hbl HpF.out).trans Ht5.out
  have e0 := block_cell ht6 0
  have e1 := block_cell ht6 1
  have e2 := block_cell ht6 2
  have e3 := block_cell ht6 3
  have e4 := block_cell ht6 4
  simp at e0 e1 e2 e3 e4
  have hp6 := (Array.getElem?_eq_some_iff.1 ht6).1
  obtain ⟨bx, fx, rfl, hbx, c0, c1, c2⟩ := htt.cells 0 (by decide)
  simp at c0 c1 c2
  have a6 := spread_o hu6
  rw [v2] at a6
  have A6 := Lib.hid a6
  have Hu6 := Lib.hid hu6
  clear a6 hu6 hg6 htt ht6 v2 hbl
  simp only [List.length_cons, List.length_nil]
  go_wp2_with fail
  refine A6.out.mono ?_
  rintro e W7 ⟨rfl, hb7⟩
  have HB7 := Lib.hid hb7
  clear hb7
  go_wp2_with fail
  go_ret
  exact ⟨rfl, below_on Hu6.out.bel HB7.out (Nat.le_refl _)⟩
end Go.Proofs.Ytadghaiengonoaa
namespace Go.Proofs.Ytadghaiengonoaa
set_option linter.unusedVariables false
set_option linter.unusedSimpArgs false
set_option linter.unusedSectionVars false
open Go Go.RowKit Go.Maps
theorem Ids.inj {X : List Th} (h : Ids X) : ∀ s ∈ X, ∀ t ∈ X, s.id = t.id → s = t := by
  induction X with
  | nil => intro s hs; cases hs
  | cons x X ih =>
    have hp := List.pairwise_cons.1 h
    intro s hs t ht e
    rcases List.mem_cons.1 hs with h1 | h1
    · rcases List.mem_cons.1 ht with h2 | h2
      · rw [h1, h2]
      · exact absurd (by rw [← h1]; exact e) (hp.1 t h2)
    · rcases List.mem_cons.1 ht with h2 | h2
      · exact absurd (by rw [← h2]; exact e.symm) (hp.1 s h1)
      · exact ih hp.2 s h1 t h2 e
theorem insT_mem {X : List Th} {t u : Th} : u ∈ insT X t ↔ u ∈ X ∨ u = t := by
  unfold insT
  rw [(Sta.srt_perm thLe (X ++ [t])).mem_iff]
  simp
theorem insT_len (X : List Th) (t : Th) : (insT X t).length = X.length + 1 := by
  unfold insT
  rw [Sta.srt_len]; simp
/-- ids 0 .. i - 1 -/
def Upto (X : List Th) (i : Nat) : Prop := X.length = i ∧ ∀ j : Int, (∃ u ∈ X, u.id = j) ↔ 0 ≤ j ∧ j < (i : Int)
theorem Upto.put {X : List Th} {i : Nat} (h : Upto X i) (g d : Int) : Upto (insT X ⟨(i : Nat), g, d⟩) (i + 1) := by
  refine ⟨by rw [insT_len, h.1], fun j => ?_⟩
  constructor
  · rintro ⟨u, hu, e⟩
    rcases insT_mem.1 hu with h1 | h1
    · have := (h.2 j).1 ⟨u, h1, e⟩; omega
    · subst h1; simp only at e; omega
  · intro hj
    by_cases e : j = (i : Int)
    · exact ⟨_, insT_mem.2 (.inr rfl), e.symm⟩
    · obtain ⟨u, hu, e2⟩ := (h.2 j).2 (by omega)
      exact ⟨u, insT_mem.2 (.inl hu), e2⟩
end Go.Proofs.Ytadghaiengonoaa
namespace Go.Proofs.Ytadghaiengonoaa
set_option linter.unusedVariables false
set_option linter.unusedSimpArgs false
set_option linter.unusedSectionVars false
open Go Go.ChangeShapes Go.WideShapes Go.ChangeAt Go.RowKit Go.Deep
theorem rows_len {α : Type} {cells : α → List Value} {k : Nat} (hl : ∀ a, (cells a).length = k) (l : List α) : (l.map cells).flatten.length = l.length * k := by
  induction l with
  | nil => simp
  | cons a l ih => simp only [List.map_cons, List.flatten_cons, List.length_append, ih, hl, List.length_cons, Nat.succ_mul]; omega
/-- what a cell of rows is -/
theorem rows_get {α : Type} {cells : α → List Value} {k : Nat} (hl : ∀ a, (cells a).length = k) (hk : 0 < k) (l : List α) (j : Nat) (u : Value) (h : (l.map cells).flatten[j]? = some u) :
    ∃ (hi : j / k < l.length), (cells l[j / k])[j % k]? = some u := by
  have hj : j < (l.map cells).flatten.length := (List.getElem?_eq_some_iff.1 h).1
  rw [rows_len hl] at hj
  have hi : j / k < l.length := Nat.div_lt_of_lt_mul (by rw [Nat.mul_comm]; exact hj)
  refine ⟨hi, ?_⟩
  have hm : j % k < k := Nat.mod_lt _ hk
  have := flatten_get (rows := l.map cells) (k := k) (by intro r hr; obtain ⟨x, _, rfl⟩ := List.mem_map.1 hr; exact hl x) (j / k) (j % k) (by simpa using hi) (by simp [hl]; exact hm)
  rw [show j / k * k + j % k = j from by rw [Nat.mul_comm]; exact Nat.div_add_mod j k, h] at this
  rw [this, List.getElem?_eq_getElem (by rw [hl]; exact hm)]
  simp
section
variable {H : Type} {enc : TypeId × Value → H} {P : Program} {w : World} {base : Nat} {held : Bool}
theorem open_rows {α : Type} [Inhabited α] (cells : α → List Value) (good : α → Prop) {k : Nat} (hl : ∀ a, (cells a).length = k) (hk : 0 < k) {t e : TypeId} {fuel : Nat} {ao : Option Addr} {len cap : Nat} {x : DataW H × List MemPlace}
    (ht : P.underlying t = some (.slice e)) (hC : P.cellsOf e = k)
    (hrow : ∀ (n : Nat) (cs : List Value) (y : DataW H × List MemPlace), cs.length = k → DataW.trod enc P w base (fun _ => true) held n e cs = some y → ∃ a, cs = cells a ∧ good a)
    (h : DataW.trod enc P w base (fun _ => true) held fuel t (Value.slice ao len cap).cells.toList = some x) : ∃ l : List α, len = l.length ∧ Sl w k ao l.length cap (l.map cells).flatten ∧ ∀ a ∈ l, good a := by
  rcases open_slice ht h with ⟨hcs, _⟩ | ⟨a, len', cap', m, n, D, Pl, hcs, _, hle, hmax, hmm, _, hx⟩
  · simp [Value.cells] at hcs
    obtain ⟨rfl, rfl, rfl⟩ := hcs
    exact ⟨[], rfl, ⟨by simp, by simp, by decide, fun _ => rfl, fun j u hu => by simp at hu⟩, by simp⟩
  · simp [Value.cells] at hcs
    obtain ⟨rfl, rfl, rfl⟩ := hcs
    simp only [if_true] at hmm
    subst hmm
    have each : ∀ i, i < len → ∃ q : α, (∀ j, j < k → w.cell? (a.add (i * k + j)) = (cells q)[j]?) ∧ good q := by
      intro i hi
      obtain ⟨cs', h1, h2⟩ := hx i (by omega)
      rw [hC] at h1
      obtain ⟨_, hlen, hcell⟩ := World.cells?_some h1
      obtain ⟨q, rfl, hq⟩ := hrow _ _ _ hlen h2
      refine ⟨q, fun j hj => ?_, hq⟩
      rw [← add_add]; exact hcell j hj
    obtain ⟨y, hy⟩ := choose_lt each
    refine ⟨(List.range len).map y, by simp, ⟨by simpa using rows_len hl ((List.range len).map y), by simpa using hle, hmax, by simp, fun j u hu => ?_⟩, ?_⟩
    · obtain ⟨hi, hu'⟩ := rows_get hl hk _ j u hu
      have hi' : j / k < len := by simpa using hi
      have hm : j % k < k := Nat.mod_lt _ hk
      have hc := (hy _ hi').1 _ hm
      rw [show j / k * k + j % k = j from by rw [Nat.mul_comm]; exact Nat.div_add_mod j k] at hc
      simp only [List.getElem_map, List.getElem_range] at hu'
      rw [hu'] at hc
      obtain ⟨b, off, sp⟩ := a
      have hcz := (hy 0 (Nat.lt_of_le_of_lt (Nat.zero_le _) hi')).1 0 hk
      rw [List.getElem?_eq_getElem (by rw [hl]; exact hk)] at hcz
      have hsp : sp = none := by simpa [Addr.add] using World.cell?_spot hcz
      subst hsp
      refine ⟨b, off, rfl, ?_⟩
      rwa [Addr.add_none] at hc
    · intro q hq
      obtain ⟨i, hi, rfl⟩ := List.mem_map.1 hq
      exact (hy i (List.mem_range.1 hi)).2
theorem row_ints3 {k0 k1 k2 : IntKind} {e : TypeId} {f0 f1 f2 : Field} (he : P.underlying e = some (.struct #[f0, f1, f2])) (hone : oneCellFields P #[f0, f1, f2] = true) (hC : P.cellsOf e = 3)
    (u0 : P.underlying f0.type = some (.int k0)) (u1 : P.underlying f1.type = some (.int k1)) (u2 : P.underlying f2.type = some (.int k2)) (n : Nat) (cs : List Value) (y : DataW H × List MemPlace) (hcs : cs.length = 3)
    (h : DataW.trod enc P w base (fun _ => true) held n e cs = some y) : ∃ a : Int × Int × Int, cs = [.int k0 a.1, .int k1 a.2.1, .int k2 a.2.2] ∧ (Lit.int k0 a.1).wf = true ∧ (Lit.int k1 a.2.1).wf = true ∧ (Lit.int k2 a.2.2).wf = true := by
  obtain ⟨o0, c0⟩ := hone_of hone 0 f0 rfl
  obtain ⟨o1, c1⟩ := hone_of hone 1 f1 rfl
  obtain ⟨o2, c2⟩ := hone_of hone 2 f2 rfl
  match cs, hcs with
  | [v0, v1, v2], _ =>
    obtain ⟨y0, y1, y2, m, _, _, h0, h1, h2⟩ := trod_struct3 he h
    rw [o0, c0] at h0
    rw [o1, c1] at h1
    rw [o2, c2] at h2
    simp at h0 h1 h2
    obtain ⟨n0, e0, _, w0⟩ := DataW.trod_int u0 h0
    obtain ⟨n1, e1, _, w1⟩ := DataW.trod_int u1 h1
    obtain ⟨n2, e2, _, w2⟩ := DataW.trod_int u2 h2
    simp only [List.cons.injEq, and_true] at e0 e1 e2
    subst e0; subst e1; subst e2
    exact ⟨(n0, n1, n2), rfl, w0, w1, w2⟩
end
/-- a slice of structs of three integers, read -/
abbrev I3 := Int × Int × Int
def i3 (k0 k1 k2 : IntKind) (a : I3) : List Value := [.int k0 a.1, .int k1 a.2.1, .int k2 a.2.2]
def I3s (w : World) (k0 k1 k2 : IntKind) (ao : Option Addr) (cap : Nat) (l : List I3) : Prop := Sl w 3 ao l.length cap (l.map (i3 k0 k1 k2)).flatten
theorem I3s.get {w : World} {k0 k1 k2 : IntKind} {ao : Option Addr} {cap : Nat} {l : List I3} (h : I3s w k0 k1 k2 ao cap l) (k : Nat) (hk : k < l.length) :
    ∃ b off, ao = some ⟨b, off, none⟩ ∧ w.cell? ⟨b, off + k * 3, none⟩ = some (.int k0 l[k].1) ∧ w.cell? ⟨b, off + k * 3 + 1, none⟩ = some (.int k1 l[k].2.1) ∧ w.cell? ⟨b, off + k * 3 + 2, none⟩ = some (.int k2 l[k].2.2) := by
  have key : ∀ j (hj : j < 3), (l.map (i3 k0 k1 k2)).flatten[k * 3 + j]? = (i3 k0 k1 k2 l[k])[j]? := by
    intro j hj
    have := flatten_get (rows := l.map (i3 k0 k1 k2)) (k := 3) (by intro r hr; obtain ⟨x, _, rfl⟩ := List.mem_map.1 hr; rfl) k j (by simpa using hk) (by simpa [i3] using hj)
    rw [this, List.getElem?_eq_getElem (by simpa [i3] using hj)]
    simp
  obtain ⟨b, off, e, c0⟩ := h.cell _ _ (key 0 (by omega))
  obtain ⟨b1, off1, e1, c1⟩ := h.cell _ _ (key 1 (by omega))
  obtain ⟨b2, off2, e2, c2⟩ := h.cell _ _ (key 2 (by omega))
  rw [e] at e1 e2
  simp only [Option.some.injEq, Addr.mk.injEq] at e1 e2
  obtain ⟨rfl, rfl, -⟩ := e1
  obtain ⟨rfl, rfl, -⟩ := e2
  exact ⟨b, off, e, by simpa using c0, by rw [Nat.add_assoc]; exact c1, by rw [Nat.add_assoc]; exact c2⟩
theorem I3s.below {w w' : World} {k0 k1 k2 : IntKind} {ao : Option Addr} {cap : Nat} {l : List I3} (h : I3s w k0 k1 k2 ao cap l) (hb : Below w.heap.size w w') : I3s w' k0 k1 k2 ao cap l := Sl.below h hb
end Go.Proofs.Ytadghaiengonoaa
namespace Go.Proofs.Ytadghaiengonoaa
set_option linter.unusedVariables false
set_option linter.unusedSimpArgs false
set_option linter.unusedSectionVars false
open Go Go.ChangeShapes Go.WideShapes Go.ChangeAt Go.RowKit Go.Deep
instance : Inhabited Th := ⟨⟨0, 0, 0⟩⟩
def ThOk (t : Th) : Prop := (Lit.int .u64 t.id).wf = true ∧ (Lit.int .u64 t.gen).wf = true ∧ (Lit.int .i64 t.due).wf = true
theorem ThOk.id {t : Th} (h : ThOk t) : IdOk t.id := by
  have := h.1
  simp [Lit.wf, IntKind.min, IntKind.max, IntKind.signed, IntKind.bits] at this
  exact ⟨this.1, by omega⟩
theorem ThOk.due {t : Th} (h : ThOk t) : -9223372036854775808 ≤ t.due ∧ t.due ≤ 9223372036854775807 := by
  have := h.2.2
  simp [Lit.wf, IntKind.min, IntKind.max, IntKind.signed, IntKind.bits] at this
  exact ⟨by omega, by omega⟩
set_option maxRecDepth 100000 in
theorem th_row {H : Type} {enc : TypeId × Value → H} {w : World} {base : Nat} {held : Bool} (n : Nat) (cs : List Value) (y : DataW H × List MemPlace) (hcs : cs.length = 3)
    (h : DataW.trod enc Try.prog w base (fun _ => true) held n 30 cs = some y) : ∃ t : Th, cs = thCells t ∧ ThOk t := by
  obtain ⟨a, e, w0, w1, w2⟩ := row_ints3 Try.underlying30 (by kernel_rfl) (by kernel_rfl) Try.underlying28 Try.underlying28 Try.underlying2 n cs y hcs h
  exact ⟨⟨a.1, a.2.1, a.2.2⟩, e, w0, w1, w2⟩
end Go.Proofs.Ytadghaiengonoaa
namespace Go.Proofs.Ytadghaiengonoaa
set_option linter.unusedVariables false
set_option linter.unusedSimpArgs false
set_option linter.unusedSectionVars false
open Go Go.RowKit Go.Maps
section
variable {W wr wr' : World} {F : Nat → Prop} {w : Nat} {now : Int} {X : List Th}
end
/-- two wheels that the call made, apart from each other -/
structure Two (W wr : World) (F G : Nat → Prop) (v w : Nat) (a b : Int) (X Y : List Th) : Prop where
  fst : Wo W wr F v a X
  snd : Wo W wr G w b Y
  apart : ∀ i, F i → ¬ G i
section
variable {W wr wr' : World} {F G : Nat → Prop} {v w : Nat} {a b : Int} {X Y : List Th}
theorem Two.below (h : Two W wr F G v w a b X Y) (hb : Below wr.heap.size wr wr') : Two W wr' F G v w a b X Y := ⟨h.fst.below hb, h.snd.below hb, h.apart⟩
theorem Two.left {a' : Int} {X' : List Th} (h : Two W wr F G v w a b X Y) (hn : Wnx W wr F v a' X' wr') : ∃ F', Two W wr' F' G v w a' b X' Y ∧ Gr F wr wr' ∧ ∀ i, F' i → F i ∨ wr.heap.size ≤ i := by
  obtain ⟨F', h1, h2, h3⟩ := hn
  refine ⟨F', ⟨h1, h.snd.beside h2 (fun i hg hf => h.apart i hf hg) h.fst.up, fun i hi hg => ?_⟩, h2, h3⟩
  rcases h3 i hi with e | e
  · exact h.apart i e hg
  · have := h.snd.bd i hg; omega
theorem Two.right {b' : Int} {Y' : List Th} (h : Two W wr F G v w a b X Y) (hn : Wnx W wr G w b' Y' wr') : ∃ G', Two W wr' F G' v w a b' X Y' ∧ Gr G wr wr' ∧ ∀ i, G' i → G i ∨ wr.heap.size ≤ i := by
  obtain ⟨G', h1, h2, h3⟩ := hn
  refine ⟨G', ⟨h.fst.beside h2 h.apart h.snd.up, h1, fun i hf hg => ?_⟩, h2, h3⟩
  rcases h3 i hg with e | e
  · exact h.apart i hf e
  · have := h.fst.bd i hf; omega
end
theorem infoI : ∃ i, Try.prog.info? 3 = some i := Option.isSome_iff_exists.1 (by kernel_rfl)
theorem eqin_fi (a : Nat → Nat) (V : World) : (Op.equalIn 10000 fiT (fiVal a) (fiVal a)).run Try.prog V = .ok true V := by
  obtain ⟨i, hi⟩ := infoI
  have hc : Try.prog.cellsOf 3 = 1 := by kernel_rfl
  unfold fiVal
  rw [run_equalIn_array V 9999 _ _ Try.underlying38 hi, hc]
  have pe : ∀ x y : Int, ∀ w, (Op.equalIn (9998 + 1) 3 (.int .i64 x) (.int .i64 y)).run Try.prog w = .ok (x == y) w := fun x y w => run_equalIn_int w 9998 _ .i64 .i64 x y Try.underlying3
  simp [List.range_succ, Op.eqItems, part, isAgg, run_underlying Try.underlying3, pe, go_sem]
theorem neq_fi (f : Nat → Nat) (V : World) : (binOp .neq fiT (fiVal f) (fiVal f)).run Try.prog V = .ok (.bool false) V := by
  have h := eqin_fi f V
  unfold fiVal at h ⊢
  rw [run_neq_struct, h]
  rfl
end Go.Proofs.Ytadghaiengonoaa
namespace Go.Proofs.Ytadghaiengonoaa
set_option linter.unusedVariables false
set_option linter.unusedSimpArgs false
set_option linter.unusedSectionVars false
open Go Go.RowKit Go.Maps Go.Deep
theorem quo_nat (a : Int) (c : Int) (h : Inst a) (hc : 1 ≤ c) : a.tdiv c = a / c ∧ wrap64 (a / c) = a / c := by
  obtain ⟨h1, h2⟩ := h
  refine ⟨Int.tdiv_eq_ediv_of_nonneg h1, ?_⟩
  have h3 : 0 ≤ a / c := Int.ediv_nonneg h1 (by omega)
  have h4 : a / c ≤ a := Int.ediv_le_self c h1
  have h5 : wrap64 (a / c) = a / c := IntWalk.wrap64_in _ (by omega)
  exact h5
set_option maxRecDepth 100000 in
set_option maxHeartbeats 4000000 in
theorem rplace_any (W : World) (now due : Int) (hn : Inst now) (hd : Inst due) :
    Calls Try.prog 40 #[.int .i64 now, .int .i64 due] W fun e W' => e = .returned (.int .i64 (ringN now due : Nat)) ∧ Below W.heap.size W W' := by
  obtain ⟨a1, ha1⟩ : ∃ q, q = due / 64 := ⟨_, rfl⟩
  obtain ⟨a2, ha2⟩ : ∃ q, q = due / 4096 := ⟨_, rfl⟩
  obtain ⟨a3, ha3⟩ : ∃ q, q = due / 262144 := ⟨_, rfl⟩
  obtain ⟨a4, ha4⟩ : ∃ q, q = due / 16777216 := ⟨_, rfl⟩
  obtain ⟨b1, hb1⟩ : ∃ q, q = now / 64 := ⟨_, rfl⟩
  obtain ⟨b2, hb2⟩ : ∃ q, q = now / 4096 := ⟨_, rfl⟩
  obtain ⟨b3, hb3⟩ : ∃ q, q = now / 262144 := ⟨_, rfl⟩
  obtain ⟨b4, hb4⟩ : ∃ q, q = now / 16777216 := ⟨_, rfl⟩
  obtain ⟨p1, p2⟩ := quo_nat due 64 hd (by decide)
  obtain ⟨p3, p4⟩ := quo_nat due 4096 hd (by decide)
  obtain ⟨p5, p6⟩ := quo_nat due 262144 hd (by decide)
  obtain ⟨p7, p8⟩ := quo_nat due 16777216 hd (by decide)
  obtain ⟨q1, q2⟩ := quo_nat now 64 hn (by decide)
  obtain ⟨q3, q4⟩ := quo_nat now 4096 hn (by decide)
  obtain ⟨q5, q6⟩ := quo_nat now 262144 hn (by decide)
  obtain ⟨q7, q8⟩ := quo_nat now 16777216 hn (by decide)
  have hr : ringN now due = if due ≤ now then 4 else if a1 = b1 then 0 else if a2 = b2 then 1 else if a3 = b3 then 2 else if a4 = b4 then 3 else 4 := by
    rw [ha1, ha2, ha3, ha4, hb1, hb2, hb3, hb4]; rfl
  rw [← ha1] at p1 p2
  rw [← ha2] at p3 p4
  rw [← ha3] at p5 p6
  rw [← ha4] at p7 p8
  rw [← hb1] at q1 q2
  rw [← hb2] at q3 q4
  rw [← hb3] at q5 q6
  rw [← hb4] at q7 q8
  clear ha1 ha2 ha3 ha4 hb1 hb2 hb3 hb4 hn hd
  have hall : (due ≤ now ∧ ringN now due = 4) ∨ (¬ due ≤ now ∧ a1 = b1 ∧ ringN now due = 0) ∨ (¬ due ≤ now ∧ ¬ a1 = b1 ∧ a2 = b2 ∧ ringN now due = 1) ∨ (¬ due ≤ now ∧ ¬ a1 = b1 ∧ ¬ a2 = b2 ∧ a3 = b3 ∧ ringN now due = 2) ∨ (¬ due ≤ now ∧ ¬ a1 = b1 ∧ ¬ a2 = b2 ∧ ¬ a3 = b3 ∧ a4 = b4 ∧ ringN now due = 3) ∨ (¬ due ≤ now ∧ ¬ a1 = b1 ∧ ¬ a2 = b2 ∧ ¬ a3 = b3 ∧ ¬ a4 = b4 ∧ ringN now due = 4) := by
    rw [hr]; clear hr p1 p2 p3 p4 p5 p6 p7 p8 q1 q2 q3 q4 q5 q6 q7 q8; split <;> (try split) <;> (try split) <;> (try split) <;> (try split) <;> simp_all
  clear hr
  obtain ⟨r, hrr⟩ : ∃ r, r = ringN now due := ⟨_, rfl⟩
  rw [← hrr] at hall ⊢
  clear hrr
  rcases hall with ⟨h1, rfl⟩ | ⟨h1, rfl, rfl⟩ | ⟨h1, h2, rfl, rfl⟩ | ⟨h1, h2, h3, rfl, rfl⟩ | ⟨h1, h2, h3, h4, rfl, rfl⟩ | ⟨h1, h2, h3, h4, h5, rfl⟩
  all_goals
    go_enter Try.func40, Try.ntmps40
    go_wp2_with fail
    go_ret
    exact ⟨rfl, Below.refl _ _⟩
abbrev rwT : TypeId := 48
def slot0 (X : List Th) : RLs := X.map (fun t => (t, 0))
theorem slot0_len (X : List Th) : (slot0 X).length = X.length := by simp [slot0]
theorem slot0_get (X : List Th) (i : Nat) (hi : i < X.length) : (slot0 X)[i]'(by rw [slot0_len]; exact hi) = (X[i], 0) := by simp [slot0]
def rwV (now : Int) (ao : Option Addr) (n cap : Nat) : Value := .agg #[.int .i64 now, .slice ao n cap]
theorem rx_cells {W : World} {ao : Option Addr} {cap : Nat} {X : List Th} (h : Rt W ao cap (slot0 X)) (i : Nat) (hi : i < X.length) : ∃ b off, ao = some ⟨b, off, .none⟩ ∧ b < W.heap.size ∧
    W.cell? ⟨b, off + i * 4, none⟩ = some (.int .u64 X[i].id) ∧ W.cell? ⟨b, off + i * 4 + 1, none⟩ = some (.int .u64 X[i].gen) ∧ W.cell? ⟨b, off + i * 4 + 2, none⟩ = some (.int .i64 X[i].due) ∧ W.cell? ⟨b, off + i * 4 + 3, none⟩ = some (.int .i64 0) := by
  obtain ⟨b, off, e, hb, c0, c1, c2, c3⟩ := Rt.cells h i (by rw [slot0_len]; exact hi)
  rw [slot0_get X i hi] at c0 c1 c2 c3
  exact ⟨b, off, e, hb, c0, c1, c2, c3⟩
theorem cntR_take (now : Int) (X : List Th) (i : Nat) (hi : i < X.length) : cntR now (X.take (i + 1)) = fun j => if j = ringN now X[i].due then cntR now (X.take i) (ringN now X[i].due) + 1 else cntR now (X.take i) j := by
  funext j
  rw [List.take_add_one, List.getElem?_eq_getElem hi, Option.toList_some]
  unfold cntR
  rw [List.filter_append, List.length_append]
  by_cases e : j = ringN now X[i].due
  · subst e; simp
  · rw [if_neg e]
    have : ¬ ringN now X[i].due = j := fun h => e h.symm
    simp [this]
theorem cntR_le (now : Int) (X : List Th) (k : Nat) : cntR now X k ≤ X.length := List.length_filter_le _ _
theorem ldI {W : World} {b o : Nat} {x : Int} (h : W.cell? ⟨b, o, none⟩ = some (.int .i64 x)) : (Instr.loadAt 2 (.pointer (some ⟨b, o, none⟩))).run Try.prog W = .ok (.int .i64 x) W := by go_simp
theorem ldS {W : World} {b o : Nat} {ao : Option Addr} {n cap : Nat} (h : W.cell? ⟨b, o, none⟩ = some (.slice ao n cap)) : (Instr.loadAt rtsT (.pointer (some ⟨b, o, none⟩))).run Try.prog W = .ok (.slice ao n cap) W := by go_simp
theorem wrap_b (k n : Nat) (h : k < n) (hn : n ≤ 300) : wrap64 ((k : Int) + 1) = (k : Int) + 1 := IntWalk.wrap64_in _ (by omega)
set_option maxRecDepth 100000 in
set_option maxHeartbeats 4000000 in
theorem rspread_any (W : World) (now : Int) (ao : Option Addr) (cap : Nat) (X : List Th) (h : Rt W ao cap (slot0 X)) (hn : Inst now) (hl : X.length ≤ 256) (hok : ∀ t ∈ X, Inst t.due) :
    Calls Try.prog 19 #[rwV now ao X.length cap] W fun e W' => e = .returned (fiVal (cntR now X)) ∧ Below W.heap.size W W' := by
  unfold rwV
  have Hh := Lib.hid h
  have Hn := Lib.hid hn
  have Hl := Lib.hid hl
  have Hok := Lib.hid hok
  obtain ⟨W1, hW1⟩ : ∃ W1, W1 = W.alloc (.cells #[.int .i64 now, .slice ao X.length cap] rwT) := ⟨_, rfl⟩
  obtain ⟨W2, hW2⟩ : ∃ W2, W2 = W1.alloc (.cells #[.int .i64 0, .int .i64 0, .int .i64 0, .int .i64 0, .int .i64 0] fiT) := ⟨_, rfl⟩
  obtain ⟨W3, hW3⟩ : ∃ W3, W3 = W2.alloc (.cells #[.int .i64 0, .int .i64 0, .int .i64 0, .int .i64 0, .int .i64 0] fiT) := ⟨_, rfl⟩
  obtain ⟨b1, hb1⟩ : ∃ b, b = W.heap.size := ⟨_, rfl⟩
  obtain ⟨b2, hb2⟩ : ∃ b, b = W.heap.size + 1 := ⟨_, rfl⟩
  obtain ⟨b3, hb3⟩ : ∃ b, b = W.heap.size + 1 + 1 := ⟨_, rfl⟩
  have z1 : W1.heap.size = W.heap.size + 1 := by rw [hW1]; simp
  have z2 : W2.heap.size = W.heap.size + 1 + 1 := by rw [hW2]; simp [z1]
  have B1 : Below W.heap.size W W1 := by rw [hW1]; exact below_new _ _
  have B2 : Below W1.heap.size W1 W2 := by rw [hW2]; exact below_new _ _
  have B3 : Below W2.heap.size W2 W3 := by rw [hW3]; exact below_new _ _
  have hB3 := below_on (below_on B1 B2 (Nat.le_refl _)) B3 (Nat.le_refl _)
  have t1 : W3.heap[b1]? = some (.cells #[.int .i64 now, .slice ao X.length cap] rwT (0, 0)) := by
    rw [B3.block b1 (by omega), B2.block b1 (by omega), hW1, hb1]; exact heap_alloc_new _ _
  have t2 : W3.heap[b2]? = some (.cells #[.int .i64 0, .int .i64 0, .int .i64 0, .int .i64 0, .int .i64 0] fiT (0, 0)) := by
    rw [B3.block b2 (by omega), hW2, hb2, ← z1]; exact heap_alloc_new _ _
  have t3 : W3.rowIs b3 fiT 5 (fun j => .int .i64 (cntR now (X.take 0) j : Nat)) := by
    refine ⟨#[.int .i64 0, .int .i64 0, .int .i64 0, .int .i64 0, .int .i64 0], ?_, rfl, ?_⟩
    · rw [hW3, hb3, ← z2]; exact heap_alloc_new _ _
    · intro j hj
      have : cntR now (X.take 0) j = 0 := by unfold cntR; simp
      simp only [this]
      rcases (by omega : j = 0 ∨ j = 1 ∨ j = 2 ∨ j = 3 ∨ j = 4) with rfl | rfl | rfl | rfl | rfl <;> rfl
  have Hup : Hid (W.heap.size ≤ b3 ∧ W.heap.size ≤ b2) := ⟨by omega, by omega⟩
  have Hap : Hid (b1 ≠ b3 ∧ b2 ≠ b3) := ⟨by omega, by omega⟩
  have HB3 := Lib.hid hB3
  have T1 := Lib.hid t1
  have T2 := Lib.hid t2
  have T3 := Lib.hid t3
  clear h hn hl hok z1 z2 B1 B2 B3 hB3 t1 t2 t3
  go_enter Try.func19, Try.ntmps19
  go_wp2_with fail
  rw [← hW1, ← hW2, ← hW3, ← hb3, ← hb2, ← hb1]
  clear hW1 hW2 hW3 hb1 hb2 hb3
  go_loopw [4] (fun u wx => ∃ i : Nat, u = .int .i64 (i : Nat) ∧ i ≤ X.length ∧ Hid (wx.rowIs b3 fiT 5 (fun j => .int .i64 (cntR now (X.take i) j : Nat))) ∧ Hid (Gr (fun b => b = b3) W3 wx)) (fun u _ => X.length - (intOf u).toNat)
  case atStart => exact ⟨0, rfl, Nat.zero_le _, T3, Gr.refl _ _⟩
  case round =>
    clear T3
    obtain ⟨i, rfl, hi, hr, hg⟩ := hrel
    have d1 := (hg.out.block b1 (Array.getElem?_eq_some_iff.1 T1.out).1 Hap.out.1).trans T1.out
    have hbl1 := (Array.getElem?_eq_some_iff.1 d1).1
    have e0 := block_cell d1 0
    have e1 := block_cell d1 1
    simp at e0 e1
    by_cases hil : i < X.length
    · obtain ⟨x1, x2⟩ := i_nums i X.length hil
      have hBw := HB3.out.trans (hg.out.above HB3.out.size (fun b e => by rw [e]; exact Hup.out.1))
      obtain ⟨bx, fx, rfl, hbx, -, -, c2, -⟩ := rx_cells (Hh.out.below hBw) i hil
      have hdu := Hok.out X[i] (List.getElem_mem hil)
      have htk := cntR_take now X i hil
      obtain ⟨d, hd⟩ : ∃ d, d = X[i].due := ⟨_, rfl⟩
      rw [← hd] at c2 hdu htk
      have hk5 : ringN now d < 5 := Nat.lt_succ_of_le (ringN_le now d)
      have hcl : cntR now (X.take i) (ringN now d) ≤ 256 := Nat.le_trans (cntR_le _ _ _) (Nat.le_trans (by rw [List.length_take]; exact Nat.min_le_right _ _) Hl.out)
      have hpl := rplace_any wr.drew now d Hn.out hdu
      have y1 : ¬ (X.length : Int) ≤ (i : Int) := by omega
      have hld1 : ∀ W', Below wr.heap.size wr W' → (Instr.loadAt 2 (.pointer (some ⟨b1, 0, none⟩))).run Try.prog W' = .ok (.int .i64 now) W' := fun W' hw => ldI ((hw.cell (p := ⟨b1, 0, none⟩) hbl1).trans e0)
      have hld3 : ∀ W', Below wr.heap.size wr W' → (Instr.loadAt rtsT (.pointer (some ⟨b1, 1, none⟩))).run Try.prog W' = .ok (.slice (some ⟨bx, fx, none⟩) X.length cap) W' := fun W' hw => ldS ((hw.cell (p := ⟨b1, 1, none⟩) hbl1).trans e1)
      have hld7 : ∀ W', Below wr.heap.size wr W' → (Instr.loadAt 2 (.pointer (some ⟨bx, fx + i * 4 + 2, none⟩))).run Try.prog W' = .ok (.int .i64 d) W' := fun W' hw => ldI ((hw.cell (p := ⟨bx, fx + i * 4 + 2, none⟩) hbx).trans c2)
      have Hld1 := Lib.hid hld1
      have Hld3 := Lib.hid hld3
      have Hld7 := Lib.hid hld7
      have Hpl := Lib.hid hpl
      have Htk := Lib.hid htk
      have Hk5 := Lib.hid hk5
      have Hcl := Lib.hid hcl
      have Hil := Lib.hid hil
      clear hld1 hld3 hld7 hpl htk hk5 hcl hil hBw hd hdu c2 d1 hi
      go_upto_region 5 with fail
      refine wp_region_held_drew (S := fun W' => Below wr.heap.size wr W') (by kernel_rfl) (Below.refl _ wr).drew (fun hHeld => ?_)
      refine wpAnyH_take (i := 0) (v := ?_) rfl (by kernel_rfl) (by kernel_rfl) (by kernel_rfl) (fun _ _ _ h => h) (Or.inl ⟨by rfl, ?_⟩) (by assumption) ?_
      rotate_left
      · intro w8 hSw; clear hSw; go_simp; (try with_reducible rfl)
      simp only [Act.put, List.getElem_toArray, List.getElem_cons_zero, List.getElem_cons_succ, List.setIfInBounds_toArray, List.set_cons_zero, List.set_cons_succ]
      refine wpAnyH_take (i := 1) (v := .int .i64 now) rfl (by kernel_rfl) (by kernel_rfl) (by kernel_rfl) (fun _ _ _ h => h) (Or.inl ⟨by rfl, ?_⟩) (by assumption) ?_
      · intro w8 hSw; exact ld_takeT rfl (Hld1.out w8 hSw) rfl
      simp only [Act.put, List.getElem_toArray, List.getElem_cons_zero, List.getElem_cons_succ, List.setIfInBounds_toArray, List.set_cons_zero, List.set_cons_succ]
      refine wpAnyH_take (i := 2) (v := ?_) rfl (by kernel_rfl) (by kernel_rfl) (by kernel_rfl) (fun _ _ _ h => h) (Or.inl ⟨by rfl, ?_⟩) (by assumption) ?_
      rotate_left
      · intro w8 hSw; clear hSw; go_simp; (try with_reducible rfl)
      simp only [Act.put, List.getElem_toArray, List.getElem_cons_zero, List.getElem_cons_succ, List.setIfInBounds_toArray, List.set_cons_zero, List.set_cons_succ]
      refine wpAnyH_take (i := 3) (v := .slice (some ⟨bx, fx, none⟩) X.length cap) rfl (by kernel_rfl) (by kernel_rfl) (by kernel_rfl) (fun _ _ _ h => h) (Or.inl ⟨by rfl, ?_⟩) (by assumption) ?_
      · intro w8 hSw; exact ld_takeT rfl (Hld3.out w8 hSw) rfl
      simp only [Act.put, List.getElem_toArray, List.getElem_cons_zero, List.getElem_cons_succ, List.setIfInBounds_toArray, List.set_cons_zero, List.set_cons_succ]
      refine wpAnyH_take (i := 4) (v := ?_) rfl (by kernel_rfl) (by kernel_rfl) (by kernel_rfl) (fun _ _ _ h => h) (Or.inl ⟨by rfl, ?_⟩) (by assumption) ?_
      rotate_left
      · intro w8 hSw; clear hSw; go_simp; (try with_reducible rfl)
      simp only [Act.put, List.getElem_toArray, List.getElem_cons_zero, List.getElem_cons_succ, List.setIfInBounds_toArray, List.set_cons_zero, List.set_cons_succ]
      refine wpAnyH_take (i := 5) (v := ?_) rfl (by kernel_rfl) (by kernel_rfl) (by kernel_rfl) (fun _ _ _ h => h) (Or.inl ⟨by rfl, ?_⟩) (by assumption) ?_
      rotate_left
      · intro w8 hSw; clear hSw; go_simp; (try with_reducible rfl)
      simp only [Act.put, List.getElem_toArray, List.getElem_cons_zero, List.getElem_cons_succ, List.setIfInBounds_toArray, List.set_cons_zero, List.set_cons_succ]
      refine wpAnyH_take (i := 6) (v := ?_) rfl (by kernel_rfl) (by kernel_rfl) (by kernel_rfl) (fun _ _ _ h => h) (Or.inl ⟨by rfl, ?_⟩) (by assumption) ?_
      rotate_left
      · intro w8 hSw; clear hSw; go_simp; (try with_reducible rfl)
      simp only [Act.put, List.getElem_toArray, List.getElem_cons_zero, List.getElem_cons_succ, List.setIfInBounds_toArray, List.set_cons_zero, List.set_cons_succ]
      refine wpAnyH_take (i := 7) (v := .int .i64 d) rfl (by kernel_rfl) (by kernel_rfl) (by kernel_rfl) (fun _ _ _ h => h) (Or.inl ⟨by rfl, ?_⟩) (by assumption) ?_
      · intro w8 hSw; exact ld_takeT rfl (Hld7.out w8 hSw) rfl
      simp only [Act.put, List.getElem_toArray, List.getElem_cons_zero, List.getElem_cons_succ, List.setIfInBounds_toArray, List.set_cons_zero, List.set_cons_succ]
      refine wpAnyH_ready (rs := [8]) (by kernel_rfl) (by simp) ?_
      refine AllReadyH.cons rfl (fun K hK => ?_) AllReadyH.nil
      go_simp
      go_at_call 40
      refine (Hpl.out).mono ?_
      rintro e V1 ⟨rfl, hv1⟩
      refine hK.out _ _ (below_on (Below.refl _ wr).drew hv1 (Nat.le_refl _)) (fun hHeld => ?_)
      clear hK K
      try simp only [Act.put, List.getElem_toArray, List.getElem_cons_zero, List.getElem_cons_succ, List.setIfInBounds_toArray, List.set_cons_zero, List.set_cons_succ]
      refine wpAnyH_take (i := 9) (v := ?_) rfl (by kernel_rfl) (by kernel_rfl) (by kernel_rfl) (fun _ _ _ h => h) (Or.inl ⟨by rfl, ?_⟩) (by assumption) ?_
      rotate_left
      · intro w8 hSw; clear hSw; go_simp; (try with_reducible rfl)
      simp only [Act.put, List.getElem_toArray, List.getElem_cons_zero, List.getElem_cons_succ, List.setIfInBounds_toArray, List.set_cons_zero, List.set_cons_succ]
      refine wpAnyH_done (by kernel_rfl) ?_ _
      have hrV := hr.out.of_block ((hv1.block b3 (show b3 < wr.drew.heap.size from hr.out.lt)).trans rfl)
      obtain ⟨k, hk⟩ : ∃ k, k = ringN now d := ⟨_, rfl⟩
      rw [← hk] at Htk Hk5 Hcl ⊢
      have hcv := hrV.cell Hk5.out
      have hfz := hrV.frozen k
      have hset := (hrV.set k (.int .i64 ((cntR now (X.take i) k : Nat) + 1 : Nat))).congr (g := fun j => .int .i64 (cntR now (X.take (i + 1)) j : Nat)) (fun j hj => by rw [Htk.out]; simp only; split <;> rfl)
      obtain ⟨c, hc⟩ : ∃ c, c = cntR now (X.take i) k := ⟨_, rfl⟩
      rw [← hc] at hcv hset Hcl
      have w1 := wrap_b c 257 (Nat.lt_succ_of_le Hcl.out) (by decide)
      have w2 := wrap_b i X.length Hil.out (Nat.le_trans Hl.out (by decide))
      have k5 : (k : Int) < 5 := by have := Hk5.out; omega
      have hgV : Gr (fun b => b = b3) W3 (V1.setCell ⟨b3, k, none⟩ (.int .i64 ((c + 1 : Nat) : Int))) := (hg.out.trans (Gr.below hHeld)).trans (Gr.one (grown_set V1 b3 k _) (fun b e => (Option.some.inj e).symm))
      have Hset := Lib.hid hset
      have HgV := Lib.hid hgV
      have hbl3 := hrV.lt
      clear hset hgV hrV hc hk Hld1 Hld3 Hld7 Hpl Htk hv1 hHeld hg hr
      go_wp2_with fail
      go_roundw
      case rel => exact ⟨i + 1, by first | rfl | rw [w2]; rfl, Hil.out, Hset, HgV⟩
      case measure =>
        first | rw [w2] | skip
        exact ts_meas X.length i Hil.out
    · obtain rfl : i = X.length := Nat.le_antisymm hi (Nat.le_of_not_lt hil)
      have y1 : ¬ (X.length : Int) < (X.length : Int) := Int.lt_irrefl _
      rw [List.take_length] at hr
      have d2 := (hg.out.block b2 (Array.getElem?_eq_some_iff.1 T2.out).1 Hap.out.2).trans T2.out
      have r0 := hr.out.cell (i := 0) (by decide)
      have r1 := hr.out.cell (i := 1) (by decide)
      have r2 := hr.out.cell (i := 2) (by decide)
      have r3 := hr.out.cell (i := 3) (by decide)
      have r4 := hr.out.cell (i := 4) (by decide)
      have s0 := block_cell d2 0
      have s1 := block_cell d2 1
      have s2 := block_cell d2 2
      have s3 := block_cell d2 3
      have s4 := block_cell d2 4
      have f0 := block_free d2 0
      have f1 := block_free d2 1
      have f2 := block_free d2 2
      have f3 := block_free d2 3
      have f4 := block_free d2 4
      simp at s0 s1 s2 s3 s4 f0 f1 f2 f3 f4
      have HBw := Lib.hid (HB3.out.trans (hg.out.above HB3.out.size (fun b e => by rw [e]; exact Hup.out.1)))
      have hbl2 := (Array.getElem?_eq_some_iff.1 d2).1
      have hbl3 := hr.out.lt
      have hne := Hap.out.2
      clear hi hil hg hr d1 d2
      have hst : ∀ (V : World) (i : Nat) (v : Value), Below W.heap.size W V → Below W.heap.size W (V.setCell ⟨b2, i, none⟩ v) := fun V i v hV => below_grown hV (grown_set V b2 i v) Hup.out.2 hV.size
      have Hst := Lib.hid hst
      clear hst
      go_wp2_with fail
      refine bodyPost_ret (v := fiVal (cntR now X)) ?_ rfl ⟨rfl, Hst.out _ _ _ (Hst.out _ _ _ (Hst.out _ _ _ (Hst.out _ _ _ (Hst.out _ _ _ HBw.out))))⟩
      simp [results, Try.results19, go_sem, fiVal, s0, s1, s2, s3, s4, hbl2]
end Go.Proofs.Ytadghaiengonoaa
