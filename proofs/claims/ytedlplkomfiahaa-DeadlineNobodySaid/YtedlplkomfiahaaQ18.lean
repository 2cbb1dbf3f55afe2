/- Lemmas for DeadlinePlays (Xr WheelFull OpenR OpenT Xs Xt Xu Xv Xw Xx Xy OpenW Xz Da). No statement of the seat is proved here. -/
import Derived.Deep.Slices
import Derived.Deep.Fields
import Derived.Deep.Strs
import Derived.ProofKit
import Derived.OpenShut
import Derived.ShutString
import Derived.ChangeOld
import Derived.Deep.Matrix
import Derived.ChangeKeysEq
import Derived.Stop.BytesEq
import Derived.Deep.OwnRows
import Derived.Test.YtedlplkomfiahaaQ1
import Derived.Test.YtedlplkomfiahaaQ11
import Derived.Test.YtedlplkomfiahaaQ17
namespace Go.Proofs.Ytedlplkomfiahaa
set_option linter.unusedVariables false
set_option linter.unusedSimpArgs false
set_option linter.unusedSectionVars false
open Go Go.RowKit Go.Maps
/-- a wheel that the call made -/
structure Wo (W wr : World) (F : Nat → Prop) (w : Nat) (now : Int) (X : List Th) : Prop where
  whl : Whl wr F w now X
  up : ∀ i, F i → W.heap.size ≤ i
  bel : Below W.heap.size W wr
/-- behind a call that wrote it -/
def Wnx (W wr : World) (F : Nat → Prop) (w : Nat) (now : Int) (X : List Th) (W' : World) : Prop := ∃ F', Wo W W' F' w now X ∧ Gr F wr W' ∧ ∀ i, F' i → F i ∨ wr.heap.size ≤ i
section
variable {W wr wr' : World} {F : Nat → Prop} {w : Nat} {now : Int} {X : List Th}
theorem Wo.below (h : Wo W wr F w now X) (hb : Below wr.heap.size wr wr') : Wo W wr' F w now X := ⟨h.whl.below hb, h.up, below_on h.bel hb (Nat.le_refl _)⟩
theorem Wo.bd (h : Wo W wr F w now X) : ∀ i, F i → i < wr.heap.size := h.whl.bd
theorem Wo.st (h : Wo W wr F w now X) {now' : Int} {X' : List Th} (hs : Wst wr F w now' X' wr') : Wnx W wr F w now' X' wr' := by
  obtain ⟨F', h1, h2, h3⟩ := hs
  exact ⟨F', ⟨h1, fun i hi => (h3 i hi).elim (h.up i) (fun x => Nat.le_trans h.bel.size x), h.bel.trans (h2.above h.bel.size h.up)⟩, h2, h3⟩
theorem Wo.okX (h : Wo W wr F w now X) : Inst now ∧ Asc X ∧ Ids X ∧ (∀ t ∈ X, Inst t.due ∧ IdOk t.id) ∧ X.length ≤ 256 := by
  obtain ⟨G, rs, pf, mf, R, far, h1, h2, h3⟩ := h.whl
  exact ⟨h2, h3.asc, h3.ids, h3.ok, h3.len⟩
/-- what another one's call wrote -/
theorem Wo.beside {H : Nat → Prop} (h : Wo W wr F w now X) (hg : Gr H wr wr') (hd : ∀ i, F i → ¬ H i) (hH : ∀ i, H i → W.heap.size ≤ i) : Wo W wr' F w now X := ⟨h.whl.beside hg hd, h.up, h.bel.trans (hg.above h.bel.size hH)⟩
theorem arm_o (h : Wo W wr F w now X) (t : Th) (hw : IdOk t.id) :
    Calls Try.prog 38 #[.pointer (some ⟨w, 0, none⟩), thVal t] wr fun e W' => e = .returned (.int .i64 (armE X t)) ∧ Wnx W wr F w now (armX X t) W' := by
  refine (arm_any wr F w now X t h.whl hw).mono ?_
  rintro e W' ⟨rfl, hs⟩
  exact ⟨rfl, h.st hs⟩
theorem cancel_o (h : Wo W wr F w now X) (id : Int) (hw : IdOk id) :
    Calls Try.prog 34 #[.pointer (some ⟨w, 0, none⟩), .int .u64 id] wr fun e W' => CancelIs X id e ∧ Wnx W wr F w now (lessId X id) W' := by
  refine (cancel_any wr F w now X id h.whl hw).mono ?_
  rintro e W' ⟨he, hs⟩
  exact ⟨he, h.st hs⟩
theorem get_o (h : Wo W wr F w now X) (id : Int) (hw : IdOk id) :
    Calls Try.prog 48 #[.pointer (some ⟨w, 0, none⟩), .int .u64 id] wr fun e W' => CancelIs X id e ∧ Below wr.heap.size wr W' := by
  obtain ⟨G, rs, pf, mf, R, far, hm, hn, hi⟩ := h.whl
  refine (wget_any wr F G w now rs pf mf 256 R far id hm hw (by decide)).mono ?_
  rintro e W' ⟨hor, hb⟩
  refine ⟨?_, hb⟩
  rcases hor with ⟨t, ht, e1, e2⟩ | ⟨h4, e2⟩
  · exact .inl ⟨t, hi.perm.mem_iff.2 ht, e1, e2⟩
  · exact .inr ⟨fun u hu => h4 u (hi.perm.mem_iff.1 hu), e2⟩
theorem len_o (h : Wo W wr F w now X) :
    Calls Try.prog 37 #[.pointer (some ⟨w, 0, none⟩)] wr fun e W' => e = .returned (.int .i64 (X.length : Nat)) ∧ Below wr.heap.size wr W' := by
  obtain ⟨G, rs, pf, mf, R, far, hm, hn, hi⟩ := h.whl
  have hl := hi.lenT
  refine (wlen_any wr F G w now rs pf mf 256 R far hm (by omega)).mono ?_
  rintro e W' ⟨rfl, hb⟩
  exact ⟨by rw [hi.perm.length_eq], hb⟩
theorem now_o (h : Wo W wr F w now X) :
    Calls Try.prog 39 #[.pointer (some ⟨w, 0, none⟩)] wr fun e W' => e = .returned (.int .i64 now) ∧ W' = wr := by
  obtain ⟨G, rs, pf, mf, R, far, hm, hn, hi⟩ := h.whl
  exact wnow_any wr F G w now rs pf mf 256 R far hm
end
theorem new_o (W wr : World) (now : Int) (h : Inst now) (hb : Below W.heap.size W wr) : Calls Try.prog 32 #[.int .i64 now] wr fun e W' => ∃ w F, e = .returned (.pointer (some ⟨w, 0, none⟩)) ∧ Wo W W' F w now [] ∧ Below wr.heap.size wr W' ∧ ∀ i, F i → wr.heap.size ≤ i := by
  refine (wnew_any wr now h).mono ?_
  rintro e W' ⟨w, F, rfl, h1, h2, h3⟩
  exact ⟨w, F, rfl, ⟨h1, fun i hi => Nat.le_trans hb.size (h2 i hi), below_on hb h3 (Nat.le_refl _)⟩, h3, h2⟩
theorem arm_is {X m : List Th} {t : Th} (hd : Inst t.due) (hn : ∀ u ∈ X, u.id ≠ t.id) (hl : X.length < 256) (hm : Asc m) (hi : Ids m) (hp : (X ++ [t]).Perm m) : armX X t = m ∧ armE X t = 0 := by
  have hne : ¬ ∃ u ∈ X, u.id = t.id := fun ⟨u, hu, e⟩ => hn u hu e
  constructor
  · unfold armX
    rw [if_pos hd, if_neg hne, if_neg (by omega)]
    exact srt_is hm hi hp
  · unfold armE
    rw [if_pos hd, if_neg hne, if_neg (by omega)]
end Go.Proofs.Ytedlplkomfiahaa
namespace Go.Proofs.Ytedlplkomfiahaa
set_option linter.unusedVariables false
set_option linter.unusedSimpArgs false
set_option linter.unusedSectionVars false
open Go Go.RowKit Go.Maps
theorem Ids.inj {X : List Th} (h : Ids X) : ∀ s ∈ X, ∀ t ∈ X, s.id = t.id → s = t := by
  induction X with
  | nil => intro s hs; cases hs
  | cons x X ih =>
    have hp := List.pairwise_cons.1 h
    intro s hs t ht e
    rcases List.mem_cons.1 hs with h1 | h1
    · rcases List.mem_cons.1 ht with h2 | h2
      · rw [h1, h2]
      · exact absurd (by rw [← h1]; exact e) (hp.1 t h2)
    · rcases List.mem_cons.1 ht with h2 | h2
      · exact absurd (by rw [← h2]; exact e.symm) (hp.1 s h1)
      · exact ih hp.2 s h1 t h2 e
theorem Ids.nodup {X : List Th} (h : Ids X) : X.Nodup := List.Pairwise.imp (fun {a b} hne (e : a = b) => hne (by rw [e])) h
theorem ids_less {X : List Th} (h : Ids X) {t : Th} (ht : t ∈ X) : (lessId X t.id).length + 1 = X.length := by
  have := (perm_less h.inj h.nodup ht).length_eq
  simpa using this.symm
theorem armX_in {X : List Th} {t : Th} (hd : Inst t.due) (hn : ∀ u ∈ X, u.id ≠ t.id) (hl : X.length < 256) : armE X t = 0 ∧ armX X t = insT X t := by
  have hne : ¬ ∃ u ∈ X, u.id = t.id := fun ⟨u, hu, e⟩ => hn u hu e
  constructor
  · unfold armE; rw [if_pos hd, if_neg hne, if_neg (by omega)]
  · unfold armX; rw [if_pos hd, if_neg hne, if_neg (by omega)]
theorem insT_mem {X : List Th} {t u : Th} : u ∈ insT X t ↔ u ∈ X ∨ u = t := by
  unfold insT
  rw [(Sta.srt_perm thLe (X ++ [t])).mem_iff]
  simp
theorem insT_len (X : List Th) (t : Th) : (insT X t).length = X.length + 1 := by
  unfold insT
  rw [Sta.srt_len]; simp
/-- ids 0 .. i - 1 -/
def Upto (X : List Th) (i : Nat) : Prop := X.length = i ∧ ∀ j : Int, (∃ u ∈ X, u.id = j) ↔ 0 ≤ j ∧ j < (i : Int)
theorem Upto.put {X : List Th} {i : Nat} (h : Upto X i) (g d : Int) : Upto (insT X ⟨(i : Nat), g, d⟩) (i + 1) := by
  refine ⟨by rw [insT_len, h.1], fun j => ?_⟩
  constructor
  · rintro ⟨u, hu, e⟩
    rcases insT_mem.1 hu with h1 | h1
    · have := (h.2 j).1 ⟨u, h1, e⟩; omega
    · subst h1; simp only at e; omega
  · intro hj
    by_cases e : j = (i : Int)
    · exact ⟨_, insT_mem.2 (.inr rfl), e.symm⟩
    · obtain ⟨u, hu, e2⟩ := (h.2 j).2 (by omega)
      exact ⟨u, insT_mem.2 (.inl hu), e2⟩
end Go.Proofs.Ytedlplkomfiahaa
namespace Go.Proofs.Ytedlplkomfiahaa
set_option linter.unusedVariables false
set_option linter.unusedSimpArgs false
set_option linter.unusedSectionVars false
open Go Go.ChangeShapes Go.WideShapes Go.ChangeAt Go.RowKit Go.Deep
theorem rows_len {α : Type} {cells : α → List Value} {k : Nat} (hl : ∀ a, (cells a).length = k) (l : List α) : (l.map cells).flatten.length = l.length * k := by
  induction l with
  | nil => simp
  | cons a l ih => simp only [List.map_cons, List.flatten_cons, List.length_append, ih, hl, List.length_cons, Nat.succ_mul]; omega
/-- what a cell of rows is -/
theorem rows_get {α : Type} {cells : α → List Value} {k : Nat} (hl : ∀ a, (cells a).length = k) (hk : 0 < k) (l : List α) (j : Nat) (u : Value) (h : (l.map cells).flatten[j]? = some u) :
    ∃ (hi : j / k < l.length), (cells l[j / k])[j % k]? = some u := by
  have hj : j < (l.map cells).flatten.length := (List.getElem?_eq_some_iff.1 h).1
  rw [rows_len hl] at hj
  have hi : j / k < l.length := Nat.div_lt_of_lt_mul (by rw [Nat.mul_comm]; exact hj)
  refine ⟨hi, ?_⟩
  have hm : j % k < k := Nat.mod_lt _ hk
  have := flatten_get (rows := l.map cells) (k := k) (by intro r hr; obtain ⟨x, _, rfl⟩ := List.mem_map.1 hr; exact hl x) (j / k) (j % k) (by simpa using hi) (by simp [hl]; exact hm)
  rw [show j / k * k + j % k = j from by rw [Nat.mul_comm]; exact Nat.div_add_mod j k, h] at this
  rw [this, List.getElem?_eq_getElem (by rw [hl]; exact hm)]
  simp
section
variable {H : Type} {enc : TypeId × Value → H} {P : Program} {w : World} {base : Nat} {held : Bool}
theorem open_rows {α : Type} [Inhabited α] (cells : α → List Value) (good : α → Prop) {k : Nat} (hl : ∀ a, (cells a).length = k) (hk : 0 < k) {t e : TypeId} {fuel : Nat} {ao : Option Addr} {len cap : Nat} {x : DataW H × List MemPlace}
    (ht : P.underlying t = some (.slice e)) (hC : P.cellsOf e = k)
    (hrow : ∀ (n : Nat) (cs : List Value) (y : DataW H × List MemPlace), cs.length = k → DataW.trod enc P w base (fun _ => true) held n e cs = some y → ∃ a, cs = cells a ∧ good a)
    (h : DataW.trod enc P w base (fun _ => true) held fuel t (Value.slice ao len cap).cells.toList = some x) : ∃ l : List α, len = l.length ∧ Sl w k ao l.length cap (l.map cells).flatten ∧ ∀ a ∈ l, good a := by
  rcases open_slice ht h with ⟨hcs, _⟩ | ⟨a, len', cap', m, n, D, Pl, hcs, _, hle, hmax, hmm, _, hx⟩
  · simp [Value.cells] at hcs
    obtain ⟨rfl, rfl, rfl⟩ := hcs
    exact ⟨[], rfl, ⟨by simp, by simp, by decide, fun _ => rfl, fun j u hu => by simp at hu⟩, by simp⟩
  · simp [Value.cells] at hcs
    obtain ⟨rfl, rfl, rfl⟩ := hcs
    simp only [if_true] at hmm
    subst hmm
    have each : ∀ i, i < len → ∃ q : α, (∀ j, j < k → w.cell? (a.add (i * k + j)) = (cells q)[j]?) ∧ good q := by
      intro i hi
      obtain ⟨cs', h1, h2⟩ := hx i (by omega)
      rw [hC] at h1
      obtain ⟨_, hlen, hcell⟩ := World.cells?_some h1
      obtain ⟨q, rfl, hq⟩ := hrow _ _ _ hlen h2
      refine ⟨q, fun j hj => ?_, hq⟩
      rw [← add_add]; exact hcell j hj
    obtain ⟨y, hy⟩ := choose_lt each
    refine ⟨(List.range len).map y, by simp, ⟨by simpa using rows_len hl ((List.range len).map y), by simpa using hle, hmax, by simp, fun j u hu => ?_⟩, ?_⟩
    · obtain ⟨hi, hu'⟩ := rows_get hl hk _ j u hu
      have hi' : j / k < len := by simpa using hi
      have hm : j % k < k := Nat.mod_lt _ hk
      have hc := (hy _ hi').1 _ hm
      rw [show j / k * k + j % k = j from by rw [Nat.mul_comm]; exact Nat.div_add_mod j k] at hc
      simp only [List.getElem_map, List.getElem_range] at hu'
      rw [hu'] at hc
      obtain ⟨b, off, sp⟩ := a
      have hcz := (hy 0 (Nat.lt_of_le_of_lt (Nat.zero_le _) hi')).1 0 hk
      rw [List.getElem?_eq_getElem (by rw [hl]; exact hk)] at hcz
      have hsp : sp = none := by simpa [Addr.add] using World.cell?_spot hcz
      subst hsp
      refine ⟨b, off, rfl, ?_⟩
      rwa [Addr.add_none] at hc
    · intro q hq
      obtain ⟨i, hi, rfl⟩ := List.mem_map.1 hq
      exact (hy i (List.mem_range.1 hi)).2
theorem row_ints3 {k0 k1 k2 : IntKind} {e : TypeId} {f0 f1 f2 : Field} (he : P.underlying e = some (.struct #[f0, f1, f2])) (hone : oneCellFields P #[f0, f1, f2] = true) (hC : P.cellsOf e = 3)
    (u0 : P.underlying f0.type = some (.int k0)) (u1 : P.underlying f1.type = some (.int k1)) (u2 : P.underlying f2.type = some (.int k2)) (n : Nat) (cs : List Value) (y : DataW H × List MemPlace) (hcs : cs.length = 3)
    (h : DataW.trod enc P w base (fun _ => true) held n e cs = some y) : ∃ a : Int × Int × Int, cs = [.int k0 a.1, .int k1 a.2.1, .int k2 a.2.2] ∧ (Lit.int k0 a.1).wf = true ∧ (Lit.int k1 a.2.1).wf = true ∧ (Lit.int k2 a.2.2).wf = true := by
  obtain ⟨o0, c0⟩ := hone_of hone 0 f0 rfl
  obtain ⟨o1, c1⟩ := hone_of hone 1 f1 rfl
  obtain ⟨o2, c2⟩ := hone_of hone 2 f2 rfl
  match cs, hcs with
  | [v0, v1, v2], _ =>
    obtain ⟨y0, y1, y2, m, _, _, h0, h1, h2⟩ := trod_struct3 he h
    rw [o0, c0] at h0
    rw [o1, c1] at h1
    rw [o2, c2] at h2
    simp at h0 h1 h2
    obtain ⟨n0, e0, _, w0⟩ := DataW.trod_int u0 h0
    obtain ⟨n1, e1, _, w1⟩ := DataW.trod_int u1 h1
    obtain ⟨n2, e2, _, w2⟩ := DataW.trod_int u2 h2
    simp only [List.cons.injEq, and_true] at e0 e1 e2
    subst e0; subst e1; subst e2
    exact ⟨(n0, n1, n2), rfl, w0, w1, w2⟩
end
/-- a slice of structs of three integers, read -/
abbrev I3 := Int × Int × Int
def i3 (k0 k1 k2 : IntKind) (a : I3) : List Value := [.int k0 a.1, .int k1 a.2.1, .int k2 a.2.2]
def I3s (w : World) (k0 k1 k2 : IntKind) (ao : Option Addr) (cap : Nat) (l : List I3) : Prop := Sl w 3 ao l.length cap (l.map (i3 k0 k1 k2)).flatten
theorem I3s.get {w : World} {k0 k1 k2 : IntKind} {ao : Option Addr} {cap : Nat} {l : List I3} (h : I3s w k0 k1 k2 ao cap l) (k : Nat) (hk : k < l.length) :
    ∃ b off, ao = some ⟨b, off, none⟩ ∧ w.cell? ⟨b, off + k * 3, none⟩ = some (.int k0 l[k].1) ∧ w.cell? ⟨b, off + k * 3 + 1, none⟩ = some (.int k1 l[k].2.1) ∧ w.cell? ⟨b, off + k * 3 + 2, none⟩ = some (.int k2 l[k].2.2) := by
  have key : ∀ j (hj : j < 3), (l.map (i3 k0 k1 k2)).flatten[k * 3 + j]? = (i3 k0 k1 k2 l[k])[j]? := by
    intro j hj
    have := flatten_get (rows := l.map (i3 k0 k1 k2)) (k := 3) (by intro r hr; obtain ⟨x, _, rfl⟩ := List.mem_map.1 hr; rfl) k j (by simpa using hk) (by simpa [i3] using hj)
    rw [this, List.getElem?_eq_getElem (by simpa [i3] using hj)]
    simp
  obtain ⟨b, off, e, c0⟩ := h.cell _ _ (key 0 (by omega))
  obtain ⟨b1, off1, e1, c1⟩ := h.cell _ _ (key 1 (by omega))
  obtain ⟨b2, off2, e2, c2⟩ := h.cell _ _ (key 2 (by omega))
  rw [e] at e1 e2
  simp only [Option.some.injEq, Addr.mk.injEq] at e1 e2
  obtain ⟨rfl, rfl, -⟩ := e1
  obtain ⟨rfl, rfl, -⟩ := e2
  exact ⟨b, off, e, by simpa using c0, by rw [Nat.add_assoc]; exact c1, by rw [Nat.add_assoc]; exact c2⟩
theorem I3s.below {w w' : World} {k0 k1 k2 : IntKind} {ao : Option Addr} {cap : Nat} {l : List I3} (h : I3s w k0 k1 k2 ao cap l) (hb : Below w.heap.size w w') : I3s w' k0 k1 k2 ao cap l := Sl.below h hb
end Go.Proofs.Ytedlplkomfiahaa
namespace Go.Proofs.Ytedlplkomfiahaa
set_option linter.unusedVariables false
set_option linter.unusedSimpArgs false
set_option linter.unusedSectionVars false
open Go Go.ChangeShapes Go.WideShapes Go.ChangeAt Go.RowKit Go.Deep
instance : Inhabited Th := ⟨⟨0, 0, 0⟩⟩
def ThOk (t : Th) : Prop := (Lit.int .u64 t.id).wf = true ∧ (Lit.int .u64 t.gen).wf = true ∧ (Lit.int .i64 t.due).wf = true
theorem ThOk.id {t : Th} (h : ThOk t) : IdOk t.id := by
  have := h.1
  simp [Lit.wf, IntKind.min, IntKind.max, IntKind.signed, IntKind.bits] at this
  exact ⟨this.1, by omega⟩
theorem ThOk.due {t : Th} (h : ThOk t) : -9223372036854775808 ≤ t.due ∧ t.due ≤ 9223372036854775807 := by
  have := h.2.2
  simp [Lit.wf, IntKind.min, IntKind.max, IntKind.signed, IntKind.bits] at this
  exact ⟨by omega, by omega⟩
set_option maxRecDepth 100000 in
theorem th_row {H : Type} {enc : TypeId × Value → H} {w : World} {base : Nat} {held : Bool} (n : Nat) (cs : List Value) (y : DataW H × List MemPlace) (hcs : cs.length = 3)
    (h : DataW.trod enc Try.prog w base (fun _ => true) held n 32 cs = some y) : ∃ t : Th, cs = thCells t ∧ ThOk t := by
  obtain ⟨a, e, w0, w1, w2⟩ := row_ints3 Try.underlying32 (by kernel_rfl) (by kernel_rfl) Try.underlying28 Try.underlying28 Try.underlying2 n cs y hcs h
  exact ⟨⟨a.1, a.2.1, a.2.2⟩, e, w0, w1, w2⟩
set_option maxRecDepth 100000 in
theorem open_ths {H : Type} {enc : TypeId × Value → H} {w : World} {base : Nat} {held : Bool} {fuel : Nat} {ao : Option Addr} {len cap : Nat} {x : DataW H × List MemPlace}
    (h : DataW.trod enc Try.prog w base (fun _ => true) held fuel 35 (Value.slice ao len cap).cells.toList = some x) : ∃ l : List Th, len = l.length ∧ Sl w 3 ao l.length cap (thFlat l) ∧ ∀ a ∈ l, ThOk a :=
  open_rows thCells ThOk (fun _ => rfl) (by decide) Try.underlying35 (by kernel_rfl) th_row h
end Go.Proofs.Ytedlplkomfiahaa
namespace Go.Proofs.Ytedlplkomfiahaa
set_option linter.unusedVariables false
set_option linter.unusedSimpArgs false
set_option linter.unusedSectionVars false
open Go Go.RowKit Go.Maps
section
variable {W wr wr' : World} {F : Nat → Prop} {w : Nat} {now : Int} {X : List Th}
theorem adv_r (h : Wo W wr F w now X) (tb : Int) :
    Calls Try.prog 35 #[.pointer (some ⟨w, 0, none⟩), .int .i64 tb] wr fun e W' => ∃ ao cap, e = .returned (.tuple #[.slice ao (advL now tb X).length cap, .int .i64 (advE now tb)]) ∧ Wnx W wr F w (advN now tb) (advX now tb X) W' ∧ W'.ownsRow wr.heap.size thT 3 (.slice ao (advL now tb X).length cap) (advL now tb X).length (thFlat (advL now tb X)) := by
  refine (adv_any wr F w now tb X h.whl).mono ?_
  rintro e W' ⟨ao, cap, rfl, hs, hrow⟩
  exact ⟨ao, cap, rfl, h.st hs, hrow⟩
theorem all_r (h : Wo W wr F w now X) :
    Calls Try.prog 40 #[.pointer (some ⟨w, 0, none⟩)] wr fun e W' => ∃ ao cap, e = .returned (.slice ao X.length cap) ∧ W'.ownsRow wr.heap.size thT 3 (.slice ao X.length cap) X.length (thFlat X) ∧ Below wr.heap.size wr W' := by
  refine (all_any wr F w now X h.whl).mono ?_
  rintro e W' ⟨ao, cap, rfl, hrow, hb⟩
  exact ⟨ao, cap, rfl, hrow, hb⟩
end
/-- two wheels that the call made, apart from each other -/
structure Two (W wr : World) (F G : Nat → Prop) (v w : Nat) (a b : Int) (X Y : List Th) : Prop where
  fst : Wo W wr F v a X
  snd : Wo W wr G w b Y
  apart : ∀ i, F i → ¬ G i
section
variable {W wr wr' : World} {F G : Nat → Prop} {v w : Nat} {a b : Int} {X Y : List Th}
theorem Two.below (h : Two W wr F G v w a b X Y) (hb : Below wr.heap.size wr wr') : Two W wr' F G v w a b X Y := ⟨h.fst.below hb, h.snd.below hb, h.apart⟩
theorem Two.left {a' : Int} {X' : List Th} (h : Two W wr F G v w a b X Y) (hn : Wnx W wr F v a' X' wr') : ∃ F', Two W wr' F' G v w a' b X' Y ∧ Gr F wr wr' ∧ ∀ i, F' i → F i ∨ wr.heap.size ≤ i := by
  obtain ⟨F', h1, h2, h3⟩ := hn
  refine ⟨F', ⟨h1, h.snd.beside h2 (fun i hg hf => h.apart i hf hg) h.fst.up, fun i hi hg => ?_⟩, h2, h3⟩
  rcases h3 i hi with e | e
  · exact h.apart i e hg
  · have := h.snd.bd i hg; omega
theorem Two.right {b' : Int} {Y' : List Th} (h : Two W wr F G v w a b X Y) (hn : Wnx W wr G w b' Y' wr') : ∃ G', Two W wr' F G' v w a b' X Y' ∧ Gr G wr wr' ∧ ∀ i, G' i → G i ∨ wr.heap.size ≤ i := by
  obtain ⟨G', h1, h2, h3⟩ := hn
  refine ⟨G', ⟨h.fst.beside h2 h.apart h.snd.up, h1, fun i hf hg => ?_⟩, h2, h3⟩
  rcases h3 i hg with e | e
  · exact h.apart i hf e
  · have := h.fst.bd i hf; omega
end
end Go.Proofs.Ytedlplkomfiahaa
namespace Go.Proofs.Ytedlplkomfiahaa
set_option linter.unusedVariables false
set_option linter.unusedSimpArgs false
set_option linter.unusedSectionVars false
open Go Go.RowKit Go.Maps Go.Deep
abbrev rwT : TypeId := 129
def slot0 (X : List Th) : RLs := X.map (fun t => (t, 0))
theorem slot0_len (X : List Th) : (slot0 X).length = X.length := by simp [slot0]
theorem slot0_get (X : List Th) (i : Nat) (hi : i < X.length) : (slot0 X)[i]'(by rw [slot0_len]; exact hi) = (X[i], 0) := by simp [slot0]
def rwV (now : Int) (ao : Option Addr) (n cap : Nat) : Value := .agg #[.int .i64 now, .slice ao n cap]
theorem rx_cells {W : World} {ao : Option Addr} {cap : Nat} {X : List Th} (h : Rt W ao cap (slot0 X)) (i : Nat) (hi : i < X.length) : ∃ b off, ao = some ⟨b, off, .none⟩ ∧ b < W.heap.size ∧
    W.cell? ⟨b, off + i * 4, none⟩ = some (.int .u64 X[i].id) ∧ W.cell? ⟨b, off + i * 4 + 1, none⟩ = some (.int .u64 X[i].gen) ∧ W.cell? ⟨b, off + i * 4 + 2, none⟩ = some (.int .i64 X[i].due) ∧ W.cell? ⟨b, off + i * 4 + 3, none⟩ = some (.int .i64 0) := by
  obtain ⟨b, off, e, hb, c0, c1, c2, c3⟩ := Rt.cells h i (by rw [slot0_len]; exact hi)
  rw [slot0_get X i hi] at c0 c1 c2 c3
  exact ⟨b, off, e, hb, c0, c1, c2, c3⟩
theorem ldI {W : World} {b o : Nat} {x : Int} (h : W.cell? ⟨b, o, none⟩ = some (.int .i64 x)) : (Instr.loadAt 2 (.pointer (some ⟨b, o, none⟩))).run Try.prog W = .ok (.int .i64 x) W := by go_simp
theorem ldS {W : World} {b o : Nat} {ao : Option Addr} {n cap : Nat} (h : W.cell? ⟨b, o, none⟩ = some (.slice ao n cap)) : (Instr.loadAt rtsT (.pointer (some ⟨b, o, none⟩))).run Try.prog W = .ok (.slice ao n cap) W := by go_simp
theorem wrap_b (k n : Nat) (h : k < n) (hn : n ≤ 300) : wrap64 ((k : Int) + 1) = (k : Int) + 1 := IntWalk.wrap64_in _ (by omega)
end Go.Proofs.Ytedlplkomfiahaa
namespace Go.Proofs.Ytedlplkomfiahaa
set_option linter.unusedVariables false
set_option linter.unusedSimpArgs false
set_option linter.unusedSectionVars false
open Go Go.RowKit Go.Maps Go.Deep
theorem own_rt (w : World) (base : Nat) (p : Th × Nat) (hb : base ≤ w.heap.size) : (w.alloc (.cells #[.int .u64 p.1.id, .int .u64 p.1.gen, .int .i64 p.1.due, .int .i64 (p.2 : Nat)] rtT)).ownsRow base rtT 4 (.slice (some ⟨w.heap.size, 0, .none⟩) 1 1) 1 (rtFlat [p]) :=
  ⟨by simp [rtFlat, rtCells], .inr ⟨w.heap.size, 1, _, rfl, hb, heap_alloc_new w _, Nat.le_refl _, by unfold maxLen; omega, by simp, by simp [rtFlat, rtCells]⟩⟩
theorem slot0_app (X : List Th) (p : Th × Nat) : (slot0 X ++ [p]).length = X.length + 1 := by simp [slot0_len]
def Lie (W : World) (a : Option Addr) : Prop := ∀ x, a = some x → W.heap.size ≤ x.block
theorem own_lie {W : World} {base e k n m c : Nat} {a : Option Addr} {xs : List Value} (h : W.ownsRow base e k (.slice a n c) m xs) : ∀ x, a = some x → base ≤ x.block := fun x e => by
  subst e
  exact (h.lt x.block rfl).1
theorem srt_app_len (X : List Th) (p : Th × Nat) : (Sta.srt leP (slot0 X ++ [p])).length = X.length + 1 := (Sta.srt_perm leP _).length_eq.trans (slot0_app X p)
theorem rx_own {W : World} {E : Nat} {ao : Option Addr} {cap n : Nat} {l : RLs} (h : W.ownsRow E rtT 4 (.slice ao n cap) n (rtFlat l)) (hn : l.length = n) : Rt W ao cap l := by
  subst hn; exact Rt.of_own h
end Go.Proofs.Ytedlplkomfiahaa
namespace Go.Proofs.Ytedlplkomfiahaa
set_option linter.unusedVariables false
set_option linter.unusedSimpArgs false
set_option linter.unusedSectionVars false
open Go Go.RowKit Go.Maps Go.Deep
theorem sets_up {W V : World} {b : Nat} (h : Below W.heap.size W V) (hb : W.heap.size ≤ b) (i : Nat) (v : Value) : Below W.heap.size W (V.setCell ⟨b, i, none⟩ v) := below_grown h (grown_set V b i v) hb h.size
end Go.Proofs.Ytedlplkomfiahaa
namespace Go.Proofs.Ytedlplkomfiahaa
set_option linter.unusedVariables false
set_option linter.unusedSimpArgs false
set_option linter.unusedSectionVars false
open Go Go.RowKit Go.Maps Go.Deep
set_option maxRecDepth 100000 in
set_option maxHeartbeats 4000000 in
theorem rcancel_no (W : World) (now : Int) (ao : Option Addr) (cap : Nat) (X : List Th) (id : Int) (h : Rt W ao cap (slot0 X)) (hl : X.length ≤ 256) (hv : findV (slot0 X) id = -1) :
    Calls Try.prog 76 #[rwV now ao X.length cap, .int .u64 id] W fun e W' => e = .returned (.tuple #[rwV now ao X.length cap, rtVal (⟨0, 0, 0⟩, 0), .bool false]) ∧ Below W.heap.size W W' := by
  unfold rtVal rwV
  have hzr := zeroRt
  obtain ⟨W1, hW1⟩ : ∃ W1, W1 = W.alloc (.cells #[.int .i64 now, .slice ao X.length cap] rwT) := ⟨_, rfl⟩
  obtain ⟨W2, hW2⟩ : ∃ W2, W2 = W1.alloc (.cells #[.int .i64 0, .slice none 0 0] rwT) := ⟨_, rfl⟩
  obtain ⟨W3, hW3⟩ : ∃ W3, W3 = W2.alloc (.cells #[.int .u64 0, .int .u64 0, .int .i64 0, .int .i64 0] rtT) := ⟨_, rfl⟩
  obtain ⟨b1, hb1⟩ : ∃ b, b = W.heap.size := ⟨_, rfl⟩
  obtain ⟨b2, hb2⟩ : ∃ b, b = W.heap.size + 1 := ⟨_, rfl⟩
  obtain ⟨b3, hb3⟩ : ∃ b, b = W.heap.size + 1 + 1 := ⟨_, rfl⟩
  have z1 : W1.heap.size = W.heap.size + 1 := by rw [hW1]; simp
  have z2 : W2.heap.size = W.heap.size + 1 + 1 := by rw [hW2]; simp [z1]
  have B1 : Below W.heap.size W W1 := by rw [hW1]; exact below_new _ _
  have B2 : Below W1.heap.size W1 W2 := by rw [hW2]; exact below_new _ _
  have B3 : Below W2.heap.size W2 W3 := by rw [hW3]; exact below_new _ _
  have hB3 := below_on (below_on B1 B2 (Nat.le_refl _)) B3 (Nat.le_refl _)
  have t1 : W3.heap[b1]? = some (.cells #[.int .i64 now, .slice ao X.length cap] rwT (0, 0)) := by
    rw [B3.block b1 (by omega), B2.block b1 (by omega), hW1, hb1]; exact heap_alloc_new _ _
  have t2 : W3.heap[b2]? = some (.cells #[.int .i64 0, .slice none 0 0] rwT (0, 0)) := by
    rw [B3.block b2 (by omega), hW2, hb2, ← z1]; exact heap_alloc_new _ _
  have t3 : W3.heap[b3]? = some (.cells #[.int .u64 0, .int .u64 0, .int .i64 0, .int .i64 0] rtT (0, 0)) := by
    rw [hW3, hb3, ← z2]; exact heap_alloc_new _ _
  have Hup : Hid (W.heap.size ≤ b1 ∧ W.heap.size ≤ b2 ∧ W.heap.size ≤ b3) := ⟨by omega, by omega, by omega⟩
  have Hap : Hid (b1 ≠ b2 ∧ b1 ≠ b3 ∧ b2 ≠ b3) := ⟨by omega, by omega, by omega⟩
  have HB3 := Lib.hid hB3
  have T1 := Lib.hid t1
  have T2 := Lib.hid t2
  have T3 := Lib.hid t3
  clear z1 z2 B1 B2 B3 hB3 t1 t2 t3
  have hfd := find_any W3 ao cap (slot0 X) id (h.below HB3.out) (by rw [slot0_len]; omega)
  rw [slot0_len, hv] at hfd
  have Hfd := Lib.hid hfd
  clear h hl hfd hv
  have a1 := block_cell T1.out 1
  have l1 := (Array.getElem?_eq_some_iff.1 T1.out).1
  have l2 := (Array.getElem?_eq_some_iff.1 T2.out).1
  have l3 := (Array.getElem?_eq_some_iff.1 T3.out).1
  simp at a1
  go_enter Try.func76, Try.ntmps76
  go_upto_region 1 with fail
  rw [← hW1, ← hW2, ← hW3, ← hb3, ← hb2, ← hb1]
  clear hW1 hW2 hW3 hb1 hb2 hb3
  go_wp2_with fail
  refine Hfd.out.mono ?_
  rintro e V ⟨rfl, hV⟩
  have d1 := (hV.block b1 l1).trans T1.out
  have d2 := (hV.block b2 l2).trans T2.out
  have d3 := (hV.block b3 l3).trans T3.out
  have HV := Lib.hid (below_on HB3.out hV (Nat.le_refl _))
  clear a1 l1 l2 l3 T1 T2 T3 Hfd hV
  have a0 := block_cell d1 0
  have a1 := block_cell d1 1
  have c0 := block_cell d2 0
  have c1 := block_cell d2 1
  have e0 := block_cell d3 0
  have e1 := block_cell d3 1
  have e2 := block_cell d3 2
  have e3 := block_cell d3 3
  have f0 := block_free d2 0
  have f1 := block_free d2 1
  have g0 := block_free d3 0
  have g1 := block_free d3 1
  have g2 := block_free d3 2
  have g3 := block_free d3 3
  simp at a0 a1 c0 c1 e0 e1 e2 e3 f0 f1 g0 g1 g2 g3
  have l1 := (Array.getElem?_eq_some_iff.1 d1).1
  have l2 := (Array.getElem?_eq_some_iff.1 d2).1
  have l3 := (Array.getElem?_eq_some_iff.1 d3).1
  obtain ⟨n12, n13, n23⟩ := Hap.out
  have n21 := n12.symm
  have n31 := n13.symm
  have n32 := n23.symm
  clear d1 d2 d3
  go_wp2_with fail
  refine bodyPost_ret (v := .tuple #[.agg #[.int .i64 now, .slice ao X.length cap], .agg #[.int .u64 0, .int .u64 0, .int .i64 0, .int .i64 0], .bool false]) ?_ rfl ⟨rfl, sets_up (sets_up (sets_up (sets_up (sets_up (sets_up HV.out Hup.out.2.1 0 _) Hup.out.2.1 1 _) Hup.out.2.2 0 _) Hup.out.2.2 1 _) Hup.out.2.2 2 _) Hup.out.2.2 3 _⟩
  simp [results, Try.results76, go_sem, c0, c1, e0, e1, e2, e3, l2, l3, n23, n32]
theorem cut_len (X : List Th) (k : Nat) (hk : k < X.length) : (slot0 (X.take k ++ X.drop (k + 1))).length = X.length - 1 := by
  rw [slot0_len, List.length_append, List.length_take, List.length_drop]; omega
theorem slot0_cut (X : List Th) (k : Nat) : (slot0 X).take k ++ (slot0 X).drop (k + 1) = slot0 (X.take k ++ X.drop (k + 1)) := by simp [slot0, List.map_take, List.map_drop]
set_option maxRecDepth 100000 in
set_option maxHeartbeats 8000000 in
theorem rcancel_yes (W : World) (now : Int) (ao : Option Addr) (cap : Nat) (X : List Th) (id : Int) (k : Nat) (h : Rt W ao cap (slot0 X)) (hl : X.length ≤ 256) (hk : k < X.length) (hv : findV (slot0 X) id = (k : Int)) :
    Calls Try.prog 76 #[rwV now ao X.length cap, .int .u64 id] W fun e W' => ∃ ao' cap', e = .returned (.tuple #[rwV now ao' (X.length - 1) cap', rtVal (X[k], 0), .bool true]) ∧ Rt W' ao' cap' (slot0 (X.take k ++ X.drop (k + 1))) ∧ Lie W ao' ∧ Below W.heap.size W W' := by
  obtain ⟨t, ht⟩ : ∃ t, t = X[k] := ⟨_, rfl⟩
  rw [← ht]
  have Ht := Lib.hid ht
  obtain ⟨ti, tg, td⟩ := t
  clear ht
  unfold rtVal rwV
  obtain ⟨W1, hW1⟩ : ∃ W1, W1 = W.alloc (.cells #[.int .i64 now, .slice ao X.length cap] rwT) := ⟨_, rfl⟩
  obtain ⟨W2, hW2⟩ : ∃ W2, W2 = W1.alloc (.cells #[.int .i64 0, .slice none 0 0] rwT) := ⟨_, rfl⟩
  obtain ⟨W3, hW3⟩ : ∃ W3, W3 = W2.alloc (.cells #[.int .u64 0, .int .u64 0, .int .i64 0, .int .i64 0] rtT) := ⟨_, rfl⟩
  obtain ⟨b1, hb1⟩ : ∃ b, b = W.heap.size := ⟨_, rfl⟩
  obtain ⟨b2, hb2⟩ : ∃ b, b = W.heap.size + 1 := ⟨_, rfl⟩
  obtain ⟨b3, hb3⟩ : ∃ b, b = W.heap.size + 1 + 1 := ⟨_, rfl⟩
  have z1 : W1.heap.size = W.heap.size + 1 := by rw [hW1]; simp
  have z2 : W2.heap.size = W.heap.size + 1 + 1 := by rw [hW2]; simp [z1]
  have B1 : Below W.heap.size W W1 := by rw [hW1]; exact below_new _ _
  have B2 : Below W1.heap.size W1 W2 := by rw [hW2]; exact below_new _ _
  have B3 : Below W2.heap.size W2 W3 := by rw [hW3]; exact below_new _ _
  have hB3 := below_on (below_on B1 B2 (Nat.le_refl _)) B3 (Nat.le_refl _)
  have t1 : W3.heap[b1]? = some (.cells #[.int .i64 now, .slice ao X.length cap] rwT (0, 0)) := by
    rw [B3.block b1 (by omega), B2.block b1 (by omega), hW1, hb1]; exact heap_alloc_new _ _
  have t2 : W3.heap[b2]? = some (.cells #[.int .i64 0, .slice none 0 0] rwT (0, 0)) := by
    rw [B3.block b2 (by omega), hW2, hb2, ← z1]; exact heap_alloc_new _ _
  have t3 : W3.heap[b3]? = some (.cells #[.int .u64 0, .int .u64 0, .int .i64 0, .int .i64 0] rtT (0, 0)) := by
    rw [hW3, hb3, ← z2]; exact heap_alloc_new _ _
  have Hup : Hid (W.heap.size ≤ b1 ∧ W.heap.size ≤ b2 ∧ W.heap.size ≤ b3) := ⟨by omega, by omega, by omega⟩
  have Hap : Hid (b1 ≠ b2 ∧ b1 ≠ b3 ∧ b2 ≠ b3) := ⟨by omega, by omega, by omega⟩
  have HB3 := Lib.hid hB3
  have T1 := Lib.hid t1
  have T2 := Lib.hid t2
  have T3 := Lib.hid t3
  clear z1 z2 B1 B2 B3 hB3 t1 t2 t3
  have hfd := find_any W3 ao cap (slot0 X) id (h.below HB3.out) (by rw [slot0_len]; omega)
  rw [slot0_len, hv] at hfd
  have Hfd := Lib.hid hfd
  have Hh := Lib.hid h
  have Hl := Lib.hid hl
  have Hk := Lib.hid hk
  have k0 : ¬ (k : Int) < 0 := by omega
  have k1 : ¬ (X.length : Int) ≤ (k : Int) := by omega
  clear h hl hfd hv
  have a1 := block_cell T1.out 1
  have l1 := (Array.getElem?_eq_some_iff.1 T1.out).1
  have l2 := (Array.getElem?_eq_some_iff.1 T2.out).1
  have l3 := (Array.getElem?_eq_some_iff.1 T3.out).1
  simp at a1
  go_enter Try.func76, Try.ntmps76
  go_upto_region 1 with fail
  rw [← hW1, ← hW2, ← hW3, ← hb3, ← hb2, ← hb1]
  clear hW1 hW2 hW3 hb1 hb2 hb3
  go_wp2_with fail
  refine Hfd.out.mono ?_
  rintro e V ⟨rfl, hV⟩
  have d1 := (hV.block b1 l1).trans T1.out
  have HV := Lib.hid (below_on HB3.out hV (Nat.le_refl _))
  have a1x := block_cell d1 1
  simp at a1x
  have lx1 := (Array.getElem?_eq_some_iff.1 d1).1
  obtain ⟨bx, fx, rfl, hbx, c0, c1, c2, c3⟩ := rx_cells (Hh.out.below HV.out) k Hk.out
  rw [← Ht.out] at c0 c1 c2
  simp only at c0 c1 c2
  obtain ⟨V4, hV4⟩ : ∃ V4, V4 = V.alloc (.cells #[.int .u64 ti, .int .u64 tg, .int .i64 td, .int .i64 0] rtT) := ⟨_, rfl⟩
  obtain ⟨b4, hb4⟩ : ∃ b, b = V.heap.size := ⟨_, rfl⟩
  have hB4 : Below V.heap.size V V4 := by rw [hV4]; exact below_new _ _
  have t4 : V4.heap[b4]? = some (.cells #[.int .u64 ti, .int .u64 tg, .int .i64 td, .int .i64 0] rtT (0, 0)) := by rw [hV4, hb4]; exact heap_alloc_new _ _
  have HB4 := Lib.hid hB4
  have T4 := Lib.hid t4
  have HX := Lib.hid hV
  have Hb4 := Lib.hid hb4
  have D1 := Lib.hid d1
  have L1 := Lib.hid l1
  have L2 := Lib.hid l2
  have L3 := Lib.hid l3
  clear a1 l1 l2 l3 hB4 t4 hV Hfd d1
  have a1 := a1x
  have l1 := lx1
  clear a1x lx1
  go_upto_region 5 with fail
  rw [← hV4, ← hb4]
  clear hV4 c0 c1 c2 c3 hbx a1 hb4
  have d1 := (HB4.out.block b1 l1).trans D1.out
  have a1 := block_cell d1 1
  have f1 := block_free d1 1
  simp at a1 f1
  have l1b := (Array.getElem?_eq_some_iff.1 d1).1
  have hwo := without_any V4 (some ⟨bx, fx, none⟩) cap (slot0 X) k ((Hh.out.below HV.out).below HB4.out) (by rw [slot0_len]; have := Hl.out; omega) (by rw [slot0_len]; exact Hk.out)
  rw [slot0_len, slot0_cut] at hwo
  have Hwo := Lib.hid hwo
  have D1 := Lib.hid d1
  clear hwo d1 l1
  go_wp2_with fail
  refine Hwo.out.mono ?_
  rintro e V5 ⟨a5, c5, rfl, own5, hV5⟩
  obtain ⟨N, hN⟩ : ∃ N, N = X.length - 1 := ⟨_, rfl⟩
  rw [← hN] at own5 ⊢
  have HN := Lib.hid hN
  have HWV := Lib.hid (Nat.le_trans HV.out.size HB4.out.size)
  clear hN
  have hz4 : b4 < V4.heap.size := (Array.getElem?_eq_some_iff.1 T4.out).1
  have l1V := Nat.lt_of_lt_of_le L1.out HX.out.size
  have l2V := Nat.lt_of_lt_of_le L2.out HX.out.size
  have l3V := Nat.lt_of_lt_of_le L3.out HX.out.size
  have d2 := (HB4.out.block b2 l2V).trans ((HX.out.block b2 L2.out).trans T2.out)
  have d3 := (HB4.out.block b3 l3V).trans ((HX.out.block b3 L3.out).trans T3.out)
  have m1 := (Array.getElem?_eq_some_iff.1 D1.out).1
  have m2 := (Array.getElem?_eq_some_iff.1 d2).1
  have m3 := (Array.getElem?_eq_some_iff.1 d3).1
  have g1 := (hV5.block b1 m1).trans D1.out
  have g2 := (hV5.block b2 m2).trans d2
  have g3 := (hV5.block b3 m3).trans d3
  have g4 := (hV5.block b4 hz4).trans T4.out
  obtain ⟨n12, n13, n23⟩ := Hap.out
  have n14 : b1 ≠ b4 := by rw [Hb4.out]; exact Nat.ne_of_lt l1V
  have n24 : b2 ≠ b4 := by rw [Hb4.out]; exact Nat.ne_of_lt l2V
  have n34 : b3 ≠ b4 := by rw [Hb4.out]; exact Nat.ne_of_lt l3V
  obtain ⟨V6, hV6⟩ : ∃ V6, V6 = V5.setCell ⟨b1, 1, none⟩ (.slice a5 N c5) := ⟨_, rfl⟩
  have u1 := block_set g1 1 (.slice a5 N c5)
  simp only [List.setIfInBounds_toArray, List.set_cons_zero, List.set_cons_succ] at u1
  have u2 := (heap_setCell_other V5 ⟨b1, 1, none⟩ b2 (.slice a5 N c5) n12.symm).trans g2
  have u3 := (heap_setCell_other V5 ⟨b1, 1, none⟩ b3 (.slice a5 N c5) n13.symm).trans g3
  have u4 := (heap_setCell_other V5 ⟨b1, 1, none⟩ b4 (.slice a5 N c5) n14.symm).trans g4
  have o6 := World.ownsRow.kept own5 (grown_set V5 b1 1 (.slice a5 N c5)) (.inr (fun e => by have := (own5.lt b1 e).1; omega))
  have B6 := sets_up (below_on (below_on HV.out HB4.out (Nat.le_refl _)) hV5 (Nat.le_refl _)) Hup.out.1 1 (.slice a5 N c5)
  rw [← hV6] at u1 u2 u3 u4 o6 B6
  have q1 := block_cell g1 1
  have fq1 := block_free g1 1
  have lq1 := (Array.getElem?_eq_some_iff.1 g1).1
  simp at q1 fq1
  have hp2 : ∀ g, (Value.slice a5 N c5).ownBlock = some g → g ≠ b2 ∧ g ≠ b3 := fun g e => by have := (own5.lt g e).1; omega
  have Hp2 := Lib.hid hp2
  have U1 := Lib.hid u1
  have U2 := Lib.hid u2
  have U3 := Lib.hid u3
  have U4 := Lib.hid u4
  have O6 := Lib.hid o6
  have Hb6 := Lib.hid B6
  clear u1 u2 u3 u4 o6 B6 hp2 g1 g2 g3 g4 m1 m2 m3 d2 d3 l1V l2V l3V hz4 own5 hV5 a1 f1 l1b
  go_upto_region 6 with fail
  rw [← hV6]
  clear hV6 q1 fq1 lq1
  have a0 := block_cell U1.out 0
  have a1 := block_cell U1.out 1
  have c0 := block_cell U2.out 0
  have c1 := block_cell U2.out 1
  have e0 := block_cell U3.out 0
  have e1 := block_cell U3.out 1
  have e2 := block_cell U3.out 2
  have e3 := block_cell U3.out 3
  have p0 := block_cell U4.out 0
  have p1 := block_cell U4.out 1
  have p2 := block_cell U4.out 2
  have p3 := block_cell U4.out 3
  have f0 := block_free U2.out 0
  have f1 := block_free U2.out 1
  have g0 := block_free U3.out 0
  have g1 := block_free U3.out 1
  have g2 := block_free U3.out 2
  have g3 := block_free U3.out 3
  simp at a0 a1 c0 c1 e0 e1 e2 e3 p0 p1 p2 p3 f0 f1 g0 g1 g2 g3
  have l1 := (Array.getElem?_eq_some_iff.1 U1.out).1
  have l2 := (Array.getElem?_eq_some_iff.1 U2.out).1
  have l3 := (Array.getElem?_eq_some_iff.1 U3.out).1
  have l4 := (Array.getElem?_eq_some_iff.1 U4.out).1
  have n21 := n12.symm
  have n31 := n13.symm
  have n32 := n23.symm
  have n42 := n24.symm
  have n43 := n34.symm
  have hs : ∀ (V : World) (b i : Nat) (v : Value), b = b2 ∨ b = b3 → V.ownsRow V4.heap.size rtT 4 (.slice a5 N c5) N (rtFlat (slot0 (X.take k ++ X.drop (k + 1)))) → (V.setCell ⟨b, i, none⟩ v).ownsRow V4.heap.size rtT 4 (.slice a5 N c5) N (rtFlat (slot0 (X.take k ++ X.drop (k + 1)))) := fun V b i v hb ho => World.ownsRow.kept ho (grown_set V b i v) (.inr (fun e => by have := Hp2.out b e; rcases hb with rfl | rfl; exact this.1 rfl; exact this.2 rfl))
  have Hs := Lib.hid hs
  clear hs
  go_region
  all_goals
    go_wp2_with fail
    have o1 := Hs.out _ b2 0 (.int .i64 now) (.inl rfl) O6.out
    have o2 := Hs.out _ b2 1 (.slice a5 N c5) (.inl rfl) o1
    have o3 := Hs.out _ b3 0 (.int .u64 ti) (.inr rfl) o2
    have o4 := Hs.out _ b3 1 (.int .u64 tg) (.inr rfl) o3
    have o5 := Hs.out _ b3 2 (.int .i64 td) (.inr rfl) o4
    have o6 := Hs.out _ b3 3 (.int .i64 0) (.inr rfl) o5
    have o7 := own_below o6 (Below.refl _ _).drew
    have hB := (sets_up (sets_up (sets_up (sets_up (sets_up (sets_up Hb6.out Hup.out.2.1 0 (.int .i64 now)) Hup.out.2.1 1 (.slice a5 N c5)) Hup.out.2.2 0 (.int .u64 ti)) Hup.out.2.2 1 (.int .u64 tg)) Hup.out.2.2 2 (.int .i64 td)) Hup.out.2.2 3 (.int .i64 0)).drew
    refine bodyPost_ret (v := .tuple #[.agg #[.int .i64 now, .slice a5 N c5], .agg #[.int .u64 ti, .int .u64 tg, .int .i64 td, .int .i64 0], .bool true]) ?_ rfl ⟨a5, c5, by rw [← HN.out]; rfl, rx_own o7 ((cut_len X k Hk.out).trans HN.out.symm), fun x e => Nat.le_trans HWV.out (own_lie O6.out x e), hB⟩
    simp [results, Try.results76, go_sem, c0, c1, e0, e1, e2, e3, l2, l3, n23, n32]
end Go.Proofs.Ytedlplkomfiahaa
namespace Go.Proofs.Ytedlplkomfiahaa
set_option linter.unusedVariables false
set_option linter.unusedSimpArgs false
set_option linter.unusedSectionVars false
open Go Go.RowKit Go.Maps Go.Deep
theorem asc_due {X : List Th} (h : Asc X) (i j : Nat) (hij : i ≤ j) (hj : j < X.length) : X[i].due ≤ X[j].due := by
  rcases Nat.lt_or_eq_of_le hij with h1 | rfl
  · have h2 := (thLt_iff _ _).1 (List.pairwise_iff_getElem.1 h i j (by omega) hj h1)
    omega
  · exact Int.le_refl _
theorem asc_split {X : List Th} (h : Asc X) (tb : Int) (i : Nat) (hi : i ≤ X.length) (h1 : ∀ j (hj : j < X.length), j < i → X[j].due ≤ tb) (h2 : ∀ hi : i < X.length, tb < X[i].due) : dueT X tb = X.take i ∧ soonT X tb = X.drop i := by
  have ha : ∀ t ∈ X.take i, t.due ≤ tb := fun t ht => by
    obtain ⟨j, hj, rfl⟩ := List.getElem_of_mem ht
    rw [List.length_take] at hj
    rw [List.getElem_take]
    exact h1 j (by omega) (by omega)
  have hb : ∀ t ∈ X.drop i, tb < t.due := fun t ht => by
    obtain ⟨j, hj, rfl⟩ := List.getElem_of_mem ht
    rw [List.length_drop] at hj
    rw [List.getElem_drop]
    exact Int.lt_of_lt_of_le (h2 (by omega)) (asc_due h i (i + j) (by omega) (by omega))
  have e : X = X.take i ++ X.drop i := (List.take_append_drop i X).symm
  constructor
  · unfold dueT
    conv => lhs; rw [e]
    rw [List.filter_append, List.filter_eq_self.2 (fun t ht => by simp [ha t ht]), List.filter_eq_nil_iff.2 (fun t ht => by have := hb t ht; simp; omega), List.append_nil]
  · unfold soonT
    conv => lhs; rw [e]
    rw [List.filter_append, List.filter_eq_nil_iff.2 (fun t ht => by have := ha t ht; simp; omega), List.filter_eq_self.2 (fun t ht => by simp [hb t ht]), List.nil_append]
set_option maxRecDepth 100000 in
set_option maxHeartbeats 4000000 in
theorem radv_bad (W : World) (now tb : Int) (ao : Option Addr) (cap n : Nat) (r : Int) (hr : (¬ Inst tb ∧ r = 2) ∨ (Inst tb ∧ tb < now ∧ r = 34)) :
    Calls Try.prog 77 #[rwV now ao n cap, .int .i64 tb] W fun e W' => e = .returned (.tuple #[rwV now ao n cap, .slice none 0 0, .int .i64 r]) ∧ Below W.heap.size W W' := by
  unfold rwV
  have hor : (tb < 0 ∧ r = 2) ∨ (¬ tb < 0 ∧ tb > 1125899906842624 ∧ r = 2) ∨ (¬ tb < 0 ∧ ¬ tb > 1125899906842624 ∧ tb < now ∧ r = 34) := by unfold Inst at hr; omega
  clear hr
  obtain ⟨W1, hW1⟩ : ∃ W1, W1 = W.alloc (.cells #[.int .i64 now, .slice ao n cap] rwT) := ⟨_, rfl⟩
  obtain ⟨W2, hW2⟩ : ∃ W2, W2 = W1.alloc (.cells #[.int .i64 0, .slice none 0 0] rwT) := ⟨_, rfl⟩
  obtain ⟨b1, hb1⟩ : ∃ b, b = W.heap.size := ⟨_, rfl⟩
  obtain ⟨b2, hb2⟩ : ∃ b, b = W.heap.size + 1 := ⟨_, rfl⟩
  have z1 : W1.heap.size = W.heap.size + 1 := by rw [hW1]; simp
  have B1 : Below W.heap.size W W1 := by rw [hW1]; exact below_new _ _
  have B2 : Below W1.heap.size W1 W2 := by rw [hW2]; exact below_new _ _
  have hB2 := below_on B1 B2 (Nat.le_refl _)
  have t1 : W2.heap[b1]? = some (.cells #[.int .i64 now, .slice ao n cap] rwT (0, 0)) := by
    rw [B2.block b1 (by omega), hW1, hb1]; exact heap_alloc_new _ _
  have t2 : W2.heap[b2]? = some (.cells #[.int .i64 0, .slice none 0 0] rwT (0, 0)) := by
    rw [hW2, hb2, ← z1]; exact heap_alloc_new _ _
  have Hup : Hid (W.heap.size ≤ b1 ∧ W.heap.size ≤ b2) := ⟨by omega, by omega⟩
  have Hap : Hid (b1 ≠ b2) := (by omega : b1 ≠ b2)
  have HB2 := Lib.hid hB2
  have T1 := Lib.hid t1
  have T2 := Lib.hid t2
  clear z1 B1 B2 hB2 t1 t2
  have a0 := block_cell T1.out 0
  have a1 := block_cell T1.out 1
  have d0 := block_cell T2.out 0
  have d1 := block_cell T2.out 1
  have f0 := block_free T2.out 0
  have f1 := block_free T2.out 1
  have l1 := (Array.getElem?_eq_some_iff.1 T1.out).1
  have l2 := (Array.getElem?_eq_some_iff.1 T2.out).1
  have ne := Hap.out
  have ne2 := Hap.out.symm
  simp at a0 a1 d0 d1 f0 f1
  rcases hor with ⟨x1, rfl⟩ | ⟨x1, x2, rfl⟩ | ⟨x1, x2, x3, rfl⟩
  all_goals
    go_enter Try.func77, Try.ntmps77
    go_upto_region 1 with fail
    rw [← hW1, ← hW2, ← hb2, ← hb1]
    clear hW1 hW2 hb1 hb2
    go_wp2_with fail
    refine bodyPost_ret (v := .tuple #[.agg #[.int .i64 now, .slice ao n cap], .slice none 0 0, .int .i64 _]) ?_ rfl ⟨rfl, sets_up (sets_up HB2.out Hup.out.2 0 _) Hup.out.2 1 _⟩
    simp [results, Try.results77, go_sem, d0, d1, l2]
theorem own_setlow {V : World} {base n c : Nat} {a : Option Addr} {l : List Value} {b : Nat} (h : V.ownsRow base rtT 4 (.slice a n c) n l) (hb : b < base) (i : Nat) (v : Value) : (V.setCell ⟨b, i, none⟩ v).ownsRow base rtT 4 (.slice a n c) n l := World.ownsRow.kept h (grown_set V b i v) (.inr (fun e => by have := (h.lt b e).1; omega))
theorem split_lens {X D S : List Th} {i m : Nat} (hi : i ≤ X.length) (hm : m = X.length - i) (h : D = X.take i ∧ S = X.drop i) : D.length = i ∧ S.length = m := by
  obtain ⟨rfl, rfl⟩ := h
  rw [List.length_take, List.length_drop]; omega
theorem slot0_take (X : List Th) (i : Nat) : (slot0 X).take i = slot0 (X.take i) ∧ (slot0 X).drop i = slot0 (X.drop i) := by simp [slot0, List.map_take, List.map_drop]
theorem slot0_all (X : List Th) : (slot0 X).take X.length = slot0 X := by rw [← slot0_len X]; exact List.take_length
theorem bx_below {W V : World} {b : Nat} {o : Obj} (hb : Below W.heap.size W V) (h : W.heap[b]? = some o) : V.heap[b]? = some o := (hb.block b (Array.getElem?_eq_some_iff.1 h).1).trans h
set_option maxRecDepth 100000 in
set_option maxHeartbeats 8000000 in
theorem radv_ok (W : World) (now tb : Int) (ao : Option Addr) (cap : Nat) (X : List Th) (h : Rt W ao cap (slot0 X)) (hl : X.length ≤ 256) (hx : Asc X) (ht : Inst tb) (hle : now ≤ tb) :
    Calls Try.prog 77 #[rwV now ao X.length cap, .int .i64 tb] W fun e W' => ∃ a1 c1 a2 c2, e = .returned (.tuple #[rwV tb a1 (soonT X tb).length c1, .slice a2 (dueT X tb).length c2, .int .i64 0]) ∧ Rt W' a1 c1 (slot0 (soonT X tb)) ∧ Rt W' a2 c2 (slot0 (dueT X tb)) ∧ Lie W a1 ∧ Lie W a2 ∧ Below W.heap.size W W' := by
  unfold rwV
  obtain ⟨k1, k2⟩ := ht
  have x1 : ¬ tb < 0 := by omega
  have x2 : ¬ tb > 1125899906842624 := by omega
  have x3 : ¬ tb < now := by omega
  obtain ⟨W1, hW1⟩ : ∃ W1, W1 = W.alloc (.cells #[.int .i64 now, .slice ao X.length cap] rwT) := ⟨_, rfl⟩
  obtain ⟨W2, hW2⟩ : ∃ W2, W2 = W1.alloc (.cells #[.int .i64 0, .slice none 0 0] rwT) := ⟨_, rfl⟩
  obtain ⟨b1, hb1⟩ : ∃ b, b = W.heap.size := ⟨_, rfl⟩
  obtain ⟨b2, hb2⟩ : ∃ b, b = W.heap.size + 1 := ⟨_, rfl⟩
  have z1 : W1.heap.size = W.heap.size + 1 := by rw [hW1]; simp
  have B1 : Below W.heap.size W W1 := by rw [hW1]; exact below_new _ _
  have B2 : Below W1.heap.size W1 W2 := by rw [hW2]; exact below_new _ _
  have hB2 := below_on B1 B2 (Nat.le_refl _)
  have t1 : W2.heap[b1]? = some (.cells #[.int .i64 now, .slice ao X.length cap] rwT (0, 0)) := by
    rw [B2.block b1 (by omega), hW1, hb1]; exact heap_alloc_new _ _
  have t2 : W2.heap[b2]? = some (.cells #[.int .i64 0, .slice none 0 0] rwT (0, 0)) := by
    rw [hW2, hb2, ← z1]; exact heap_alloc_new _ _
  have Hup : Hid (W.heap.size ≤ b1 ∧ W.heap.size ≤ b2) := ⟨by omega, by omega⟩
  have Hap : Hid (b1 ≠ b2) := (by omega : b1 ≠ b2)
  have HB2 := Lib.hid hB2
  have T1 := Lib.hid t1
  have T2 := Lib.hid t2
  clear z1 B1 B2 hB2 t1 t2
  have a0 := block_cell T1.out 0
  have a1 := block_cell T1.out 1
  have l1 := (Array.getElem?_eq_some_iff.1 T1.out).1
  simp at a0 a1
  have Hh := Lib.hid h
  have Hl := Lib.hid hl
  have Hx := Lib.hid hx
  clear h hl hx hle k1 k2
  go_enter Try.func77, Try.ntmps77
  go_upto_region 1 with fail
  rw [← hW1, ← hW2, ← hb2, ← hb1]
  clear hW1 hW2 hb1 hb2
  go_wp2_with fail
  clear x1 x2 x3 a0 a1 l1
  go_loopw [7] (fun u wx => ∃ i : Nat, u = .int .i64 (i : Nat) ∧ i ≤ X.length ∧ Hid (∀ j (hj : j < X.length), j < i → X[j].due ≤ tb) ∧ Hid (Below W2.heap.size W2 wx)) (fun u _ => X.length - (intOf u).toNat)
  case atStart => exact ⟨0, rfl, Nat.zero_le _, fun j _ h0 => absurd h0 (Nat.not_lt_zero _), (Below.refl _ _ : Below _ W2 W2)⟩
  case round =>
    obtain ⟨i, rfl, hi, hno, hb⟩ := hrel
    have d1 := bx_below hb.out T1.out
    have a1 := block_cell d1 1
    simp at a1
    have l1 := (Array.getElem?_eq_some_iff.1 d1).1
    have HBW := Lib.hid (below_on HB2.out hb.out (Nat.le_refl _))
    have key : ∀ (hi : i ≤ X.length) (h2 : ∀ hi : i < X.length, tb < X[i].due), dueT X tb = X.take i ∧ soonT X tb = X.drop i := fun hi h2 => asc_split Hx.out tb i hi hno.out h2
    have hrt : Rt wr ao cap (slot0 X) := Hh.out.below HBW.out
    have hic : X.length ≤ cap := by have := hrt.sl.le; rw [slot0_len] at this; exact this
    have P1 := Rt.piece hrt 0 i (Nat.zero_le _) (by rw [slot0_len]; exact hi)
    have P2 := Rt.piece hrt i X.length hi (by rw [slot0_len]; exact Nat.le_refl _)
    have hs1 := fun W => run_slice_sl (P := Try.prog) (w := W) Try.underlying48 szRt ao X.length cap none (some (.int .i64 (i : Nat))) 0 i (.inr ⟨rfl, rfl⟩) (.inl rfl) (Nat.zero_le _) (Nat.le_trans hi hic)
    have hs2 := fun W => run_slice_sl (P := Try.prog) (w := W) Try.underlying48 szRt ao X.length cap (some (.int .i64 (i : Nat))) none i X.length (.inl rfl) (.inr ⟨rfl, rfl⟩) hi hic
    obtain ⟨q1, hq1⟩ : ∃ q, q = (if cap = 0 then ao else ao.map (·.add (0 * 4))) := ⟨_, rfl⟩
    rw [← hq1] at P1 hs1
    obtain ⟨q2, hq2⟩ : ∃ q, q = (if cap = i then ao else ao.map (·.add (i * 4))) := ⟨_, rfl⟩
    rw [← hq2] at P2 hs2
    simp only [Nat.sub_zero, List.drop_zero] at P1 hs1
    rw [slot0_all, (slot0_take X i).2] at P2
    rw [(slot0_take X i).1] at P1
    obtain ⟨m, hm⟩ : ∃ m, m = X.length - i := ⟨_, rfl⟩
    rw [← hm] at P2 hs2
    have hi256 : i ≤ 256 := Nat.le_trans hi Hl.out
    have hm256 : m ≤ 256 := by rw [hm]; exact Nat.le_trans (Nat.sub_le _ _) Hl.out
    have hlens := fun (hk : dueT X tb = X.take i ∧ soonT X tb = X.drop i) => split_lens hi hm hk
    have D1 := Lib.hid d1
    have d2 := bx_below hb.out T2.out
    have D2 := Lib.hid d2
    have Hs1 := Lib.hid hs1
    have Hs2 := Lib.hid hs2
    have P1 := Lib.hid P1
    have P2 := Lib.hid P2
    have Hlens := Lib.hid hlens
    have Hlow := Lib.hid (show b1 < wr.heap.size ∧ b2 < wr.heap.size from ⟨l1, (Array.getElem?_eq_some_iff.1 d2).1⟩)
    have Hm256 := Lib.hid (show i ≤ 256 ∧ m ≤ 256 from ⟨hi256, hm256⟩)
    clear hrt hic hs1 hs2 hq1 hq2 hm hi256 hm256 hlens d1 d2
    by_cases hil : i < X.length
    · obtain ⟨y1, y2⟩ := i_nums i X.length hil
      have y3 : ¬ (X.length : Int) ≤ (i : Int) := by omega
      obtain ⟨bx, fx, rfl, hbx, -, -, c2, -⟩ := rx_cells (Hh.out.below HBW.out) i hil
      obtain ⟨d, hd⟩ : ∃ d, d = X[i].due := ⟨_, rfl⟩
      rw [← hd] at c2
      have w1 := wrap_b i X.length hil (Nat.le_trans Hl.out (by decide))
      have Hil := Lib.hid hil
      by_cases hdt : d ≤ tb
      · have Hno := Lib.hid (show ∀ j (hj : j < X.length), j < i + 1 → X[j].due ≤ tb from fun j hj hji => by
          rcases Nat.lt_succ_iff_lt_or_eq.1 hji with h5 | rfl
          · exact hno.out j hj h5
          · rw [← hd]; exact hdt)
        clear hd hno key hi
        go_wp2_with fail
        go_roundw
        case rel => exact ⟨i + 1, by first | rfl | rw [w1]; rfl, Hil.out, Hno, hb⟩
        case measure =>
          first | rw [w1] | skip
          exact ts_meas X.length i Hil.out
      · have Hk := Lib.hid (key hi (fun _ => by rw [← hd]; exact Int.not_le.1 hdt))
        clear hd hno key hi hil
        go_upto_region 8 with fail
        have hs1 := Hs1.out
        have hs2 := Hs2.out
        have hn1 := Hm256.out.1
        have hn2 := Hm256.out.2
        obtain ⟨hL1, hL2⟩ := Hlens.out Hk.out
        have P1 : Hid (Sl wr 4 q1 i cap (rtFlat (slot0 (dueT X tb)))) := (by rw [Hk.out.1]; exact P1.out : Sl wr 4 q1 i cap (rtFlat (slot0 (dueT X tb))))
        have P2 : Hid (Sl wr 4 q2 m (cap - i) (rtFlat (slot0 (soonT X tb)))) := (by rw [Hk.out.2]; exact P2.out : Sl wr 4 q2 m (cap - i) (rtFlat (slot0 (soonT X tb))))
        have HL1 := Lib.hid hL1
        have HL2 := Lib.hid hL2
        clear hL1 hL2
        go_wp2_with (first
          | (at_builtin; refine wpl_append rfl (.tmp 38) (.tmp 42) rtsT rfl wr.heap.size rtT infoRt Try.underlying48 rfl (by decide) _ 0 [] rfl (own_empty wr wr.heap.size _ 4 (Nat.le_refl _)) _ _ _ _ rfl (P1.out.below (below_new _ _)) (rts_one _) ?_ ?_ ?_ ?_; (unfold maxLen; omega); omega; exact (below_new _ _).size; intro ao1 cap1 w1 hown1 hg1; rw [Nat.zero_add, List.nil_append] at hown1; have hb1 := below_app (below_new _ _) hg1 (own_empty wr wr.heap.size _ 4 (Nat.le_refl _)) (Nat.le_refl _) (below_new _ _).size; have d1y := bx_below hb1 D1.out; have a1y := block_cell d1y 1; have l1y := (Array.getElem?_eq_some_iff.1 d1y).1; simp at a1y; have Hown1 := Lib.hid hown1; have Hb1 := Lib.hid hb1; clear hown1 hb1 hg1 d1y)
          | (at_builtin; refine wpl_append rfl (.tmp 44) (.tmp 48) rtsT rfl w1.heap.size rtT infoRt Try.underlying48 rfl (by decide) _ 0 [] rfl (own_empty w1 w1.heap.size _ 4 (Nat.le_refl _)) _ _ _ _ rfl (P2.out.below (below_on Hb1.out (below_new w1 _) (Nat.le_refl _))) (rts_one _) ?_ ?_ ?_ ?_; (unfold maxLen; omega); omega; exact (below_new _ _).size; intro ao3 cap3 w3 hown3 hg3; rw [Nat.zero_add, List.nil_append] at hown3; have hb3 := below_app (below_new w1 _) hg3 (own_empty w1 w1.heap.size _ 4 (Nat.le_refl _)) (Nat.le_refl _) (below_new _ _).size; have hb4 := below_on Hb1.out hb3 (Nat.le_refl _); have d1z := bx_below hb4 D1.out; have d2z := bx_below hb4 D2.out; have e0 := block_cell d1z 0; have e1 := block_cell d1z 1; have f0 := block_free d1z 0; have f1 := block_free d1z 1; have g0 := block_cell d2z 0; have g1 := block_cell d2z 1; have k0 := block_free d2z 0; have k1 := block_free d2z 1; have l1z := (Array.getElem?_eq_some_iff.1 d1z).1; have l2z := (Array.getElem?_eq_some_iff.1 d2z).1; have ne := Hap.out; have ne2 := Hap.out.symm; simp at e0 e1 f0 f1 g0 g1 k0 k1; have Hown3 := Lib.hid hown3; have Hown1' := Lib.hid (own_below Hown1.out hb3); have Hb4 := Lib.hid hb4; have Hz := Lib.hid Hb1.out.size; clear hown3 hb3 hb4 hg3 d1z d2z))
        have L1 := Nat.lt_of_lt_of_le Hlow.out.1 Hz.out
        have L2 := Nat.lt_of_lt_of_le Hlow.out.2 Hz.out
        have o1 := own_setlow (own_setlow (own_setlow (own_setlow Hown3.out L1 1 (.slice ao3 m cap3)) L1 0 (.int .i64 tb)) L2 0 (.int .i64 tb)) L2 1 (.slice ao3 m cap3)
        have o2 := own_setlow (own_setlow (own_setlow (own_setlow Hown1'.out Hlow.out.1 1 (.slice ao3 m cap3)) Hlow.out.1 0 (.int .i64 tb)) Hlow.out.2 0 (.int .i64 tb)) Hlow.out.2 1 (.slice ao3 m cap3)
        have hB := sets_up (sets_up (sets_up (sets_up (below_on HBW.out Hb4.out (Nat.le_refl _)) Hup.out.1 1 (.slice ao3 m cap3)) Hup.out.1 0 (.int .i64 tb)) Hup.out.2 0 (.int .i64 tb)) Hup.out.2 1 (.slice ao3 m cap3)
        refine bodyPost_ret (v := .tuple #[.agg #[.int .i64 tb, .slice ao3 m cap3], .slice ao1 i cap1, .int .i64 0]) ?_ rfl ⟨ao3, cap3, ao1, cap1, by rw [HL1.out, HL2.out], rx_own o1 (by rw [slot0_len]; exact HL2.out), rx_own o2 (by rw [slot0_len]; exact HL1.out), fun x e => Nat.le_trans HBW.out.size (Nat.le_trans Hz.out (own_lie Hown3.out x e)), fun x e => Nat.le_trans HBW.out.size (own_lie Hown1'.out x e), hB⟩
        simp [results, Try.results77, go_sem, g0, g1, l2z]
    · obtain rfl : i = X.length := Nat.le_antisymm hi (Nat.le_of_not_lt hil)
      have y1 : ¬ (X.length : Int) < (X.length : Int) := Int.lt_irrefl _
      have Hk := Lib.hid (key hi (fun h5 => absurd h5 hil))
      clear hno key hi hil
      go_upto_region 8 with fail
      have hs1 := Hs1.out
      have hs2 := Hs2.out
      have hn1 := Hm256.out.1
      have hn2 := Hm256.out.2
      obtain ⟨hL1, hL2⟩ := Hlens.out Hk.out
      have P1 : Hid (Sl wr 4 q1 X.length cap (rtFlat (slot0 (dueT X tb)))) := (by rw [Hk.out.1]; exact P1.out : Sl wr 4 q1 X.length cap (rtFlat (slot0 (dueT X tb))))
      have P2 : Hid (Sl wr 4 q2 m (cap - X.length) (rtFlat (slot0 (soonT X tb)))) := (by rw [Hk.out.2]; exact P2.out : Sl wr 4 q2 m (cap - X.length) (rtFlat (slot0 (soonT X tb))))
      have HL1 := Lib.hid hL1
      have HL2 := Lib.hid hL2
      clear hL1 hL2
      go_wp2_with (first
        | (at_builtin; refine wpl_append rfl (.tmp 38) (.tmp 42) rtsT rfl wr.heap.size rtT infoRt Try.underlying48 rfl (by decide) _ 0 [] rfl (own_empty wr wr.heap.size _ 4 (Nat.le_refl _)) _ _ _ _ rfl (P1.out.below (below_new _ _)) (rts_one _) ?_ ?_ ?_ ?_; (unfold maxLen; omega); omega; exact (below_new _ _).size; intro ao1 cap1 w1 hown1 hg1; rw [Nat.zero_add, List.nil_append] at hown1; have hb1 := below_app (below_new _ _) hg1 (own_empty wr wr.heap.size _ 4 (Nat.le_refl _)) (Nat.le_refl _) (below_new _ _).size; have d1y := bx_below hb1 D1.out; have a1y := block_cell d1y 1; have l1y := (Array.getElem?_eq_some_iff.1 d1y).1; simp at a1y; have Hown1 := Lib.hid hown1; have Hb1 := Lib.hid hb1; clear hown1 hb1 hg1 d1y)
        | (at_builtin; refine wpl_append rfl (.tmp 44) (.tmp 48) rtsT rfl w1.heap.size rtT infoRt Try.underlying48 rfl (by decide) _ 0 [] rfl (own_empty w1 w1.heap.size _ 4 (Nat.le_refl _)) _ _ _ _ rfl (P2.out.below (below_on Hb1.out (below_new w1 _) (Nat.le_refl _))) (rts_one _) ?_ ?_ ?_ ?_; (unfold maxLen; omega); omega; exact (below_new _ _).size; intro ao3 cap3 w3 hown3 hg3; rw [Nat.zero_add, List.nil_append] at hown3; have hb3 := below_app (below_new w1 _) hg3 (own_empty w1 w1.heap.size _ 4 (Nat.le_refl _)) (Nat.le_refl _) (below_new _ _).size; have hb4 := below_on Hb1.out hb3 (Nat.le_refl _); have d1z := bx_below hb4 D1.out; have d2z := bx_below hb4 D2.out; have e0 := block_cell d1z 0; have e1 := block_cell d1z 1; have f0 := block_free d1z 0; have f1 := block_free d1z 1; have g0 := block_cell d2z 0; have g1 := block_cell d2z 1; have k0 := block_free d2z 0; have k1 := block_free d2z 1; have l1z := (Array.getElem?_eq_some_iff.1 d1z).1; have l2z := (Array.getElem?_eq_some_iff.1 d2z).1; have ne := Hap.out; have ne2 := Hap.out.symm; simp at e0 e1 f0 f1 g0 g1 k0 k1; have Hown3 := Lib.hid hown3; have Hown1' := Lib.hid (own_below Hown1.out hb3); have Hb4 := Lib.hid hb4; have Hz := Lib.hid Hb1.out.size; clear hown3 hb3 hb4 hg3 d1z d2z))
      have L1 := Nat.lt_of_lt_of_le Hlow.out.1 Hz.out
      have L2 := Nat.lt_of_lt_of_le Hlow.out.2 Hz.out
      have o1 := own_setlow (own_setlow (own_setlow (own_setlow Hown3.out L1 1 (.slice ao3 m cap3)) L1 0 (.int .i64 tb)) L2 0 (.int .i64 tb)) L2 1 (.slice ao3 m cap3)
      have o2 := own_setlow (own_setlow (own_setlow (own_setlow Hown1'.out Hlow.out.1 1 (.slice ao3 m cap3)) Hlow.out.1 0 (.int .i64 tb)) Hlow.out.2 0 (.int .i64 tb)) Hlow.out.2 1 (.slice ao3 m cap3)
      have hB := sets_up (sets_up (sets_up (sets_up (below_on HBW.out Hb4.out (Nat.le_refl _)) Hup.out.1 1 (.slice ao3 m cap3)) Hup.out.1 0 (.int .i64 tb)) Hup.out.2 0 (.int .i64 tb)) Hup.out.2 1 (.slice ao3 m cap3)
      refine bodyPost_ret (v := .tuple #[.agg #[.int .i64 tb, .slice ao3 m cap3], .slice ao1 X.length cap1, .int .i64 0]) ?_ rfl ⟨ao3, cap3, ao1, cap1, by rw [HL1.out, HL2.out], rx_own o1 (by rw [slot0_len]; exact HL2.out), rx_own o2 (by rw [slot0_len]; exact HL1.out), fun x e => Nat.le_trans HBW.out.size (Nat.le_trans Hz.out (own_lie Hown3.out x e)), fun x e => Nat.le_trans HBW.out.size (own_lie Hown1'.out x e), hB⟩
      simp [results, Try.results77, go_sem, g0, g1, l2z]
end Go.Proofs.Ytedlplkomfiahaa
namespace Go.Proofs.Ytedlplkomfiahaa
set_option linter.unusedVariables false
set_option linter.unusedSimpArgs false
set_option linter.unusedSectionVars false
open Go Go.RowKit Go.Maps Go.Deep
theorem slot0_of (l : RLs) (h : ∀ p ∈ l, p.2 = 0) : l = slot0 (l.map (·.1)) := by
  unfold slot0
  rw [List.map_map]
  conv => lhs; rw [← List.map_id l]
  refine List.map_congr_left fun p hp => ?_
  obtain ⟨t, k⟩ := p
  have := h _ hp
  simp only at this
  subst this
  rfl
theorem slot0_fst (X : List Th) : (slot0 X).map (·.1) = X := by
  unfold slot0
  rw [List.map_map]
  conv => rhs; rw [← List.map_id X]
  rfl
theorem srt0 (X : List Th) (t : Th) : Sta.srt leP (slot0 X ++ [(t, 0)]) = slot0 (insT X t) := by
  have h1 : ∀ p ∈ Sta.srt leP (slot0 X ++ [(t, 0)]), p.2 = 0 := fun p hp => by
    have h2 := (Sta.srt_perm leP _).mem_iff.1 hp
    simp only [slot0, List.mem_append, List.mem_map, List.mem_singleton] at h2
    rcases h2 with ⟨u, -, rfl⟩ | rfl <;> rfl
  rw [slot0_of _ h1, srt_map]
  unfold insT
  rw [List.map_append, slot0_fst]
  rfl
theorem findV_yes {X : List Th} {id : Int} (h : ∃ u ∈ X, u.id = id) : ∃ k, ∃ hk : k < X.length, X[k].id = id ∧ findV (slot0 X) id = (k : Int) := by
  cases hf : findI (slot0 X) id with
  | none =>
    obtain ⟨u, hu, e⟩ := h
    exact absurd e (findI_none hf (u, 0) (by simp [slot0, hu]))
  | some k =>
    obtain ⟨hk, h1, -⟩ := findI_some hf
    rw [slot0_len] at hk
    rw [slot0_get X k hk] at h1
    exact ⟨k, hk, h1, by unfold findV; rw [hf]⟩
theorem findV_no {X : List Th} {id : Int} (h : ∀ u ∈ X, u.id ≠ id) : findV (slot0 X) id = -1 := by
  have : findI (slot0 X) id = none := findI_no fun p hp => by
    simp only [slot0, List.mem_map] at hp
    obtain ⟨u, hu, rfl⟩ := hp
    exact h u hu
  unfold findV; rw [this]
/-- who goes, where the ids are apart -/
theorem less_cut {X : List Th} (h : Ids X) (k : Nat) (hk : k < X.length) : lessId X X[k].id = X.take k ++ X.drop (k + 1) := by
  have e : X = X.take k ++ X[k] :: X.drop (k + 1) := by rw [List.getElem_cons_drop, List.take_append_drop]
  have hp := List.pairwise_iff_getElem.1 h
  have h1 : (X.take k).filter (fun t => decide (t.id ≠ X[k].id)) = X.take k := List.filter_eq_self.2 fun t ht => by
    obtain ⟨j, hj, rfl⟩ := List.getElem_of_mem ht
    rw [List.length_take] at hj
    rw [List.getElem_take]
    simpa using hp j k (by omega) hk (by omega)
  have h2 : (X.drop (k + 1)).filter (fun t => decide (t.id ≠ X[k].id)) = X.drop (k + 1) := List.filter_eq_self.2 fun t ht => by
    obtain ⟨j, hj, rfl⟩ := List.getElem_of_mem ht
    rw [List.length_drop] at hj
    rw [List.getElem_drop]
    simpa using fun e => hp k (k + 1 + j) hk (by omega) (by omega) e.symm
  unfold lessId
  obtain ⟨y, hy⟩ : ∃ y, y = X[k] := ⟨_, rfl⟩
  rw [← hy] at e h1 h2 ⊢
  clear hy hp h hk
  have h0 : decide (y.id ≠ y.id) = false := by simp
  conv => lhs; rw [e]
  rw [List.filter_append, List.filter_cons, h0, h1, h2]
  rfl
def RCanIs (W : World) (now : Int) (ao : Option Addr) (X : List Th) (id : Int) (e : Ending) (W' : World) : Prop := ∃ a c, Rt W' a c (slot0 (lessId X id)) ∧ (a = ao ∨ Lie W a) ∧ Below W.heap.size W W' ∧
  ((∃ u ∈ X, u.id = id ∧ e = .returned (.tuple #[rwV now a (lessId X id).length c, rtVal (u, 0), .bool true])) ∨ ((∀ u ∈ X, u.id ≠ id) ∧ e = .returned (.tuple #[rwV now a (lessId X id).length c, rtVal (⟨0, 0, 0⟩, 0), .bool false])))
theorem rcancel_any (W : World) (now : Int) (ao : Option Addr) (cap : Nat) (X : List Th) (id : Int) (h : Rt W ao cap (slot0 X)) (hl : X.length ≤ 256) (hi : Ids X) :
    Calls Try.prog 76 #[rwV now ao X.length cap, .int .u64 id] W fun e W' => RCanIs W now ao X id e W' := by
  by_cases hin : ∃ u ∈ X, u.id = id
  · obtain ⟨k, hk, rfl, hv⟩ := findV_yes hin
    refine (rcancel_yes W now ao cap X _ k h hl hk hv).mono ?_
    rintro e W' ⟨a, c, rfl, hr, hli, hb⟩
    unfold RCanIs
    have hlen : (X.take k ++ X.drop (k + 1)).length = X.length - 1 := by have := cut_len X k hk; rw [slot0_len] at this; exact this
    rw [less_cut hi k hk, hlen]
    exact ⟨a, c, hr, .inr hli, hb, .inl ⟨X[k], List.getElem_mem hk, rfl, rfl⟩⟩
  · have hno : ∀ u ∈ X, u.id ≠ id := fun u hu e => hin ⟨u, hu, e⟩
    refine (rcancel_no W now ao cap X id h hl (findV_no hno)).mono ?_
    rintro e W' ⟨rfl, hb⟩
    unfold RCanIs
    have hless : lessId X id = X := List.filter_eq_self.2 fun t ht => by simpa using hno t ht
    rw [hless]
    exact ⟨ao, cap, h.below hb, .inl rfl, hb, .inr ⟨hno, rfl⟩⟩
def RAdvIs (W : World) (now tb : Int) (ao : Option Addr) (X : List Th) (e : Ending) (W' : World) : Prop := ∃ a1 c1 a2 c2, e = .returned (.tuple #[rwV (advN now tb) a1 (advX now tb X).length c1, .slice a2 (advL now tb X).length c2, .int .i64 (advE now tb)]) ∧ Rt W' a1 c1 (slot0 (advX now tb X)) ∧ Rt W' a2 c2 (slot0 (advL now tb X)) ∧ (a1 = ao ∨ Lie W a1) ∧ (a2 = none ∨ Lie W a2) ∧ Below W.heap.size W W'
theorem radv_any (W : World) (now tb : Int) (ao : Option Addr) (cap : Nat) (X : List Th) (h : Rt W ao cap (slot0 X)) (hl : X.length ≤ 256) (hx : Asc X) :
    Calls Try.prog 77 #[rwV now ao X.length cap, .int .i64 tb] W fun e W' => RAdvIs W now tb ao X e W' := by
  unfold RAdvIs advN advX advL advE
  by_cases hd : Inst tb
  · rw [if_pos hd, if_pos hd, if_pos hd, if_pos hd]
    by_cases hlt : tb < now
    · rw [if_pos hlt, if_pos hlt, if_pos hlt, if_pos hlt]
      refine (radv_bad W now tb ao cap X.length 34 (.inr ⟨hd, hlt, rfl⟩)).mono ?_
      rintro e W' ⟨rfl, hb⟩
      exact ⟨ao, cap, none, 0, rfl, h.below hb, Rt.nil W', .inl rfl, .inl rfl, hb⟩
    · rw [if_neg hlt, if_neg hlt, if_neg hlt, if_neg hlt]
      refine (radv_ok W now tb ao cap X h hl hx hd (by omega)).mono ?_
      rintro e W' ⟨a1, c1, a2, c2, rfl, r1, r2, i1, i2, hb⟩
      exact ⟨a1, c1, a2, c2, rfl, r1, r2, .inr i1, .inr i2, hb⟩
  · rw [if_neg hd, if_neg hd, if_neg hd, if_neg hd]
    refine (radv_bad W now tb ao cap X.length 2 (.inl ⟨hd, rfl⟩)).mono ?_
    rintro e W' ⟨rfl, hb⟩
    exact ⟨ao, cap, none, 0, rfl, h.below hb, Rt.nil W', .inl rfl, .inl rfl, hb⟩
end Go.Proofs.Ytedlplkomfiahaa
namespace Go.Proofs.Ytedlplkomfiahaa
set_option linter.unusedVariables false
set_option linter.unusedSimpArgs false
set_option linter.unusedSectionVars false
open Go Go.ChangeShapes Go.WideShapes Go.ChangeAt Go.RowKit Go.Deep
/-- a call of a wheel -/
structure WOp where
  kind : Int
  t : Th
deriving Inhabited
def wopCells (o : WOp) : List Value := [.int .i64 o.kind, .int .u64 o.t.id, .int .u64 o.t.gen, .int .i64 o.t.due]
def WOps (w : World) (ao : Option Addr) (cap : Nat) (l : List WOp) : Prop := Sl w 4 ao l.length cap (l.map wopCells).flatten
section
variable {H : Type} {enc : TypeId × Value → H} {w : World} {base : Nat} {held : Bool}
end
theorem WOps.get {w : World} {ao : Option Addr} {cap : Nat} {l : List WOp} (h : WOps w ao cap l) (i : Nat) (hi : i < l.length) :
    ∃ b off, ao = some ⟨b, off, none⟩ ∧ ∀ j (hj : j < 4), w.cell? ⟨b, off + i * 4 + j, none⟩ = some ((wopCells l[i])[j]'hj) := by
  have key : ∀ j (hj : j < 4), (l.map wopCells).flatten[i * 4 + j]? = some ((wopCells l[i])[j]'hj) := by
    intro j hj
    have := flatten_get (rows := l.map wopCells) (k := 4) (by intro r hr; obtain ⟨x, _, rfl⟩ := List.mem_map.1 hr; rfl) i j (by simpa using hi) (by rw [List.getElem_map]; exact hj)
    rw [this]; simp only [List.getElem_map]; rfl
  obtain ⟨b, off, e, _⟩ := h.cell _ _ (key 0 (by decide))
  refine ⟨b, off, e, fun j hj => ?_⟩
  obtain ⟨b', off', e', hc⟩ := h.cell _ _ (key j hj)
  rw [e] at e'
  simp only [Option.some.injEq, Addr.mk.injEq] at e'
  obtain ⟨rfl, rfl, -⟩ := e'
  rw [Nat.add_assoc]; exact hc
theorem WOps.below {w w' : World} {ao : Option Addr} {cap : Nat} {l : List WOp} (h : WOps w ao cap l) (hb : Below w.heap.size w w') : WOps w' ao cap l := Sl.below h hb
end Go.Proofs.Ytedlplkomfiahaa
namespace Go.Proofs.Ytedlplkomfiahaa
set_option linter.unusedVariables false
set_option linter.unusedSimpArgs false
set_option linter.unusedSectionVars false
open Go Go.RowKit Go.Maps Go.Deep
/-- the reference's row lies in no block of the wheel -/
def RAp (W : World) (F : Nat → Prop) (ao : Option Addr) : Prop := ∀ a, ao = some a → a.block < W.heap.size ∧ ¬ F a.block
theorem rt_gr {W W' : World} {F : Nat → Prop} {ao : Option Addr} {cap : Nat} {l : RLs} (h : Rt W ao cap l) (hg : Gr F W W') (hA : RAp W F ao) : Rt W' ao cap l := by
  refine ⟨h.num, h.each, ⟨h.sl.len, h.sl.le, h.sl.max, h.sl.none, fun j u hu => ?_⟩, fun b off s e => ?_⟩
  · obtain ⟨b, off, e, hc⟩ := h.sl.cell j u hu
    have := hA _ e
    exact ⟨b, off, e, (World.cell?_of_block (a := ⟨b, off + j, none⟩) (hg.block _ this.1 this.2)).trans hc⟩
  · have := hA _ e
    have ht := h.typ b off s e
    unfold elem? at ht ⊢
    rw [hg.block _ this.1 this.2]; exact ht
theorem Rt.lt {W : World} {ao : Option Addr} {cap : Nat} {l : RLs} (h : Rt W ao cap l) : ∀ a, ao = some a → a.block < W.heap.size := fun a e => by
  obtain ⟨b, off, s⟩ := a
  have ht := h.typ b off s e
  unfold elem? at ht
  cases hx : W.heap[b]? with
  | none => rw [hx] at ht; cases ht
  | some o => exact (Array.getElem?_eq_some_iff.1 hx).1
/-- where a new row lies -/
theorem RAp.new {W V Z : World} {F : Nat → Prop} {ao a : Option Addr} {cap : Nat} {l : RLs} (h : RAp W F ao) (hbd : ∀ i, F i → i < W.heap.size) (hV : W.heap.size ≤ V.heap.size) (hli : a = ao ∨ Lie V a) (hr : Rt Z a cap l) : RAp Z F a := fun x e => by
  refine ⟨hr.lt x e, fun hF => ?_⟩
  rcases hli with rfl | hli
  · exact (h x e).2 hF
  · have h1 := hbd _ hF
    have h2 := hli x e
    omega
theorem RAp.up {W W' : World} {F : Nat → Prop} {ao : Option Addr} (h : RAp W F ao) (hs : W.heap.size ≤ W'.heap.size) : RAp W' F ao := fun a e => ⟨Nat.lt_of_lt_of_le (h a e).1 hs, (h a e).2⟩
theorem eq_rtv (x : Th) (V : World) : (binOp .eql rtT (rtVal (x, 0)) (rtVal (x, 0))).run Try.prog V = .ok (.bool true) V := by
  unfold rtVal
  rw [run_eql_struct, eqin_rt]
  simp [Result.andThen]
theorem eq_th (x : Th) (V : World) : (binOp .eql thT (thVal x) (thVal x)).run Try.prog V = .ok (.bool true) V := by
  unfold thVal
  rw [run_eql_struct, eqin_th]
  simp [Result.andThen]
theorem ldTb {W : World} {b : Nat} (t : Th) (h : W.heap[b]? = some (.cells #[.int .u64 t.id, .int .u64 t.gen, .int .i64 t.due] thT (0, 0))) : (Instr.loadAt thT (.pointer (some ⟨b, 0, none⟩))).run Try.prog W = .ok (thVal t) W := by
  obtain ⟨e0, e1, e2, -, -, -⟩ := set3_res h
  exact loadTh e0 e1 e2
theorem ldRt {W : World} {b o : Nat} (t : Th) (k : Nat) (h0 : W.cell? ⟨b, o, none⟩ = some (.int .u64 t.id)) (h1 : W.cell? ⟨b, o + 1, none⟩ = some (.int .u64 t.gen)) (h2 : W.cell? ⟨b, o + 2, none⟩ = some (.int .i64 t.due)) (h3 : W.cell? ⟨b, o + 3, none⟩ = some (.int .i64 (k : Nat))) : (Instr.loadAt rtT (.pointer (some ⟨b, o, none⟩))).run Try.prog W = .ok (rtVal (t, k)) W := by
  unfold rtVal
  go_simp
theorem ldRtb {W : World} {b : Nat} (t : Th) (h : W.heap[b]? = some (.cells #[.int .u64 t.id, .int .u64 t.gen, .int .i64 t.due, .int .i64 0] rtT (0, 0))) : (Instr.loadAt rtT (.pointer (some ⟨b, 0, none⟩))).run Try.prog W = .ok (rtVal (t, 0)) W := by
  have p0 := block_cell h 0
  have p1 := block_cell h 1
  have p2 := block_cell h 2
  have p3 := block_cell h 3
  simp at p0 p1 p2 p3
  exact ldRt t 0 p0 p1 p2 p3
/-- who is found by an id -/
def canT (X : List Th) (id : Int) : Th := (X.find? (fun u => decide (u.id = id))).getD ⟨0, 0, 0⟩
def canB (X : List Th) (id : Int) : Bool := (X.find? (fun u => decide (u.id = id))).isSome
theorem can_yes {X : List Th} (h : Ids X) {u : Th} (hu : u ∈ X) : canT X u.id = u ∧ canB X u.id = true := by
  unfold canT canB
  cases hf : X.find? (fun v => decide (v.id = u.id)) with
  | none => exact absurd (List.find?_eq_none.1 hf u hu) (by simp)
  | some v =>
    have h1 := List.mem_of_find?_eq_some hf
    have h2 := List.find?_some hf
    simp only [decide_eq_true_eq] at h2
    exact ⟨Ids.inj h _ h1 _ hu h2, rfl⟩
theorem can_no {X : List Th} {id : Int} (h : ∀ u ∈ X, u.id ≠ id) : canT X id = ⟨0, 0, 0⟩ ∧ canB X id = false := by
  have : X.find? (fun v => decide (v.id = id)) = none := List.find?_eq_none.2 fun u hu => by simpa using h u hu
  unfold canT canB
  rw [this]
  exact ⟨rfl, rfl⟩
theorem can_is {X : List Th} {id : Int} (h : Ids X) {e : Ending} (he : CancelIs X id e) : e = .returned (.tuple #[thVal (canT X id), .bool (canB X id)]) := by
  rcases he with ⟨u, hu, rfl, rfl⟩ | ⟨hno, rfl⟩
  · rw [(can_yes h hu).1, (can_yes h hu).2]
  · rw [(can_no hno).1, (can_no hno).2]
theorem rcan_f (W : World) (now : Int) (ao : Option Addr) (cap : Nat) (X : List Th) (id : Int) (h : Rt W ao cap (slot0 X)) (hl : X.length ≤ 256) (hi : Ids X) :
    Calls Try.prog 76 #[rwV now ao X.length cap, .int .u64 id] W fun e W' => ∃ a c, e = .returned (.tuple #[rwV now a (lessId X id).length c, rtVal (canT X id, 0), .bool (canB X id)]) ∧ Rt W' a c (slot0 (lessId X id)) ∧ (a = ao ∨ Lie W a) ∧ Below W.heap.size W W' := by
  refine (rcancel_any W now ao cap X id h hl hi).mono ?_
  rintro e W' ⟨a, c, hr, hli, hb, hor⟩
  refine ⟨a, c, ?_, hr, hli, hb⟩
  rcases hor with ⟨u, hu, rfl, rfl⟩ | ⟨hno, rfl⟩
  · rw [(can_yes hi hu).1, (can_yes hi hu).2]
  · rw [(can_no hno).1, (can_no hno).2]
theorem canc_f {Wb W : World} {F : Nat → Prop} {w : Nat} {now : Int} {X : List Th} (h : Wo Wb W F w now X) (id : Int) (hw : IdOk id) :
    Calls Try.prog 34 #[.pointer (some ⟨w, 0, none⟩), .int .u64 id] W fun e W' => e = .returned (.tuple #[thVal (canT X id), .bool (canB X id)]) ∧ Wnx Wb W F w now (lessId X id) W' :=
  (cancel_o h id hw).mono fun e W' hp => ⟨can_is h.okX.2.2.1 hp.1, hp.2⟩
theorem get_f {Wb W : World} {F : Nat → Prop} {w : Nat} {now : Int} {X : List Th} (h : Wo Wb W F w now X) (id : Int) (hw : IdOk id) :
    Calls Try.prog 48 #[.pointer (some ⟨w, 0, none⟩), .int .u64 id] W fun e W' => e = .returned (.tuple #[thVal (canT X id), .bool (canB X id)]) ∧ Below W.heap.size W W' :=
  (get_o h id hw).mono fun e W' hp => ⟨can_is h.okX.2.2.1 hp.1, hp.2⟩
end Go.Proofs.Ytedlplkomfiahaa
namespace Go.Proofs.Ytedlplkomfiahaa
set_option linter.unusedVariables false
set_option linter.unusedSimpArgs false
set_option linter.unusedSectionVars false
open Go Go.RowKit Go.Maps Go.Deep
abbrev bkT : TypeId := 61
/-- a book that the call made: its box, its wheel -/
def Bk (W wr : World) (G : Nat → Prop) (b : Nat) (now last : Int) (X : List Th) : Prop :=
  ∃ w F, Wo W wr F w now X ∧ wr.heap[b]? = some (.cells #[.pointer (some ⟨w, 0, none⟩), .int .u64 last] bkT (0, 0)) ∧ ¬ F b ∧ (∀ i, G i ↔ (F i ∨ i = b)) ∧ W.heap.size ≤ b ∧ 0 ≤ last ∧ last ≤ 1152921504606846976
/-- behind a call that wrote it -/
def Bnx (W wr : World) (G : Nat → Prop) (b : Nat) (now last : Int) (X : List Th) (W' : World) : Prop := ∃ G', Bk W W' G' b now last X ∧ Gr G wr W' ∧ ∀ i, G' i → G i ∨ wr.heap.size ≤ i
section
variable {W wr wr' : World} {G : Nat → Prop} {b : Nat} {now last : Int} {X : List Th}
theorem Bk.below (h : Bk W wr G b now last X) (hb : Below wr.heap.size wr wr') : Bk W wr' G b now last X := by
  obtain ⟨w, F, h1, h2, h3, h4, h5, h6⟩ := h
  exact ⟨w, F, h1.below hb, bx_below hb h2, h3, h4, h5, h6⟩
theorem Bk.bd (h : Bk W wr G b now last X) : ∀ i, G i → i < wr.heap.size := by
  obtain ⟨w, F, h1, h2, h3, h4, h5, h6⟩ := h
  intro i hi
  rcases (h4 i).1 hi with h7 | rfl
  · exact h1.bd i h7
  · exact (Array.getElem?_eq_some_iff.1 h2).1
theorem Bk.up (h : Bk W wr G b now last X) : ∀ i, G i → W.heap.size ≤ i := by
  obtain ⟨w, F, h1, h2, h3, h4, h5, h6⟩ := h
  intro i hi
  rcases (h4 i).1 hi with h7 | rfl
  · exact h1.up i h7
  · exact h5
theorem Bk.bel (h : Bk W wr G b now last X) : Below W.heap.size W wr := by
  obtain ⟨w, F, h1, -⟩ := h
  exact h1.bel
theorem Bk.okX (h : Bk W wr G b now last X) : Inst now ∧ Asc X ∧ Ids X ∧ (∀ t ∈ X, Inst t.due ∧ IdOk t.id) ∧ X.length ≤ 256 := by
  obtain ⟨w, F, h1, -⟩ := h
  exact h1.okX
theorem Bk.num (h : Bk W wr G b now last X) : 0 ≤ last ∧ last ≤ 1152921504606846976 := by
  obtain ⟨w, F, h1, h2, h3, h4, h5, h6⟩ := h
  exact h6
theorem Bk.beside {H : Nat → Prop} (h : Bk W wr G b now last X) (hg : Gr H wr wr') (hd : ∀ i, G i → ¬ H i) (hH : ∀ i, H i → W.heap.size ≤ i) : Bk W wr' G b now last X := by
  obtain ⟨w, F, h1, h2, h3, h4, h5, h6⟩ := h
  exact ⟨w, F, h1.beside hg (fun i hi => hd i ((h4 i).2 (.inl hi))) hH, (hg.block b (Array.getElem?_eq_some_iff.1 h2).1 (hd b ((h4 b).2 (.inr rfl)))).trans h2, h3, h4, h5, h6⟩
theorem Bnx.of_below (h : Bk W wr G b now last X) (hb : Below wr.heap.size wr wr') : Bnx W wr G b now last X wr' := ⟨G, h.below hb, Gr.below hb, fun i hi => .inl hi⟩
theorem Bnx.below {W' W'' : World} (h : Bnx W wr G b now last X W') (hb : Below W'.heap.size W' W'') : Bnx W wr G b now last X W'' := by
  obtain ⟨G', h1, h2, h3⟩ := h
  exact ⟨G', h1.below hb, h2.trans (Gr.below hb), h3⟩
/-- a write beside it -/
theorem Bnx.beside {W' W'' : World} {H : Nat → Prop} (h : Bnx W wr G b now last X W') (hg : Gr H W' W'') (hd : ∀ i, H i → ¬ G i ∧ i < wr.heap.size) (hH : ∀ i, H i → W.heap.size ≤ i) : ∃ G', Bk W W'' G' b now last X ∧ Gr (fun i => G i ∨ H i) wr W'' ∧ ∀ i, G' i → G i ∨ wr.heap.size ≤ i := by
  obtain ⟨G', h1, h2, h3⟩ := h
  refine ⟨G', h1.beside hg (fun i hi hi2 => ?_) hH, (h2.mono fun i hi => .inl hi).then hg (fun i hi => .inl (.inr hi)), h3⟩
  have := hd i hi2
  rcases h3 i hi with h4 | h4
  · exact this.1 h4
  · omega
theorem bk_wn {w : Nat} {F : Nat → Prop} (h1 : Wo W wr F w now X) (h2 : wr.heap[b]? = some (.cells #[.pointer (some ⟨w, 0, none⟩), .int .u64 last] bkT (0, 0))) (h3 : ¬ F b) (h4 : ∀ i, G i ↔ (F i ∨ i = b)) (h5 : W.heap.size ≤ b) (h6 : 0 ≤ last ∧ last ≤ 1152921504606846976)
    {now' : Int} {X' : List Th} (hn : Wnx W wr F w now' X' wr') : Bnx W wr G b now' last X' wr' := by
  obtain ⟨F', g1, g2, g3⟩ := hn
  have hl := (Array.getElem?_eq_some_iff.1 h2).1
  refine ⟨fun i => F' i ∨ i = b, ⟨w, F', g1, (g2.block b hl h3).trans h2, fun e => ?_, fun i => Iff.rfl, h5, h6⟩, g2.mono fun i hi => (h4 i).2 (.inl hi), fun i hi => ?_⟩
  · rcases g3 b e with h | h
    · exact h3 h
    · omega
  · rcases hi with hi | rfl
    · exact (g3 i hi).elim (fun h => .inl ((h4 i).2 (.inl h))) .inr
    · exact .inl ((h4 i).2 (.inr rfl))
end
theorem bnone_no (W : World) (b w : Nat) (hc : W.cell? ⟨b, 0, none⟩ = some (.pointer (some ⟨w, 0, none⟩))) (hl : b < W.heap.size) : Calls Try.prog 33 #[.pointer (some ⟨b, 0, none⟩)] W fun e W' => e = .returned (.bool false) ∧ W' = W := by
  go_enter Try.func33, Try.ntmps33
  go_wp2_with fail
  go_ret
  exact ⟨rfl, rfl⟩
def BNone (W : World) (q : Option Addr) : Prop := ∀ W', Below W.heap.size W W' → Calls Try.prog 33 #[.pointer q] W' fun e W'' => e = .returned (.bool true) ∧ W'' = W'
theorem BNone.nil (W : World) : BNone W none := fun W' _ => by
  go_enter Try.func33, Try.ntmps33
  go_wp2_with fail
  go_ret
  exact ⟨rfl, rfl⟩
theorem BNone.zero {W : World} {b : Nat} (hc : W.cell? ⟨b, 0, none⟩ = some (.pointer none)) : BNone W (some ⟨b, 0, none⟩) := fun W' hb => by
  have hl := cell?_lt hc
  have hc2 : W'.cell? ⟨b, 0, none⟩ = some (.pointer none) := (hb.cell (p := ⟨b, 0, none⟩) hl).trans hc
  have hl2 : b < W'.heap.size := Nat.lt_of_lt_of_le hl hb.size
  go_enter Try.func33, Try.ntmps33
  go_wp2_with fail
  go_ret
  exact ⟨rfl, rfl⟩
theorem BNone.below {W W' : World} {q : Option Addr} (h : BNone W q) (hb : Below W.heap.size W W') : BNone W' q := fun W2 h2 => h W2 (below_on hb h2 (Nat.le_refl _))
theorem dinst_yes (t : Int) (h : Inst t) (W : World) : Calls Try.prog 36 #[.int .i64 t] W fun e W' => e = .returned (.bool true) ∧ W' = W := by
  have Ha := Lib.hid (add_yes t h W)
  go_enter Try.func36, Try.ntmps36
  go_wp2_with fail
  refine Ha.out.mono ?_
  rintro e W2 ⟨rfl, rfl⟩
  go_wp2_with fail
  go_ret
  exact ⟨rfl, rfl⟩
theorem dinst_no (t : Int) (h : ¬ Inst t) (W : World) : Calls Try.prog 36 #[.int .i64 t] W fun e W' => e = .returned (.bool false) ∧ W' = W := by
  have Ha := Lib.hid (add_no t h W)
  go_enter Try.func36, Try.ntmps36
  go_wp2_with fail
  refine Ha.out.mono ?_
  rintro e W2 ⟨rfl, rfl⟩
  go_wp2_with fail
  go_ret
  exact ⟨rfl, rfl⟩
/-- three stores into a box of one's own -/
theorem gr_set3 (V : World) (p : Nat) (v0 v1 v2 : Value) : Gr (fun i => i = p) V (((V.setCell ⟨p, 0, none⟩ v0).setCell ⟨p, 1, none⟩ v1).setCell ⟨p, 2, none⟩ v2) :=
  ((Gr.one (grown_set V p 0 v0) (fun b e => (Option.some.inj e).symm)).trans (Gr.one (grown_set _ p 1 v1) (fun b e => (Option.some.inj e).symm))).trans (Gr.one (grown_set _ p 2 v2) (fun b e => (Option.some.inj e).symm))
theorem bx_set3 {V : World} {p : Nat} {T : TypeId} {x0 x1 x2 : Value} (h : V.heap[p]? = some (.cells #[x0, x1, x2] T (0, 0))) (v0 v1 v2 : Value) : (((V.setCell ⟨p, 0, none⟩ v0).setCell ⟨p, 1, none⟩ v1).setCell ⟨p, 2, none⟩ v2).heap[p]? = some (.cells #[v0, v1, v2] T (0, 0)) := by
  have := block_set (block_set (block_set h 0 v0) 1 v1) 2 v2
  simpa only [List.setIfInBounds_toArray, List.set_cons_zero, List.set_cons_succ] using this
set_option maxRecDepth 100000 in
set_option maxHeartbeats 4000000 in
theorem bget_o {W wr : World} {G : Nat → Prop} {b : Nat} {now last : Int} {X : List Th} (h : Bk W wr G b now last X) (id : Int) (hw : IdOk id) :
    Calls Try.prog 21 #[.pointer (some ⟨b, 0, none⟩), .int .u64 id] wr fun e W' => e = .returned (.tuple #[thVal (canT X id), .bool (canB X id)]) ∧ Below wr.heap.size wr W' := by
  obtain ⟨w, F, h1, h2, h3, h4, h5, h6⟩ := h
  obtain ⟨W1, hW1⟩ : ∃ W1, W1 = wr.alloc (.cells #[.int .u64 0, .int .u64 0, .int .i64 0] thT) := ⟨_, rfl⟩
  obtain ⟨p, hp⟩ : ∃ p, p = wr.heap.size := ⟨_, rfl⟩
  have hB1 : Below wr.heap.size wr W1 := by rw [hW1]; exact below_new _ _
  have hx1 : W1.heap[p]? = some (.cells #[.int .u64 0, .int .u64 0, .int .i64 0] thT (0, 0)) := by rw [hW1, hp]; exact heap_alloc_new _ _
  have hb2 := bx_below hB1 h2
  have e0 := block_cell hb2 0
  have el := (Array.getElem?_eq_some_iff.1 hb2).1
  simp at e0
  have hp1 : wr.heap.size ≤ p := by omega
  have Hno := Lib.hid (bnone_no W1 b w e0 el)
  have Hgt := Lib.hid (get_f (h1.below hB1) id hw)
  have HB1 := Lib.hid hB1
  have X1 := Lib.hid hx1
  have Hp1 := Lib.hid hp1
  clear h1 h2 h3 h4 h5 h6 hB1 hx1 hb2 hp1
  go_enter Try.func21, Try.ntmps21
  go_wp2_with fail
  rw [← hW1, ← hp]
  clear hW1 hp
  refine Hno.out.mono ?_
  rintro e V1 ⟨rfl, hv⟩
  subst hv
  go_wp2_with fail
  refine (show Calls _ _ _ _ _ from Hgt.out).mono ?_
  rintro e V2 ⟨rfl, hb⟩
  obtain ⟨⟨yi, yg, yd⟩, hy⟩ : ∃ y, y = canT X id := ⟨_, rfl⟩
  rw [← hy]
  unfold thVal
  have x2 := bx_below hb X1.out
  have y0 := block_cell x2 0
  have y1 := block_cell x2 1
  have y2 := block_cell x2 2
  have f0 := block_free x2 0
  have f1 := block_free x2 1
  have f2 := block_free x2 2
  have l3 := (Array.getElem?_eq_some_iff.1 x2).1
  simp at y0 y1 y2 f0 f1 f2
  have X2 := Lib.hid x2
  have HB2 := Lib.hid (below_on HB1.out hb (Nat.le_refl _))
  have Hy := Lib.hid hy
  clear x2 hb hy
  go_wp2_with fail
  have u3 := bx_set3 X2.out (.int .u64 yi) (.int .u64 yg) (.int .i64 yd)
  obtain ⟨U, hU⟩ : ∃ U, U = ((V2.setCell ⟨p, 0, none⟩ (.int .u64 yi)).setCell ⟨p, 1, none⟩ (.int .u64 yg)).setCell ⟨p, 2, none⟩ (.int .i64 yd) := ⟨_, rfl⟩
  rw [← hU] at u3 ⊢
  have u0 := block_cell u3 0
  have u1 := block_cell u3 1
  have u2 := block_cell u3 2
  have ul := (Array.getElem?_eq_some_iff.1 u3).1
  simp at u0 u1 u2
  have hbU : Below wr.heap.size wr U := by rw [hU]; exact sets_up (sets_up (sets_up HB2.out Hp1.out 0 _) Hp1.out 1 _) Hp1.out 2 _
  clear u3 hU
  refine bodyPost_ret (v := .tuple #[.agg #[.int .u64 yi, .int .u64 yg, .int .i64 yd], .bool (canB X id)]) ?_ rfl ⟨by rw [← Hy.out]; rfl, hbU⟩
  simp [results, Try.results21, go_sem, u0, u1, u2, ul]
set_option maxRecDepth 100000 in
set_option maxHeartbeats 4000000 in
theorem bclear_o {W wr : World} {G : Nat → Prop} {b : Nat} {now last : Int} {X : List Th} (h : Bk W wr G b now last X) (id : Int) (hw : IdOk id) :
    Calls Try.prog 10 #[.pointer (some ⟨b, 0, none⟩), .int .u64 id] wr fun e W' => e = .returned (.tuple #[thVal (canT X id), .bool (canB X id)]) ∧ Bnx W wr G b now last (lessId X id) W' := by
  have hbd := h.bd
  have hbw := h.bel.size
  obtain ⟨w, F, h1, h2, h3, h4, h5, h6⟩ := h
  obtain ⟨W1, hW1⟩ : ∃ W1, W1 = wr.alloc (.cells #[.int .u64 0, .int .u64 0, .int .i64 0] thT) := ⟨_, rfl⟩
  obtain ⟨p, hp⟩ : ∃ p, p = wr.heap.size := ⟨_, rfl⟩
  have hB1 : Below wr.heap.size wr W1 := by rw [hW1]; exact below_new _ _
  have hx1 : W1.heap[p]? = some (.cells #[.int .u64 0, .int .u64 0, .int .i64 0] thT (0, 0)) := by rw [hW1, hp]; exact heap_alloc_new _ _
  have hb2 := bx_below hB1 h2
  have e0 := block_cell hb2 0
  have el := (Array.getElem?_eq_some_iff.1 hb2).1
  simp at e0
  have hpG : ¬ G p := fun e => by have := hbd p e; omega
  have hpW : W.heap.size ≤ p := by omega
  have hpr : wr.heap.size ≤ p := by omega
  have Hno := Lib.hid (bnone_no W1 b w e0 el)
  have Hcn := Lib.hid ((canc_f (h1.below hB1) id hw).mono fun e W' hp => (⟨hp.1, bk_wn (h1.below hB1) hb2 h3 h4 h5 h6 hp.2⟩ : e = .returned (.tuple #[thVal (canT X id), .bool (canB X id)]) ∧ Bnx W W1 G b now last (lessId X id) W'))
  have HB1 := Lib.hid hB1
  have X1 := Lib.hid hx1
  have HpG := Lib.hid (And.intro hpG (And.intro hpW hpr))
  clear h1 h2 h3 h4 h5 h6 hB1 hx1 hb2 hpG hpW hpr hbw hbd
  go_enter Try.func10, Try.ntmps10
  go_wp2_with fail
  rw [← hW1, ← hp]
  clear hW1 hp
  refine Hno.out.mono ?_
  rintro e V1 ⟨rfl, hv⟩
  subst hv
  go_wp2_with fail
  refine (show Calls _ _ _ _ _ from Hcn.out).mono ?_
  rintro e V2 ⟨rfl, hbn⟩
  obtain ⟨⟨yi, yg, yd⟩, hy⟩ : ∃ y, y = canT X id := ⟨_, rfl⟩
  rw [← hy]
  unfold thVal
  have hpl := (Array.getElem?_eq_some_iff.1 X1.out).1
  have x2 : V2.heap[p]? = some (.cells #[.int .u64 0, .int .u64 0, .int .i64 0] thT (0, 0)) := by obtain ⟨G', -, g2, -⟩ := hbn; exact (g2.block p hpl HpG.out.1).trans X1.out
  have y0 := block_cell x2 0
  have y1 := block_cell x2 1
  have y2 := block_cell x2 2
  have f0 := block_free x2 0
  have f1 := block_free x2 1
  have f2 := block_free x2 2
  have l3 := (Array.getElem?_eq_some_iff.1 x2).1
  simp at y0 y1 y2 f0 f1 f2
  have X2 := Lib.hid x2
  have Hbn := Lib.hid hbn
  have Hy := Lib.hid hy
  clear x2 hbn hy
  go_wp2_with fail
  have u3 := bx_set3 X2.out (.int .u64 yi) (.int .u64 yg) (.int .i64 yd)
  have hgU := gr_set3 V2 p (.int .u64 yi) (.int .u64 yg) (.int .i64 yd)
  obtain ⟨U, hU⟩ : ∃ U, U = ((V2.setCell ⟨p, 0, none⟩ (.int .u64 yi)).setCell ⟨p, 1, none⟩ (.int .u64 yg)).setCell ⟨p, 2, none⟩ (.int .i64 yd) := ⟨_, rfl⟩
  rw [← hU] at u3 hgU ⊢
  have u0 := block_cell u3 0
  have u1 := block_cell u3 1
  have u2 := block_cell u3 2
  have ul := (Array.getElem?_eq_some_iff.1 u3).1
  simp at u0 u1 u2
  obtain ⟨G', k1, k2, k3⟩ := Hbn.out.beside hgU (fun i e => by subst e; exact ⟨HpG.out.1, hpl⟩) (fun i e => by subst e; exact HpG.out.2.1)
  have hbU : Bnx W wr G b now last (lessId X id) U := ⟨G', k1, ((Gr.below HB1.out).then k2 (fun i hi => hi.elim .inl (fun e => by subst e; exact .inr HpG.out.2.2))), fun i hi => (k3 i hi).elim .inl (fun h => .inr (Nat.le_trans HB1.out.size h))⟩
  clear u3 hU
  refine bodyPost_ret (v := .tuple #[.agg #[.int .u64 yi, .int .u64 yg, .int .i64 yd], .bool (canB X id)]) ?_ rfl ⟨by rw [← Hy.out]; rfl, hbU⟩
  simp [results, Try.results10, go_sem, u0, u1, u2, ul]
set_option maxRecDepth 100000 in
set_option maxHeartbeats 4000000 in
theorem badv_o {W wr : World} {G : Nat → Prop} {b : Nat} {now last : Int} {X : List Th} (h : Bk W wr G b now last X) (tb : Int) :
    Calls Try.prog 11 #[.pointer (some ⟨b, 0, none⟩), .int .i64 tb] wr fun e W' => ∃ ao cap, e = .returned (.tuple #[.slice ao (advL now tb X).length cap, .int .i64 (advE now tb)]) ∧ Bnx W wr G b (advN now tb) last (advX now tb X) W' ∧ W'.ownsRow wr.heap.size thT 3 (.slice ao (advL now tb X).length cap) (advL now tb X).length (thFlat (advL now tb X)) := by
  obtain ⟨w, F, h1, h2, h3, h4, h5, h6⟩ := h
  have e0 := block_cell h2 0
  have el := (Array.getElem?_eq_some_iff.1 h2).1
  simp at e0
  have Hno := Lib.hid (bnone_no wr b w e0 el)
  have had : Calls Try.prog 35 #[.pointer (some ⟨w, 0, none⟩), .int .i64 tb] wr fun e W' => ∃ ao cap, e = .returned (.tuple #[.slice ao (advL now tb X).length cap, .int .i64 (advE now tb)]) ∧ Bnx W wr G b (advN now tb) last (advX now tb X) W' ∧ W'.ownsRow wr.heap.size thT 3 (.slice ao (advL now tb X).length cap) (advL now tb X).length (thFlat (advL now tb X)) :=
    (adv_r h1 tb).mono (fun e W' hp => by
      obtain ⟨ao, cap, he, hn, ho⟩ := hp
      exact ⟨ao, cap, he, bk_wn h1 h2 h3 h4 h5 h6 hn, ho⟩)
  have Had := Lib.hid had
  clear had
  clear h1 h2 h3 h4 h5 h6
  go_enter Try.func11, Try.ntmps11
  go_wp2_with fail
  refine Hno.out.mono ?_
  rintro e V1 ⟨rfl, hv⟩
  subst hv
  go_wp2_with fail
  refine (show Calls _ _ _ _ _ from Had.out).mono ?_
  rintro e V2 ⟨ao, cap, rfl, hbn, ho⟩
  go_wp2_with fail
  go_ret2
  exact ⟨ao, cap, rfl, hbn, ho⟩
end Go.Proofs.Ytedlplkomfiahaa
