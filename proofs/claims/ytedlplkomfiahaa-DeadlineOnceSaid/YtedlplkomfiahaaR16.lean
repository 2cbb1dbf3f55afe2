/- Lemmas for DeadlineOnce (Xr WheelFull OpenR OpenT Xs Xt Xu Xv Xx OpenW Xz Da). No statement of the seat is proved here. -/
import Derived.Deep.Slices
import Derived.Deep.Fields
import Derived.Deep.Strs
import Derived.ProofKit
import Derived.OpenShut
import Derived.ShutString
import Derived.ChangeOld
import Derived.Deep.Matrix
import Derived.ChangeKeysEq
import Derived.Stop.BytesEq
import Derived.Deep.OwnRows
import Derived.Test.YtedlplkomfiahaaR1
import Derived.Test.YtedlplkomfiahaaR9
import Derived.Test.YtedlplkomfiahaaR15
namespace Go.Proofs.Ytedlplkomfiahaa
set_option linter.unusedVariables false
set_option linter.unusedSimpArgs false
set_option linter.unusedSectionVars false
open Go Go.RowKit Go.Maps
/-- a wheel that the call made -/
structure Wo (W wr : World) (F : Nat → Prop) (w : Nat) (now : Int) (X : List Th) : Prop where
  whl : Whl wr F w now X
  up : ∀ i, F i → W.heap.size ≤ i
  bel : Below W.heap.size W wr
/-- behind a call that wrote it -/
def Wnx (W wr : World) (F : Nat → Prop) (w : Nat) (now : Int) (X : List Th) (W' : World) : Prop := ∃ F', Wo W W' F' w now X ∧ Gr F wr W' ∧ ∀ i, F' i → F i ∨ wr.heap.size ≤ i
section
variable {W wr wr' : World} {F : Nat → Prop} {w : Nat} {now : Int} {X : List Th}
theorem Wo.below (h : Wo W wr F w now X) (hb : Below wr.heap.size wr wr') : Wo W wr' F w now X := ⟨h.whl.below hb, h.up, below_on h.bel hb (Nat.le_refl _)⟩
theorem Wo.bd (h : Wo W wr F w now X) : ∀ i, F i → i < wr.heap.size := h.whl.bd
theorem Wo.st (h : Wo W wr F w now X) {now' : Int} {X' : List Th} (hs : Wst wr F w now' X' wr') : Wnx W wr F w now' X' wr' := by
  obtain ⟨F', h1, h2, h3⟩ := hs
  exact ⟨F', ⟨h1, fun i hi => (h3 i hi).elim (h.up i) (fun x => Nat.le_trans h.bel.size x), h.bel.trans (h2.above h.bel.size h.up)⟩, h2, h3⟩
theorem Wo.okX (h : Wo W wr F w now X) : Inst now ∧ Asc X ∧ Ids X ∧ (∀ t ∈ X, Inst t.due ∧ IdOk t.id) ∧ X.length ≤ 256 := by
  obtain ⟨G, rs, pf, mf, R, far, h1, h2, h3⟩ := h.whl
  exact ⟨h2, h3.asc, h3.ids, h3.ok, h3.len⟩
/-- what another one's call wrote -/
theorem Wo.beside {H : Nat → Prop} (h : Wo W wr F w now X) (hg : Gr H wr wr') (hd : ∀ i, F i → ¬ H i) (hH : ∀ i, H i → W.heap.size ≤ i) : Wo W wr' F w now X := ⟨h.whl.beside hg hd, h.up, h.bel.trans (hg.above h.bel.size hH)⟩
theorem arm_o (h : Wo W wr F w now X) (t : Th) (hw : IdOk t.id) :
    Calls Try.prog 38 #[.pointer (some ⟨w, 0, none⟩), thVal t] wr fun e W' => e = .returned (.int .i64 (armE X t)) ∧ Wnx W wr F w now (armX X t) W' := by
  refine (arm_any wr F w now X t h.whl hw).mono ?_
  rintro e W' ⟨rfl, hs⟩
  exact ⟨rfl, h.st hs⟩
theorem cancel_o (h : Wo W wr F w now X) (id : Int) (hw : IdOk id) :
    Calls Try.prog 34 #[.pointer (some ⟨w, 0, none⟩), .int .u64 id] wr fun e W' => CancelIs X id e ∧ Wnx W wr F w now (lessId X id) W' := by
  refine (cancel_any wr F w now X id h.whl hw).mono ?_
  rintro e W' ⟨he, hs⟩
  exact ⟨he, h.st hs⟩
theorem get_o (h : Wo W wr F w now X) (id : Int) (hw : IdOk id) :
    Calls Try.prog 48 #[.pointer (some ⟨w, 0, none⟩), .int .u64 id] wr fun e W' => CancelIs X id e ∧ Below wr.heap.size wr W' := by
  obtain ⟨G, rs, pf, mf, R, far, hm, hn, hi⟩ := h.whl
  refine (wget_any wr F G w now rs pf mf 256 R far id hm hw (by decide)).mono ?_
  rintro e W' ⟨hor, hb⟩
  refine ⟨?_, hb⟩
  rcases hor with ⟨t, ht, e1, e2⟩ | ⟨h4, e2⟩
  · exact .inl ⟨t, hi.perm.mem_iff.2 ht, e1, e2⟩
  · exact .inr ⟨fun u hu => h4 u (hi.perm.mem_iff.1 hu), e2⟩
theorem len_o (h : Wo W wr F w now X) :
    Calls Try.prog 37 #[.pointer (some ⟨w, 0, none⟩)] wr fun e W' => e = .returned (.int .i64 (X.length : Nat)) ∧ Below wr.heap.size wr W' := by
  obtain ⟨G, rs, pf, mf, R, far, hm, hn, hi⟩ := h.whl
  have hl := hi.lenT
  refine (wlen_any wr F G w now rs pf mf 256 R far hm (by omega)).mono ?_
  rintro e W' ⟨rfl, hb⟩
  exact ⟨by rw [hi.perm.length_eq], hb⟩
theorem now_o (h : Wo W wr F w now X) :
    Calls Try.prog 39 #[.pointer (some ⟨w, 0, none⟩)] wr fun e W' => e = .returned (.int .i64 now) ∧ W' = wr := by
  obtain ⟨G, rs, pf, mf, R, far, hm, hn, hi⟩ := h.whl
  exact wnow_any wr F G w now rs pf mf 256 R far hm
end
theorem new_o (W wr : World) (now : Int) (h : Inst now) (hb : Below W.heap.size W wr) : Calls Try.prog 32 #[.int .i64 now] wr fun e W' => ∃ w F, e = .returned (.pointer (some ⟨w, 0, none⟩)) ∧ Wo W W' F w now [] ∧ Below wr.heap.size wr W' ∧ ∀ i, F i → wr.heap.size ≤ i := by
  refine (wnew_any wr now h).mono ?_
  rintro e W' ⟨w, F, rfl, h1, h2, h3⟩
  exact ⟨w, F, rfl, ⟨h1, fun i hi => Nat.le_trans hb.size (h2 i hi), below_on hb h3 (Nat.le_refl _)⟩, h3, h2⟩
end Go.Proofs.Ytedlplkomfiahaa
namespace Go.Proofs.Ytedlplkomfiahaa
set_option linter.unusedVariables false
set_option linter.unusedSimpArgs false
set_option linter.unusedSectionVars false
open Go Go.RowKit Go.Maps
theorem Ids.inj {X : List Th} (h : Ids X) : ∀ s ∈ X, ∀ t ∈ X, s.id = t.id → s = t := by
  induction X with
  | nil => intro s hs; cases hs
  | cons x X ih =>
    have hp := List.pairwise_cons.1 h
    intro s hs t ht e
    rcases List.mem_cons.1 hs with h1 | h1
    · rcases List.mem_cons.1 ht with h2 | h2
      · rw [h1, h2]
      · exact absurd (by rw [← h1]; exact e) (hp.1 t h2)
    · rcases List.mem_cons.1 ht with h2 | h2
      · exact absurd (by rw [← h2]; exact e.symm) (hp.1 s h1)
      · exact ih hp.2 s h1 t h2 e
theorem Ids.nodup {X : List Th} (h : Ids X) : X.Nodup := List.Pairwise.imp (fun {a b} hne (e : a = b) => hne (by rw [e])) h
theorem ids_less {X : List Th} (h : Ids X) {t : Th} (ht : t ∈ X) : (lessId X t.id).length + 1 = X.length := by
  have := (perm_less h.inj h.nodup ht).length_eq
  simpa using this.symm
theorem armX_in {X : List Th} {t : Th} (hd : Inst t.due) (hn : ∀ u ∈ X, u.id ≠ t.id) (hl : X.length < 256) : armE X t = 0 ∧ armX X t = insT X t := by
  have hne : ¬ ∃ u ∈ X, u.id = t.id := fun ⟨u, hu, e⟩ => hn u hu e
  constructor
  · unfold armE; rw [if_pos hd, if_neg hne, if_neg (by omega)]
  · unfold armX; rw [if_pos hd, if_neg hne, if_neg (by omega)]
theorem insT_mem {X : List Th} {t u : Th} : u ∈ insT X t ↔ u ∈ X ∨ u = t := by
  unfold insT
  rw [(Sta.srt_perm thLe (X ++ [t])).mem_iff]
  simp
theorem insT_len (X : List Th) (t : Th) : (insT X t).length = X.length + 1 := by
  unfold insT
  rw [Sta.srt_len]; simp
/-- ids 0 .. i - 1 -/
def Upto (X : List Th) (i : Nat) : Prop := X.length = i ∧ ∀ j : Int, (∃ u ∈ X, u.id = j) ↔ 0 ≤ j ∧ j < (i : Int)
theorem Upto.put {X : List Th} {i : Nat} (h : Upto X i) (g d : Int) : Upto (insT X ⟨(i : Nat), g, d⟩) (i + 1) := by
  refine ⟨by rw [insT_len, h.1], fun j => ?_⟩
  constructor
  · rintro ⟨u, hu, e⟩
    rcases insT_mem.1 hu with h1 | h1
    · have := (h.2 j).1 ⟨u, h1, e⟩; omega
    · subst h1; simp only at e; omega
  · intro hj
    by_cases e : j = (i : Int)
    · exact ⟨_, insT_mem.2 (.inr rfl), e.symm⟩
    · obtain ⟨u, hu, e2⟩ := (h.2 j).2 (by omega)
      exact ⟨u, insT_mem.2 (.inl hu), e2⟩
end Go.Proofs.Ytedlplkomfiahaa
namespace Go.Proofs.Ytedlplkomfiahaa
set_option linter.unusedVariables false
set_option linter.unusedSimpArgs false
set_option linter.unusedSectionVars false
open Go Go.ChangeShapes Go.WideShapes Go.ChangeAt Go.RowKit Go.Deep
theorem rows_len {α : Type} {cells : α → List Value} {k : Nat} (hl : ∀ a, (cells a).length = k) (l : List α) : (l.map cells).flatten.length = l.length * k := by
  induction l with
  | nil => simp
  | cons a l ih => simp only [List.map_cons, List.flatten_cons, List.length_append, ih, hl, List.length_cons, Nat.succ_mul]; omega
/-- what a cell of rows is -/
theorem rows_get {α : Type} {cells : α → List Value} {k : Nat} (hl : ∀ a, (cells a).length = k) (hk : 0 < k) (l : List α) (j : Nat) (u : Value) (h : (l.map cells).flatten[j]? = some u) :
    ∃ (hi : j / k < l.length), (cells l[j / k])[j % k]? = some u := by
  have hj : j < (l.map cells).flatten.length := (List.getElem?_eq_some_iff.1 h).1
  rw [rows_len hl] at hj
  have hi : j / k < l.length := Nat.div_lt_of_lt_mul (by rw [Nat.mul_comm]; exact hj)
  refine ⟨hi, ?_⟩
  have hm : j % k < k := Nat.mod_lt _ hk
  have := flatten_get (rows := l.map cells) (k := k) (by intro r hr; obtain ⟨x, _, rfl⟩ := List.mem_map.1 hr; exact hl x) (j / k) (j % k) (by simpa using hi) (by simp [hl]; exact hm)
  rw [show j / k * k + j % k = j from by rw [Nat.mul_comm]; exact Nat.div_add_mod j k, h] at this
  rw [this, List.getElem?_eq_getElem (by rw [hl]; exact hm)]
  simp
section
variable {H : Type} {enc : TypeId × Value → H} {P : Program} {w : World} {base : Nat} {held : Bool}
theorem open_rows {α : Type} [Inhabited α] (cells : α → List Value) (good : α → Prop) {k : Nat} (hl : ∀ a, (cells a).length = k) (hk : 0 < k) {t e : TypeId} {fuel : Nat} {ao : Option Addr} {len cap : Nat} {x : DataW H × List MemPlace}
    (ht : P.underlying t = some (.slice e)) (hC : P.cellsOf e = k)
    (hrow : ∀ (n : Nat) (cs : List Value) (y : DataW H × List MemPlace), cs.length = k → DataW.trod enc P w base (fun _ => true) held n e cs = some y → ∃ a, cs = cells a ∧ good a)
    (h : DataW.trod enc P w base (fun _ => true) held fuel t (Value.slice ao len cap).cells.toList = some x) : ∃ l : List α, len = l.length ∧ Sl w k ao l.length cap (l.map cells).flatten ∧ ∀ a ∈ l, good a := by
  rcases open_slice ht h with ⟨hcs, _⟩ | ⟨a, len', cap', m, n, D, Pl, hcs, _, hle, hmax, hmm, _, hx⟩
  · simp [Value.cells] at hcs
    obtain ⟨rfl, rfl, rfl⟩ := hcs
    exact ⟨[], rfl, ⟨by simp, by simp, by decide, fun _ => rfl, fun j u hu => by simp at hu⟩, by simp⟩
  · simp [Value.cells] at hcs
    obtain ⟨rfl, rfl, rfl⟩ := hcs
    simp only [if_true] at hmm
    subst hmm
    have each : ∀ i, i < len → ∃ q : α, (∀ j, j < k → w.cell? (a.add (i * k + j)) = (cells q)[j]?) ∧ good q := by
      intro i hi
      obtain ⟨cs', h1, h2⟩ := hx i (by omega)
      rw [hC] at h1
      obtain ⟨_, hlen, hcell⟩ := World.cells?_some h1
      obtain ⟨q, rfl, hq⟩ := hrow _ _ _ hlen h2
      refine ⟨q, fun j hj => ?_, hq⟩
      rw [← add_add]; exact hcell j hj
    obtain ⟨y, hy⟩ := choose_lt each
    refine ⟨(List.range len).map y, by simp, ⟨by simpa using rows_len hl ((List.range len).map y), by simpa using hle, hmax, by simp, fun j u hu => ?_⟩, ?_⟩
    · obtain ⟨hi, hu'⟩ := rows_get hl hk _ j u hu
      have hi' : j / k < len := by simpa using hi
      have hm : j % k < k := Nat.mod_lt _ hk
      have hc := (hy _ hi').1 _ hm
      rw [show j / k * k + j % k = j from by rw [Nat.mul_comm]; exact Nat.div_add_mod j k] at hc
      simp only [List.getElem_map, List.getElem_range] at hu'
      rw [hu'] at hc
      obtain ⟨b, off, sp⟩ := a
      have hcz := (hy 0 (Nat.lt_of_le_of_lt (Nat.zero_le _) hi')).1 0 hk
      rw [List.getElem?_eq_getElem (by rw [hl]; exact hk)] at hcz
      have hsp : sp = none := by simpa [Addr.add] using World.cell?_spot hcz
      subst hsp
      refine ⟨b, off, rfl, ?_⟩
      rwa [Addr.add_none] at hc
    · intro q hq
      obtain ⟨i, hi, rfl⟩ := List.mem_map.1 hq
      exact (hy i (List.mem_range.1 hi)).2
theorem row_ints3 {k0 k1 k2 : IntKind} {e : TypeId} {f0 f1 f2 : Field} (he : P.underlying e = some (.struct #[f0, f1, f2])) (hone : oneCellFields P #[f0, f1, f2] = true) (hC : P.cellsOf e = 3)
    (u0 : P.underlying f0.type = some (.int k0)) (u1 : P.underlying f1.type = some (.int k1)) (u2 : P.underlying f2.type = some (.int k2)) (n : Nat) (cs : List Value) (y : DataW H × List MemPlace) (hcs : cs.length = 3)
    (h : DataW.trod enc P w base (fun _ => true) held n e cs = some y) : ∃ a : Int × Int × Int, cs = [.int k0 a.1, .int k1 a.2.1, .int k2 a.2.2] ∧ (Lit.int k0 a.1).wf = true ∧ (Lit.int k1 a.2.1).wf = true ∧ (Lit.int k2 a.2.2).wf = true := by
  obtain ⟨o0, c0⟩ := hone_of hone 0 f0 rfl
  obtain ⟨o1, c1⟩ := hone_of hone 1 f1 rfl
  obtain ⟨o2, c2⟩ := hone_of hone 2 f2 rfl
  match cs, hcs with
  | [v0, v1, v2], _ =>
    obtain ⟨y0, y1, y2, m, _, _, h0, h1, h2⟩ := trod_struct3 he h
    rw [o0, c0] at h0
    rw [o1, c1] at h1
    rw [o2, c2] at h2
    simp at h0 h1 h2
    obtain ⟨n0, e0, _, w0⟩ := DataW.trod_int u0 h0
    obtain ⟨n1, e1, _, w1⟩ := DataW.trod_int u1 h1
    obtain ⟨n2, e2, _, w2⟩ := DataW.trod_int u2 h2
    simp only [List.cons.injEq, and_true] at e0 e1 e2
    subst e0; subst e1; subst e2
    exact ⟨(n0, n1, n2), rfl, w0, w1, w2⟩
end
/-- a slice of structs of three integers, read -/
abbrev I3 := Int × Int × Int
def i3 (k0 k1 k2 : IntKind) (a : I3) : List Value := [.int k0 a.1, .int k1 a.2.1, .int k2 a.2.2]
def I3s (w : World) (k0 k1 k2 : IntKind) (ao : Option Addr) (cap : Nat) (l : List I3) : Prop := Sl w 3 ao l.length cap (l.map (i3 k0 k1 k2)).flatten
theorem I3s.get {w : World} {k0 k1 k2 : IntKind} {ao : Option Addr} {cap : Nat} {l : List I3} (h : I3s w k0 k1 k2 ao cap l) (k : Nat) (hk : k < l.length) :
    ∃ b off, ao = some ⟨b, off, none⟩ ∧ w.cell? ⟨b, off + k * 3, none⟩ = some (.int k0 l[k].1) ∧ w.cell? ⟨b, off + k * 3 + 1, none⟩ = some (.int k1 l[k].2.1) ∧ w.cell? ⟨b, off + k * 3 + 2, none⟩ = some (.int k2 l[k].2.2) := by
  have key : ∀ j (hj : j < 3), (l.map (i3 k0 k1 k2)).flatten[k * 3 + j]? = (i3 k0 k1 k2 l[k])[j]? := by
    intro j hj
    have := flatten_get (rows := l.map (i3 k0 k1 k2)) (k := 3) (by intro r hr; obtain ⟨x, _, rfl⟩ := List.mem_map.1 hr; rfl) k j (by simpa using hk) (by simpa [i3] using hj)
    rw [this, List.getElem?_eq_getElem (by simpa [i3] using hj)]
    simp
  obtain ⟨b, off, e, c0⟩ := h.cell _ _ (key 0 (by omega))
  obtain ⟨b1, off1, e1, c1⟩ := h.cell _ _ (key 1 (by omega))
  obtain ⟨b2, off2, e2, c2⟩ := h.cell _ _ (key 2 (by omega))
  rw [e] at e1 e2
  simp only [Option.some.injEq, Addr.mk.injEq] at e1 e2
  obtain ⟨rfl, rfl, -⟩ := e1
  obtain ⟨rfl, rfl, -⟩ := e2
  exact ⟨b, off, e, by simpa using c0, by rw [Nat.add_assoc]; exact c1, by rw [Nat.add_assoc]; exact c2⟩
theorem I3s.below {w w' : World} {k0 k1 k2 : IntKind} {ao : Option Addr} {cap : Nat} {l : List I3} (h : I3s w k0 k1 k2 ao cap l) (hb : Below w.heap.size w w') : I3s w' k0 k1 k2 ao cap l := Sl.below h hb
end Go.Proofs.Ytedlplkomfiahaa
namespace Go.Proofs.Ytedlplkomfiahaa
set_option linter.unusedVariables false
set_option linter.unusedSimpArgs false
set_option linter.unusedSectionVars false
open Go Go.ChangeShapes Go.WideShapes Go.ChangeAt Go.RowKit Go.Deep
instance : Inhabited Th := ⟨⟨0, 0, 0⟩⟩
def ThOk (t : Th) : Prop := (Lit.int .u64 t.id).wf = true ∧ (Lit.int .u64 t.gen).wf = true ∧ (Lit.int .i64 t.due).wf = true
theorem ThOk.id {t : Th} (h : ThOk t) : IdOk t.id := by
  have := h.1
  simp [Lit.wf, IntKind.min, IntKind.max, IntKind.signed, IntKind.bits] at this
  exact ⟨this.1, by omega⟩
theorem ThOk.due {t : Th} (h : ThOk t) : -9223372036854775808 ≤ t.due ∧ t.due ≤ 9223372036854775807 := by
  have := h.2.2
  simp [Lit.wf, IntKind.min, IntKind.max, IntKind.signed, IntKind.bits] at this
  exact ⟨by omega, by omega⟩
end Go.Proofs.Ytedlplkomfiahaa
namespace Go.Proofs.Ytedlplkomfiahaa
set_option linter.unusedVariables false
set_option linter.unusedSimpArgs false
set_option linter.unusedSectionVars false
open Go Go.RowKit Go.Maps
section
variable {W wr wr' : World} {F : Nat → Prop} {w : Nat} {now : Int} {X : List Th}
theorem adv_r (h : Wo W wr F w now X) (tb : Int) :
    Calls Try.prog 35 #[.pointer (some ⟨w, 0, none⟩), .int .i64 tb] wr fun e W' => ∃ ao cap, e = .returned (.tuple #[.slice ao (advL now tb X).length cap, .int .i64 (advE now tb)]) ∧ Wnx W wr F w (advN now tb) (advX now tb X) W' ∧ W'.ownsRow wr.heap.size thT 3 (.slice ao (advL now tb X).length cap) (advL now tb X).length (thFlat (advL now tb X)) := by
  refine (adv_any wr F w now tb X h.whl).mono ?_
  rintro e W' ⟨ao, cap, rfl, hs, hrow⟩
  exact ⟨ao, cap, rfl, h.st hs, hrow⟩
theorem all_r (h : Wo W wr F w now X) :
    Calls Try.prog 40 #[.pointer (some ⟨w, 0, none⟩)] wr fun e W' => ∃ ao cap, e = .returned (.slice ao X.length cap) ∧ W'.ownsRow wr.heap.size thT 3 (.slice ao X.length cap) X.length (thFlat X) ∧ Below wr.heap.size wr W' := by
  refine (all_any wr F w now X h.whl).mono ?_
  rintro e W' ⟨ao, cap, rfl, hrow, hb⟩
  exact ⟨ao, cap, rfl, hrow, hb⟩
theorem adv_in {tb : Int} (hd : Inst tb) (hle : now ≤ tb) : advE now tb = 0 ∧ advN now tb = tb ∧ advX now tb X = soonT X tb ∧ advL now tb X = dueT X tb := by
  refine ⟨?_, ?_, ?_, ?_⟩
  · unfold advE; rw [if_pos hd, if_neg (by omega)]
  · unfold advN; rw [if_pos hd, if_neg (by omega)]
  · unfold advX; rw [if_pos hd, if_neg (by omega)]
  · unfold advL; rw [if_pos hd, if_neg (by omega)]
end
/-- two wheels that the call made, apart from each other -/
structure Two (W wr : World) (F G : Nat → Prop) (v w : Nat) (a b : Int) (X Y : List Th) : Prop where
  fst : Wo W wr F v a X
  snd : Wo W wr G w b Y
  apart : ∀ i, F i → ¬ G i
section
variable {W wr wr' : World} {F G : Nat → Prop} {v w : Nat} {a b : Int} {X Y : List Th}
theorem Two.below (h : Two W wr F G v w a b X Y) (hb : Below wr.heap.size wr wr') : Two W wr' F G v w a b X Y := ⟨h.fst.below hb, h.snd.below hb, h.apart⟩
theorem Two.left {a' : Int} {X' : List Th} (h : Two W wr F G v w a b X Y) (hn : Wnx W wr F v a' X' wr') : ∃ F', Two W wr' F' G v w a' b X' Y ∧ Gr F wr wr' ∧ ∀ i, F' i → F i ∨ wr.heap.size ≤ i := by
  obtain ⟨F', h1, h2, h3⟩ := hn
  refine ⟨F', ⟨h1, h.snd.beside h2 (fun i hg hf => h.apart i hf hg) h.fst.up, fun i hi hg => ?_⟩, h2, h3⟩
  rcases h3 i hi with e | e
  · exact h.apart i e hg
  · have := h.snd.bd i hg; omega
theorem Two.right {b' : Int} {Y' : List Th} (h : Two W wr F G v w a b X Y) (hn : Wnx W wr G w b' Y' wr') : ∃ G', Two W wr' F G' v w a b' X Y' ∧ Gr G wr wr' ∧ ∀ i, G' i → G i ∨ wr.heap.size ≤ i := by
  obtain ⟨G', h1, h2, h3⟩ := hn
  refine ⟨G', ⟨h.fst.beside h2 h.apart h.snd.up, h1, fun i hf hg => ?_⟩, h2, h3⟩
  rcases h3 i hg with e | e
  · exact h.apart i hf e
  · have := h.fst.bd i hf; omega
end
theorem neq_th (x : Th) (V : World) : (binOp .neq thT (thVal x) (thVal x)).run Try.prog V = .ok (.bool false) V := by
  unfold thVal
  rw [run_neq_struct, eqin_th]
  simp [Result.andThen]
end Go.Proofs.Ytedlplkomfiahaa
namespace Go.Proofs.Ytedlplkomfiahaa
set_option linter.unusedVariables false
set_option linter.unusedSimpArgs false
set_option linter.unusedSectionVars false
open Go Go.RowKit Go.Maps Go.Deep
def slot0 (X : List Th) : RLs := X.map (fun t => (t, 0))
end Go.Proofs.Ytedlplkomfiahaa
namespace Go.Proofs.Ytedlplkomfiahaa
set_option linter.unusedVariables false
set_option linter.unusedSimpArgs false
set_option linter.unusedSectionVars false
open Go Go.RowKit Go.Maps Go.Deep
def Lie (W : World) (a : Option Addr) : Prop := ∀ x, a = some x → W.heap.size ≤ x.block
end Go.Proofs.Ytedlplkomfiahaa
namespace Go.Proofs.Ytedlplkomfiahaa
set_option linter.unusedVariables false
set_option linter.unusedSimpArgs false
set_option linter.unusedSectionVars false
open Go Go.RowKit Go.Maps Go.Deep
theorem sets_up {W V : World} {b : Nat} (h : Below W.heap.size W V) (hb : W.heap.size ≤ b) (i : Nat) (v : Value) : Below W.heap.size W (V.setCell ⟨b, i, none⟩ v) := below_grown h (grown_set V b i v) hb h.size
end Go.Proofs.Ytedlplkomfiahaa
namespace Go.Proofs.Ytedlplkomfiahaa
set_option linter.unusedVariables false
set_option linter.unusedSimpArgs false
set_option linter.unusedSectionVars false
open Go Go.RowKit Go.Maps Go.Deep
theorem bx_below {W V : World} {b : Nat} {o : Obj} (hb : Below W.heap.size W V) (h : W.heap[b]? = some o) : V.heap[b]? = some o := (hb.block b (Array.getElem?_eq_some_iff.1 h).1).trans h
end Go.Proofs.Ytedlplkomfiahaa
namespace Go.Proofs.Ytedlplkomfiahaa
set_option linter.unusedVariables false
set_option linter.unusedSimpArgs false
set_option linter.unusedSectionVars false
open Go Go.ChangeShapes Go.WideShapes Go.ChangeAt Go.RowKit Go.Deep
/-- a call of a wheel -/
structure WOp where
  kind : Int
  t : Th
deriving Inhabited
def wopCells (o : WOp) : List Value := [.int .i64 o.kind, .int .u64 o.t.id, .int .u64 o.t.gen, .int .i64 o.t.due]
def WOps (w : World) (ao : Option Addr) (cap : Nat) (l : List WOp) : Prop := Sl w 4 ao l.length cap (l.map wopCells).flatten
section
variable {H : Type} {enc : TypeId × Value → H} {w : World} {base : Nat} {held : Bool}
end
theorem WOps.get {w : World} {ao : Option Addr} {cap : Nat} {l : List WOp} (h : WOps w ao cap l) (i : Nat) (hi : i < l.length) :
    ∃ b off, ao = some ⟨b, off, none⟩ ∧ ∀ j (hj : j < 4), w.cell? ⟨b, off + i * 4 + j, none⟩ = some ((wopCells l[i])[j]'hj) := by
  have key : ∀ j (hj : j < 4), (l.map wopCells).flatten[i * 4 + j]? = some ((wopCells l[i])[j]'hj) := by
    intro j hj
    have := flatten_get (rows := l.map wopCells) (k := 4) (by intro r hr; obtain ⟨x, _, rfl⟩ := List.mem_map.1 hr; rfl) i j (by simpa using hi) (by rw [List.getElem_map]; exact hj)
    rw [this]; simp only [List.getElem_map]; rfl
  obtain ⟨b, off, e, _⟩ := h.cell _ _ (key 0 (by decide))
  refine ⟨b, off, e, fun j hj => ?_⟩
  obtain ⟨b', off', e', hc⟩ := h.cell _ _ (key j hj)
  rw [e] at e'
  simp only [Option.some.injEq, Addr.mk.injEq] at e'
  obtain ⟨rfl, rfl, -⟩ := e'
  rw [Nat.add_assoc]; exact hc
theorem WOps.below {w w' : World} {ao : Option Addr} {cap : Nat} {l : List WOp} (h : WOps w ao cap l) (hb : Below w.heap.size w w') : WOps w' ao cap l := Sl.below h hb
end Go.Proofs.Ytedlplkomfiahaa
namespace Go.Proofs.Ytedlplkomfiahaa
set_option linter.unusedVariables false
set_option linter.unusedSimpArgs false
set_option linter.unusedSectionVars false
open Go Go.RowKit Go.Maps Go.Deep
/-- the reference's row lies in no block of the wheel -/
def RAp (W : World) (F : Nat → Prop) (ao : Option Addr) : Prop := ∀ a, ao = some a → a.block < W.heap.size ∧ ¬ F a.block
theorem rt_gr {W W' : World} {F : Nat → Prop} {ao : Option Addr} {cap : Nat} {l : RLs} (h : Rt W ao cap l) (hg : Gr F W W') (hA : RAp W F ao) : Rt W' ao cap l := by
  refine ⟨h.num, h.each, ⟨h.sl.len, h.sl.le, h.sl.max, h.sl.none, fun j u hu => ?_⟩, fun b off s e => ?_⟩
  · obtain ⟨b, off, e, hc⟩ := h.sl.cell j u hu
    have := hA _ e
    exact ⟨b, off, e, (World.cell?_of_block (a := ⟨b, off + j, none⟩) (hg.block _ this.1 this.2)).trans hc⟩
  · have := hA _ e
    have ht := h.typ b off s e
    unfold elem? at ht ⊢
    rw [hg.block _ this.1 this.2]; exact ht
theorem Rt.lt {W : World} {ao : Option Addr} {cap : Nat} {l : RLs} (h : Rt W ao cap l) : ∀ a, ao = some a → a.block < W.heap.size := fun a e => by
  obtain ⟨b, off, s⟩ := a
  have ht := h.typ b off s e
  unfold elem? at ht
  cases hx : W.heap[b]? with
  | none => rw [hx] at ht; cases ht
  | some o => exact (Array.getElem?_eq_some_iff.1 hx).1
/-- where a new row lies -/
theorem RAp.new {W V Z : World} {F : Nat → Prop} {ao a : Option Addr} {cap : Nat} {l : RLs} (h : RAp W F ao) (hbd : ∀ i, F i → i < W.heap.size) (hV : W.heap.size ≤ V.heap.size) (hli : a = ao ∨ Lie V a) (hr : Rt Z a cap l) : RAp Z F a := fun x e => by
  refine ⟨hr.lt x e, fun hF => ?_⟩
  rcases hli with rfl | hli
  · exact (h x e).2 hF
  · have h1 := hbd _ hF
    have h2 := hli x e
    omega
theorem RAp.up {W W' : World} {F : Nat → Prop} {ao : Option Addr} (h : RAp W F ao) (hs : W.heap.size ≤ W'.heap.size) : RAp W' F ao := fun a e => ⟨Nat.lt_of_lt_of_le (h a e).1 hs, (h a e).2⟩
theorem eq_th (x : Th) (V : World) : (binOp .eql thT (thVal x) (thVal x)).run Try.prog V = .ok (.bool true) V := by
  unfold thVal
  rw [run_eql_struct, eqin_th]
  simp [Result.andThen]
/-- who is found by an id -/
def canT (X : List Th) (id : Int) : Th := (X.find? (fun u => decide (u.id = id))).getD ⟨0, 0, 0⟩
def canB (X : List Th) (id : Int) : Bool := (X.find? (fun u => decide (u.id = id))).isSome
theorem can_yes {X : List Th} (h : Ids X) {u : Th} (hu : u ∈ X) : canT X u.id = u ∧ canB X u.id = true := by
  unfold canT canB
  cases hf : X.find? (fun v => decide (v.id = u.id)) with
  | none => exact absurd (List.find?_eq_none.1 hf u hu) (by simp)
  | some v =>
    have h1 := List.mem_of_find?_eq_some hf
    have h2 := List.find?_some hf
    simp only [decide_eq_true_eq] at h2
    exact ⟨Ids.inj h _ h1 _ hu h2, rfl⟩
theorem can_no {X : List Th} {id : Int} (h : ∀ u ∈ X, u.id ≠ id) : canT X id = ⟨0, 0, 0⟩ ∧ canB X id = false := by
  have : X.find? (fun v => decide (v.id = id)) = none := List.find?_eq_none.2 fun u hu => by simpa using h u hu
  unfold canT canB
  rw [this]
  exact ⟨rfl, rfl⟩
theorem can_is {X : List Th} {id : Int} (h : Ids X) {e : Ending} (he : CancelIs X id e) : e = .returned (.tuple #[thVal (canT X id), .bool (canB X id)]) := by
  rcases he with ⟨u, hu, rfl, rfl⟩ | ⟨hno, rfl⟩
  · rw [(can_yes h hu).1, (can_yes h hu).2]
  · rw [(can_no hno).1, (can_no hno).2]
theorem canc_f {Wb W : World} {F : Nat → Prop} {w : Nat} {now : Int} {X : List Th} (h : Wo Wb W F w now X) (id : Int) (hw : IdOk id) :
    Calls Try.prog 34 #[.pointer (some ⟨w, 0, none⟩), .int .u64 id] W fun e W' => e = .returned (.tuple #[thVal (canT X id), .bool (canB X id)]) ∧ Wnx Wb W F w now (lessId X id) W' :=
  (cancel_o h id hw).mono fun e W' hp => ⟨can_is h.okX.2.2.1 hp.1, hp.2⟩
theorem get_f {Wb W : World} {F : Nat → Prop} {w : Nat} {now : Int} {X : List Th} (h : Wo Wb W F w now X) (id : Int) (hw : IdOk id) :
    Calls Try.prog 48 #[.pointer (some ⟨w, 0, none⟩), .int .u64 id] W fun e W' => e = .returned (.tuple #[thVal (canT X id), .bool (canB X id)]) ∧ Below W.heap.size W W' :=
  (get_o h id hw).mono fun e W' hp => ⟨can_is h.okX.2.2.1 hp.1, hp.2⟩
end Go.Proofs.Ytedlplkomfiahaa
namespace Go.Proofs.Ytedlplkomfiahaa
set_option linter.unusedVariables false
set_option linter.unusedSimpArgs false
set_option linter.unusedSectionVars false
open Go Go.RowKit Go.Maps Go.Deep
abbrev bkT : TypeId := 61
/-- a book that the call made: its box, its wheel -/
def Bk (W wr : World) (G : Nat → Prop) (b : Nat) (now last : Int) (X : List Th) : Prop :=
  ∃ w F, Wo W wr F w now X ∧ wr.heap[b]? = some (.cells #[.pointer (some ⟨w, 0, none⟩), .int .u64 last] bkT (0, 0)) ∧ ¬ F b ∧ (∀ i, G i ↔ (F i ∨ i = b)) ∧ W.heap.size ≤ b ∧ 0 ≤ last ∧ last ≤ 1152921504606846976
/-- behind a call that wrote it -/
def Bnx (W wr : World) (G : Nat → Prop) (b : Nat) (now last : Int) (X : List Th) (W' : World) : Prop := ∃ G', Bk W W' G' b now last X ∧ Gr G wr W' ∧ ∀ i, G' i → G i ∨ wr.heap.size ≤ i
section
variable {W wr wr' : World} {G : Nat → Prop} {b : Nat} {now last : Int} {X : List Th}
theorem Bk.below (h : Bk W wr G b now last X) (hb : Below wr.heap.size wr wr') : Bk W wr' G b now last X := by
  obtain ⟨w, F, h1, h2, h3, h4, h5, h6⟩ := h
  exact ⟨w, F, h1.below hb, bx_below hb h2, h3, h4, h5, h6⟩
theorem Bk.bd (h : Bk W wr G b now last X) : ∀ i, G i → i < wr.heap.size := by
  obtain ⟨w, F, h1, h2, h3, h4, h5, h6⟩ := h
  intro i hi
  rcases (h4 i).1 hi with h7 | rfl
  · exact h1.bd i h7
  · exact (Array.getElem?_eq_some_iff.1 h2).1
theorem Bk.up (h : Bk W wr G b now last X) : ∀ i, G i → W.heap.size ≤ i := by
  obtain ⟨w, F, h1, h2, h3, h4, h5, h6⟩ := h
  intro i hi
  rcases (h4 i).1 hi with h7 | rfl
  · exact h1.up i h7
  · exact h5
theorem Bk.bel (h : Bk W wr G b now last X) : Below W.heap.size W wr := by
  obtain ⟨w, F, h1, -⟩ := h
  exact h1.bel
theorem Bk.okX (h : Bk W wr G b now last X) : Inst now ∧ Asc X ∧ Ids X ∧ (∀ t ∈ X, Inst t.due ∧ IdOk t.id) ∧ X.length ≤ 256 := by
  obtain ⟨w, F, h1, -⟩ := h
  exact h1.okX
theorem Bk.num (h : Bk W wr G b now last X) : 0 ≤ last ∧ last ≤ 1152921504606846976 := by
  obtain ⟨w, F, h1, h2, h3, h4, h5, h6⟩ := h
  exact h6
theorem Bk.beside {H : Nat → Prop} (h : Bk W wr G b now last X) (hg : Gr H wr wr') (hd : ∀ i, G i → ¬ H i) (hH : ∀ i, H i → W.heap.size ≤ i) : Bk W wr' G b now last X := by
  obtain ⟨w, F, h1, h2, h3, h4, h5, h6⟩ := h
  exact ⟨w, F, h1.beside hg (fun i hi => hd i ((h4 i).2 (.inl hi))) hH, (hg.block b (Array.getElem?_eq_some_iff.1 h2).1 (hd b ((h4 b).2 (.inr rfl)))).trans h2, h3, h4, h5, h6⟩
theorem Bnx.of_below (h : Bk W wr G b now last X) (hb : Below wr.heap.size wr wr') : Bnx W wr G b now last X wr' := ⟨G, h.below hb, Gr.below hb, fun i hi => .inl hi⟩
theorem Bnx.below {W' W'' : World} (h : Bnx W wr G b now last X W') (hb : Below W'.heap.size W' W'') : Bnx W wr G b now last X W'' := by
  obtain ⟨G', h1, h2, h3⟩ := h
  exact ⟨G', h1.below hb, h2.trans (Gr.below hb), h3⟩
/-- a write beside it -/
theorem Bnx.beside {W' W'' : World} {H : Nat → Prop} (h : Bnx W wr G b now last X W') (hg : Gr H W' W'') (hd : ∀ i, H i → ¬ G i ∧ i < wr.heap.size) (hH : ∀ i, H i → W.heap.size ≤ i) : ∃ G', Bk W W'' G' b now last X ∧ Gr (fun i => G i ∨ H i) wr W'' ∧ ∀ i, G' i → G i ∨ wr.heap.size ≤ i := by
  obtain ⟨G', h1, h2, h3⟩ := h
  refine ⟨G', h1.beside hg (fun i hi hi2 => ?_) hH, (h2.mono fun i hi => .inl hi).then hg (fun i hi => .inl (.inr hi)), h3⟩
  have := hd i hi2
  rcases h3 i hi with h4 | h4
  · exact this.1 h4
  · omega
theorem bk_wn {w : Nat} {F : Nat → Prop} (h1 : Wo W wr F w now X) (h2 : wr.heap[b]? = some (.cells #[.pointer (some ⟨w, 0, none⟩), .int .u64 last] bkT (0, 0))) (h3 : ¬ F b) (h4 : ∀ i, G i ↔ (F i ∨ i = b)) (h5 : W.heap.size ≤ b) (h6 : 0 ≤ last ∧ last ≤ 1152921504606846976)
    {now' : Int} {X' : List Th} (hn : Wnx W wr F w now' X' wr') : Bnx W wr G b now' last X' wr' := by
  obtain ⟨F', g1, g2, g3⟩ := hn
  have hl := (Array.getElem?_eq_some_iff.1 h2).1
  refine ⟨fun i => F' i ∨ i = b, ⟨w, F', g1, (g2.block b hl h3).trans h2, fun e => ?_, fun i => Iff.rfl, h5, h6⟩, g2.mono fun i hi => (h4 i).2 (.inl hi), fun i hi => ?_⟩
  · rcases g3 b e with h | h
    · exact h3 h
    · omega
  · rcases hi with hi | rfl
    · exact (g3 i hi).elim (fun h => .inl ((h4 i).2 (.inl h))) .inr
    · exact .inl ((h4 i).2 (.inr rfl))
end
theorem bnone_no (W : World) (b w : Nat) (hc : W.cell? ⟨b, 0, none⟩ = some (.pointer (some ⟨w, 0, none⟩))) (hl : b < W.heap.size) : Calls Try.prog 33 #[.pointer (some ⟨b, 0, none⟩)] W fun e W' => e = .returned (.bool false) ∧ W' = W := by
  go_enter Try.func33, Try.ntmps33
  go_wp2_with fail
  go_ret
  exact ⟨rfl, rfl⟩
def BNone (W : World) (q : Option Addr) : Prop := ∀ W', Below W.heap.size W W' → Calls Try.prog 33 #[.pointer q] W' fun e W'' => e = .returned (.bool true) ∧ W'' = W'
theorem BNone.nil (W : World) : BNone W none := fun W' _ => by
  go_enter Try.func33, Try.ntmps33
  go_wp2_with fail
  go_ret
  exact ⟨rfl, rfl⟩
theorem BNone.zero {W : World} {b : Nat} (hc : W.cell? ⟨b, 0, none⟩ = some (.pointer none)) : BNone W (some ⟨b, 0, none⟩) := fun W' hb => by
  have hl := cell?_lt hc
  have hc2 : W'.cell? ⟨b, 0, none⟩ = some (.pointer none) := (hb.cell (p := ⟨b, 0, none⟩) hl).trans hc
  have hl2 : b < W'.heap.size := Nat.lt_of_lt_of_le hl hb.size
  go_enter Try.func33, Try.ntmps33
  go_wp2_with fail
  go_ret
  exact ⟨rfl, rfl⟩
theorem BNone.below {W W' : World} {q : Option Addr} (h : BNone W q) (hb : Below W.heap.size W W') : BNone W' q := fun W2 h2 => h W2 (below_on hb h2 (Nat.le_refl _))
theorem dinst_yes (t : Int) (h : Inst t) (W : World) : Calls Try.prog 36 #[.int .i64 t] W fun e W' => e = .returned (.bool true) ∧ W' = W := by
  have Ha := Lib.hid (add_yes t h W)
  go_enter Try.func36, Try.ntmps36
  go_wp2_with fail
  refine Ha.out.mono ?_
  rintro e W2 ⟨rfl, rfl⟩
  go_wp2_with fail
  go_ret
  exact ⟨rfl, rfl⟩
theorem dinst_no (t : Int) (h : ¬ Inst t) (W : World) : Calls Try.prog 36 #[.int .i64 t] W fun e W' => e = .returned (.bool false) ∧ W' = W := by
  have Ha := Lib.hid (add_no t h W)
  go_enter Try.func36, Try.ntmps36
  go_wp2_with fail
  refine Ha.out.mono ?_
  rintro e W2 ⟨rfl, rfl⟩
  go_wp2_with fail
  go_ret
  exact ⟨rfl, rfl⟩
/-- three stores into a box of one's own -/
theorem gr_set3 (V : World) (p : Nat) (v0 v1 v2 : Value) : Gr (fun i => i = p) V (((V.setCell ⟨p, 0, none⟩ v0).setCell ⟨p, 1, none⟩ v1).setCell ⟨p, 2, none⟩ v2) :=
  ((Gr.one (grown_set V p 0 v0) (fun b e => (Option.some.inj e).symm)).trans (Gr.one (grown_set _ p 1 v1) (fun b e => (Option.some.inj e).symm))).trans (Gr.one (grown_set _ p 2 v2) (fun b e => (Option.some.inj e).symm))
theorem bx_set3 {V : World} {p : Nat} {T : TypeId} {x0 x1 x2 : Value} (h : V.heap[p]? = some (.cells #[x0, x1, x2] T (0, 0))) (v0 v1 v2 : Value) : (((V.setCell ⟨p, 0, none⟩ v0).setCell ⟨p, 1, none⟩ v1).setCell ⟨p, 2, none⟩ v2).heap[p]? = some (.cells #[v0, v1, v2] T (0, 0)) := by
  have := block_set (block_set (block_set h 0 v0) 1 v1) 2 v2
  simpa only [List.setIfInBounds_toArray, List.set_cons_zero, List.set_cons_succ] using this
set_option maxRecDepth 100000 in
set_option maxHeartbeats 4000000 in
theorem bget_o {W wr : World} {G : Nat → Prop} {b : Nat} {now last : Int} {X : List Th} (h : Bk W wr G b now last X) (id : Int) (hw : IdOk id) :
    Calls Try.prog 21 #[.pointer (some ⟨b, 0, none⟩), .int .u64 id] wr fun e W' => e = .returned (.tuple #[thVal (canT X id), .bool (canB X id)]) ∧ Below wr.heap.size wr W' := by
  obtain ⟨w, F, h1, h2, h3, h4, h5, h6⟩ := h
  obtain ⟨W1, hW1⟩ : ∃ W1, W1 = wr.alloc (.cells #[.int .u64 0, .int .u64 0, .int .i64 0] thT) := ⟨_, rfl⟩
  obtain ⟨p, hp⟩ : ∃ p, p = wr.heap.size := ⟨_, rfl⟩
  have hB1 : Below wr.heap.size wr W1 := by rw [hW1]; exact below_new _ _
  have hx1 : W1.heap[p]? = some (.cells #[.int .u64 0, .int .u64 0, .int .i64 0] thT (0, 0)) := by rw [hW1, hp]; exact heap_alloc_new _ _
  have hb2 := bx_below hB1 h2
  have e0 := block_cell hb2 0
  have el := (Array.getElem?_eq_some_iff.1 hb2).1
  simp at e0
  have hp1 : wr.heap.size ≤ p := by omega
  have Hno := Lib.hid (bnone_no W1 b w e0 el)
  have Hgt := Lib.hid (get_f (h1.below hB1) id hw)
  have HB1 := Lib.hid hB1
  have X1 := Lib.hid hx1
  have Hp1 := Lib.hid hp1
  clear h1 h2 h3 h4 h5 h6 hB1 hx1 hb2 hp1
  go_enter Try.func21, Try.ntmps21
  go_wp2_with fail
  rw [← hW1, ← hp]
  clear hW1 hp
  refine Hno.out.mono ?_
  rintro e V1 ⟨rfl, hv⟩
  subst hv
  go_wp2_with fail
  refine (show Calls _ _ _ _ _ from Hgt.out).mono ?_
  rintro e V2 ⟨rfl, hb⟩
  obtain ⟨⟨yi, yg, yd⟩, hy⟩ : ∃ y, y = canT X id := ⟨_, rfl⟩
  rw [← hy]
  unfold thVal
  have x2 := bx_below hb X1.out
  have y0 := block_cell x2 0
  have y1 := block_cell x2 1
  have y2 := block_cell x2 2
  have f0 := block_free x2 0
  have f1 := block_free x2 1
  have f2 := block_free x2 2
  have l3 := (Array.getElem?_eq_some_iff.1 x2).1
  simp at y0 y1 y2 f0 f1 f2
  have X2 := Lib.hid x2
  have HB2 := Lib.hid (below_on HB1.out hb (Nat.le_refl _))
  have Hy := Lib.hid hy
  clear x2 hb hy
  go_wp2_with fail
  have u3 := bx_set3 X2.out (.int .u64 yi) (.int .u64 yg) (.int .i64 yd)
  obtain ⟨U, hU⟩ : ∃ U, U = ((V2.setCell ⟨p, 0, none⟩ (.int .u64 yi)).setCell ⟨p, 1, none⟩ (.int .u64 yg)).setCell ⟨p, 2, none⟩ (.int .i64 yd) := ⟨_, rfl⟩
  rw [← hU] at u3 ⊢
  have u0 := block_cell u3 0
  have u1 := block_cell u3 1
  have u2 := block_cell u3 2
  have ul := (Array.getElem?_eq_some_iff.1 u3).1
  simp at u0 u1 u2
  have hbU : Below wr.heap.size wr U := by rw [hU]; exact sets_up (sets_up (sets_up HB2.out Hp1.out 0 _) Hp1.out 1 _) Hp1.out 2 _
  clear u3 hU
  refine bodyPost_ret (v := .tuple #[.agg #[.int .u64 yi, .int .u64 yg, .int .i64 yd], .bool (canB X id)]) ?_ rfl ⟨by rw [← Hy.out]; rfl, hbU⟩
  simp [results, Try.results21, go_sem, u0, u1, u2, ul]
set_option maxRecDepth 100000 in
set_option maxHeartbeats 4000000 in
theorem bclear_o {W wr : World} {G : Nat → Prop} {b : Nat} {now last : Int} {X : List Th} (h : Bk W wr G b now last X) (id : Int) (hw : IdOk id) :
    Calls Try.prog 10 #[.pointer (some ⟨b, 0, none⟩), .int .u64 id] wr fun e W' => e = .returned (.tuple #[thVal (canT X id), .bool (canB X id)]) ∧ Bnx W wr G b now last (lessId X id) W' := by
  have hbd := h.bd
  have hbw := h.bel.size
  obtain ⟨w, F, h1, h2, h3, h4, h5, h6⟩ := h
  obtain ⟨W1, hW1⟩ : ∃ W1, W1 = wr.alloc (.cells #[.int .u64 0, .int .u64 0, .int .i64 0] thT) := ⟨_, rfl⟩
  obtain ⟨p, hp⟩ : ∃ p, p = wr.heap.size := ⟨_, rfl⟩
  have hB1 : Below wr.heap.size wr W1 := by rw [hW1]; exact below_new _ _
  have hx1 : W1.heap[p]? = some (.cells #[.int .u64 0, .int .u64 0, .int .i64 0] thT (0, 0)) := by rw [hW1, hp]; exact heap_alloc_new _ _
  have hb2 := bx_below hB1 h2
  have e0 := block_cell hb2 0
  have el := (Array.getElem?_eq_some_iff.1 hb2).1
  simp at e0
  have hpG : ¬ G p := fun e => by have := hbd p e; omega
  have hpW : W.heap.size ≤ p := by omega
  have hpr : wr.heap.size ≤ p := by omega
  have Hno := Lib.hid (bnone_no W1 b w e0 el)
  have Hcn := Lib.hid ((canc_f (h1.below hB1) id hw).mono fun e W' hp => (⟨hp.1, bk_wn (h1.below hB1) hb2 h3 h4 h5 h6 hp.2⟩ : e = .returned (.tuple #[thVal (canT X id), .bool (canB X id)]) ∧ Bnx W W1 G b now last (lessId X id) W'))
  have HB1 := Lib.hid hB1
  have X1 := Lib.hid hx1
  have HpG := Lib.hid (And.intro hpG (And.intro hpW hpr))
  clear h1 h2 h3 h4 h5 h6 hB1 hx1 hb2 hpG hpW hpr hbw hbd
  go_enter Try.func10, Try.ntmps10
  go_wp2_with fail
  rw [← hW1, ← hp]
  clear hW1 hp
  refine Hno.out.mono ?_
  rintro e V1 ⟨rfl, hv⟩
  subst hv
  go_wp2_with fail
  refine (show Calls _ _ _ _ _ from Hcn.out).mono ?_
  rintro e V2 ⟨rfl, hbn⟩
  obtain ⟨⟨yi, yg, yd⟩, hy⟩ : ∃ y, y = canT X id := ⟨_, rfl⟩
  rw [← hy]
  unfold thVal
  have hpl := (Array.getElem?_eq_some_iff.1 X1.out).1
  have x2 : V2.heap[p]? = some (.cells #[.int .u64 0, .int .u64 0, .int .i64 0] thT (0, 0)) := by obtain ⟨G', -, g2, -⟩ := hbn; exact (g2.block p hpl HpG.out.1).trans X1.out
  have y0 := block_cell x2 0
  have y1 := block_cell x2 1
  have y2 := block_cell x2 2
  have f0 := block_free x2 0
  have f1 := block_free x2 1
  have f2 := block_free x2 2
  have l3 := (Array.getElem?_eq_some_iff.1 x2).1
  simp at y0 y1 y2 f0 f1 f2
  have X2 := Lib.hid x2
  have Hbn := Lib.hid hbn
  have Hy := Lib.hid hy
  clear x2 hbn hy
  go_wp2_with fail
  have u3 := bx_set3 X2.out (.int .u64 yi) (.int .u64 yg) (.int .i64 yd)
  have hgU := gr_set3 V2 p (.int .u64 yi) (.int .u64 yg) (.int .i64 yd)
  obtain ⟨U, hU⟩ : ∃ U, U = ((V2.setCell ⟨p, 0, none⟩ (.int .u64 yi)).setCell ⟨p, 1, none⟩ (.int .u64 yg)).setCell ⟨p, 2, none⟩ (.int .i64 yd) := ⟨_, rfl⟩
  rw [← hU] at u3 hgU ⊢
  have u0 := block_cell u3 0
  have u1 := block_cell u3 1
  have u2 := block_cell u3 2
  have ul := (Array.getElem?_eq_some_iff.1 u3).1
  simp at u0 u1 u2
  obtain ⟨G', k1, k2, k3⟩ := Hbn.out.beside hgU (fun i e => by subst e; exact ⟨HpG.out.1, hpl⟩) (fun i e => by subst e; exact HpG.out.2.1)
  have hbU : Bnx W wr G b now last (lessId X id) U := ⟨G', k1, ((Gr.below HB1.out).then k2 (fun i hi => hi.elim .inl (fun e => by subst e; exact .inr HpG.out.2.2))), fun i hi => (k3 i hi).elim .inl (fun h => .inr (Nat.le_trans HB1.out.size h))⟩
  clear u3 hU
  refine bodyPost_ret (v := .tuple #[.agg #[.int .u64 yi, .int .u64 yg, .int .i64 yd], .bool (canB X id)]) ?_ rfl ⟨by rw [← Hy.out]; rfl, hbU⟩
  simp [results, Try.results10, go_sem, u0, u1, u2, ul]
set_option maxRecDepth 100000 in
set_option maxHeartbeats 4000000 in
theorem badv_o {W wr : World} {G : Nat → Prop} {b : Nat} {now last : Int} {X : List Th} (h : Bk W wr G b now last X) (tb : Int) :
    Calls Try.prog 11 #[.pointer (some ⟨b, 0, none⟩), .int .i64 tb] wr fun e W' => ∃ ao cap, e = .returned (.tuple #[.slice ao (advL now tb X).length cap, .int .i64 (advE now tb)]) ∧ Bnx W wr G b (advN now tb) last (advX now tb X) W' ∧ W'.ownsRow wr.heap.size thT 3 (.slice ao (advL now tb X).length cap) (advL now tb X).length (thFlat (advL now tb X)) := by
  obtain ⟨w, F, h1, h2, h3, h4, h5, h6⟩ := h
  have e0 := block_cell h2 0
  have el := (Array.getElem?_eq_some_iff.1 h2).1
  simp at e0
  have Hno := Lib.hid (bnone_no wr b w e0 el)
  have had : Calls Try.prog 35 #[.pointer (some ⟨w, 0, none⟩), .int .i64 tb] wr fun e W' => ∃ ao cap, e = .returned (.tuple #[.slice ao (advL now tb X).length cap, .int .i64 (advE now tb)]) ∧ Bnx W wr G b (advN now tb) last (advX now tb X) W' ∧ W'.ownsRow wr.heap.size thT 3 (.slice ao (advL now tb X).length cap) (advL now tb X).length (thFlat (advL now tb X)) :=
    (adv_r h1 tb).mono (fun e W' hp => by
      obtain ⟨ao, cap, he, hn, ho⟩ := hp
      exact ⟨ao, cap, he, bk_wn h1 h2 h3 h4 h5 h6 hn, ho⟩)
  have Had := Lib.hid had
  clear had
  clear h1 h2 h3 h4 h5 h6
  go_enter Try.func11, Try.ntmps11
  go_wp2_with fail
  refine Hno.out.mono ?_
  rintro e V1 ⟨rfl, hv⟩
  subst hv
  go_wp2_with fail
  refine (show Calls _ _ _ _ _ from Had.out).mono ?_
  rintro e V2 ⟨ao, cap, rfl, hbn, ho⟩
  go_wp2_with fail
  go_ret2
  exact ⟨ao, cap, rfl, hbn, ho⟩
end Go.Proofs.Ytedlplkomfiahaa
