/- Lemmas for WireSays (Open OpenR OpenE OpenI OpenM). No statement of the seat is proved here. -/
import Derived.ProofKit
import Derived.OpenShut
import Derived.ShutString
import Derived.ChangeOld
import Derived.Deep.Matrix
import Derived.Deep.Slices
import Derived.Deep.Fields
import Derived.Deep.Strs
import Derived.Test.YtlphpjgiaflfkaaWs1
import Derived.Test.YtlphpjgiaflfkaaWs3
import Derived.Test.YtlphpjgiaflfkaaWs13
namespace Go.Proofs.Ytlphpjgiaflfkaa
set_option linter.unusedVariables false
set_option linter.unusedSimpArgs false
set_option linter.unusedSectionVars false
open Go Go.ChangeShapes Go.WideShapes Go.ChangeAt Go.RowKit
theorem u8_list (zs : List Int) (h : ∀ n ∈ zs, (Lit.int .u8 n).wf = true) : zs.map (Value.int .u8) = (zs.map fun z => UInt8.ofNat z.toNat).map u8 := by
  rw [List.map_map]
  apply List.map_congr_left
  intro z hz
  have := bounds_u8 (h z hz)
  simp only [Function.comp, u8]
  congr 1
  simp only [UInt8.toNat_ofNat', Nat.reducePow]
  omega
theorem bs_of {w : World} {a : Option Addr} {len cap : Nat} {zs : List Int} (hl : len ≤ cap) (hm : cap ≤ maxLen) (hz : zs.length = cap) (hw : ∀ n ∈ zs, (Lit.int .u8 n).wf = true) (hn : a = none → cap = 0)
    (hc : ∀ x, a = some x → ∀ i, i < cap → w.cell? (x.add i) = some (.int .u8 (zs.getD i 0))) : ∃ l : List UInt8, len = l.length ∧ Bs w a cap l := by
  have hw' : ∀ n ∈ zs.take len, (Lit.int .u8 n).wf = true := fun n hn => hw n (List.mem_of_mem_take hn)
  refine ⟨(zs.take len).map fun z => UInt8.ofNat z.toNat, by simp; omega, ?_⟩
  unfold Bs
  rw [← u8_list _ hw']
  have hlen : (List.map (fun z => UInt8.ofNat z.toNat) (List.take len zs)).length = len := by simp; omega
  rw [hlen]
  refine ⟨by simp; omega, hl, hm, hn, fun j u hu => ?_⟩
  rw [List.getElem?_map] at hu
  have hj : j < len := by
    apply Classical.byContradiction
    intro h
    rw [List.getElem?_eq_none (by simp; omega)] at hu
    cases hu
  cases a with
  | none => have := hn rfl; omega
  | some x =>
    have h0 := hc x rfl 0 (by omega)
    obtain ⟨b, off, sp⟩ := x
    have hsp : sp = none := by simpa [Addr.add] using World.cell?_spot h0
    subst hsp
    refine ⟨b, off, rfl, ?_⟩
    have h1 := hc _ rfl j (by omega)
    rw [Addr.add_none] at h1
    rw [h1, ← hu, List.getElem?_take, if_pos hj, List.getElem?_eq_getElem (by omega)]
    simp [List.getD, List.getElem?_eq_getElem (show j < zs.length by omega)]
section
variable {H : Type} {enc : TypeId × Value → H} {P : Program} {w : World} {base : Nat} {held : Bool}
theorem open_bs {t e : TypeId} {fuel : Nat} {ao : Option Addr} {len cap : Nat} {x : DataW H × List MemPlace} (ht : P.underlying t = some (.slice e)) (he : P.underlying e = some (.int .u8)) (ce : P.cellsOf e = 1)
    (h : DataW.trod enc P w base (fun _ => true) held fuel t (Value.slice ao len cap).cells.toList = some x) : ∃ l : List UInt8, len = l.length ∧ Bs w ao cap l := by
  rcases open_ints ht he ce h with ⟨hcs, _⟩ | ⟨a, l, c, zs, hcs, _, hl, hm, hz, _, hcell, hwz⟩
  · simp [Value.cells] at hcs
    obtain ⟨rfl, rfl, rfl⟩ := hcs
    exact ⟨[], rfl, by simp, by simp, by decide, fun _ => rfl, fun j u hu => by simp at hu⟩
  · simp [Value.cells] at hcs
    obtain ⟨rfl, rfl, rfl⟩ := hcs
    simp only [if_true] at hz
    refine bs_of hl hm hz hwz (by simp) fun x hx i hi => ?_
    simp only [Option.some.injEq] at hx
    subst hx
    exact hcell i (by omega)
end
end Go.Proofs.Ytlphpjgiaflfkaa
namespace Go.Proofs.Ytlphpjgiaflfkaa
set_option linter.unusedVariables false
set_option linter.unusedSimpArgs false
set_option linter.unusedSectionVars false
open Go Go.ChangeShapes Go.WideShapes Go.ChangeAt Go.RowKit Go.Deep
theorem rows_len {α : Type} {cells : α → List Value} {k : Nat} (hl : ∀ a, (cells a).length = k) (l : List α) : (l.map cells).flatten.length = l.length * k := by
  induction l with
  | nil => simp
  | cons a l ih => simp only [List.map_cons, List.flatten_cons, List.length_append, ih, hl, List.length_cons, Nat.succ_mul]; omega
/-- what a cell of rows is -/
theorem rows_get {α : Type} {cells : α → List Value} {k : Nat} (hl : ∀ a, (cells a).length = k) (hk : 0 < k) (l : List α) (j : Nat) (u : Value) (h : (l.map cells).flatten[j]? = some u) :
    ∃ (hi : j / k < l.length), (cells l[j / k])[j % k]? = some u := by
  have hj : j < (l.map cells).flatten.length := (List.getElem?_eq_some_iff.1 h).1
  rw [rows_len hl] at hj
  have hi : j / k < l.length := Nat.div_lt_of_lt_mul (by rw [Nat.mul_comm]; exact hj)
  refine ⟨hi, ?_⟩
  have hm : j % k < k := Nat.mod_lt _ hk
  have := flatten_get (rows := l.map cells) (k := k) (by intro r hr; obtain ⟨x, _, rfl⟩ := List.mem_map.1 hr; exact hl x) (j / k) (j % k) (by simpa using hi) (by simp [hl]; exact hm)
  rw [show j / k * k + j % k = j from by rw [Nat.mul_comm]; exact Nat.div_add_mod j k, h] at this
  rw [this, List.getElem?_eq_getElem (by rw [hl]; exact hm)]
  simp
section
variable {H : Type} {enc : TypeId × Value → H} {P : Program} {w : World} {base : Nat} {held : Bool}
theorem open_rows {α : Type} [Inhabited α] (cells : α → List Value) (good : α → Prop) {k : Nat} (hl : ∀ a, (cells a).length = k) (hk : 0 < k) {t e : TypeId} {fuel : Nat} {ao : Option Addr} {len cap : Nat} {x : DataW H × List MemPlace}
    (ht : P.underlying t = some (.slice e)) (hC : P.cellsOf e = k)
    (hrow : ∀ (n : Nat) (cs : List Value) (y : DataW H × List MemPlace), cs.length = k → DataW.trod enc P w base (fun _ => true) held n e cs = some y → ∃ a, cs = cells a ∧ good a)
    (h : DataW.trod enc P w base (fun _ => true) held fuel t (Value.slice ao len cap).cells.toList = some x) : ∃ l : List α, len = l.length ∧ Sl w k ao l.length cap (l.map cells).flatten ∧ ∀ a ∈ l, good a := by
  rcases open_slice ht h with ⟨hcs, _⟩ | ⟨a, len', cap', m, n, D, Pl, hcs, _, hle, hmax, hmm, _, hx⟩
  · simp [Value.cells] at hcs
    obtain ⟨rfl, rfl, rfl⟩ := hcs
    exact ⟨[], rfl, ⟨by simp, by simp, by decide, fun _ => rfl, fun j u hu => by simp at hu⟩, by simp⟩
  · simp [Value.cells] at hcs
    obtain ⟨rfl, rfl, rfl⟩ := hcs
    simp only [if_true] at hmm
    subst hmm
    have each : ∀ i, i < len → ∃ q : α, (∀ j, j < k → w.cell? (a.add (i * k + j)) = (cells q)[j]?) ∧ good q := by
      intro i hi
      obtain ⟨cs', h1, h2⟩ := hx i (by omega)
      rw [hC] at h1
      obtain ⟨_, hlen, hcell⟩ := World.cells?_some h1
      obtain ⟨q, rfl, hq⟩ := hrow _ _ _ hlen h2
      refine ⟨q, fun j hj => ?_, hq⟩
      rw [← add_add]; exact hcell j hj
    obtain ⟨y, hy⟩ := choose_lt each
    refine ⟨(List.range len).map y, by simp, ⟨by simpa using rows_len hl ((List.range len).map y), by simpa using hle, hmax, by simp, fun j u hu => ?_⟩, ?_⟩
    · obtain ⟨hi, hu'⟩ := rows_get hl hk _ j u hu
      have hi' : j / k < len := by simpa using hi
      have hm : j % k < k := Nat.mod_lt _ hk
      have hc := (hy _ hi').1 _ hm
      rw [show j / k * k + j % k = j from by rw [Nat.mul_comm]; exact Nat.div_add_mod j k] at hc
      simp only [List.getElem_map, List.getElem_range] at hu'
      rw [hu'] at hc
      obtain ⟨b, off, sp⟩ := a
      have hcz := (hy 0 (Nat.lt_of_le_of_lt (Nat.zero_le _) hi')).1 0 hk
      rw [List.getElem?_eq_getElem (by rw [hl]; exact hk)] at hcz
      have hsp : sp = none := by simpa [Addr.add] using World.cell?_spot hcz
      subst hsp
      refine ⟨b, off, rfl, ?_⟩
      rwa [Addr.add_none] at hc
    · intro q hq
      obtain ⟨i, hi, rfl⟩ := List.mem_map.1 hq
      exact (hy i (List.mem_range.1 hi)).2
end
/-- a slice of structs of three integers, read -/
abbrev I3 := Int × Int × Int
def i3 (k0 k1 k2 : IntKind) (a : I3) : List Value := [.int k0 a.1, .int k1 a.2.1, .int k2 a.2.2]
def I3s (w : World) (k0 k1 k2 : IntKind) (ao : Option Addr) (cap : Nat) (l : List I3) : Prop := Sl w 3 ao l.length cap (l.map (i3 k0 k1 k2)).flatten
theorem I3s.get {w : World} {k0 k1 k2 : IntKind} {ao : Option Addr} {cap : Nat} {l : List I3} (h : I3s w k0 k1 k2 ao cap l) (k : Nat) (hk : k < l.length) :
    ∃ b off, ao = some ⟨b, off, none⟩ ∧ w.cell? ⟨b, off + k * 3, none⟩ = some (.int k0 l[k].1) ∧ w.cell? ⟨b, off + k * 3 + 1, none⟩ = some (.int k1 l[k].2.1) ∧ w.cell? ⟨b, off + k * 3 + 2, none⟩ = some (.int k2 l[k].2.2) := by
  have key : ∀ j (hj : j < 3), (l.map (i3 k0 k1 k2)).flatten[k * 3 + j]? = (i3 k0 k1 k2 l[k])[j]? := by
    intro j hj
    have := flatten_get (rows := l.map (i3 k0 k1 k2)) (k := 3) (by intro r hr; obtain ⟨x, _, rfl⟩ := List.mem_map.1 hr; rfl) k j (by simpa using hk) (by simpa [i3] using hj)
    rw [this, List.getElem?_eq_getElem (by simpa [i3] using hj)]
    simp
  obtain ⟨b, off, e, c0⟩ := h.cell _ _ (key 0 (by omega))
  obtain ⟨b1, off1, e1, c1⟩ := h.cell _ _ (key 1 (by omega))
  obtain ⟨b2, off2, e2, c2⟩ := h.cell _ _ (key 2 (by omega))
  rw [e] at e1 e2
  simp only [Option.some.injEq, Addr.mk.injEq] at e1 e2
  obtain ⟨rfl, rfl, -⟩ := e1
  obtain ⟨rfl, rfl, -⟩ := e2
  exact ⟨b, off, e, by simpa using c0, by rw [Nat.add_assoc]; exact c1, by rw [Nat.add_assoc]; exact c2⟩
theorem I3s.below {w w' : World} {k0 k1 k2 : IntKind} {ao : Option Addr} {cap : Nat} {l : List I3} (h : I3s w k0 k1 k2 ao cap l) (hb : Below w.heap.size w w') : I3s w' k0 k1 k2 ao cap l := Sl.below h hb
end Go.Proofs.Ytlphpjgiaflfkaa
namespace Go.Proofs.Ytlphpjgiaflfkaa
set_option linter.unusedVariables false
set_option linter.unusedSimpArgs false
set_option linter.unusedSectionVars false
open Go Go.ChangeShapes Go.WideShapes Go.ChangeAt Go.RowKit Go.Deep
instance : Inhabited Ep := ⟨⟨⟨0, 0, []⟩, none, 0⟩⟩
section
variable {H : Type} {enc : TypeId × Value → H} {w : World} {base : Nat} {held : Bool}
def EpOk (w : World) (a : Ep) : Prop := Bs w a.ao a.cap a.e.data ∧ (Lit.int .u64 a.e.term).wf = true ∧ (Lit.int .i64 a.e.kind).wf = true
set_option maxRecDepth 100000 in
theorem row_ep (n : Nat) (cs : List Value) (y : DataW H × List MemPlace) (hcs : cs.length = 3) (h : DataW.trod enc Try.prog w base (fun _ => true) held n 38 cs = some y) : ∃ a : Ep, cs = epCells a ∧ EpOk w a := by
  obtain ⟨xs, m, _, hx, _, hlen, hg⟩ := DataW.trod_struct Try.underlying38 h
  match cs, hcs with
  | [c0, c1, c2], _ =>
    match xs, hlen with
    | [y0, y1, y2], _ =>
      have hone : oneCellFields Try.prog _ = true := (by kernel_rfl : oneCellFields Try.prog (match Try.prog.underlying 38 with | some (.struct fs) => fs | _ => #[]) = true)
      rw [Try.underlying38] at hone
      obtain ⟨o0, k0⟩ := hone_of hone 0 _ rfl
      obtain ⟨o1, k1⟩ := hone_of hone 1 _ rfl
      obtain ⟨o2, k2⟩ := hone_of hone 2 _ rfl
      have t0 := hg 0 _ rfl
      have t1 := hg 1 _ rfl
      have t2 := hg 2 _ rfl
      rw [o0, k0] at t0
      rw [o1, k1] at t1
      rw [o2, k2] at t2
      obtain ⟨n0, e0, d0, w0⟩ := DataW.trod_int (k := .u64) Try.underlying24 t0
      obtain ⟨n1, e1, d1, w1⟩ := DataW.trod_int (k := .i64) Try.underlying3 t1
      simp at e0 e1 t2
      subst e0; subst e1
      have key : ∃ (ao : Option Addr) (len cap : Nat), c2 = .slice ao len cap := by
        rcases open_ints Try.underlying22 Try.underlying5 (by kernel_rfl) t2 with ⟨hcs, _⟩ | ⟨a, l, c, zs, hcs, _⟩
        · simp [Value.cells] at hcs; exact ⟨_, _, _, hcs⟩
        · simp [Value.cells] at hcs; exact ⟨_, _, _, hcs⟩
      obtain ⟨ao, len, cap, rfl⟩ := key
      obtain ⟨l, rfl, hb⟩ := open_bs Try.underlying22 Try.underlying5 (by kernel_rfl) (by simpa [Value.cells] using t2)
      exact ⟨⟨⟨n0, n1, l⟩, ao, cap⟩, rfl, hb, w0, w1⟩
theorem open_eps {fuel : Nat} {ao : Option Addr} {len cap : Nat} {x : DataW H × List MemPlace} (h : DataW.trod enc Try.prog w base (fun _ => true) held fuel 25 (Value.slice ao len cap).cells.toList = some x) :
    ∃ l : List Ep, len = l.length ∧ Ens w ao cap l ∧ ∀ a ∈ l, EpOk w a := by
  obtain ⟨l, h1, h2, h3⟩ := open_rows epCells (EpOk w) (fun _ => rfl) (by decide) Try.underlying25 (by kernel_rfl) (fun n cs y hcs hy => row_ep n cs y hcs hy) h
  exact ⟨l, h1, ⟨h2, fun a ha => (h3 a ha).1⟩, h3⟩
end
end Go.Proofs.Ytlphpjgiaflfkaa
namespace Go.Proofs.Ytlphpjgiaflfkaa
set_option linter.unusedVariables false
set_option linter.unusedSimpArgs false
set_option linter.unusedSectionVars false
open Go Go.ChangeShapes Go.WideShapes Go.ChangeAt Go.RowKit Go.Deep
theorem ints_flat (k : IntKind) (l : List Int) : (l.map fun a => [Value.int k a]).flatten = l.map (Value.int k) := by
  induction l with
  | nil => rfl
  | cons a l ih => simp only [List.map_cons, List.flatten_cons, ih]; rfl
section
variable {H : Type} {enc : TypeId × Value → H} {P : Program} {w : World} {base : Nat} {held : Bool}
theorem open_is {t e : TypeId} {k : IntKind} {fuel : Nat} {ao : Option Addr} {len cap : Nat} {x : DataW H × List MemPlace} (ht : P.underlying t = some (.slice e)) (he : P.underlying e = some (.int k)) (hC : P.cellsOf e = 1)
    (h : DataW.trod enc P w base (fun _ => true) held fuel t (Value.slice ao len cap).cells.toList = some x) : ∃ l : List Int, len = l.length ∧ Sl w 1 ao l.length cap (l.map (Value.int k)) ∧ ∀ a ∈ l, (Lit.int k a).wf = true := by
  obtain ⟨l, h1, h2, h3⟩ := open_rows (fun a : Int => [Value.int k a]) (fun a => (Lit.int k a).wf = true) (fun _ => rfl) (by decide) ht hC (fun n cs y hcs hy => by
    obtain ⟨a, e0, _, w0⟩ := DataW.trod_int he hy
    exact ⟨a, e0, w0⟩) h
  exact ⟨l, h1, by rw [← ints_flat]; exact h2, h3⟩
end
end Go.Proofs.Ytlphpjgiaflfkaa
namespace Go.Proofs.Ytlphpjgiaflfkaa
set_option linter.unusedVariables false
set_option linter.unusedSimpArgs false
set_option linter.unusedSectionVars false
open Go Go.ChangeShapes Go.WideShapes Go.ChangeAt Go.RowKit Go.Deep
section
variable {H : Type} {enc : TypeId × Value → H} {w : World} {base : Nat} {held : Bool}
set_option maxRecDepth 100000 in
set_option maxHeartbeats 2000000 in
theorem open_msg {r : Reach} {b0 : Nat} {v : Value} {d : DataW H} {p : List MemPlace} (hv : Value.okWide Try.prog w r b0 49 v) (h : DataW.Trod enc Try.prog w base (fun _ => true) held 49 v d p) :
    ∃ x : Mp, v = .agg (mpA x) ∧ MpAt w x ∧ MsgOk x := by
  unfold Value.okWide at hv
  rw [Try.underlying49] at hv
  simp only at hv
  obtain ⟨cs, rfl, hsz, ts, hts, _, hall⟩ := hv
  have hts2 : Try.prog.cellTypes Try.prog.depth 49 = some [3, 3, 3, 24, 24, 24, 24, 24, 4, 4, 25, 24, 24, 45, 22] := by kernel_rfl
  rw [hts2] at hts
  simp only [Option.some.injEq] at hts
  subst hts
  have hC : Try.prog.cellsOf 49 = 15 := by kernel_rfl
  rw [hC] at hsz
  obtain ⟨cs⟩ := cs
  match cs, hsz with
  | [c0, c1, c2, c3, c4, c5, c6, c7, c8, c9, c10, c11, c12, c13, c14], _ =>
    obtain ⟨u10, hu10, hc10⟩ := hall 10 c10 rfl
    have hv10 : u10 = 25 := by simpa using hu10.symm
    subst hv10
    have hw10 : Value.okWide Try.prog w r b0 25 c10 := by unfold Value.okWide; rw [Try.underlying25]; exact hc10
    obtain ⟨ao10, len10, cap10, rfl⟩ := okWide_slice Try.underlying25 hw10
    obtain ⟨u13, hu13, hc13⟩ := hall 13 c13 rfl
    have hv13 : u13 = 45 := by simpa using hu13.symm
    subst hv13
    have hw13 : Value.okWide Try.prog w r b0 45 c13 := by unfold Value.okWide; rw [Try.underlying45]; exact hc13
    obtain ⟨ao13, len13, cap13, rfl⟩ := okWide_slice Try.underlying45 hw13
    obtain ⟨u14, hu14, hc14⟩ := hall 14 c14 rfl
    have hv14 : u14 = 22 := by simpa using hu14.symm
    subst hv14
    have hw14 : Value.okWide Try.prog w r b0 22 c14 := by unfold Value.okWide; rw [Try.underlying22]; exact hc14
    obtain ⟨ao14, len14, cap14, rfl⟩ := okWide_slice Try.underlying22 hw14
    obtain ⟨fuel, hf⟩ := h
    obtain ⟨xs, n, _, hx, _, hlen, hg⟩ := DataW.trod_struct Try.underlying49 hf
    match xs, hlen with
    | [y0, y1, y2, y3, y4, y5, y6, y7, y8, y9, y10, y11], _ =>
      have t0 := hg 0 _ rfl
      have t1 := hg 1 _ rfl
      have t2 := hg 2 _ rfl
      have t3 := hg 3 _ rfl
      have t4 := hg 4 _ rfl
      have t5 := hg 5 _ rfl
      have t6 := hg 6 _ rfl
      have t7 := hg 7 _ rfl
      have t8 := hg 8 _ rfl
      have t9 := hg 9 _ rfl
      have t10 := hg 10 _ rfl
      have t11 := hg 11 _ rfl
      have ki : Try.prog.cellsOf 3 = 1 := by kernel_rfl
      have ku : Try.prog.cellsOf 24 = 1 := by kernel_rfl
      have kb : Try.prog.cellsOf 4 = 1 := by kernel_rfl
      have ke : Try.prog.cellsOf 25 = 1 := by kernel_rfl
      have kl : Try.prog.cellsOf 45 = 1 := by kernel_rfl
      have kd : Try.prog.cellsOf 22 = 1 := by kernel_rfl
      have ks : Try.prog.cellsOf 47 = 4 := by kernel_rfl
      simp [Value.cells, ki, ku, kb, ke, ks] at t0 t1 t2 t3 t4 t5 t6 t7 t8 t9 t10 t11
      obtain ⟨n0, e0, d0, w0⟩ := DataW.trod_int (k := .i64) Try.underlying3 t0
      simp at e0
      subst e0
      obtain ⟨n1, e1, d1, w1⟩ := DataW.trod_int (k := .i64) Try.underlying3 t1
      simp at e1
      subst e1
      obtain ⟨n2, e2, d2, w2⟩ := DataW.trod_int (k := .i64) Try.underlying3 t2
      simp at e2
      subst e2
      obtain ⟨n3, e3, d3, w3⟩ := DataW.trod_int (k := .u64) Try.underlying24 t3
      simp at e3
      subst e3
      obtain ⟨n4, e4, d4, w4⟩ := DataW.trod_int (k := .u64) Try.underlying24 t4
      simp at e4
      subst e4
      obtain ⟨n5, e5, d5, w5⟩ := DataW.trod_int (k := .u64) Try.underlying24 t5
      simp at e5
      subst e5
      obtain ⟨n6, e6, d6, w6⟩ := DataW.trod_int (k := .u64) Try.underlying24 t6
      simp at e6
      subst e6
      obtain ⟨n7, e7, d7, w7⟩ := DataW.trod_int (k := .u64) Try.underlying24 t7
      simp at e7
      subst e7
      obtain ⟨n8, e8, d8⟩ := DataW.trod_bool Try.underlying4 t8
      simp at e8
      subst e8
      obtain ⟨n9, e9, d9⟩ := DataW.trod_bool Try.underlying4 t9
      simp at e9
      subst e9
      obtain ⟨el, hel, hens, _⟩ := open_eps (by simpa [Value.cells] using t10)
      subst hel
      obtain ⟨xs2, nn2, _, hx2, _, hlen2, hg2⟩ := DataW.trod_struct Try.underlying47 t11
      match xs2, hlen2 with
      | [z0, z1, z2, z3], _ =>
        have s0 := hg2 0 _ rfl
        have s1 := hg2 1 _ rfl
        have s2 := hg2 2 _ rfl
        have s3 := hg2 3 _ rfl
        simp [ku, kl, kd] at s0 s1 s2 s3
        obtain ⟨m0, f0, g0, v0⟩ := DataW.trod_int (k := .u64) Try.underlying24 s0
        obtain ⟨m1, f1, g1, v1⟩ := DataW.trod_int (k := .u64) Try.underlying24 s1
        simp at f0 f1
        subst f0; subst f1
        obtain ⟨ml, hml, hmem, _⟩ := open_is Try.underlying45 Try.underlying3 (by kernel_rfl) (by simpa [Value.cells] using s2)
        subst hml
        obtain ⟨dl, hdl, hdat⟩ := open_bs Try.underlying22 Try.underlying5 (by kernel_rfl) (by simpa [Value.cells] using s3)
        subst hdl
        exact ⟨⟨n0, n1, n2, n3, n4, n5, n6, n7, n8, n9, ao10, cap10, el, m0, m1, ao13, cap13, ml, ao14, cap14, dl⟩, rfl, ⟨hens, hmem, hdat⟩, (bounds_u64 w4).1, (bounds_u64 w5).1, (bounds_u64 w6).1, (bounds_u64 w7).1⟩
end
end Go.Proofs.Ytlphpjgiaflfkaa
