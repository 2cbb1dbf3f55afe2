/- Lemmas for WireReads (OpenR OpenE OpenI OpenM CrcBurst Wt). No statement of the seat is proved here. -/
import Derived.Deep.Slices
import Derived.Deep.Fields
import Derived.Deep.Strs
import Derived.Test.YtlphpjgiaflfkaaWv1
import Derived.Test.YtlphpjgiaflfkaaWv3
import Derived.Test.YtlphpjgiaflfkaaWv4
import Derived.Test.YtlphpjgiaflfkaaWv8
import Derived.Test.YtlphpjgiaflfkaaWv16
import Derived.Test.YtlphpjgiaflfkaaWv36
namespace Go.Proofs.Ytlphpjgiaflfkaa
set_option linter.unusedVariables false
set_option linter.unusedSimpArgs false
set_option linter.unusedSectionVars false
open Go Go.ChangeShapes Go.WideShapes Go.ChangeAt Go.RowKit Go.Deep
theorem rows_len {α : Type} {cells : α → List Value} {k : Nat} (hl : ∀ a, (cells a).length = k) (l : List α) : (l.map cells).flatten.length = l.length * k := by
  induction l with
  | nil => simp
  | cons a l ih => simp only [List.map_cons, List.flatten_cons, List.length_append, ih, hl, List.length_cons, Nat.succ_mul]; omega
/-- what a cell of rows is -/
theorem rows_get {α : Type} {cells : α → List Value} {k : Nat} (hl : ∀ a, (cells a).length = k) (hk : 0 < k) (l : List α) (j : Nat) (u : Value) (h : (l.map cells).flatten[j]? = some u) :
    ∃ (hi : j / k < l.length), (cells l[j / k])[j % k]? = some u := by
  have hj : j < (l.map cells).flatten.length := (List.getElem?_eq_some_iff.1 h).1
  rw [rows_len hl] at hj
  have hi : j / k < l.length := Nat.div_lt_of_lt_mul (by rw [Nat.mul_comm]; exact hj)
  refine ⟨hi, ?_⟩
  have hm : j % k < k := Nat.mod_lt _ hk
  have := flatten_get (rows := l.map cells) (k := k) (by intro r hr; obtain ⟨x, _, rfl⟩ := List.mem_map.1 hr; exact hl x) (j / k) (j % k) (by simpa using hi) (by simp [hl]; exact hm)
  rw [show j / k * k + j % k = j from by rw [Nat.mul_comm]; exact Nat.div_add_mod j k, h] at this
  rw [this, List.getElem?_eq_getElem (by rw [hl]; exact hm)]
  simp
section
variable {H : Type} {enc : TypeId × Value → H} {P : Program} {w : World} {base : Nat} {held : Bool}
theorem open_rows {α : Type} [Inhabited α] (cells : α → List Value) (good : α → Prop) {k : Nat} (hl : ∀ a, (cells a).length = k) (hk : 0 < k) {t e : TypeId} {fuel : Nat} {ao : Option Addr} {len cap : Nat} {x : DataW H × List MemPlace}
    (ht : P.underlying t = some (.slice e)) (hC : P.cellsOf e = k)
    (hrow : ∀ (n : Nat) (cs : List Value) (y : DataW H × List MemPlace), cs.length = k → DataW.trod enc P w base (fun _ => true) held n e cs = some y → ∃ a, cs = cells a ∧ good a)
    (h : DataW.trod enc P w base (fun _ => true) held fuel t (Value.slice ao len cap).cells.toList = some x) : ∃ l : List α, len = l.length ∧ Sl w k ao l.length cap (l.map cells).flatten ∧ ∀ a ∈ l, good a := by
  rcases open_slice ht h with ⟨hcs, _⟩ | ⟨a, len', cap', m, n, D, Pl, hcs, _, hle, hmax, hmm, _, hx⟩
  · simp [Value.cells] at hcs
    obtain ⟨rfl, rfl, rfl⟩ := hcs
    exact ⟨[], rfl, ⟨by simp, by simp, by decide, fun _ => rfl, fun j u hu => by simp at hu⟩, by simp⟩
  · simp [Value.cells] at hcs
    obtain ⟨rfl, rfl, rfl⟩ := hcs
    simp only [if_true] at hmm
    subst hmm
    have each : ∀ i, i < len → ∃ q : α, (∀ j, j < k → w.cell? (a.add (i * k + j)) = (cells q)[j]?) ∧ good q := by
      intro i hi
      obtain ⟨cs', h1, h2⟩ := hx i (by omega)
      rw [hC] at h1
      obtain ⟨_, hlen, hcell⟩ := World.cells?_some h1
      obtain ⟨q, rfl, hq⟩ := hrow _ _ _ hlen h2
      refine ⟨q, fun j hj => ?_, hq⟩
      rw [← add_add]; exact hcell j hj
    obtain ⟨y, hy⟩ := choose_lt each
    refine ⟨(List.range len).map y, by simp, ⟨by simpa using rows_len hl ((List.range len).map y), by simpa using hle, hmax, by simp, fun j u hu => ?_⟩, ?_⟩
    · obtain ⟨hi, hu'⟩ := rows_get hl hk _ j u hu
      have hi' : j / k < len := by simpa using hi
      have hm : j % k < k := Nat.mod_lt _ hk
      have hc := (hy _ hi').1 _ hm
      rw [show j / k * k + j % k = j from by rw [Nat.mul_comm]; exact Nat.div_add_mod j k] at hc
      simp only [List.getElem_map, List.getElem_range] at hu'
      rw [hu'] at hc
      obtain ⟨b, off, sp⟩ := a
      have hcz := (hy 0 (Nat.lt_of_le_of_lt (Nat.zero_le _) hi')).1 0 hk
      rw [List.getElem?_eq_getElem (by rw [hl]; exact hk)] at hcz
      have hsp : sp = none := by simpa [Addr.add] using World.cell?_spot hcz
      subst hsp
      refine ⟨b, off, rfl, ?_⟩
      rwa [Addr.add_none] at hc
    · intro q hq
      obtain ⟨i, hi, rfl⟩ := List.mem_map.1 hq
      exact (hy i (List.mem_range.1 hi)).2
end
/-- a slice of structs of three integers, read -/
abbrev I3 := Int × Int × Int
def i3 (k0 k1 k2 : IntKind) (a : I3) : List Value := [.int k0 a.1, .int k1 a.2.1, .int k2 a.2.2]
def I3s (w : World) (k0 k1 k2 : IntKind) (ao : Option Addr) (cap : Nat) (l : List I3) : Prop := Sl w 3 ao l.length cap (l.map (i3 k0 k1 k2)).flatten
theorem I3s.get {w : World} {k0 k1 k2 : IntKind} {ao : Option Addr} {cap : Nat} {l : List I3} (h : I3s w k0 k1 k2 ao cap l) (k : Nat) (hk : k < l.length) :
    ∃ b off, ao = some ⟨b, off, none⟩ ∧ w.cell? ⟨b, off + k * 3, none⟩ = some (.int k0 l[k].1) ∧ w.cell? ⟨b, off + k * 3 + 1, none⟩ = some (.int k1 l[k].2.1) ∧ w.cell? ⟨b, off + k * 3 + 2, none⟩ = some (.int k2 l[k].2.2) := by
  have key : ∀ j (hj : j < 3), (l.map (i3 k0 k1 k2)).flatten[k * 3 + j]? = (i3 k0 k1 k2 l[k])[j]? := by
    intro j hj
    have := flatten_get (rows := l.map (i3 k0 k1 k2)) (k := 3) (by intro r hr; obtain ⟨x, _, rfl⟩ := List.mem_map.1 hr; rfl) k j (by simpa using hk) (by simpa [i3] using hj)
    rw [this, List.getElem?_eq_getElem (by simpa [i3] using hj)]
    simp
  obtain ⟨b, off, e, c0⟩ := h.cell _ _ (key 0 (by omega))
  obtain ⟨b1, off1, e1, c1⟩ := h.cell _ _ (key 1 (by omega))
  obtain ⟨b2, off2, e2, c2⟩ := h.cell _ _ (key 2 (by omega))
  rw [e] at e1 e2
  simp only [Option.some.injEq, Addr.mk.injEq] at e1 e2
  obtain ⟨rfl, rfl, -⟩ := e1
  obtain ⟨rfl, rfl, -⟩ := e2
  exact ⟨b, off, e, by simpa using c0, by rw [Nat.add_assoc]; exact c1, by rw [Nat.add_assoc]; exact c2⟩
theorem I3s.below {w w' : World} {k0 k1 k2 : IntKind} {ao : Option Addr} {cap : Nat} {l : List I3} (h : I3s w k0 k1 k2 ao cap l) (hb : Below w.heap.size w w') : I3s w' k0 k1 k2 ao cap l := Sl.below h hb
end Go.Proofs.Ytlphpjgiaflfkaa
namespace Go.Proofs.Ytlphpjgiaflfkaa
set_option linter.unusedVariables false
set_option linter.unusedSimpArgs false
set_option linter.unusedSectionVars false
open Go Go.ChangeShapes Go.WideShapes Go.ChangeAt Go.RowKit Go.Deep
instance : Inhabited Ep := ⟨⟨⟨0, 0, []⟩, none, 0⟩⟩
section
variable {H : Type} {enc : TypeId × Value → H} {w : World} {base : Nat} {held : Bool}
def EpOk (w : World) (a : Ep) : Prop := Bs w a.ao a.cap a.e.data ∧ (Lit.int .u64 a.e.term).wf = true ∧ (Lit.int .i64 a.e.kind).wf = true
set_option maxRecDepth 100000 in
theorem row_ep (n : Nat) (cs : List Value) (y : DataW H × List MemPlace) (hcs : cs.length = 3) (h : DataW.trod enc Try.prog w base (fun _ => true) held n 38 cs = some y) : ∃ a : Ep, cs = epCells a ∧ EpOk w a := by
  obtain ⟨xs, m, _, hx, _, hlen, hg⟩ := DataW.trod_struct Try.underlying38 h
  match cs, hcs with
  | [c0, c1, c2], _ =>
    match xs, hlen with
    | [y0, y1, y2], _ =>
      have hone : oneCellFields Try.prog _ = true := (by kernel_rfl : oneCellFields Try.prog (match Try.prog.underlying 38 with | some (.struct fs) => fs | _ => #[]) = true)
      rw [Try.underlying38] at hone
      obtain ⟨o0, k0⟩ := hone_of hone 0 _ rfl
      obtain ⟨o1, k1⟩ := hone_of hone 1 _ rfl
      obtain ⟨o2, k2⟩ := hone_of hone 2 _ rfl
      have t0 := hg 0 _ rfl
      have t1 := hg 1 _ rfl
      have t2 := hg 2 _ rfl
      rw [o0, k0] at t0
      rw [o1, k1] at t1
      rw [o2, k2] at t2
      obtain ⟨n0, e0, d0, w0⟩ := DataW.trod_int (k := .u64) Try.underlying24 t0
      obtain ⟨n1, e1, d1, w1⟩ := DataW.trod_int (k := .i64) Try.underlying3 t1
      simp at e0 e1 t2
      subst e0; subst e1
      have key : ∃ (ao : Option Addr) (len cap : Nat), c2 = .slice ao len cap := by
        rcases open_ints Try.underlying22 Try.underlying5 (by kernel_rfl) t2 with ⟨hcs, _⟩ | ⟨a, l, c, zs, hcs, _⟩
        · simp [Value.cells] at hcs; exact ⟨_, _, _, hcs⟩
        · simp [Value.cells] at hcs; exact ⟨_, _, _, hcs⟩
      obtain ⟨ao, len, cap, rfl⟩ := key
      obtain ⟨l, rfl, hb⟩ := open_bs Try.underlying22 Try.underlying5 (by kernel_rfl) (by simpa [Value.cells] using t2)
      exact ⟨⟨⟨n0, n1, l⟩, ao, cap⟩, rfl, hb, w0, w1⟩
theorem open_eps {fuel : Nat} {ao : Option Addr} {len cap : Nat} {x : DataW H × List MemPlace} (h : DataW.trod enc Try.prog w base (fun _ => true) held fuel 25 (Value.slice ao len cap).cells.toList = some x) :
    ∃ l : List Ep, len = l.length ∧ Ens w ao cap l ∧ ∀ a ∈ l, EpOk w a := by
  obtain ⟨l, h1, h2, h3⟩ := open_rows epCells (EpOk w) (fun _ => rfl) (by decide) Try.underlying25 (by kernel_rfl) (fun n cs y hcs hy => row_ep n cs y hcs hy) h
  exact ⟨l, h1, ⟨h2, fun a ha => (h3 a ha).1⟩, h3⟩
end
end Go.Proofs.Ytlphpjgiaflfkaa
namespace Go.Proofs.Ytlphpjgiaflfkaa
set_option linter.unusedVariables false
set_option linter.unusedSimpArgs false
set_option linter.unusedSectionVars false
open Go Go.ChangeShapes Go.WideShapes Go.ChangeAt Go.RowKit Go.Deep
theorem ints_flat (k : IntKind) (l : List Int) : (l.map fun a => [Value.int k a]).flatten = l.map (Value.int k) := by
  induction l with
  | nil => rfl
  | cons a l ih => simp only [List.map_cons, List.flatten_cons, ih]; rfl
section
variable {H : Type} {enc : TypeId × Value → H} {P : Program} {w : World} {base : Nat} {held : Bool}
theorem open_is {t e : TypeId} {k : IntKind} {fuel : Nat} {ao : Option Addr} {len cap : Nat} {x : DataW H × List MemPlace} (ht : P.underlying t = some (.slice e)) (he : P.underlying e = some (.int k)) (hC : P.cellsOf e = 1)
    (h : DataW.trod enc P w base (fun _ => true) held fuel t (Value.slice ao len cap).cells.toList = some x) : ∃ l : List Int, len = l.length ∧ Sl w 1 ao l.length cap (l.map (Value.int k)) ∧ ∀ a ∈ l, (Lit.int k a).wf = true := by
  obtain ⟨l, h1, h2, h3⟩ := open_rows (fun a : Int => [Value.int k a]) (fun a => (Lit.int k a).wf = true) (fun _ => rfl) (by decide) ht hC (fun n cs y hcs hy => by
    obtain ⟨a, e0, _, w0⟩ := DataW.trod_int he hy
    exact ⟨a, e0, w0⟩) h
  exact ⟨l, h1, by rw [← ints_flat]; exact h2, h3⟩
end
end Go.Proofs.Ytlphpjgiaflfkaa
namespace Go.Proofs.Ytlphpjgiaflfkaa
set_option linter.unusedVariables false
set_option linter.unusedSimpArgs false
set_option linter.unusedSectionVars false
open Go Go.ChangeShapes Go.WideShapes Go.ChangeAt Go.RowKit Go.Deep
section
variable {H : Type} {enc : TypeId × Value → H} {w : World} {base : Nat} {held : Bool}
set_option maxRecDepth 100000 in
set_option maxHeartbeats 2000000 in
theorem open_msg {r : Reach} {b0 : Nat} {v : Value} {d : DataW H} {p : List MemPlace} (hv : Value.okWide Try.prog w r b0 49 v) (h : DataW.Trod enc Try.prog w base (fun _ => true) held 49 v d p) :
    ∃ x : Mp, v = .agg (mpA x) ∧ MpAt w x ∧ MsgOk x := by
  unfold Value.okWide at hv
  rw [Try.underlying49] at hv
  simp only at hv
  obtain ⟨cs, rfl, hsz, ts, hts, _, hall⟩ := hv
  have hts2 : Try.prog.cellTypes Try.prog.depth 49 = some [3, 3, 3, 24, 24, 24, 24, 24, 4, 4, 25, 24, 24, 45, 22] := by kernel_rfl
  rw [hts2] at hts
  simp only [Option.some.injEq] at hts
  subst hts
  have hC : Try.prog.cellsOf 49 = 15 := by kernel_rfl
  rw [hC] at hsz
  obtain ⟨cs⟩ := cs
  match cs, hsz with
  | [c0, c1, c2, c3, c4, c5, c6, c7, c8, c9, c10, c11, c12, c13, c14], _ =>
    obtain ⟨u10, hu10, hc10⟩ := hall 10 c10 rfl
    have hv10 : u10 = 25 := by simpa using hu10.symm
    subst hv10
    have hw10 : Value.okWide Try.prog w r b0 25 c10 := by unfold Value.okWide; rw [Try.underlying25]; exact hc10
    obtain ⟨ao10, len10, cap10, rfl⟩ := okWide_slice Try.underlying25 hw10
    obtain ⟨u13, hu13, hc13⟩ := hall 13 c13 rfl
    have hv13 : u13 = 45 := by simpa using hu13.symm
    subst hv13
    have hw13 : Value.okWide Try.prog w r b0 45 c13 := by unfold Value.okWide; rw [Try.underlying45]; exact hc13
    obtain ⟨ao13, len13, cap13, rfl⟩ := okWide_slice Try.underlying45 hw13
    obtain ⟨u14, hu14, hc14⟩ := hall 14 c14 rfl
    have hv14 : u14 = 22 := by simpa using hu14.symm
    subst hv14
    have hw14 : Value.okWide Try.prog w r b0 22 c14 := by unfold Value.okWide; rw [Try.underlying22]; exact hc14
    obtain ⟨ao14, len14, cap14, rfl⟩ := okWide_slice Try.underlying22 hw14
    obtain ⟨fuel, hf⟩ := h
    obtain ⟨xs, n, _, hx, _, hlen, hg⟩ := DataW.trod_struct Try.underlying49 hf
    match xs, hlen with
    | [y0, y1, y2, y3, y4, y5, y6, y7, y8, y9, y10, y11], _ =>
      have t0 := hg 0 _ rfl
      have t1 := hg 1 _ rfl
      have t2 := hg 2 _ rfl
      have t3 := hg 3 _ rfl
      have t4 := hg 4 _ rfl
      have t5 := hg 5 _ rfl
      have t6 := hg 6 _ rfl
      have t7 := hg 7 _ rfl
      have t8 := hg 8 _ rfl
      have t9 := hg 9 _ rfl
      have t10 := hg 10 _ rfl
      have t11 := hg 11 _ rfl
      have ki : Try.prog.cellsOf 3 = 1 := by kernel_rfl
      have ku : Try.prog.cellsOf 24 = 1 := by kernel_rfl
      have kb : Try.prog.cellsOf 4 = 1 := by kernel_rfl
      have ke : Try.prog.cellsOf 25 = 1 := by kernel_rfl
      have kl : Try.prog.cellsOf 45 = 1 := by kernel_rfl
      have kd : Try.prog.cellsOf 22 = 1 := by kernel_rfl
      have ks : Try.prog.cellsOf 47 = 4 := by kernel_rfl
      simp [Value.cells, ki, ku, kb, ke, ks] at t0 t1 t2 t3 t4 t5 t6 t7 t8 t9 t10 t11
      obtain ⟨n0, e0, d0, w0⟩ := DataW.trod_int (k := .i64) Try.underlying3 t0
      simp at e0
      subst e0
      obtain ⟨n1, e1, d1, w1⟩ := DataW.trod_int (k := .i64) Try.underlying3 t1
      simp at e1
      subst e1
      obtain ⟨n2, e2, d2, w2⟩ := DataW.trod_int (k := .i64) Try.underlying3 t2
      simp at e2
      subst e2
      obtain ⟨n3, e3, d3, w3⟩ := DataW.trod_int (k := .u64) Try.underlying24 t3
      simp at e3
      subst e3
      obtain ⟨n4, e4, d4, w4⟩ := DataW.trod_int (k := .u64) Try.underlying24 t4
      simp at e4
      subst e4
      obtain ⟨n5, e5, d5, w5⟩ := DataW.trod_int (k := .u64) Try.underlying24 t5
      simp at e5
      subst e5
      obtain ⟨n6, e6, d6, w6⟩ := DataW.trod_int (k := .u64) Try.underlying24 t6
      simp at e6
      subst e6
      obtain ⟨n7, e7, d7, w7⟩ := DataW.trod_int (k := .u64) Try.underlying24 t7
      simp at e7
      subst e7
      obtain ⟨n8, e8, d8⟩ := DataW.trod_bool Try.underlying4 t8
      simp at e8
      subst e8
      obtain ⟨n9, e9, d9⟩ := DataW.trod_bool Try.underlying4 t9
      simp at e9
      subst e9
      obtain ⟨el, hel, hens, _⟩ := open_eps (by simpa [Value.cells] using t10)
      subst hel
      obtain ⟨xs2, nn2, _, hx2, _, hlen2, hg2⟩ := DataW.trod_struct Try.underlying47 t11
      match xs2, hlen2 with
      | [z0, z1, z2, z3], _ =>
        have s0 := hg2 0 _ rfl
        have s1 := hg2 1 _ rfl
        have s2 := hg2 2 _ rfl
        have s3 := hg2 3 _ rfl
        simp [ku, kl, kd] at s0 s1 s2 s3
        obtain ⟨m0, f0, g0, v0⟩ := DataW.trod_int (k := .u64) Try.underlying24 s0
        obtain ⟨m1, f1, g1, v1⟩ := DataW.trod_int (k := .u64) Try.underlying24 s1
        simp at f0 f1
        subst f0; subst f1
        obtain ⟨ml, hml, hmem, _⟩ := open_is Try.underlying45 Try.underlying3 (by kernel_rfl) (by simpa [Value.cells] using s2)
        subst hml
        obtain ⟨dl, hdl, hdat⟩ := open_bs Try.underlying22 Try.underlying5 (by kernel_rfl) (by simpa [Value.cells] using s3)
        subst hdl
        exact ⟨⟨n0, n1, n2, n3, n4, n5, n6, n7, n8, n9, ao10, cap10, el, m0, m1, ao13, cap13, ml, ao14, cap14, dl⟩, rfl, ⟨hens, hmem, hdat⟩, (bounds_u64 w4).1, (bounds_u64 w5).1, (bounds_u64 w6).1, (bounds_u64 w7).1⟩
end
end Go.Proofs.Ytlphpjgiaflfkaa
namespace Go.Proofs.Ytlphpjgiaflfkaa.Crc
set_option linter.unusedVariables false
set_option linter.unusedSimpArgs false
set_option linter.unusedSectionVars false
theorem iter_add (m n s : Nat) : iter (m + n) s = iter m (iter n s) := by
  induction m with
  | zero => simp [iter]
  | succ m ih => rw [Nat.succ_add]; simp only [iter, ih]
theorem iter_zero (m : Nat) : iter m 0 = 0 := by
  induction m with
  | zero => rfl
  | succ m ih => simp only [iter, ih]; decide
theorem iter_xor (m x y : Nat) (hx : x < 16777216) (hy : y < 16777216) : iter m (x ^^^ y) = iter m x ^^^ iter m y := by
  induction m with
  | zero => rfl
  | succ m ih => simp only [iter, ih]; exact shl1_xor _ _ (iter_lt m x hx) (iter_lt m y hy)
/-- shifting without overflow -/
theorem iter_low (r x : Nat) (h : x * 2 ^ r < 16777216) : iter r x = x * 2 ^ r := by
  induction r with
  | zero => simp [iter]
  | succ r ih =>
    rw [Nat.pow_succ, ← Nat.mul_assoc] at h
    simp only [iter]
    rw [ih (by omega), shl1_low _ (by omega), Nat.pow_succ, Nat.mul_assoc]
theorem shl1_ne (x : Nat) (h : x < 16777216) (h0 : x ≠ 0) : shl1 x ≠ 0 := by
  unfold shl1
  split
  · omega
  · intro e
    have e2 : x * 2 % 16777216 = 8801531 := by
      have h1 : (x * 2 % 16777216 ^^^ 8801531) ^^^ 8801531 = 0 ^^^ 8801531 := by rw [e]
      rwa [Nat.xor_assoc, Nat.xor_self, Nat.xor_zero, Nat.zero_xor] at h1
    omega
theorem iter_ne (m x : Nat) (h : x < 16777216) (h0 : x ≠ 0) : iter m x ≠ 0 := by
  induction m with
  | zero => exact h0
  | succ m ih => exact shl1_ne _ (iter_lt m x h) ih
theorem byteP_xor (x y c : Nat) (hx : x < 16777216) (hy : y < 16777216) (hc : c < 256) : byteP (x ^^^ y) c = byteP x c ^^^ iter 8 y := by
  unfold byteP
  rw [Nat.xor_assoc, Nat.xor_comm y, ← Nat.xor_assoc, iter_xor 8 _ _ (xor_lt hx (by omega)) hy]
theorem on_xor (l : List UInt8) : ∀ x y, x < 16777216 → y < 16777216 → on (x ^^^ y) l = on x l ^^^ iter (8 * l.length) y := by
  induction l with
  | nil => intro x y _ _; rfl
  | cons c l ih =>
    intro x y hx hy
    have hc := c.toNat_lt
    show on (byteP (x ^^^ y) c.toNat) l = on (byteP x c.toNat) l ^^^ _
    rw [byteP_xor x y _ hx hy hc, ih _ _ (byteP_lt x _ hx hc) (iter_lt 8 y hy), ← iter_add]
    congr 2
/-- a change of one byte -/
theorem byteP_turn (x c m : Nat) (hx : x < 16777216) (hc : c < 256) (hm : m < 256) : byteP x (c ^^^ m) = byteP x c ^^^ iter 8 (m * 65536) := by
  unfold byteP
  have e : (c ^^^ m) * 65536 = (c * 65536) ^^^ (m * 65536) := by
    have := Nat.shiftLeft_xor_distrib (a := c) (b := m) (i := 16)
    rwa [Nat.shiftLeft_eq, Nat.shiftLeft_eq, Nat.shiftLeft_eq] at this
  rw [e, ← Nat.xor_assoc, iter_xor 8 _ _ (xor_lt hx (by omega)) (by omega)]
theorem on_set (s : Nat) (hs : s < 16777216) (l : List UInt8) (p : Nat) (hp : p < l.length) (d : UInt8) : on s (l.set p (l[p] ^^^ d)) = on s l ^^^ iter (8 * (l.length - p)) (d.toNat * 65536) := by
  have e1 : l = l.take p ++ l[p] :: l.drop (p + 1) := by
    rw [← List.drop_eq_getElem_cons hp, List.take_append_drop]
  have e2 : l.set p (l[p] ^^^ d) = l.take p ++ (l[p] ^^^ d) :: l.drop (p + 1) := List.set_eq_take_append_cons_drop .. |>.trans (if_pos hp)
  have hx := on_lt (l.take p) s hs
  have hc := (l[p]).toNat_lt
  have hd := d.toNat_lt
  have q1 : on s (l.set p (l[p] ^^^ d)) = on (byteP (on s (l.take p)) (l[p].toNat ^^^ d.toNat)) (l.drop (p + 1)) := by
    rw [e2, on_append]
    show on (byteP _ (l[p] ^^^ d).toNat) _ = _
    rw [UInt8.toNat_xor]
  have q2 : on s l = on (byteP (on s (l.take p)) l[p].toNat) (l.drop (p + 1)) := by
    conv => lhs; rw [e1]
    rw [on_append]
    rfl
  rw [q1, q2, byteP_turn _ _ _ hx hc hd, on_xor _ _ _ (byteP_lt _ _ hx hc) (iter_lt 8 _ (by omega)), ← iter_add, List.length_drop]
  congr 2
  omega
/-- the sum over what was sealed is zero -/
theorem on_tail (s : Nat) (h : s < 16777216) : on s (tail s) = 0 := by
  show byteP (byteP (byteP s (UInt8.ofNat (s / 65536)).toNat) (UInt8.ofNat (s / 256)).toNat) (UInt8.ofNat s).toNat = 0
  have t2 : (UInt8.ofNat (s / 65536)).toNat = s / 65536 := by simp only [UInt8.toNat_ofNat', Nat.reducePow]; omega
  have t1 : (UInt8.ofNat (s / 256)).toNat = s / 256 % 256 := by simp only [UInt8.toNat_ofNat', Nat.reducePow]
  have t0 : (UInt8.ofNat s).toNat = s % 256 := by simp only [UInt8.toNat_ofNat', Nat.reducePow]
  rw [t2, t1, t0]
  have x1 : s ^^^ (s / 65536 * 65536) = s % 65536 := xor_high s 16 h
  have x2 : (s % 65536 * 256) ^^^ (s / 256 % 256 * 65536) = s % 256 * 256 := by
    have := xor_high (s % 65536 * 256) 16 (by omega)
    rw [show s % 65536 * 256 / 2 ^ 16 * 2 ^ 16 = s / 256 % 256 * 65536 from by simp only [Nat.reducePow]; omega] at this
    rw [this]; simp only [Nat.reducePow]; omega
  unfold byteP
  rw [x1, iter_low 8 (s % 65536) (by simp only [Nat.reducePow]; omega), show s % 65536 * 2 ^ 8 = s % 65536 * 256 from rfl, x2, iter_low 8 (s % 256 * 256) (by simp only [Nat.reducePow]; omega)]
  have x3 : s % 256 * 256 * 2 ^ 8 ^^^ (s % 256 * 65536) = 0 := by
    rw [show s % 256 * 256 * 2 ^ 8 = s % 256 * 65536 from by simp only [Nat.reducePow]; omega, Nat.xor_self]
  rw [x3]; exact iter_zero 8
where
  xor_high (s k : Nat) (_ : s < 16777216) : s ^^^ (s / 2 ^ k * 2 ^ k) = s % 2 ^ k := by
    apply Nat.eq_of_testBit_eq
    intro j
    rw [Nat.testBit_xor, Nat.testBit_mod_two_pow, Nat.testBit_mul_two_pow]
    by_cases hj : j < k
    · have : ¬ k ≤ j := by omega
      simp [hj, this]
    · have h2 : k ≤ j := by omega
      simp [hj, h2, Nat.testBit_div_two_pow, Nat.sub_add_cancel h2]
theorem on_sealed (l : List UInt8) : on 11994318 (sealed l) = 0 := by
  unfold sealed
  rw [on_append]
  exact on_tail _ (sum_lt l)
theorem opened_zero (l : List UInt8) (h : on 11994318 l ≠ 0) : opened l = none := by
  refine if_neg fun ⟨_, e⟩ => h ?_
  rw [← e]; exact on_sealed _
end Go.Proofs.Ytlphpjgiaflfkaa.Crc
namespace Go.Proofs.Ytlphpjgiaflfkaa
set_option linter.unusedVariables false
set_option linter.unusedSimpArgs false
set_option linter.unusedSectionVars false
open Go Go.RowKit Go.Shelf
/-- three bytes side by side, turned by 24 bits that are not all zero -/
theorem on_three (l : List UInt8) (p : Nat) (hp : p + 2 < l.length) (a b c : UInt8) (h0 : Crc.on 11994318 l = 0) (hne : ¬ (a = 0 ∧ b = 0 ∧ c = 0)) :
    Crc.on 11994318 (((l.set p (l[p] ^^^ a)).set (p + 1) (l[p + 1] ^^^ b)).set (p + 2) (l[p + 2] ^^^ c)) ≠ 0 := by
  have ha := a.toNat_lt
  have hb := b.toNat_lt
  have hc := c.toNat_lt
  have e1 := Crc.on_set 11994318 (by decide) l p (by omega) a
  obtain ⟨l1, hl1⟩ : ∃ l1, l1 = l.set p (l[p] ^^^ a) := ⟨_, rfl⟩
  have n1 : l1.length = l.length := by rw [hl1]; simp
  have g1 : l1[p + 1]'(by omega) = l[p + 1] := by simp [hl1]
  have g2 : l1[p + 2]'(by omega) = l[p + 2] := by simp [hl1]
  have e2 := Crc.on_set 11994318 (by decide) l1 (p + 1) (by omega) b
  rw [g1] at e2
  obtain ⟨l2, hl2⟩ : ∃ l2, l2 = l1.set (p + 1) (l[p + 1] ^^^ b) := ⟨_, rfl⟩
  have n2 : l2.length = l.length := by rw [hl2]; simp [n1]
  have g3 : l2[p + 2]'(by omega) = l[p + 2] := by simp [hl2, g2]
  have e3 := Crc.on_set 11994318 (by decide) l2 (p + 2) (by omega) c
  rw [g3] at e3
  rw [← hl1] at e1
  rw [← hl1, ← hl2, e3, hl2, e2, e1, h0, n1]
  rw [show (l1.set (p + 1) (l[p + 1] ^^^ b)).length = l.length from by simp [n1]]
  obtain ⟨N, hN⟩ : ∃ N, N = 8 * (l.length - (p + 2)) := ⟨_, rfl⟩
  rw [show 8 * (l.length - p) = (N + 0) + 16 from by omega, show 8 * (l.length - (p + 1)) = N + 8 from by omega, ← hN]
  have i1 : Crc.iter (N + 8) (b.toNat * 65536) = Crc.iter ((N + 0) + 16) (b.toNat * 256) := by
    rw [show (N + 0) + 16 = (N + 8) + 8 from by omega, Crc.iter_add (N + 8) 8, Crc.iter_low 8 _ (by omega), show b.toNat * 256 * 2 ^ 8 = b.toNat * 65536 from by omega]
  have i2 : Crc.iter N (c.toNat * 65536) = Crc.iter ((N + 0) + 16) c.toNat := by
    rw [show (N + 0) + 16 = N + 16 from by omega, Crc.iter_add N 16, Crc.iter_low 16 _ (by omega)]
  rw [i1, i2, Nat.zero_xor, ← Crc.iter_xor _ _ _ (by omega) (by omega), ← Crc.iter_xor _ _ _ (Crc.xor_lt (by omega) (by omega)) (by omega)]
  refine Crc.iter_ne _ _ (Crc.xor_lt (Crc.xor_lt (by omega) (by omega)) (by omega)) fun h => hne ?_
  have hx : ∀ x y : Nat, x ^^^ y = 0 → x = y := fun x y h => by
    have h1 : (x ^^^ y) ^^^ y = 0 ^^^ y := by rw [h]
    rwa [Nat.xor_assoc, Nat.xor_self, Nat.xor_zero, Nat.zero_xor] at h1
  have h1 := hx _ _ h
  -- a * 65536 ^^^ b * 256 = c < 256
  have key : ∀ k m : Nat, k ^^^ m = c.toNat → k / 256 = m / 256 := fun k m h => by
    have h2 : (k ^^^ m) >>> 8 = c.toNat >>> 8 := by rw [h]
    rw [Nat.shiftRight_xor_distrib, Nat.shiftRight_eq_div_pow, Nat.shiftRight_eq_div_pow, Nat.shiftRight_eq_div_pow] at h2
    have h3 : c.toNat / 2 ^ 8 = 0 := by omega
    rw [h3] at h2
    exact hx _ _ h2
  have h4 := key _ _ h1
  have hb0 : a.toNat = 0 := by omega
  have hb1 : b.toNat = 0 := by omega
  rw [hb0, hb1] at h1
  simp at h1
  exact ⟨UInt8.toNat_inj.1 hb0, UInt8.toNat_inj.1 hb1, UInt8.toNat_inj.1 h1.symm⟩
theorem wire_turned (mx : Nat) (l : List UInt8) (h : Crc.on 11994318 l ≠ 0) : wireR mx l = (ms0, false) := by
  have h2 := Fr.take_none l (Crc.opened_zero l h)
  unfold wireR
  rw [if_neg fun hw => h2 hw.1]
theorem wire_cut (mx : Nat) (m : Ms) (hl : (bodyB m).length ≤ 65536) (k : Nat) (hk : k < (wireB m).length) : wireR mx ((wireB m).take k) = (ms0, false) := by
  cases h : (wireR mx ((wireB m).take k)).2 with
  | false => exact Prod.ext (wireR_none mx _ h) h
  | true =>
    exfalso
    have hw : wholeF 5 ((wireB m).take k) := by
      by_cases hw : wholeF 5 ((wireB m).take k)
      · exact hw
      · unfold wireR at h; rw [if_neg hw] at h; cases h
    obtain ⟨e, hb⟩ := wrapped_of 5 _ hw
    have h1 : wireB m = (wireB m).take k ++ (wireB m).drop k := (List.take_append_drop k _).symm
    rw [e] at h1
    have h2 := Fr.take_wrapped 5 (Fr.take ((wireB m).take k)).body ((wireB m).drop k) (by decide) hb
    rw [← h1] at h2
    have h3 := Fr.take_wrapped 5 (bodyB m) [] (by decide) hl
    rw [List.append_nil] at h3
    have h4 : Fr.take (wireB m) = ⟨5, bodyB m, (bodyB m).length + 8, 0⟩ := h3
    rw [h4] at h2
    have h5 := congrArg List.length e
    rw [Fr.wrapped_length, List.length_take] at h5
    have h6 : (wireB m).length = (bodyB m).length + 8 := Fr.wrapped_length _ _
    have h7 : (bodyB m).length = (Fr.take ((wireB m).take k)).body.length := by
      have := congrArg Fr.Taken.body h2
      rw [← this]
    omega
theorem wire_zero (m : Ms) : Crc.on 11994318 (wireB m) = 0 := Crc.on_sealed _
theorem xor_nat8 (c : UInt8) (m : Nat) (hm : m < 256) : bits BinOp.xor IntKind.u8 (c.toNat : Int) (m : Int) = ((c ^^^ UInt8.ofNat m).toNat : Int) := by
  rw [u8_xor_nat _ _ c.toNat_lt hm, UInt8.toNat_xor]
  simp [Nat.mod_eq_of_lt hm]
end Go.Proofs.Ytlphpjgiaflfkaa
