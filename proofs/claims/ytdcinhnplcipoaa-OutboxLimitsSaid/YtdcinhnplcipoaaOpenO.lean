/- Arguments that came in, opened: a state of a box, a row of operations, one operation. No statement of the seat is proved here. -/
import Derived.Test.YtdcinhnplcipoaaOpenN
import Derived.Test.YtdcinhnplcipoaaOpenR
namespace Go.Proofs.Ytdcinhnplcipoaa
set_option linter.unusedVariables false
set_option linter.unusedSimpArgs false
set_option linter.unusedSectionVars false
open Go Go.Joins Go.ChangeShapes Go.WideShapes Go.ChangeAt Go.RowKit Go.Deep

/-- an operation -/
structure Opn where
  k : Int
  n : No
  at' : Int
deriving Inhabited
def opCells (o : Opn) : List Value := [.int .i64 o.k, .int .u64 o.n.id, .int .u64 o.n.tk, .int .i64 o.n.lv, .int .i64 o.n.pt, .int .i64 o.n.st, .int .i64 o.n.tr, .int .i64 o.n.rt, .int .i64 o.n.wt, .int .i64 o.n.nx, .int .i64 o.at']
def opVal (o : Opn) : Value := .agg #[.int .i64 o.k, .int .u64 o.n.id, .int .u64 o.n.tk, .int .i64 o.n.lv, .int .i64 o.n.pt, .int .i64 o.n.st, .int .i64 o.n.tr, .int .i64 o.n.rt, .int .i64 o.n.wt, .int .i64 o.n.nx, .int .i64 o.at']
def OpOk (o : Opn) : Prop := (Lit.int .i64 o.k).wf = true ∧ NoOk o.n ∧ (Lit.int .i64 o.at').wf = true

section
variable {H : Type} {enc : TypeId × Value → H} {w : World} {base : Nat} {spare : Nat → Bool} {held : Bool}
set_option maxRecDepth 100000 in
theorem row_no (n : Nat) (cs : List Value) (y : DataW H × List MemPlace) (hcs : cs.length = 9) (h : DataW.trod enc Try.prog w base spare held n 24 cs = some y) : ∃ a : No, cs = noCells a ∧ NoOk a := by
  obtain ⟨xs, m, _, hx, _, hlen, hg⟩ := DataW.trod_struct Try.underlying24 h
  match cs, hcs with
  | [c0, c1, c2, c3, c4, c5, c6, c7, c8], _ =>
    match xs, hlen with
    | [y0, y1, y2, y3, y4, y5, y6, y7, y8], _ =>
      have hone : oneCellFields Try.prog _ = true := (by kernel_rfl : oneCellFields Try.prog (match Try.prog.underlying 24 with | some (.struct fs) => fs | _ => #[]) = true)
      rw [Try.underlying24] at hone
      obtain ⟨o0, k0⟩ := hone_of hone 0 _ rfl
      obtain ⟨o1, k1⟩ := hone_of hone 1 _ rfl
      obtain ⟨o2, k2⟩ := hone_of hone 2 _ rfl
      obtain ⟨o3, k3⟩ := hone_of hone 3 _ rfl
      obtain ⟨o4, k4⟩ := hone_of hone 4 _ rfl
      obtain ⟨o5, k5⟩ := hone_of hone 5 _ rfl
      obtain ⟨o6, k6⟩ := hone_of hone 6 _ rfl
      obtain ⟨o7, k7⟩ := hone_of hone 7 _ rfl
      obtain ⟨o8, k8⟩ := hone_of hone 8 _ rfl
      have t0 := hg 0 _ rfl
      have t1 := hg 1 _ rfl
      have t2 := hg 2 _ rfl
      have t3 := hg 3 _ rfl
      have t4 := hg 4 _ rfl
      have t5 := hg 5 _ rfl
      have t6 := hg 6 _ rfl
      have t7 := hg 7 _ rfl
      have t8 := hg 8 _ rfl
      rw [o0, k0] at t0
      rw [o1, k1] at t1
      rw [o2, k2] at t2
      rw [o3, k3] at t3
      rw [o4, k4] at t4
      rw [o5, k5] at t5
      rw [o6, k6] at t6
      rw [o7, k7] at t7
      rw [o8, k8] at t8
      obtain ⟨n0, e0, d0, w0⟩ := DataW.trod_int (k := .u64) Try.underlying22 t0
      obtain ⟨n1, e1, d1, w1⟩ := DataW.trod_int (k := .u64) Try.underlying22 t1
      obtain ⟨n2, e2, d2, w2⟩ := DataW.trod_int (k := .i64) Try.underlying3 t2
      obtain ⟨n3, e3, d3, w3⟩ := DataW.trod_int (k := .i64) Try.underlying3 t3
      obtain ⟨n4, e4, d4, w4⟩ := DataW.trod_int (k := .i64) Try.underlying3 t4
      obtain ⟨n5, e5, d5, w5⟩ := DataW.trod_int (k := .i64) Try.underlying3 t5
      obtain ⟨n6, e6, d6, w6⟩ := DataW.trod_int (k := .i64) Try.underlying3 t6
      obtain ⟨n7, e7, d7, w7⟩ := DataW.trod_int (k := .i64) Try.underlying2 t7
      obtain ⟨n8, e8, d8, w8⟩ := DataW.trod_int (k := .i64) Try.underlying2 t8
      simp at e0 e1 e2 e3 e4 e5 e6 e7 e8
      subst e0; subst e1; subst e2; subst e3; subst e4; subst e5; subst e6; subst e7; subst e8
      exact ⟨⟨n0, n1, n2, n3, n4, n5, n6, n7, n8⟩, rfl, w0, w1, w2, w3, w4, w5, w6, w7, w8⟩
set_option maxRecDepth 100000 in
theorem row_op (n : Nat) (cs : List Value) (y : DataW H × List MemPlace) (hcs : cs.length = 11) (h : DataW.trod enc Try.prog w base spare held n 41 cs = some y) : ∃ a : Opn, cs = opCells a ∧ OpOk a := by
  obtain ⟨xs, m, _, hx, _, hlen, hg⟩ := DataW.trod_struct Try.underlying41 h
  match xs, hlen with
  | [y0, y1, y2], _ =>
    have t0 := hg 0 _ rfl
    have t1 := hg 1 _ rfl
    have t2 := hg 2 _ rfl
    have k2 : Try.prog.cellsOf 3 = 1 := by kernel_rfl
    have k3 : Try.prog.cellsOf 2 = 1 := by kernel_rfl
    have k9 : Try.prog.cellsOf 24 = 9 := by kernel_rfl
    match cs, hcs with
    | [c0, c1, c2, c3, c4, c5, c6, c7, c8, c9, c10], _ =>
      simp [k2, k3, k9] at t0 t1 t2
      obtain ⟨n0, e0, d0, w0⟩ := DataW.trod_int (k := .i64) Try.underlying3 t0
      obtain ⟨n2, e2, d2, w2⟩ := DataW.trod_int (k := .i64) Try.underlying2 t2
      obtain ⟨a, ea, wa⟩ := row_no _ _ _ rfl t1
      simp [noCells] at e0 e2 ea
      obtain ⟨a1, a2, a3, a4, a5, a6, a7, a8, a9⟩ := ea
      subst e0; subst e2; subst a1; subst a2; subst a3; subst a4; subst a5; subst a6; subst a7; subst a8; subst a9
      exact ⟨⟨n0, a, n2⟩, rfl, w0, wa, w2⟩
end
set_option maxRecDepth 100000 in
theorem rowAt_leaf {fits : TypeId → Bool} {e : TypeId} (h : fits e = false) (hs : ∀ fs, Try.prog.underlying e ≠ some (.struct fs)) (ha : ∀ m e', Try.prog.underlying e ≠ some (.array m e')) : ∀ d count off n, rowAt Try.prog fits d e count off n = false := by
  intro d count off n
  cases d with
  | zero => rfl
  | succ d =>
    unfold rowAt
    simp only [h, Bool.and_false, Bool.false_or]
    split
    · rfl
    · first
      | rfl
      | (split
         · rename_i fs hu; exact absurd hu (hs fs)
         · rename_i m e' hu; exact absurd hu (ha m e')
         · simp)
set_option maxRecDepth 100000 in
theorem rowAt_struct {fits : TypeId → Bool} {e : TypeId} {fs : Array Field} (h : fits e = false) (hu : Try.prog.underlying e = some (.struct fs)) (hf : ∀ f ∈ fs, ∀ d count off n, rowAt Try.prog fits d f.type count off n = false) : ∀ d count off n, rowAt Try.prog fits d e count off n = false := by
  intro d count off n
  cases d with
  | zero => rfl
  | succ d =>
    unfold rowAt
    simp only [h, Bool.and_false, Bool.false_or, hu]
    split
    · rfl
    · rw [Bool.and_eq_false_iff]
      right
      rw [Bool.and_eq_false_iff]
      right
      rw [Array.any_eq_false']
      intro f hfm
      rw [hf f hfm]
      simp
set_option maxRecDepth 100000 in
theorem lies_far {T : TypeId} {count off n : Nat} (hT : farT T = false) : liesAt Try.prog Try.prog.depth T count off 24 n = false := by
  obtain ⟨fitsNo, hfn⟩ : ∃ f : TypeId → Bool, f = fun t => sameLayout Try.prog Try.prog.depth t 24 := ⟨_, rfl⟩
  have hu64 : ∀ d count off n, rowAt Try.prog fitsNo d 22 count off n = false := rowAt_leaf (by rw [hfn]; kernel_rfl) (fun fs h => by rw [Try.underlying22] at h; cases h) (fun m e h => by rw [Try.underlying22] at h; cases h)
  have hbool : ∀ d count off n, rowAt Try.prog fitsNo d 4 count off n = false := rowAt_leaf (by rw [hfn]; kernel_rfl) (fun fs h => by rw [Try.underlying4] at h; cases h) (fun m e h => by rw [Try.underlying4] at h; cases h)
  have hsl : ∀ d count off n, rowAt Try.prog fitsNo d 42 count off n = false := rowAt_leaf (by rw [hfn]; kernel_rfl) (fun fs h => by rw [Try.underlying42] at h; cases h) (fun m e h => by rw [Try.underlying42] at h; cases h)
  have hst : ∀ d count off n, rowAt Try.prog fitsNo d 53 count off n = false := by
    refine rowAt_struct (by rw [hfn]; kernel_rfl) Try.underlying53 ?_
    intro f hf
    simp at hf
    rcases hf with rfl | rfl
    · exact hu64
    · exact hsl
  have hbx : ∀ d count off n, rowAt Try.prog fitsNo d 62 count off n = false := by
    refine rowAt_struct (by rw [hfn]; kernel_rfl) Try.underlying62 ?_
    intro f hf
    simp at hf
    rcases hf with rfl | rfl | rfl
    · exact hbool
    · exact hu64
    · exact hsl
  have key : ∀ d count off n, rowAt Try.prog fitsNo d T count off n = false := by
    unfold farT at hT
    simp only [Bool.not_eq_false', Bool.or_eq_true, beq_iff_eq] at hT
    rcases hT with (rfl | rfl) | rfl
    · exact hst
    · exact hbx
    · exact hu64
  obtain ⟨d, hd⟩ : ∃ d, d = Try.prog.depth := ⟨_, rfl⟩
  have key2 := key d
  cases hd2 : Try.prog.depth with
  | zero => rfl
  | succ d' =>
    unfold liesAt
    have := key Try.prog.depth count off n
    rw [hfn] at this
    rw [this, Try.underlying24]
    rfl
set_option maxRecDepth 100000 in
theorem ns_arg {w : World} {r : Reach} {base : Nat} {ao : Option Addr} {cap : Nat} {l : List No} (hs : Sl w 9 ao l.length cap (l.map noCells).flatten) (hv : Cell.okWide Try.prog w r base 42 (.slice ao l.length cap)) : Ns w ao cap l := by
  refine ⟨hs, fun b off s e h0 => ?_⟩
  subst e
  unfold Cell.okWide at hv
  rw [Try.underlying42] at hv
  simp only at hv
  unfold Cell.ok at hv
  rw [Try.underlying42] at hv
  simp only at hv
  obtain ⟨h1, _, _, _, row, cells, hsh, hli⟩ := hv
  simp only at hsh hli
  refine ⟨row, ?_, ?_⟩
  · unfold World.shape? at hsh
    unfold elem?
    split at hsh
    · rename_i c e' f' hh
      simp only [Option.some.injEq, Prod.mk.injEq] at hsh
      rw [hh]
      simp only [hsh.1]
    · cases hsh
  · cases hf : farT row with
    | true => rfl
    | false => rw [lies_far hf] at hli; cases hli
section
variable {H : Type} {enc : TypeId × Value → H} {w : World} {base : Nat} {held : Bool}
set_option maxRecDepth 100000 in
theorem open_state {r : Reach} {b0 : Nat} {v : Value} {d : DataW H} {p : List MemPlace} (hv : Value.okWide Try.prog w r b0 44 v) (h : DataW.Trod enc Try.prog w base (fun _ => true) held 44 v d p) :
    ∃ (last : Int) (ao : Option Addr) (cap : Nat) (l : List No), v = .agg #[.int .u64 last, .slice ao l.length cap] ∧ (Lit.int .u64 last).wf = true ∧ Ns w ao cap l ∧ ∀ n ∈ l, NoOk n := by
  unfold Value.okWide at hv
  rw [Try.underlying44] at hv
  simp only at hv
  obtain ⟨cs, rfl, hsz, ts, hts, _, hall⟩ := hv
  have hts2 : Try.prog.cellTypes Try.prog.depth 44 = some [22, 42] := by kernel_rfl
  rw [hts2] at hts
  simp only [Option.some.injEq] at hts
  subst hts
  have hC : Try.prog.cellsOf 44 = 2 := by kernel_rfl
  rw [hC] at hsz
  obtain ⟨cs⟩ := cs
  match cs, hsz with
  | [c0, c1], _ =>
    obtain ⟨u, hu, hc1⟩ := hall 1 c1 rfl
    have hu2 : u = 42 := by simpa using hu.symm
    subst hu2
    have hv1 : Value.okWide Try.prog w r b0 42 c1 := by unfold Value.okWide; rw [Try.underlying42]; exact hc1
    obtain ⟨ao, len, cap, rfl⟩ := okWide_slice Try.underlying42 hv1
    obtain ⟨fuel, hf⟩ := h
    obtain ⟨xs, n, _, hx, _, hlen, hg⟩ := DataW.trod_struct Try.underlying44 hf
    match xs, hlen with
    | [y0, y1], _ =>
      have t0 := hg 0 _ rfl
      have t1 := hg 1 _ rfl
      have k0 : Try.prog.cellsOf 22 = 1 := by kernel_rfl
      have k1 : Try.prog.cellsOf 42 = 1 := by kernel_rfl
      simp [Value.cells, k0, k1] at t0 t1
      obtain ⟨n0, e0, d0, w0⟩ := DataW.trod_int (k := .u64) Try.underlying22 t0
      simp at e0
      subst e0
      obtain ⟨l, hl, hsl, hok⟩ := open_rows noCells NoOk (fun _ => rfl) (by decide) Try.underlying42 (by kernel_rfl) (fun n cs y hcs hy => row_no n cs y hcs hy) (by simpa [Value.cells] using t1)
      subst hl
      exact ⟨n0, ao, cap, l, rfl, w0, ns_arg hsl hc1, hok⟩
/-- a row of operations, read -/
def Ops (w : World) (ao : Option Addr) (cap : Nat) (l : List Opn) : Prop := Sl w 11 ao l.length cap (l.map opCells).flatten
set_option maxRecDepth 100000 in
theorem open_ops {fuel : Nat} {ao : Option Addr} {len cap : Nat} {x : DataW H × List MemPlace} (h : DataW.trod enc Try.prog w base (fun _ => true) held fuel 38 (Value.slice ao len cap).cells.toList = some x) :
    ∃ l : List Opn, len = l.length ∧ Ops w ao cap l ∧ ∀ a ∈ l, OpOk a :=
  open_rows opCells OpOk (fun _ => rfl) (by decide) Try.underlying38 (by kernel_rfl) (fun n cs y hcs hy => row_op n cs y hcs hy) h
set_option maxRecDepth 100000 in
theorem open_op {r : Reach} {b0 : Nat} {v : Value} {d : DataW H} {p : List MemPlace} (hv : Value.okWide Try.prog w r b0 41 v) (h : DataW.Trod enc Try.prog w base (fun _ => true) held 41 v d p) : ∃ o : Opn, v = opVal o ∧ OpOk o := by
  obtain ⟨cs, rfl, hsz⟩ := okWide_struct Try.underlying41 hv
  have hC : Try.prog.cellsOf 41 = 11 := by kernel_rfl
  rw [hC] at hsz
  obtain ⟨cs⟩ := cs
  obtain ⟨fuel, hf⟩ := h
  have hf2 : DataW.trod enc Try.prog w base (fun _ => true) held fuel 41 cs = some (d, p) := by simpa [Value.cells] using hf
  obtain ⟨o, ho, hok⟩ := row_op _ cs _ (by simpa using hsz) hf2
  subst ho
  exact ⟨o, rfl, hok⟩
end
theorem Ops.get {w : World} {ao : Option Addr} {cap : Nat} {l : List Opn} (h : Ops w ao cap l) (i : Nat) (hi : i < l.length) :
    ∃ b off, ao = some ⟨b, off, none⟩ ∧ ∀ j (hj : j < 11), w.cell? ⟨b, off + i * 11 + j, none⟩ = some ((opCells l[i])[j]'hj) := by
  have key : ∀ j (hj : j < 11), (l.map opCells).flatten[i * 11 + j]? = some ((opCells l[i])[j]'hj) := by
    intro j hj
    have := flatten_get (rows := l.map opCells) (k := 11) (by intro r hr; obtain ⟨x, _, rfl⟩ := List.mem_map.1 hr; rfl) i j (by simpa using hi) (by rw [List.getElem_map]; exact hj)
    rw [this]; simp only [List.getElem_map]; rfl
  obtain ⟨b, off, e, _⟩ := h.cell _ _ (key 0 (by decide))
  refine ⟨b, off, e, fun j hj => ?_⟩
  obtain ⟨b', off', e', hc⟩ := h.cell _ _ (key j hj)
  rw [e] at e'
  simp only [Option.some.injEq, Addr.mk.injEq] at e'
  obtain ⟨rfl, rfl, -⟩ := e'
  rw [Nat.add_assoc]; exact hc
theorem Ops.below {w w' : World} {ao : Option Addr} {cap : Nat} {l : List Opn} (h : Ops w ao cap l) (hb : Below w.heap.size w w') : Ops w' ao cap l := Sl.below h hb
end Go.Proofs.Ytdcinhnplcipoaa
