/- Lemmas for BagOnce (Aux Aux3 Ql). No statement of the seat is proved here. -/
import Derived.Test.YtbmkgcoolofmpaaRows
import Derived.WalkKit
import Derived.WalkSpells
import Derived.Outline
import Derived.Lib.Hide
import Derived.Laws.AppendOwnNone
import Derived.Lib.SlBytesConst
import Derived.Deep.AppendLies
namespace Go.Proofs.Ytbmkgcoolofmpaa
set_option linter.unusedVariables false
set_option linter.unusedSimpArgs false
set_option linter.unusedSectionVars false
open Go Go.RowKit
/-- A byte as a cell. -/
abbrev u8 (c : UInt8) : Value := .int .u8 (c.toNat : Int)
/-- The slice (ao, n, cap) of elements of 'size' cells reads in w as the cells xs. -/
structure Sl (w : World) (size : Nat) (ao : Option Addr) (n cap : Nat) (xs : List Value) : Prop where
  len : xs.length = n * size
  le : n ≤ cap
  max : cap ≤ maxLen
  none : ao = none → cap = 0
  cell : ∀ j u, xs[j]? = some u → ∃ b off, ao = some ⟨b, off, .none⟩ ∧ w.cell? ⟨b, off + j, .none⟩ = some u
/-- bytes -/
def Bs (w : World) (ao : Option Addr) (cap : Nat) (l : List UInt8) : Prop := Sl w 1 ao l.length cap (l.map u8)
theorem ret_int {k : IntKind} {a b : Int} (h : a = b) : Ending.returned (.int k a) = .returned (.int k b) := by rw [h]
theorem ret_bool {a b : Bool} (h : a = b) : Ending.returned (.bool a) = .returned (.bool b) := by rw [h]
theorem cell?_lt {w : World} {a : Addr} {u : Value} (h : w.cell? a = some u) : a.block < w.heap.size := World.block_lt_of_cell? w a h
theorem Sl.below {w w' : World} {size : Nat} {ao : Option Addr} {n cap : Nat} {xs : List Value} (h : Sl w size ao n cap xs) (hb : Below w.heap.size w w') : Sl w' size ao n cap xs :=
  ⟨h.len, h.le, h.max, h.none, fun j u hu => by
    obtain ⟨b, off, e, hc⟩ := h.cell j u hu
    exact ⟨b, off, e, (hb.cell (p := ⟨b, off + j, .none⟩) (cell?_lt hc)).trans hc⟩⟩
theorem Bs.below {w w' : World} {ao : Option Addr} {cap : Nat} {l : List UInt8} (h : Bs w ao cap l) (hb : Below w.heap.size w w') : Bs w' ao cap l := Sl.below h hb
theorem Bs.get {w : World} {ao : Option Addr} {cap : Nat} {l : List UInt8} (h : Bs w ao cap l) (k : Nat) (hk : k < l.length) :
    ∃ b off, ao = some ⟨b, off, .none⟩ ∧ w.cell? ⟨b, off + k, .none⟩ = some (.int .u8 (l[k].toNat : Int)) :=
  h.cell k _ (by simp [hk])
theorem Bs.all {w : World} {b off cap : Nat} {l : List UInt8} (h : Bs w (some ⟨b, off, .none⟩) cap l) (k : Nat) (hk : k < l.length) :
    w.cell? ⟨b, off + k, .none⟩ = some (.int .u8 (l[k].toNat : Int)) := by
  obtain ⟨b', off', e, hc⟩ := h.get k hk
  simp only [Option.some.injEq, Addr.mk.injEq] at e
  obtain ⟨rfl, rfl, -⟩ := e
  exact hc
/-- an owned row reads as its cells -/
theorem Sl.of_own {w : World} {base e size n cap : Nat} {ao : Option Addr} {xs : List Value} (h : w.ownsRow base e size (.slice ao n cap) n xs) : Sl w size ao n cap xs := by
  obtain ⟨h1, h2⟩ := h
  rcases h2 with ⟨h2, rfl⟩ | ⟨g, cap', cur, hv, hg, hh, hn, hm, hs, ht⟩
  · simp only [Value.slice.injEq] at h2
    obtain ⟨rfl, -, rfl⟩ := h2
    exact ⟨h1, Nat.le_refl _, by decide, fun _ => rfl, fun j u hu => by
      have : xs = [] := List.eq_nil_of_length_eq_zero (by simpa using h1)
      subst this; simp at hu⟩
  · simp only [Value.slice.injEq] at hv
    obtain ⟨rfl, -, rfl⟩ := hv
    refine ⟨h1, hn, hm, fun e => by simp at e, fun j u hu => ⟨g, 0, rfl, ?_⟩⟩
    rw [cell_of_row w g (0 + j) cur e (0, 0) hh, Nat.zero_add]
    rw [← ht, List.getElem?_take] at hu
    split at hu
    · simpa using hu
    · cases hu
theorem Bs.of_own {w : World} {base e cap : Nat} {ao : Option Addr} {l : List UInt8} (h : w.ownsRow base e 1 (.slice ao l.length cap) l.length (l.map u8)) : Bs w ao cap l := Sl.of_own h
/-- any owned value is a slice -/
theorem own_slice {w : World} {base e size n : Nat} {v : Value} {xs : List Value} (h : w.ownsRow base e size v n xs) : ∃ ao cap, v = .slice ao n cap := by
  rcases h.2 with ⟨h2, rfl⟩ | ⟨g, cap', cur, hv, _⟩
  · exact ⟨_, _, h2⟩
  · exact ⟨_, _, hv⟩
theorem wpl_of {P : Program} {w : World} {ops : Array Oper} {rest : List Oper} {o : Oper} {a : Act} {Q : Exit → Act → World → Prop} (hw : Region.wanted o (yielded ops a.tmps) = true)
    (h : ∀ K : Act → World → Prop, (∀ a w, wpList P ops Q rest a w → K a w) → o.wp P a w K Q) : wpList P ops Q (o :: rest) a w :=
  wpList_step fun K hK => by simp only [hw, if_true]; exact h K hK
/-- append(out, src...): out nil or the call's own, src whatever reads as a list -/
theorem wpl_append {P : Program} {w : World} {ops : Array Oper} {rest : List Oper} {o : Oper} {a : Act} {Q : Exit → Act → World → Prop} (hw : Region.wanted o (yielded ops a.tmps) = true) (s x : Operand) (t : TypeId)
    (ho : o.op = .call { callee := .builtin .append, args := #[s, x], argTypes := #[t, t] })
    (base : Nat) (e : TypeId) {z : Value} {size bytes : Nat} (hi : (P.info? e).map (fun i => (i.zero, i.size, i.bytes)) = some (some z, size, bytes)) (ht : P.underlying t = some (.slice e))
    (hzs : z.cells.size = size) (hsz : 0 < size)
    (v : Value) (n : Nat) (xs : List Value) (hs : a.eval s = v) (hown : w.ownsRow base e size v n xs)
    (ao : Option Addr) (m c : Nat) (news : List Value) (hx : a.eval x = .slice ao m c) (hsl : Sl w size ao m c news) (h1 : ∀ u ∈ news, u.oneCell' = true)
    (h63 : n + m ≤ maxLen) (hbytes : (n + m) * bytes ≤ 140737488355328) (hbase : base ≤ w.heap.size)
    (h : ∀ ao' cap' w', w'.ownsRow base e size (.slice ao' (n + m) cap') (n + m) (xs ++ news) → w.grownBy w' v.ownBlock → wpList P ops Q rest (a.put o.dst (.slice ao' (n + m) cap')) w') : wpList P ops Q (o :: rest) a w := by
  obtain ⟨i, hi1, hi2, hi3, hi4⟩ := info_parts hi
  refine wpl_of hw fun K hK => ?_
  have key : ∀ v' w', w'.ownsRow base e size v' (n + m) (xs ++ news) → w.grownBy w' v.ownBlock → K (a.put o.dst v') w' := by
    intro v' w' h1 h2
    obtain ⟨ao', cap', rfl⟩ := own_slice h1
    exact hK _ _ (h _ _ _ h1 h2)
  cases ao with
  | none =>
    have hc := hsl.none rfl
    have hle := hsl.le
    obtain rfl : c = 0 := hc
    obtain rfl : m = 0 := by omega
    have hnews : news = [] := List.eq_nil_of_length_eq_zero (by simpa using hsl.len)
    subst hnews
    have hrun := run_append_owned_none (P := P) (w := w) base t o.type e i size ht hi1 v n xs hown
    unfold Oper.wp
    simp [execOp, ho, resolve, invoke, builtin, hs, hx, hrun, Result.andThen]
    exact key _ _ (by simpa using hown) (World.grownBy.refl _ _)
  | some ad =>
    refine wp_append_own w s x t ho base e i z size bytes ht hi1 hi2 hi3 hi4 hzs hsz v n xs hs hown ad m c news hx hsl.len ?_ h1 h63 hbytes hbase ?_
    · intro j u hu
      obtain ⟨b, off, e, hc⟩ := hsl.cell j u hu
      simp only [Option.some.injEq] at e
      subst e
      rw [← hc]; congr 1
      unfold Addr.add; split <;> simp_all
    · exact fun v' w' h1 h2 _ => key v' w' h1 h2
theorem u8_one (l : List UInt8) : ∀ u ∈ l.map u8, u.oneCell' = true := by
  intro u hu
  obtain ⟨c, _, rfl⟩ := List.mem_map.1 hu
  rfl
/-- bytes to bytes -/
theorem wpl_append_bs {P : Program} {w : World} {ops : Array Oper} {rest : List Oper} {o : Oper} {a : Act} {Q : Exit → Act → World → Prop} (hw : Region.wanted o (yielded ops a.tmps) = true) (s x : Operand) (t : TypeId)
    (ho : o.op = .call { callee := .builtin .append, args := #[s, x], argTypes := #[t, t] })
    (base : Nat) (e : TypeId) (hi : (P.info? e).map (fun i => (i.zero, i.size, i.bytes)) = some (some (.int .u8 0), 1, 1)) (ht : P.underlying t = some (.slice e))
    (ao0 : Option Addr) (c0 : Nat) (l0 : List UInt8) (hs : a.eval s = .slice ao0 l0.length c0) (hown : w.ownsRow base e 1 (.slice ao0 l0.length c0) l0.length (l0.map u8))
    (ao : Option Addr) (c : Nat) (l : List UInt8) (hx : a.eval x = .slice ao l.length c) (hsl : Bs w ao c l)
    (hbytes : l0.length + l.length ≤ 140737488355328) (hbase : base ≤ w.heap.size)
    (h : ∀ ao' cap' l' w', Hid (l' = l0 ++ l) → w'.ownsRow base e 1 (.slice ao' l'.length cap') l'.length (l'.map u8) → w.grownBy w' (Value.slice ao0 l0.length c0).ownBlock → wpList P ops Q rest (a.put o.dst (.slice ao' l'.length cap')) w') : wpList P ops Q (o :: rest) a w := by
  refine wpl_append hw s x t ho base e hi ht rfl (by decide) _ _ _ hs hown ao _ c _ hx hsl (u8_one l) (by unfold maxLen; omega) (by omega) hbase fun ao' cap' w' h1 h2 => ?_
  have e1 : l0.length + l.length = (l0 ++ l).length := by simp
  rw [← List.map_append, e1] at h1
  rw [e1]
  exact h ao' cap' (l0 ++ l) w' rfl h1 h2
theorem Addr.add_none (b off n : Nat) : (⟨b, off, .none⟩ : Addr).add n = ⟨b, off + n, .none⟩ := by
  unfold Addr.add; split <;> simp_all
/-- a piece of a slice -/
theorem Sl.cut {w : World} {size : Nat} {ao : Option Addr} {n cap : Nat} {xs : List Value} (h : Sl w size ao n cap xs) (l r : Nat) (hl : l ≤ r) (hr : r ≤ n) (hsz : 0 < size) :
    Sl w size (if cap = l then ao else ao.map (·.add (l * size))) (r - l) (cap - l) ((xs.take (r * size)).drop (l * size)) := by
  have hn := h.len; have hle := h.le; have hm := h.max
  refine ⟨?_, by omega, by omega, ?_, ?_⟩
  · simp only [List.length_drop, List.length_take, hn]
    have : r * size ≤ n * size := Nat.mul_le_mul_right _ hr
    rw [Nat.min_eq_left this, Nat.sub_mul]
  · intro e
    split at e
    · omega
    · cases ao with
      | none => have := h.none rfl; omega
      | some a => simp at e
  · intro j u hu
    rw [List.getElem?_drop, List.getElem?_take] at hu
    split at hu
    case isTrue hlt =>
      obtain ⟨b, off, rfl, hc⟩ := h.cell _ u hu
      have hne : cap ≠ l := by
        intro e
        have : r * size ≤ l * size := Nat.mul_le_mul_right _ (by omega)
        omega
      refine ⟨b, off + l * size, ?_, ?_⟩
      · rw [if_neg hne]; simp [Addr.add_none]
      · rw [← hc]; congr 2; omega
    case isFalse => cases hu
theorem run_slice_sl {P : Program} {w : World} {t e : TypeId} {size : Nat} (ht : P.underlying t = some (.slice e)) (hsz : (P.info? e).map (·.size) = some size)
    (ao : Option Addr) (n cap : Nat) (lo hi : Option Value) (l r : Nat) (hlo : lo = some (.int .i64 (l : Int)) ∨ lo = none ∧ l = 0) (hhi : hi = some (.int .i64 (r : Int)) ∨ hi = none ∧ r = n) (hl : l ≤ r) (hr : r ≤ cap) :
    (Instr.sliceAt t (.slice ao n cap) lo hi none).run P w = .ok (.slice (if cap = l then ao else ao.map (·.add (l * size))) (r - l) (cap - l)) w := by
  obtain ⟨i, hi1, hi2⟩ := Option.map_eq_some_iff.1 hsz
  have b : ∀ (x y : Nat) (c : BoundsCode), x ≤ y → (Instr.sliceBound (.int .i64 (x : Int)) y c).run P w = .ok x w := by
    intro x y c h
    simp [Instr.sliceBound, asIntOf, h]
  rcases hlo with rfl | ⟨rfl, rfl⟩ <;> rcases hhi with rfl | ⟨rfl, rfl⟩ <;>
    simp [Instr.sliceAt, Instr.slice, Instr.sliceBounds, run_underlying ht, sizeOf, typeInfo, hi1, hi2, b, hl, hr]
/-- a piece of bytes: the address and the list by name -/
theorem wpl_slice_bs {P : Program} {w : World} {ops : Array Oper} {rest : List Oper} {o : Oper} {a : Act} {Q : Exit → Act → World → Prop} (hw : Region.wanted o (yielded ops a.tmps) = true) (x : Operand) (olo ohi : Option Operand) (t e : TypeId)
    (ho : o.op = .slice t x olo ohi none) (ht : P.underlying t = some (.slice e)) (hsz : (P.info? e).map (·.size) = some 1)
    (ao : Option Addr) (c : Nat) (l : List UInt8) (hx : a.eval x = .slice ao l.length c) (hsl : Bs w ao c l)
    (p q : Nat) (hlo : (∃ i, olo.map a.eval = some (.int .i64 i) ∧ i = (p : Int)) ∨ olo.map a.eval = none ∧ p = 0) (hhi : (∃ i, ohi.map a.eval = some (.int .i64 i) ∧ i = (q : Int)) ∨ ohi.map a.eval = none ∧ q = l.length) (hp : p ≤ q) (hq : q ≤ l.length)
    (h : ∀ ao' cap' l', Hid (l' = (l.take q).drop p) → l'.length = q - p → Bs w ao' cap' l' → wpList P ops Q rest (a.put o.dst (.slice ao' l'.length cap')) w) : wpList P ops Q (o :: rest) a w := by
  refine wpl_of hw fun K hK => ?_
  have hc := Sl.cut hsl p q hp hq (by decide)
  have hle := hsl.le
  have hrun := run_slice_sl (w := w) ht hsz ao l.length c _ _ p q (hlo.imp (fun ⟨i, h1, h2⟩ => h2 ▸ h1) id) (hhi.imp (fun ⟨i, h1, h2⟩ => h2 ▸ h1) id) hp (by omega)
  have hL : ((l.take q).drop p).length = q - p := by simp; omega
  have hk := h _ _ ((l.take q).drop p) rfl hL (by unfold Bs; rw [hL]; simpa [List.map_drop, List.map_take] using hc)
  rw [hL] at hk
  unfold Oper.wp
  simp [execOp, ho, hx, hrun, Result.andThen]
  exact hK _ _ (by simpa using hk)
/-- string(b) -/
theorem run_string_bs {P : Program} {w : World} (src dst e : TypeId) (hs : P.underlying src = some (.slice e)) (he : P.underlying e = some (.int .u8)) (hd : P.underlying dst = some .string)
    (ao : Option Addr) (c : Nat) (l : List UInt8) (hsl : Bs w ao c l) : (convert src dst (.slice ao l.length c)).run P w = .ok (.string ⟨l.toArray⟩) w := by
  rw [run_convert_bytes_string w src dst e ao _ c hs he hd]
  cases ao with
  | none =>
    have h1 := hsl.none rfl; have h2 := hsl.le
    have : l = [] := List.eq_nil_of_length_eq_zero (by omega)
    subst this
    rfl
  | some ad =>
    have hcells : (loadCells ad l.length).run P w = .ok ((l.map fun c => (c.toNat : Int)).map (Value.int .u8)).toArray w := by
      have := run_loadCells_list (P := P) (w := w) ad (l.map u8) (fun j v hv => by
        obtain ⟨b, off, e, hc⟩ := hsl.cell j v hv
        simp only [Option.some.injEq] at e
        subst e
        rw [Addr.add_none]; exact hc)
      simpa [List.map_map, Function.comp_def] using this
    rw [run_bytesToString w ad _ c _ hcells]
    congr 2
    have key : ∀ (l : List UInt8) (s : ByteArray), (l.map fun c => (c.toNat : Int)).foldl (fun r n => r.push (UInt8.ofNat n.toNat)) s = ⟨s.data ++ l.toArray⟩ := by
      intro l
      induction l with
      | nil => intro s; simp
      | cons c l ih =>
        intro s
        rw [List.map_cons, List.foldl_cons, ih]
        congr 1
        apply Array.ext'
        simp
    have := key l ByteArray.empty
    rw [this]
    congr 1
    apply Array.ext'
    simp [ByteArray.empty, ByteArray.emptyWithCapacity]
    rfl
/-- a slice of byte slices -/
structure Bss (w : World) (ao : Option Addr) (cap : Nat) (ls : List (List UInt8)) : Prop where
  le : ls.length ≤ cap
  max : cap ≤ maxLen
  none : ao = none → cap = 0
  cell : ∀ k (h : k < ls.length), ∃ b off ak ck, ao = some ⟨b, off, .none⟩ ∧ w.cell? ⟨b, off + k, .none⟩ = some (.slice ak ls[k].length ck) ∧ Bs w ak ck ls[k]
theorem Bss.below {w w' : World} {ao : Option Addr} {cap : Nat} {ls : List (List UInt8)} (h : Bss w ao cap ls) (hb : Below w.heap.size w w') : Bss w' ao cap ls :=
  ⟨h.le, h.max, h.none, fun k hk => by
    obtain ⟨b, off, ak, ck, e, hc, hs⟩ := h.cell k hk
    exact ⟨b, off, ak, ck, e, (hb.cell (p := ⟨b, off + k, .none⟩) (cell?_lt hc)).trans hc, hs.below hb⟩⟩
theorem Bss.one {w : World} {ao : Option Addr} {cap : Nat} {l : List UInt8} (h : Bs w ao cap l) (T : TypeId) :
    Bss (w.alloc (.cells #[.slice ao l.length cap] T)) (some ⟨w.heap.size, 0, .none⟩) 1 [l] :=
  ⟨by simp, by decide, by simp, fun k hk => by
    obtain rfl : k = 0 := by simpa using hk
    exact ⟨_, _, ao, cap, rfl, by simp [World.cell?_alloc_at], h.below ((Below.refl _ _).alloc (Nat.le_refl _) _)⟩⟩
theorem cell?_new (w : World) (cs : Array Value) (T : TypeId) (m : Nat × Nat) (j : Nat) : (w.alloc (.cells cs T m)).cell? ⟨w.heap.size, j, .none⟩ = cs[j]? := by
  have := heap_alloc_new w (.cells cs T m)
  unfold World.cell?
  simp only [this]
  rfl
/-- a literal of bytes in a new block -/
theorem Bs.lit {w : World} (l : List UInt8) (cs : Array Value) (T : TypeId) (n : Nat) (hn : n = l.length) (hcs : cs.toList = l.map u8) (hm : l.length ≤ 1000) :
    Bs (w.alloc (.cells cs T)) (some ⟨w.heap.size, 0, .none⟩) n l :=
  ⟨by simp, by omega, by unfold maxLen; omega, by simp, fun j u hu => ⟨_, 0, rfl, by
    rw [cell?_new, Nat.zero_add, ← Array.getElem?_toList, hcs]; exact hu⟩⟩
theorem below_new (w : World) (o : Obj) : Below w.heap.size w (w.alloc o) := (Below.refl _ _).alloc (Nat.le_refl _) _
/-- what came later, below an elder bound -/
theorem below_on {B : Nat} {w w1 w2 : World} (h : Below B w w1) (h2 : Below w1.heap.size w1 w2) (hB : B ≤ w.heap.size) : Below B w w2 :=
  h.trans (h2.mono (Nat.le_trans hB h.size))
theorem own_below {w w' : World} {base e size n : Nat} {v : Value} {xs : List Value} (h : w.ownsRow base e size v n xs) (hb : Below w.heap.size w w') : w'.ownsRow base e size v n xs := by
  obtain ⟨h1, h2⟩ := h
  refine ⟨h1, ?_⟩
  rcases h2 with h2 | ⟨g, cap, cur, hv, hg, hh, r⟩
  · exact .inl h2
  · exact .inr ⟨g, cap, cur, hv, hg, by rw [hb.block g (Array.getElem?_eq_some_iff.1 hh).1]; exact hh, r⟩
theorem own_base {w : World} {base base' e size n : Nat} {v : Value} {xs : List Value} (h : w.ownsRow base e size v n xs) (hb : base' ≤ base) : w.ownsRow base' e size v n xs := by
  obtain ⟨h1, h2⟩ := h
  refine ⟨h1, ?_⟩
  rcases h2 with h2 | ⟨g, cap, cur, hv, hg, r⟩
  · exact .inl h2
  · exact .inr ⟨g, cap, cur, hv, by omega, r⟩
/-- an empty literal '[]T{}' owns nothing -/
theorem own_empty (w : World) (base e size : Nat) (hb : base ≤ w.heap.size) : (w.alloc (.cells #[] e)).ownsRow base e size (.slice (some ⟨w.heap.size, 0, .none⟩) 0 0) 0 [] :=
  World.ownsRow_made w #[] 0 hb (Nat.zero_le _) (by simp)
/-- behind an append to what is the call's own -/
theorem below_app {B : Nat} {w0 w w' : World} {v : Value} {base e size n : Nat} {xs : List Value} (h : Below B w0 w) (hg : w.grownBy w' v.ownBlock) (hown : w.ownsRow base e size v n xs) (hB : B ≤ base) (hw : B ≤ w.heap.size) : Below B w0 w' :=
  h.grown hg hw (fun k hk => by have := (hown.lt k hk).1; omega)
end Go.Proofs.Ytbmkgcoolofmpaa
namespace Go.Proofs.Ytbmkgcoolofmpaa
set_option linter.unusedVariables false
set_option linter.unusedSimpArgs false
set_option linter.unusedSectionVars false
open Go Go.RowKit
/-- the element type of a block of cells -/
def elem? (w : World) (b : Nat) : Option TypeId := match w.heap[b]? with
  | some (.cells _ e _) => some e
  | _ => .none
theorem elem?_of {w : World} {b : Nat} {cs : Array Value} {e : TypeId} {fr : Nat × Nat} (h : w.heap[b]? = some (.cells cs e fr)) : elem? w b = some e := by unfold elem?; rw [h]
theorem elem?_same {w w' : World} {b : Nat} (h : w'.heap[b]? = w.heap[b]?) : elem? w' b = elem? w b := by unfold elem?; rw [h]
/-- the slice (ao, n, cap) of elements of k cells, of type E, reads in w as the rows -/
structure Rw (w : World) (E : TypeId) (k : Nat) (ao : Option Addr) (n cap : Nat) (rows : List (List Value)) : Prop where
  num : rows.length = n
  each : ∀ r ∈ rows, r.length = k
  sl : Sl w k ao n cap rows.flatten
  typ : ∀ b off s, ao = some ⟨b, off, s⟩ → elem? w b = some E
theorem flatten_get {rows : List (List Value)} {k : Nat} (h : ∀ r ∈ rows, r.length = k) : ∀ (i j : Nat) (hi : i < rows.length) (hj : j < rows[i].length), rows.flatten[i * k + j]? = some rows[i][j] := by
  induction rows with
  | nil => intro i j hi; simp at hi
  | cons r rows ih =>
    intro i j hi hj
    have hr := h r (by simp)
    cases i with
    | zero =>
      simp only [List.getElem_cons_zero] at hj ⊢
      simp only [List.flatten_cons, Nat.zero_mul, Nat.zero_add]
      rw [List.getElem?_append_left (by omega), List.getElem?_eq_getElem hj]
    | succ i =>
      simp only [List.getElem_cons_succ] at hj ⊢
      have := ih (fun r hr => h r (by simp [hr])) i j (by simpa using hi) hj
      simp only [List.flatten_cons]
      rw [List.getElem?_append_right (by rw [hr, Nat.succ_mul]; omega), ← this]
      congr 1
      rw [hr, Nat.succ_mul]; omega
theorem Rw.get {w : World} {E : TypeId} {k n cap : Nat} {ao : Option Addr} {rows : List (List Value)} (h : Rw w E k ao n cap rows) (hk : 0 < k) (i : Nat) (hi : i < n) :
    ∃ b off, ao = some ⟨b, off, .none⟩ ∧ ∀ j (hj : j < (rows[i]'(by rw [h.num]; exact hi)).length), w.cell? ⟨b, off + i * k + j, .none⟩ = some ((rows[i]'(by rw [h.num]; exact hi))[j]) := by
  have hin : i < rows.length := by rw [h.num]; exact hi
  have hr := h.each _ (List.getElem_mem hin)
  obtain ⟨b, off, e, _⟩ := h.sl.cell (i * k + 0) _ (flatten_get h.each i 0 hin (by omega))
  refine ⟨b, off, e, fun j hj => ?_⟩
  obtain ⟨b', off', e', hc⟩ := h.sl.cell (i * k + j) _ (flatten_get h.each i j hin hj)
  rw [e] at e'
  simp only [Option.some.injEq, Addr.mk.injEq] at e'
  obtain ⟨rfl, rfl, -⟩ := e'
  rw [Nat.add_assoc]; exact hc
theorem elem?_lt {w : World} {b : Nat} {e : TypeId} (h : elem? w b = some e) : b < w.heap.size := by
  unfold elem? at h
  split at h
  · rename_i h'; exact (Array.getElem?_eq_some_iff.1 h').1
  · cases h
theorem Rw.below {w w' : World} {E : TypeId} {k n cap : Nat} {ao : Option Addr} {rows : List (List Value)} (h : Rw w E k ao n cap rows) (hb : Below w.heap.size w w') : Rw w' E k ao n cap rows :=
  ⟨h.num, h.each, h.sl.below hb, fun b off s e => by
    have ht := h.typ b off s e
    rw [elem?_same (hb.block b (elem?_lt ht))]; exact ht⟩
theorem Rw.nil (w : World) (E : TypeId) (k : Nat) : Rw w E k none 0 0 [] := ⟨rfl, by simp, ⟨by simp, by simp, by decide, fun _ => rfl, fun j u hu => by simp at hu⟩, by simp⟩
theorem Rw.of_own {w : World} {base E k n cap : Nat} {ao : Option Addr} {rows : List (List Value)} (h : w.ownsRow base E k (.slice ao n cap) n rows.flatten) (hn : rows.length = n) (hk : ∀ r ∈ rows, r.length = k) : Rw w E k ao n cap rows :=
  ⟨hn, hk, Sl.of_own h, fun b off s e => by
    rcases h.2 with ⟨h2, _⟩ | ⟨g, cap', cur, hv, _, hh, _⟩
    · simp only [Value.slice.injEq] at h2
      rw [h2.1] at e; cases e
    · simp only [Value.slice.injEq] at hv
      rw [hv.1] at e
      simp only [Option.some.injEq, Addr.mk.injEq] at e
      rw [← e.1]; exact elem?_of hh⟩
/-- append(out, x) of one element that lies at 'ad' -/
theorem wpo_append_one {P : Program} {w : World} {o : Oper} {a : Act} {K : Act → World → Prop} {Q : Exit → Act → World → Prop} (s x : Operand) (t : TypeId)
    (ho : o.op = .call { callee := .builtin .append, args := #[s, x], argTypes := #[t, t] })
    (base : Nat) (e : TypeId) {z : Value} {k bytes : Nat} (hi : (P.info? e).map (fun i => (i.zero, i.size, i.bytes)) = some (some z, k, bytes)) (ht : P.underlying t = some (.slice e))
    (hzs : z.cells.size = k) (hk : 0 < k)
    (v : Value) (n : Nat) (rows : List (List Value)) (hs : a.eval s = v) (hown : w.ownsRow base e k v n rows.flatten)
    (ad : Addr) (c : Nat) (row : List Value) (hx : a.eval x = .slice (some ad) 1 c) (hl : row.length = k) (hnews : ∀ j u, row[j]? = some u → w.cell? (ad.add j) = some u) (h1 : ∀ u ∈ row, u.oneCell' = true)
    (hbytes : (n + 1) * bytes ≤ 140737488355328) (hmax : n + 1 ≤ maxLen) (hbase : base ≤ w.heap.size)
    (h : ∀ g cap w', w'.ownsRow base e k (.slice (some ⟨g, 0, .none⟩) (n + 1) cap) (n + 1) (rows ++ [row]).flatten → w.grownBy w' v.ownBlock → (v.ownBlock = some g ∨ g = w.heap.size) → K (a.put o.dst (.slice (some ⟨g, 0, .none⟩) (n + 1) cap)) w') : o.wp P a w K Q := by
  obtain ⟨i, hi1, hi2, hi3, hi4⟩ := info_parts hi
  refine wp_append_lies w s x t ho base e i z k bytes ht hi1 hi2 hi3 hi4 hzs hk v n rows.flatten hs hown ad 1 c row hx (by omega) hnews h1 (by decide) hmax hbytes hbase _ rfl fun g cap w' h1 h2 h3 _ => ?_
  refine h g cap w' ?_ h2 h3
  rw [List.flatten_append]
  simpa using h1
theorem wpl_append_one {P : Program} {w : World} {ops : Array Oper} {rest : List Oper} {o : Oper} {a : Act} {Q : Exit → Act → World → Prop} (hw : Region.wanted o (yielded ops a.tmps) = true) (s x : Operand) (t : TypeId)
    (ho : o.op = .call { callee := .builtin .append, args := #[s, x], argTypes := #[t, t] })
    (base : Nat) (e : TypeId) {z : Value} {k bytes : Nat} (hi : (P.info? e).map (fun i => (i.zero, i.size, i.bytes)) = some (some z, k, bytes)) (ht : P.underlying t = some (.slice e))
    (hzs : z.cells.size = k) (hk : 0 < k)
    (v : Value) (n : Nat) (rows : List (List Value)) (hs : a.eval s = v) (hown : w.ownsRow base e k v n rows.flatten)
    (ad : Addr) (c : Nat) (row : List Value) (hx : a.eval x = .slice (some ad) 1 c) (hl : row.length = k) (hnews : ∀ j u, row[j]? = some u → w.cell? (ad.add j) = some u) (h1 : ∀ u ∈ row, u.oneCell' = true)
    (hbytes : (n + 1) * bytes ≤ 140737488355328) (hmax : n + 1 ≤ maxLen) (hbase : base ≤ w.heap.size)
    (h : ∀ g cap w', w'.ownsRow base e k (.slice (some ⟨g, 0, .none⟩) (n + 1) cap) (n + 1) (rows ++ [row]).flatten → w.grownBy w' v.ownBlock → (v.ownBlock = some g ∨ g = w.heap.size) → wpList P ops Q rest (a.put o.dst (.slice (some ⟨g, 0, .none⟩) (n + 1) cap)) w') : wpList P ops Q (o :: rest) a w :=
  wpl_of hw fun K hK => wpo_append_one s x t ho base e hi ht hzs hk v n rows hs hown ad c row hx hl hnews h1 hbytes hmax hbase fun g cap w' a1 a2 a3 => hK _ _ (h g cap w' a1 a2 a3)
theorem step_append_one {P : Program} {ops : Array Oper} {w : World} {o : Oper} {a : Act} {K : Act → World → Prop} {Q : Exit → Act → World → Prop} {E : Prop} (hw : Region.wanted o (yielded ops a.tmps) = true) (s x : Operand) (t : TypeId)
    (ho : o.op = .call { callee := .builtin .append, args := #[s, x], argTypes := #[t, t] })
    (base : Nat) (e : TypeId) {z : Value} {k bytes : Nat} (hi : (P.info? e).map (fun i => (i.zero, i.size, i.bytes)) = some (some z, k, bytes)) (ht : P.underlying t = some (.slice e))
    (hzs : z.cells.size = k) (hk : 0 < k)
    (v : Value) (n : Nat) (rows : List (List Value)) (hs : a.eval s = v) (hown : w.ownsRow base e k v n rows.flatten)
    (ad : Addr) (c : Nat) (row : List Value) (hx : a.eval x = .slice (some ad) 1 c) (hl : row.length = k) (hnews : ∀ j u, row[j]? = some u → w.cell? (ad.add j) = some u) (h1 : ∀ u ∈ row, u.oneCell' = true)
    (hbytes : (n + 1) * bytes ≤ 140737488355328) (hmax : n + 1 ≤ maxLen) (hbase : base ≤ w.heap.size)
    (h : ∀ g cap w', w'.ownsRow base e k (.slice (some ⟨g, 0, .none⟩) (n + 1) cap) (n + 1) (rows ++ [row]).flatten → w.grownBy w' v.ownBlock → (v.ownBlock = some g ∨ g = w.heap.size) → K (a.put o.dst (.slice (some ⟨g, 0, .none⟩) (n + 1) cap)) w') :
    if Region.wanted o (yielded ops a.tmps) = true then Oper.wp P o a w K Q else E := by
  rw [if_pos hw]
  exact wpo_append_one s x t ho base e hi ht hzs hk v n rows hs hown ad c row hx hl hnews h1 hbytes hmax hbase h
/-- a literal's cells in a new block -/
theorem news_at {w : World} {cs : Array Value} {T : TypeId} (row : List Value) (h : cs.toList = row) : ∀ j u, row[j]? = some u → (w.alloc (.cells cs T)).cell? ((⟨w.heap.size, 0, .none⟩ : Addr).add j) = some u := by
  intro j u hu
  rw [Addr.add_none, cell?_new, Nat.zero_add, ← Array.getElem?_toList, h]; exact hu
/-! objects behind a pointer -/
theorem block_cell {w : World} {b : Nat} {cs : Array Value} {T : TypeId} (h : w.heap[b]? = some (.cells cs T (0, 0))) (i : Nat) : w.cell? ⟨b, i, .none⟩ = cs[i]? := by
  unfold World.cell?; simp only [h]; rfl
theorem block_free {w : World} {b : Nat} {cs : Array Value} {T : TypeId} (h : w.heap[b]? = some (.cells cs T (0, 0))) (i : Nat) : w.frozen? ⟨b, i, .none⟩ = false := by
  unfold World.frozen?; simp only [h]; simp
theorem block_set {w : World} {b : Nat} {cs : Array Value} {T : TypeId} (h : w.heap[b]? = some (.cells cs T (0, 0))) (i : Nat) (u : Value) : (w.setCell ⟨b, i, .none⟩ u).heap[b]? = some (.cells (cs.setIfInBounds i u) T (0, 0)) :=
  heap_setCell_same w b i cs T u h
theorem grown_set (w : World) (b i : Nat) (u : Value) : w.grownBy (w.setCell ⟨b, i, .none⟩ u) (some b) :=
  ⟨rfl, rfl, rfl, by simp, fun k _ hk => heap_setCell_other w ⟨b, i, .none⟩ k u (fun e => hk (by simp [e]))⟩
theorem grown_below {w w' : World} {row : Option Nat} (h : Below w.heap.size w w') : w.grownBy w' row := ⟨h.os, h.tape, h.output, h.size, fun k hk _ => h.block k hk⟩
theorem grown_drew {w w' : World} {row : Option Nat} (h : w.grownBy w' row) : w.grownBy w'.drew row := ⟨h.os, h.tape, h.output, h.size, h.block⟩
theorem grown_trans {w w' w'' : World} {row : Option Nat} (h : w.grownBy w' row) (h2 : w'.grownBy w'' row) : w.grownBy w'' row :=
  ⟨h2.os.trans h.os, h2.tape.trans h.tape, h2.output.trans h.output, Nat.le_trans h.size h2.size, fun k hk hne => (h2.block k (Nat.lt_of_lt_of_le hk h.size) hne).trans (h.block k hk hne)⟩
theorem below_grown {B : Nat} {w0 w w' : World} {g : Nat} (h : Below B w0 w) (hg : w.grownBy w' (some g)) (hB : B ≤ g) (hw : B ≤ w.heap.size) : Below B w0 w' :=
  h.grown hg hw (fun k hk => by simp only [Option.some.injEq] at hk; omega)
end Go.Proofs.Ytbmkgcoolofmpaa
namespace Go.Proofs.Ytbmkgcoolofmpaa
set_option linter.unusedVariables false
set_option linter.unusedSimpArgs false
set_option linter.unusedSectionVars false
open Go Go.RowKit
/-- a number's digits of 256, the greatest first -/
def digs (n : Nat) : List UInt8 := if h : n = 0 then [] else digs (n / 256) ++ [UInt8.ofNat n]
termination_by n
decreasing_by omega
theorem digs_zero : digs 0 = [] := by unfold digs; simp
theorem digs_pos {n : Nat} (h : n ≠ 0) : digs n = digs (n / 256) ++ [UInt8.ofNat n] := by rw [digs]; simp [h]
/-- a number's bytes -/
def numB (n : Nat) : List UInt8 := UInt8.ofNat (digs n).length :: digs n
theorem digs_len_le (k : Nat) : ∀ n, n < 256 ^ k → (digs n).length ≤ k := by
  induction k with
  | zero => intro n h; obtain rfl : n = 0 := by simpa using h
            rw [digs_zero]; simp
  | succ k ih =>
    intro n h
    by_cases hn : n = 0
    · rw [hn, digs_zero]; simp
    · rw [digs_pos hn]
      have := ih (n / 256) (by rw [Nat.pow_succ] at h; omega)
      simp; omega
theorem digs_len8 (n : Nat) (h : n < 2 ^ 64) : (digs n).length ≤ 8 := digs_len_le 8 n (by rw [show (256 ^ 8 : Nat) = 2 ^ 64 by decide]; exact h)
theorem digs_get (n : Nat) : ∀ k (h : k < (digs n).length), (digs n)[k] = UInt8.ofNat (n / 256 ^ ((digs n).length - 1 - k)) := by
  induction n using Nat.strongRecOn with
  | ind n ih =>
    intro k h
    by_cases hn : n = 0
    · subst hn; simp [digs_zero] at h
    · have e := digs_pos hn
      have hl : (digs n).length = (digs (n / 256)).length + 1 := by rw [e]; simp
      by_cases hk : k < (digs (n / 256)).length
      · have h1 := ih (n / 256) (by omega) k hk
        have h2 : (digs n)[k] = (digs (n / 256))[k] := by
          have : ∀ (l : List UInt8) (hl : l = digs (n / 256) ++ [UInt8.ofNat n]) (hk' : k < l.length), l[k] = (digs (n / 256))[k] := by
            intro l hl hk'; subst hl; rw [List.getElem_append_left hk]
          exact this _ e h
        rw [h2, h1]
        have h3 : (digs n).length - 1 - k = ((digs (n / 256)).length - 1 - k) + 1 := by omega
        rw [h3, Nat.pow_succ, Nat.mul_comm, ← Nat.div_div_eq_div_mul]
      · have hk' : k = (digs (n / 256)).length := by omega
        have h2 : (digs n)[k] = UInt8.ofNat n := by
          have : ∀ (l : List UInt8) (hl : l = digs (n / 256) ++ [UInt8.ofNat n]) (hkl : k < l.length), l[k] = UInt8.ofNat n := by
            intro l hl hkl; subst hl; subst hk'; simp
          exact this _ e h
        rw [h2]
        have h3 : (digs n).length - 1 - k = 0 := by omega
        rw [h3]; simp
/-- how many digits are left when k were cut off -/
theorem digs_cut (n k : Nat) : (digs (n / 256 ^ k)).length = (digs n).length - k := by
  induction k generalizing n with
  | zero => simp
  | succ k ih =>
    rw [Nat.pow_succ, Nat.mul_comm, ← Nat.div_div_eq_div_mul, ih (n / 256)]
    by_cases hn : n = 0
    · subst hn; simp [digs_zero]
    · rw [digs_pos hn]; simp
theorem digs_nil {n : Nat} : (digs n).length = 0 ↔ n = 0 := by
  constructor
  · intro h
    by_cases hn : n = 0
    · exact hn
    · rw [digs_pos hn] at h; simp at h
  · rintro rfl; rw [digs_zero]; rfl
/-- the number of digits -/
def valN (l : List UInt8) : Nat := l.foldl (fun x c => x * 256 + c.toNat) 0
theorem valN_snoc (l : List UInt8) (c : UInt8) : valN (l ++ [c]) = valN l * 256 + c.toNat := by simp [valN]
theorem valN_lt (l : List UInt8) : valN l < 256 ^ l.length := by
  rw [← List.reverse_reverse l]
  induction l.reverse with
  | nil => simp [valN]
  | cons c l ih => rw [List.reverse_cons, valN_snoc]; have := c.toNat_lt; simp only [List.length_append, List.length_reverse, List.length_cons, List.length_nil, Nat.zero_add, Nat.pow_succ]; simp only [List.length_reverse] at ih; omega
/-- what is read: the number, what is left, whether it is bad -/
def readN (most : Nat) (b : List UInt8) (bad : Bool) : Nat × List UInt8 × Bool :=
  match b with
  | [] => (0, [], true)
  | c :: r => if 8 < c.toNat ∨ r.length < c.toNat ∨ (0 < c.toNat ∧ r.head? = some 0) then (0, [], true) else if most < valN (r.take c.toNat) then (0, [], true) else (valN (r.take c.toNat), r.drop c.toNat, bad)
theorem valN_digs (n : Nat) : valN (digs n) = n := by
  induction n using Nat.strongRecOn with
  | ind n ih =>
    by_cases hn : n = 0
    · subst hn; rw [digs_zero]; rfl
    · rw [digs_pos hn, valN_snoc, ih (n / 256) (by omega)]
      simp
      omega
theorem digs_head (n : Nat) : (digs n).head? ≠ some 0 := by
  induction n using Nat.strongRecOn with
  | ind n ih =>
    by_cases hn : n = 0
    · subst hn; rw [digs_zero]; simp
    · rw [digs_pos hn]
      by_cases h2 : n / 256 = 0
      · rw [h2, digs_zero]
        simp only [List.nil_append, List.head?_cons, ne_eq, Option.some.injEq]
        intro h
        have h3 := congrArg UInt8.toNat h
        simp at h3
        omega
      · have := ih (n / 256) (by omega)
        rw [List.head?_append]
        cases hd : (digs (n / 256)).head? with
        | none => rw [List.head?_eq_none_iff] at hd; have := digs_nil.1 (by rw [hd]; rfl); exact absurd this h2
        | some c => rw [hd] at this; simpa using this
theorem readN_numB (most n : Nat) (rest : List UInt8) (bad : Bool) (h : n ≤ most) (hn : n < 2 ^ 64) : readN most (numB n ++ rest) bad = (n, rest, bad) := by
  have h8 := digs_len8 n hn
  have hc : (UInt8.ofNat (digs n).length).toNat = (digs n).length := by simp; omega
  unfold numB
  simp only [List.cons_append, readN, hc]
  rw [if_neg, if_neg]
  · rw [List.take_left, List.drop_left, valN_digs]
  · rw [List.take_left, valN_digs]; omega
  · rintro (h1 | h1 | ⟨h1, h2⟩)
    · omega
    · simp at h1; omega
    · rw [List.head?_append] at h2
      have := digs_head n
      cases hd : (digs n).head? with
      | none => rw [List.head?_eq_none_iff] at hd; rw [hd] at h1; simp at h1
      | some c => rw [hd] at this h2; simp at h2 this; exact this h2
theorem readN_le (most : Nat) (b : List UInt8) (bad : Bool) : (readN most b bad).1 ≤ most := by
  unfold readN
  split
  · simp
  · split
    · simp
    · split
      · simp
      · simp; omega
theorem readN_len (most : Nat) (b : List UInt8) (bad : Bool) : (readN most b bad).2.1.length ≤ b.length := by
  unfold readN
  split
  · simp
  · split
    · simp
    · split
      · simp
      · simp; omega
end Go.Proofs.Ytbmkgcoolofmpaa
