/- Helper lemmas of our own: slices that read as lists, what is written and what is kept. No statement of the seat is proved here. -/
import Derived.Test.YtadghaiengonoaaRows
import Derived.WalkKit
import Derived.WalkSpells
import Derived.Outline
import Derived.Lib.Hide
import Derived.Laws.AppendOwnNone
import Derived.Lib.SlBytesConst
namespace Go.Proofs.Ytadghaiengonoaa
set_option linter.unusedVariables false
set_option linter.unusedSimpArgs false
set_option linter.unusedSectionVars false
open Go Go.RowKit

/-- A byte as a cell. -/
abbrev u8 (c : UInt8) : Value := .int .u8 (c.toNat : Int)

/-- The slice (ao, n, cap) of elements of 'size' cells reads in w as the cells xs. -/
structure Sl (w : World) (size : Nat) (ao : Option Addr) (n cap : Nat) (xs : List Value) : Prop where
  len : xs.length = n * size
  le : n ≤ cap
  max : cap ≤ maxLen
  none : ao = none → cap = 0
  cell : ∀ j u, xs[j]? = some u → ∃ b off, ao = some ⟨b, off, .none⟩ ∧ w.cell? ⟨b, off + j, .none⟩ = some u

/-- bytes -/
def Bs (w : World) (ao : Option Addr) (cap : Nat) (l : List UInt8) : Prop := Sl w 1 ao l.length cap (l.map u8)

theorem ret_int {k : IntKind} {a b : Int} (h : a = b) : Ending.returned (.int k a) = .returned (.int k b) := by rw [h]
theorem ret_bool {a b : Bool} (h : a = b) : Ending.returned (.bool a) = .returned (.bool b) := by rw [h]

theorem cell?_lt {w : World} {a : Addr} {u : Value} (h : w.cell? a = some u) : a.block < w.heap.size := World.block_lt_of_cell? w a h

theorem Sl.below {w w' : World} {size : Nat} {ao : Option Addr} {n cap : Nat} {xs : List Value} (h : Sl w size ao n cap xs) (hb : Below w.heap.size w w') : Sl w' size ao n cap xs :=
  ⟨h.len, h.le, h.max, h.none, fun j u hu => by
    obtain ⟨b, off, e, hc⟩ := h.cell j u hu
    exact ⟨b, off, e, (hb.cell (p := ⟨b, off + j, .none⟩) (cell?_lt hc)).trans hc⟩⟩

theorem Bs.below {w w' : World} {ao : Option Addr} {cap : Nat} {l : List UInt8} (h : Bs w ao cap l) (hb : Below w.heap.size w w') : Bs w' ao cap l := Sl.below h hb

theorem Bs.get {w : World} {ao : Option Addr} {cap : Nat} {l : List UInt8} (h : Bs w ao cap l) (k : Nat) (hk : k < l.length) :
    ∃ b off, ao = some ⟨b, off, .none⟩ ∧ w.cell? ⟨b, off + k, .none⟩ = some (.int .u8 (l[k].toNat : Int)) :=
  h.cell k _ (by simp [hk])

theorem Bs.all {w : World} {b off cap : Nat} {l : List UInt8} (h : Bs w (some ⟨b, off, .none⟩) cap l) (k : Nat) (hk : k < l.length) :
    w.cell? ⟨b, off + k, .none⟩ = some (.int .u8 (l[k].toNat : Int)) := by
  obtain ⟨b', off', e, hc⟩ := h.get k hk
  simp only [Option.some.injEq, Addr.mk.injEq] at e
  obtain ⟨rfl, rfl, -⟩ := e
  exact hc

/-- an owned row reads as its cells -/
theorem Sl.of_own {w : World} {base e size n cap : Nat} {ao : Option Addr} {xs : List Value} (h : w.ownsRow base e size (.slice ao n cap) n xs) : Sl w size ao n cap xs := by
  obtain ⟨h1, h2⟩ := h
  rcases h2 with ⟨h2, rfl⟩ | ⟨g, cap', cur, hv, hg, hh, hn, hm, hs, ht⟩
  · simp only [Value.slice.injEq] at h2
    obtain ⟨rfl, -, rfl⟩ := h2
    exact ⟨h1, Nat.le_refl _, by decide, fun _ => rfl, fun j u hu => by
      have : xs = [] := List.eq_nil_of_length_eq_zero (by simpa using h1)
      subst this; simp at hu⟩
  · simp only [Value.slice.injEq] at hv
    obtain ⟨rfl, -, rfl⟩ := hv
    refine ⟨h1, hn, hm, fun e => by simp at e, fun j u hu => ⟨g, 0, rfl, ?_⟩⟩
    rw [cell_of_row w g (0 + j) cur e (0, 0) hh, Nat.zero_add]
    rw [← ht, List.getElem?_take] at hu
    split at hu
    · simpa using hu
    · cases hu

theorem Bs.of_own {w : World} {base e cap : Nat} {ao : Option Addr} {l : List UInt8} (h : w.ownsRow base e 1 (.slice ao l.length cap) l.length (l.map u8)) : Bs w ao cap l := Sl.of_own h

/-- any owned value is a slice -/
theorem own_slice {w : World} {base e size n : Nat} {v : Value} {xs : List Value} (h : w.ownsRow base e size v n xs) : ∃ ao cap, v = .slice ao n cap := by
  rcases h.2 with ⟨h2, rfl⟩ | ⟨g, cap', cur, hv, _⟩
  · exact ⟨_, _, h2⟩
  · exact ⟨_, _, hv⟩

theorem wpl_of {P : Program} {w : World} {ops : Array Oper} {rest : List Oper} {o : Oper} {a : Act} {Q : Exit → Act → World → Prop} (hw : Region.wanted o (yielded ops a.tmps) = true)
    (h : ∀ K : Act → World → Prop, (∀ a w, wpList P ops Q rest a w → K a w) → o.wp P a w K Q) : wpList P ops Q (o :: rest) a w :=
  wpList_step fun K hK => by simp only [hw, if_true]; exact h K hK

/-- append(out, src...): out nil or the call's own, src whatever reads as a list -/
theorem wpl_append {P : Program} {w : World} {ops : Array Oper} {rest : List Oper} {o : Oper} {a : Act} {Q : Exit → Act → World → Prop} (hw : Region.wanted o (yielded ops a.tmps) = true) (s x : Operand) (t : TypeId)
    (ho : o.op = .call { callee := .builtin .append, args := #[s, x], argTypes := #[t, t] })
    (base : Nat) (e : TypeId) {z : Value} {size bytes : Nat} (hi : (P.info? e).map (fun i => (i.zero, i.size, i.bytes)) = some (some z, size, bytes)) (ht : P.underlying t = some (.slice e))
    (hzs : z.cells.size = size) (hsz : 0 < size)
    (v : Value) (n : Nat) (xs : List Value) (hs : a.eval s = v) (hown : w.ownsRow base e size v n xs)
    (ao : Option Addr) (m c : Nat) (news : List Value) (hx : a.eval x = .slice ao m c) (hsl : Sl w size ao m c news) (h1 : ∀ u ∈ news, u.oneCell' = true)
    (h63 : n + m ≤ maxLen) (hbytes : (n + m) * bytes ≤ 140737488355328) (hbase : base ≤ w.heap.size)
    (h : ∀ ao' cap' w', w'.ownsRow base e size (.slice ao' (n + m) cap') (n + m) (xs ++ news) → w.grownBy w' v.ownBlock → wpList P ops Q rest (a.put o.dst (.slice ao' (n + m) cap')) w') : wpList P ops Q (o :: rest) a w := by
  obtain ⟨i, hi1, hi2, hi3, hi4⟩ := info_parts hi
  refine wpl_of hw fun K hK => ?_
  have key : ∀ v' w', w'.ownsRow base e size v' (n + m) (xs ++ news) → w.grownBy w' v.ownBlock → K (a.put o.dst v') w' := by
    intro v' w' h1 h2
    obtain ⟨ao', cap', rfl⟩ := own_slice h1
    exact hK _ _ (h _ _ _ h1 h2)
  cases ao with
  | none =>
    have hc := hsl.none rfl
    have hle := hsl.le
    obtain rfl : c = 0 := hc
    obtain rfl : m = 0 := by omega
    have hnews : news = [] := List.eq_nil_of_length_eq_zero (by simpa using hsl.len)
    subst hnews
    have hrun := run_append_owned_none (P := P) (w := w) base t o.type e i size ht hi1 v n xs hown
    unfold Oper.wp
    simp [execOp, ho, resolve, invoke, builtin, hs, hx, hrun, Result.andThen]
    exact key _ _ (by simpa using hown) (World.grownBy.refl _ _)
  | some ad =>
    refine wp_append_own w s x t ho base e i z size bytes ht hi1 hi2 hi3 hi4 hzs hsz v n xs hs hown ad m c news hx hsl.len ?_ h1 h63 hbytes hbase ?_
    · intro j u hu
      obtain ⟨b, off, e, hc⟩ := hsl.cell j u hu
      simp only [Option.some.injEq] at e
      subst e
      rw [← hc]; congr 1
      unfold Addr.add; split <;> simp_all
    · exact fun v' w' h1 h2 _ => key v' w' h1 h2

theorem u8_one (l : List UInt8) : ∀ u ∈ l.map u8, u.oneCell' = true := by
  intro u hu
  obtain ⟨c, _, rfl⟩ := List.mem_map.1 hu
  rfl

/-- bytes to bytes -/
theorem wpl_append_bs {P : Program} {w : World} {ops : Array Oper} {rest : List Oper} {o : Oper} {a : Act} {Q : Exit → Act → World → Prop} (hw : Region.wanted o (yielded ops a.tmps) = true) (s x : Operand) (t : TypeId)
    (ho : o.op = .call { callee := .builtin .append, args := #[s, x], argTypes := #[t, t] })
    (base : Nat) (e : TypeId) (hi : (P.info? e).map (fun i => (i.zero, i.size, i.bytes)) = some (some (.int .u8 0), 1, 1)) (ht : P.underlying t = some (.slice e))
    (ao0 : Option Addr) (c0 : Nat) (l0 : List UInt8) (hs : a.eval s = .slice ao0 l0.length c0) (hown : w.ownsRow base e 1 (.slice ao0 l0.length c0) l0.length (l0.map u8))
    (ao : Option Addr) (c : Nat) (l : List UInt8) (hx : a.eval x = .slice ao l.length c) (hsl : Bs w ao c l)
    (hbytes : l0.length + l.length ≤ 140737488355328) (hbase : base ≤ w.heap.size)
    (h : ∀ ao' cap' l' w', Hid (l' = l0 ++ l) → w'.ownsRow base e 1 (.slice ao' l'.length cap') l'.length (l'.map u8) → w.grownBy w' (Value.slice ao0 l0.length c0).ownBlock → wpList P ops Q rest (a.put o.dst (.slice ao' l'.length cap')) w') : wpList P ops Q (o :: rest) a w := by
  refine wpl_append hw s x t ho base e hi ht rfl (by decide) _ _ _ hs hown ao _ c _ hx hsl (u8_one l) (by unfold maxLen; omega) (by omega) hbase fun ao' cap' w' h1 h2 => ?_
  have e1 : l0.length + l.length = (l0 ++ l).length := by simp
  rw [← List.map_append, e1] at h1
  rw [e1]
  exact h ao' cap' (l0 ++ l) w' rfl h1 h2

theorem Addr.add_none (b off n : Nat) : (⟨b, off, .none⟩ : Addr).add n = ⟨b, off + n, .none⟩ := by
  unfold Addr.add; split <;> simp_all

/-- a piece of a slice -/
theorem Sl.cut {w : World} {size : Nat} {ao : Option Addr} {n cap : Nat} {xs : List Value} (h : Sl w size ao n cap xs) (l r : Nat) (hl : l ≤ r) (hr : r ≤ n) (hsz : 0 < size) :
    Sl w size (if cap = l then ao else ao.map (·.add (l * size))) (r - l) (cap - l) ((xs.take (r * size)).drop (l * size)) := by
  have hn := h.len; have hle := h.le; have hm := h.max
  refine ⟨?_, by omega, by omega, ?_, ?_⟩
  · simp only [List.length_drop, List.length_take, hn]
    have : r * size ≤ n * size := Nat.mul_le_mul_right _ hr
    rw [Nat.min_eq_left this, Nat.sub_mul]
  · intro e
    split at e
    · omega
    · cases ao with
      | none => have := h.none rfl; omega
      | some a => simp at e
  · intro j u hu
    rw [List.getElem?_drop, List.getElem?_take] at hu
    split at hu
    case isTrue hlt =>
      obtain ⟨b, off, rfl, hc⟩ := h.cell _ u hu
      have hne : cap ≠ l := by
        intro e
        have : r * size ≤ l * size := Nat.mul_le_mul_right _ (by omega)
        omega
      refine ⟨b, off + l * size, ?_, ?_⟩
      · rw [if_neg hne]; simp [Addr.add_none]
      · rw [← hc]; congr 2; omega
    case isFalse => cases hu

theorem run_slice_sl {P : Program} {w : World} {t e : TypeId} {size : Nat} (ht : P.underlying t = some (.slice e)) (hsz : (P.info? e).map (·.size) = some size)
    (ao : Option Addr) (n cap : Nat) (lo hi : Option Value) (l r : Nat) (hlo : lo = some (.int .i64 (l : Int)) ∨ lo = none ∧ l = 0) (hhi : hi = some (.int .i64 (r : Int)) ∨ hi = none ∧ r = n) (hl : l ≤ r) (hr : r ≤ cap) :
    (Instr.sliceAt t (.slice ao n cap) lo hi none).run P w = .ok (.slice (if cap = l then ao else ao.map (·.add (l * size))) (r - l) (cap - l)) w := by
  obtain ⟨i, hi1, hi2⟩ := Option.map_eq_some_iff.1 hsz
  have b : ∀ (x y : Nat) (c : BoundsCode), x ≤ y → (Instr.sliceBound (.int .i64 (x : Int)) y c).run P w = .ok x w := by
    intro x y c h
    simp [Instr.sliceBound, asIntOf, h]
  rcases hlo with rfl | ⟨rfl, rfl⟩ <;> rcases hhi with rfl | ⟨rfl, rfl⟩ <;>
    simp [Instr.sliceAt, Instr.slice, Instr.sliceBounds, run_underlying ht, sizeOf, typeInfo, hi1, hi2, b, hl, hr]

/-- a piece of bytes: the address and the list by name -/
theorem wpl_slice_bs {P : Program} {w : World} {ops : Array Oper} {rest : List Oper} {o : Oper} {a : Act} {Q : Exit → Act → World → Prop} (hw : Region.wanted o (yielded ops a.tmps) = true) (x : Operand) (olo ohi : Option Operand) (t e : TypeId)
    (ho : o.op = .slice t x olo ohi none) (ht : P.underlying t = some (.slice e)) (hsz : (P.info? e).map (·.size) = some 1)
    (ao : Option Addr) (c : Nat) (l : List UInt8) (hx : a.eval x = .slice ao l.length c) (hsl : Bs w ao c l)
    (p q : Nat) (hlo : (∃ i, olo.map a.eval = some (.int .i64 i) ∧ i = (p : Int)) ∨ olo.map a.eval = none ∧ p = 0) (hhi : (∃ i, ohi.map a.eval = some (.int .i64 i) ∧ i = (q : Int)) ∨ ohi.map a.eval = none ∧ q = l.length) (hp : p ≤ q) (hq : q ≤ l.length)
    (h : ∀ ao' cap' l', Hid (l' = (l.take q).drop p) → l'.length = q - p → Bs w ao' cap' l' → wpList P ops Q rest (a.put o.dst (.slice ao' l'.length cap')) w) : wpList P ops Q (o :: rest) a w := by
  refine wpl_of hw fun K hK => ?_
  have hc := Sl.cut hsl p q hp hq (by decide)
  have hle := hsl.le
  have hrun := run_slice_sl (w := w) ht hsz ao l.length c _ _ p q (hlo.imp (fun ⟨i, h1, h2⟩ => h2 ▸ h1) id) (hhi.imp (fun ⟨i, h1, h2⟩ => h2 ▸ h1) id) hp (by omega)
  have hL : ((l.take q).drop p).length = q - p := by simp; omega
  have hk := h _ _ ((l.take q).drop p) rfl hL (by unfold Bs; rw [hL]; simpa [List.map_drop, List.map_take] using hc)
  rw [hL] at hk
  unfold Oper.wp
  simp [execOp, ho, hx, hrun, Result.andThen]
  exact hK _ _ (by simpa using hk)

/-- string(b) -/
theorem run_string_bs {P : Program} {w : World} (src dst e : TypeId) (hs : P.underlying src = some (.slice e)) (he : P.underlying e = some (.int .u8)) (hd : P.underlying dst = some .string)
    (ao : Option Addr) (c : Nat) (l : List UInt8) (hsl : Bs w ao c l) : (convert src dst (.slice ao l.length c)).run P w = .ok (.string ⟨l.toArray⟩) w := by
  rw [run_convert_bytes_string w src dst e ao _ c hs he hd]
  cases ao with
  | none =>
    have h1 := hsl.none rfl; have h2 := hsl.le
    have : l = [] := List.eq_nil_of_length_eq_zero (by omega)
    subst this
    rfl
  | some ad =>
    have hcells : (loadCells ad l.length).run P w = .ok ((l.map fun c => (c.toNat : Int)).map (Value.int .u8)).toArray w := by
      have := run_loadCells_list (P := P) (w := w) ad (l.map u8) (fun j v hv => by
        obtain ⟨b, off, e, hc⟩ := hsl.cell j v hv
        simp only [Option.some.injEq] at e
        subst e
        rw [Addr.add_none]; exact hc)
      simpa [List.map_map, Function.comp_def] using this
    rw [run_bytesToString w ad _ c _ hcells]
    congr 2
    have key : ∀ (l : List UInt8) (s : ByteArray), (l.map fun c => (c.toNat : Int)).foldl (fun r n => r.push (UInt8.ofNat n.toNat)) s = ⟨s.data ++ l.toArray⟩ := by
      intro l
      induction l with
      | nil => intro s; simp
      | cons c l ih =>
        intro s
        rw [List.map_cons, List.foldl_cons, ih]
        congr 1
        apply Array.ext'
        simp
    have := key l ByteArray.empty
    rw [this]
    congr 1
    apply Array.ext'
    simp [ByteArray.empty, ByteArray.emptyWithCapacity]
    rfl

/-- a slice of byte slices -/
structure Bss (w : World) (ao : Option Addr) (cap : Nat) (ls : List (List UInt8)) : Prop where
  le : ls.length ≤ cap
  max : cap ≤ maxLen
  none : ao = none → cap = 0
  cell : ∀ k (h : k < ls.length), ∃ b off ak ck, ao = some ⟨b, off, .none⟩ ∧ w.cell? ⟨b, off + k, .none⟩ = some (.slice ak ls[k].length ck) ∧ Bs w ak ck ls[k]

theorem Bss.below {w w' : World} {ao : Option Addr} {cap : Nat} {ls : List (List UInt8)} (h : Bss w ao cap ls) (hb : Below w.heap.size w w') : Bss w' ao cap ls :=
  ⟨h.le, h.max, h.none, fun k hk => by
    obtain ⟨b, off, ak, ck, e, hc, hs⟩ := h.cell k hk
    exact ⟨b, off, ak, ck, e, (hb.cell (p := ⟨b, off + k, .none⟩) (cell?_lt hc)).trans hc, hs.below hb⟩⟩

theorem Bss.one {w : World} {ao : Option Addr} {cap : Nat} {l : List UInt8} (h : Bs w ao cap l) (T : TypeId) :
    Bss (w.alloc (.cells #[.slice ao l.length cap] T)) (some ⟨w.heap.size, 0, .none⟩) 1 [l] :=
  ⟨by simp, by decide, by simp, fun k hk => by
    obtain rfl : k = 0 := by simpa using hk
    exact ⟨_, _, ao, cap, rfl, by simp [World.cell?_alloc_at], h.below ((Below.refl _ _).alloc (Nat.le_refl _) _)⟩⟩

theorem cell?_new (w : World) (cs : Array Value) (T : TypeId) (m : Nat × Nat) (j : Nat) : (w.alloc (.cells cs T m)).cell? ⟨w.heap.size, j, .none⟩ = cs[j]? := by
  have := heap_alloc_new w (.cells cs T m)
  unfold World.cell?
  simp only [this]
  rfl
/-- a literal of bytes in a new block -/
theorem Bs.lit {w : World} (l : List UInt8) (cs : Array Value) (T : TypeId) (n : Nat) (hn : n = l.length) (hcs : cs.toList = l.map u8) (hm : l.length ≤ 1000) :
    Bs (w.alloc (.cells cs T)) (some ⟨w.heap.size, 0, .none⟩) n l :=
  ⟨by simp, by omega, by unfold maxLen; omega, by simp, fun j u hu => ⟨_, 0, rfl, by
    rw [cell?_new, Nat.zero_add, ← Array.getElem?_toList, hcs]; exact hu⟩⟩

theorem Bs.litM {w : World} (l : List UInt8) (cs : Array Value) (T : TypeId) (n : Nat) (hn : n = l.length) (hcs : cs.toList = l.map u8) (hm : l.length ≤ 1000) (m : Nat × Nat) :
    Bs (w.alloc (.cells cs T m)) (some ⟨w.heap.size, 0, .none⟩) n l :=
  ⟨by simp, by omega, by unfold maxLen; omega, by simp, fun j u hu => ⟨_, 0, rfl, by
    rw [cell?_new, Nat.zero_add, ← Array.getElem?_toList, hcs]; exact hu⟩⟩

theorem below_new (w : World) (o : Obj) : Below w.heap.size w (w.alloc o) := (Below.refl _ _).alloc (Nat.le_refl _) _
/-- what came later, below an elder bound -/
theorem below_on {B : Nat} {w w1 w2 : World} (h : Below B w w1) (h2 : Below w1.heap.size w1 w2) (hB : B ≤ w.heap.size) : Below B w w2 :=
  h.trans (h2.mono (Nat.le_trans hB h.size))
theorem own_below {w w' : World} {base e size n : Nat} {v : Value} {xs : List Value} (h : w.ownsRow base e size v n xs) (hb : Below w.heap.size w w') : w'.ownsRow base e size v n xs := by
  obtain ⟨h1, h2⟩ := h
  refine ⟨h1, ?_⟩
  rcases h2 with h2 | ⟨g, cap, cur, hv, hg, hh, r⟩
  · exact .inl h2
  · exact .inr ⟨g, cap, cur, hv, hg, by rw [hb.block g (Array.getElem?_eq_some_iff.1 hh).1]; exact hh, r⟩
theorem own_base {w : World} {base base' e size n : Nat} {v : Value} {xs : List Value} (h : w.ownsRow base e size v n xs) (hb : base' ≤ base) : w.ownsRow base' e size v n xs := by
  obtain ⟨h1, h2⟩ := h
  refine ⟨h1, ?_⟩
  rcases h2 with h2 | ⟨g, cap, cur, hv, hg, r⟩
  · exact .inl h2
  · exact .inr ⟨g, cap, cur, hv, by omega, r⟩
/-- an empty literal '[]T{}' owns nothing -/
theorem own_empty (w : World) (base e size : Nat) (hb : base ≤ w.heap.size) : (w.alloc (.cells #[] e)).ownsRow base e size (.slice (some ⟨w.heap.size, 0, .none⟩) 0 0) 0 [] :=
  World.ownsRow_made w #[] 0 hb (Nat.zero_le _) (by simp)
/-- behind an append to what is the call's own -/
theorem below_app {B : Nat} {w0 w w' : World} {v : Value} {base e size n : Nat} {xs : List Value} (h : Below B w0 w) (hg : w.grownBy w' v.ownBlock) (hown : w.ownsRow base e size v n xs) (hB : B ≤ base) (hw : B ≤ w.heap.size) : Below B w0 w' :=
  h.grown hg hw (fun k hk => by have := (hown.lt k hk).1; omega)
end Go.Proofs.Ytadghaiengonoaa
