/- Lemmas for DeadlineOnce (Aux Sta Aux2 Aux3 Th To Ts Tr). No statement of the seat is proved here. -/
import Derived.Test.YtedlplkomfiahaaRows
import Derived.WalkKit
import Derived.WalkSpells
import Derived.Outline
import Derived.Lib.Hide
import Derived.Laws.AppendOwnNone
import Derived.Lib.SlBytesConst
import Derived.Deep.AppendLies
import Derived.WalkLawsBesides
import Derived.BigQuiet
import Derived.Deep.QuietTactic
import Derived.RegionTactic
import Derived.BigRegion
import Derived.Deep.RegionWith
import Derived.Deep.RegionLaw
import Derived.Deep.RegionHeld3
import Derived.Deep.DeepCutAuto
import Derived.IntWalk
import Derived.Laws.NewBlocks
import Derived.Lib.QuietBelow
namespace Go.Proofs.Ytedlplkomfiahaa
set_option linter.unusedVariables false
set_option linter.unusedSimpArgs false
set_option linter.unusedSectionVars false
open Go Go.RowKit
/-- A byte as a cell. -/
abbrev u8 (c : UInt8) : Value := .int .u8 (c.toNat : Int)
/-- The slice (ao, n, cap) of elements of 'size' cells reads in w as the cells xs. -/
structure Sl (w : World) (size : Nat) (ao : Option Addr) (n cap : Nat) (xs : List Value) : Prop where
  len : xs.length = n * size
  le : n ≤ cap
  max : cap ≤ maxLen
  none : ao = none → cap = 0
  cell : ∀ j u, xs[j]? = some u → ∃ b off, ao = some ⟨b, off, .none⟩ ∧ w.cell? ⟨b, off + j, .none⟩ = some u
/-- bytes -/
def Bs (w : World) (ao : Option Addr) (cap : Nat) (l : List UInt8) : Prop := Sl w 1 ao l.length cap (l.map u8)
theorem ret_bool {a b : Bool} (h : a = b) : Ending.returned (.bool a) = .returned (.bool b) := by rw [h]
theorem cell?_lt {w : World} {a : Addr} {u : Value} (h : w.cell? a = some u) : a.block < w.heap.size := World.block_lt_of_cell? w a h
theorem Sl.below {w w' : World} {size : Nat} {ao : Option Addr} {n cap : Nat} {xs : List Value} (h : Sl w size ao n cap xs) (hb : Below w.heap.size w w') : Sl w' size ao n cap xs :=
  ⟨h.len, h.le, h.max, h.none, fun j u hu => by
    obtain ⟨b, off, e, hc⟩ := h.cell j u hu
    exact ⟨b, off, e, (hb.cell (p := ⟨b, off + j, .none⟩) (cell?_lt hc)).trans hc⟩⟩
theorem Bs.below {w w' : World} {ao : Option Addr} {cap : Nat} {l : List UInt8} (h : Bs w ao cap l) (hb : Below w.heap.size w w') : Bs w' ao cap l := Sl.below h hb
theorem Bs.get {w : World} {ao : Option Addr} {cap : Nat} {l : List UInt8} (h : Bs w ao cap l) (k : Nat) (hk : k < l.length) :
    ∃ b off, ao = some ⟨b, off, .none⟩ ∧ w.cell? ⟨b, off + k, .none⟩ = some (.int .u8 (l[k].toNat : Int)) :=
  h.cell k _ (by simp [hk])
theorem Bs.all {w : World} {b off cap : Nat} {l : List UInt8} (h : Bs w (some ⟨b, off, .none⟩) cap l) (k : Nat) (hk : k < l.length) :
    w.cell? ⟨b, off + k, .none⟩ = some (.int .u8 (l[k].toNat : Int)) := by
  obtain ⟨b', off', e, hc⟩ := h.get k hk
  simp only [Option.some.injEq, Addr.mk.injEq] at e
  obtain ⟨rfl, rfl, -⟩ := e
  exact hc
/-- an owned row reads as its cells -/
theorem Sl.of_own {w : World} {base e size n cap : Nat} {ao : Option Addr} {xs : List Value} (h : w.ownsRow base e size (.slice ao n cap) n xs) : Sl w size ao n cap xs := by
  obtain ⟨h1, h2⟩ := h
  rcases h2 with ⟨h2, rfl⟩ | ⟨g, cap', cur, hv, hg, hh, hn, hm, hs, ht⟩
  · simp only [Value.slice.injEq] at h2
    obtain ⟨rfl, -, rfl⟩ := h2
    exact ⟨h1, Nat.le_refl _, by decide, fun _ => rfl, fun j u hu => by
      have : xs = [] := List.eq_nil_of_length_eq_zero (by simpa using h1)
      subst this; simp at hu⟩
  · simp only [Value.slice.injEq] at hv
    obtain ⟨rfl, -, rfl⟩ := hv
    refine ⟨h1, hn, hm, fun e => by simp at e, fun j u hu => ⟨g, 0, rfl, ?_⟩⟩
    rw [cell_of_row w g (0 + j) cur e (0, 0) hh, Nat.zero_add]
    rw [← ht, List.getElem?_take] at hu
    split at hu
    · simpa using hu
    · cases hu
theorem Bs.of_own {w : World} {base e cap : Nat} {ao : Option Addr} {l : List UInt8} (h : w.ownsRow base e 1 (.slice ao l.length cap) l.length (l.map u8)) : Bs w ao cap l := Sl.of_own h
/-- any owned value is a slice -/
theorem own_slice {w : World} {base e size n : Nat} {v : Value} {xs : List Value} (h : w.ownsRow base e size v n xs) : ∃ ao cap, v = .slice ao n cap := by
  rcases h.2 with ⟨h2, rfl⟩ | ⟨g, cap', cur, hv, _⟩
  · exact ⟨_, _, h2⟩
  · exact ⟨_, _, hv⟩
theorem wpl_of {P : Program} {w : World} {ops : Array Oper} {rest : List Oper} {o : Oper} {a : Act} {Q : Exit → Act → World → Prop} (hw : Region.wanted o (yielded ops a.tmps) = true)
    (h : ∀ K : Act → World → Prop, (∀ a w, wpList P ops Q rest a w → K a w) → o.wp P a w K Q) : wpList P ops Q (o :: rest) a w :=
  wpList_step fun K hK => by simp only [hw, if_true]; exact h K hK
/-- append(out, src...): out nil or the call's own, src whatever reads as a list -/
theorem wpl_append {P : Program} {w : World} {ops : Array Oper} {rest : List Oper} {o : Oper} {a : Act} {Q : Exit → Act → World → Prop} (hw : Region.wanted o (yielded ops a.tmps) = true) (s x : Operand) (t : TypeId)
    (ho : o.op = .call { callee := .builtin .append, args := #[s, x], argTypes := #[t, t] })
    (base : Nat) (e : TypeId) {z : Value} {size bytes : Nat} (hi : (P.info? e).map (fun i => (i.zero, i.size, i.bytes)) = some (some z, size, bytes)) (ht : P.underlying t = some (.slice e))
    (hzs : z.cells.size = size) (hsz : 0 < size)
    (v : Value) (n : Nat) (xs : List Value) (hs : a.eval s = v) (hown : w.ownsRow base e size v n xs)
    (ao : Option Addr) (m c : Nat) (news : List Value) (hx : a.eval x = .slice ao m c) (hsl : Sl w size ao m c news) (h1 : ∀ u ∈ news, u.oneCell' = true)
    (h63 : n + m ≤ maxLen) (hbytes : (n + m) * bytes ≤ 140737488355328) (hbase : base ≤ w.heap.size)
    (h : ∀ ao' cap' w', w'.ownsRow base e size (.slice ao' (n + m) cap') (n + m) (xs ++ news) → w.grownBy w' v.ownBlock → wpList P ops Q rest (a.put o.dst (.slice ao' (n + m) cap')) w') : wpList P ops Q (o :: rest) a w := by
  obtain ⟨i, hi1, hi2, hi3, hi4⟩ := info_parts hi
  refine wpl_of hw fun K hK => ?_
  have key : ∀ v' w', w'.ownsRow base e size v' (n + m) (xs ++ news) → w.grownBy w' v.ownBlock → K (a.put o.dst v') w' := by
    intro v' w' h1 h2
    obtain ⟨ao', cap', rfl⟩ := own_slice h1
    exact hK _ _ (h _ _ _ h1 h2)
  cases ao with
  | none =>
    have hc := hsl.none rfl
    have hle := hsl.le
    obtain rfl : c = 0 := hc
    obtain rfl : m = 0 := by omega
    have hnews : news = [] := List.eq_nil_of_length_eq_zero (by simpa using hsl.len)
    subst hnews
    have hrun := run_append_owned_none (P := P) (w := w) base t o.type e i size ht hi1 v n xs hown
    unfold Oper.wp
    simp [execOp, ho, resolve, invoke, builtin, hs, hx, hrun, Result.andThen]
    exact key _ _ (by simpa using hown) (World.grownBy.refl _ _)
  | some ad =>
    refine wp_append_own w s x t ho base e i z size bytes ht hi1 hi2 hi3 hi4 hzs hsz v n xs hs hown ad m c news hx hsl.len ?_ h1 h63 hbytes hbase ?_
    · intro j u hu
      obtain ⟨b, off, e, hc⟩ := hsl.cell j u hu
      simp only [Option.some.injEq] at e
      subst e
      rw [← hc]; congr 1
      unfold Addr.add; split <;> simp_all
    · exact fun v' w' h1 h2 _ => key v' w' h1 h2
theorem Addr.add_none (b off n : Nat) : (⟨b, off, .none⟩ : Addr).add n = ⟨b, off + n, .none⟩ := by
  unfold Addr.add; split <;> simp_all
theorem run_slice_sl {P : Program} {w : World} {t e : TypeId} {size : Nat} (ht : P.underlying t = some (.slice e)) (hsz : (P.info? e).map (·.size) = some size)
    (ao : Option Addr) (n cap : Nat) (lo hi : Option Value) (l r : Nat) (hlo : lo = some (.int .i64 (l : Int)) ∨ lo = none ∧ l = 0) (hhi : hi = some (.int .i64 (r : Int)) ∨ hi = none ∧ r = n) (hl : l ≤ r) (hr : r ≤ cap) :
    (Instr.sliceAt t (.slice ao n cap) lo hi none).run P w = .ok (.slice (if cap = l then ao else ao.map (·.add (l * size))) (r - l) (cap - l)) w := by
  obtain ⟨i, hi1, hi2⟩ := Option.map_eq_some_iff.1 hsz
  have b : ∀ (x y : Nat) (c : BoundsCode), x ≤ y → (Instr.sliceBound (.int .i64 (x : Int)) y c).run P w = .ok x w := by
    intro x y c h
    simp [Instr.sliceBound, asIntOf, h]
  rcases hlo with rfl | ⟨rfl, rfl⟩ <;> rcases hhi with rfl | ⟨rfl, rfl⟩ <;>
    simp [Instr.sliceAt, Instr.slice, Instr.sliceBounds, run_underlying ht, sizeOf, typeInfo, hi1, hi2, b, hl, hr]
/-- a slice of byte slices -/
structure Bss (w : World) (ao : Option Addr) (cap : Nat) (ls : List (List UInt8)) : Prop where
  le : ls.length ≤ cap
  max : cap ≤ maxLen
  none : ao = none → cap = 0
  cell : ∀ k (h : k < ls.length), ∃ b off ak ck, ao = some ⟨b, off, .none⟩ ∧ w.cell? ⟨b, off + k, .none⟩ = some (.slice ak ls[k].length ck) ∧ Bs w ak ck ls[k]
theorem Bss.below {w w' : World} {ao : Option Addr} {cap : Nat} {ls : List (List UInt8)} (h : Bss w ao cap ls) (hb : Below w.heap.size w w') : Bss w' ao cap ls :=
  ⟨h.le, h.max, h.none, fun k hk => by
    obtain ⟨b, off, ak, ck, e, hc, hs⟩ := h.cell k hk
    exact ⟨b, off, ak, ck, e, (hb.cell (p := ⟨b, off + k, .none⟩) (cell?_lt hc)).trans hc, hs.below hb⟩⟩
theorem Bss.one {w : World} {ao : Option Addr} {cap : Nat} {l : List UInt8} (h : Bs w ao cap l) (T : TypeId) :
    Bss (w.alloc (.cells #[.slice ao l.length cap] T)) (some ⟨w.heap.size, 0, .none⟩) 1 [l] :=
  ⟨by simp, by decide, by simp, fun k hk => by
    obtain rfl : k = 0 := by simpa using hk
    exact ⟨_, _, ao, cap, rfl, by simp [World.cell?_alloc_at], h.below ((Below.refl _ _).alloc (Nat.le_refl _) _)⟩⟩
theorem cell?_new (w : World) (cs : Array Value) (T : TypeId) (m : Nat × Nat) (j : Nat) : (w.alloc (.cells cs T m)).cell? ⟨w.heap.size, j, .none⟩ = cs[j]? := by
  have := heap_alloc_new w (.cells cs T m)
  unfold World.cell?
  simp only [this]
  rfl
/-- a literal of bytes in a new block -/
theorem Bs.lit {w : World} (l : List UInt8) (cs : Array Value) (T : TypeId) (n : Nat) (hn : n = l.length) (hcs : cs.toList = l.map u8) (hm : l.length ≤ 1000) :
    Bs (w.alloc (.cells cs T)) (some ⟨w.heap.size, 0, .none⟩) n l :=
  ⟨by simp, by omega, by unfold maxLen; omega, by simp, fun j u hu => ⟨_, 0, rfl, by
    rw [cell?_new, Nat.zero_add, ← Array.getElem?_toList, hcs]; exact hu⟩⟩
theorem below_new (w : World) (o : Obj) : Below w.heap.size w (w.alloc o) := (Below.refl _ _).alloc (Nat.le_refl _) _
/-- what came later, below an elder bound -/
theorem below_on {B : Nat} {w w1 w2 : World} (h : Below B w w1) (h2 : Below w1.heap.size w1 w2) (hB : B ≤ w.heap.size) : Below B w w2 :=
  h.trans (h2.mono (Nat.le_trans hB h.size))
theorem own_below {w w' : World} {base e size n : Nat} {v : Value} {xs : List Value} (h : w.ownsRow base e size v n xs) (hb : Below w.heap.size w w') : w'.ownsRow base e size v n xs := by
  obtain ⟨h1, h2⟩ := h
  refine ⟨h1, ?_⟩
  rcases h2 with h2 | ⟨g, cap, cur, hv, hg, hh, r⟩
  · exact .inl h2
  · exact .inr ⟨g, cap, cur, hv, hg, by rw [hb.block g (Array.getElem?_eq_some_iff.1 hh).1]; exact hh, r⟩
theorem own_base {w : World} {base base' e size n : Nat} {v : Value} {xs : List Value} (h : w.ownsRow base e size v n xs) (hb : base' ≤ base) : w.ownsRow base' e size v n xs := by
  obtain ⟨h1, h2⟩ := h
  refine ⟨h1, ?_⟩
  rcases h2 with h2 | ⟨g, cap, cur, hv, hg, r⟩
  · exact .inl h2
  · exact .inr ⟨g, cap, cur, hv, by omega, r⟩
/-- an empty literal '[]T{}' owns nothing -/
theorem own_empty (w : World) (base e size : Nat) (hb : base ≤ w.heap.size) : (w.alloc (.cells #[] e)).ownsRow base e size (.slice (some ⟨w.heap.size, 0, .none⟩) 0 0) 0 [] :=
  World.ownsRow_made w #[] 0 hb (Nat.zero_le _) (by simp)
/-- behind an append to what is the call's own -/
theorem below_app {B : Nat} {w0 w w' : World} {v : Value} {base e size n : Nat} {xs : List Value} (h : Below B w0 w) (hg : w.grownBy w' v.ownBlock) (hown : w.ownsRow base e size v n xs) (hB : B ≤ base) (hw : B ≤ w.heap.size) : Below B w0 w' :=
  h.grown hg hw (fun k hk => by have := (hown.lt k hk).1; omega)
end Go.Proofs.Ytedlplkomfiahaa
namespace Go.Proofs.Ytedlplkomfiahaa.Sta
set_option linter.unusedVariables false
set_option linter.unusedSimpArgs false
set_option linter.unusedSectionVars false
variable {α : Type} (le : α → α → Bool)
abbrev Up (l : List α) : Prop := l.Pairwise fun a b => le a b = true
def mg (a b : List α) : List α := List.merge a b le
theorem mg_nil (b : List α) : mg le [] b = b := by simp [mg]
theorem mg_nil' (a : List α) : mg le a [] = a := by simp [mg]
theorem mg_cons (x y : α) (a b : List α) : mg le (x :: a) (y :: b) = if le x y = true then x :: mg le a (y :: b) else y :: mg le (x :: a) b := by
  simp [mg, List.cons_merge_cons]
theorem mg_len (a b : List α) : (mg le a b).length = a.length + b.length := by simp [mg, List.length_merge]
/-- a merge in two parts -/
theorem mg_split (a1 a2 b1 b2 : List α) (h1 : ∀ x ∈ a2, ∀ y ∈ b1, le x y = false) (h2 : ∀ x ∈ a1, ∀ y ∈ b2, le x y = true) :
    mg le (a1 ++ a2) (b1 ++ b2) = mg le a1 b1 ++ mg le a2 b2 := by
  induction a1 generalizing b1 with
  | nil =>
    induction b1 with
    | nil => simp [mg_nil]
    | cons y b1 ih =>
      cases a2 with
      | nil => simp [mg_nil]
      | cons x a2 =>
        have e := h1 x (by simp) y (by simp)
        have ih := ih (fun x hx z hz => h1 x hx z (by simp [hz]))
        simp only [List.nil_append, List.cons_append, mg_nil] at ih ⊢
        rw [mg_cons, if_neg (by simp [e]), ih]
  | cons x a1 iha =>
    induction b1 with
    | nil =>
      cases b2 with
      | nil => simp [mg_nil']
      | cons y b2 =>
        have e := h2 x (by simp) y (by simp)
        have ih := iha [] (fun x _ z hz => by simp at hz) (fun x hx z hz => h2 x (by simp [hx]) z hz)
        simp only [List.nil_append, List.cons_append, mg_nil'] at ih ⊢
        rw [mg_cons, if_pos e, ih]
    | cons y b1 ihb =>
      simp only [List.cons_append]
      rw [mg_cons, mg_cons]
      by_cases e : le x y = true
      · rw [if_pos e, if_pos e]
        have ih := iha (y :: b1) h1 (fun x hx z hz => h2 x (by simp [hx]) z hz)
        simp only [List.cons_append] at ih
        rw [ih]; rfl
      · rw [if_neg e, if_neg e]
        have ih := ihb (fun x hx z hz => h1 x hx z (by simp [hz]))
        simp only [List.cons_append] at ih
        rw [ih]; rfl
theorem mg_one (x : α) (b1 b2 : List α) (h1 : ∀ y ∈ b1, le x y = false) (h2 : ∀ y ∈ b2, le x y = true) : mg le [x] (b1 ++ b2) = b1 ++ x :: b2 := by
  have := mg_split le [] [x] b1 b2 (by simpa using h1) (by simp)
  simp only [List.nil_append, mg_nil] at this
  rw [this]
  cases b2 with
  | nil => simp [mg_nil']
  | cons y b2 => rw [mg_cons, if_pos (h2 y (by simp)), mg_nil]
theorem mg_last (y : α) (a1 a2 : List α) (h1 : ∀ x ∈ a1, le x y = true) (h2 : ∀ x ∈ a2, le x y = false) : mg le (a1 ++ a2) [y] = a1 ++ y :: a2 := by
  have := mg_split le a1 a2 [] [y] (by simp) (by simpa using h1)
  simp only [List.nil_append, mg_nil'] at this
  rw [this]
  cases a2 with
  | nil => simp [mg_nil]
  | cons x a2 => rw [mg_cons, if_neg (by simp [h2 x (by simp)]), mg_nil']
variable (htr : ∀ a b c, le a b = true → le b c = true → le a c = true) (hto : ∀ a b, le a b = true ∨ le b a = true)
theorem mg_mem (a b : List α) (x : α) : x ∈ mg le a b ↔ x ∈ a ∨ x ∈ b := by simp [mg, List.mem_merge]
theorem mg_perm (a b : List α) : (mg le a b).Perm (a ++ b) := by simpa [mg] using List.merge_perm_append (le := le) (xs := a) (ys := b)
include htr hto in
theorem mg_up (a b : List α) (ha : Up le a) (hb : Up le b) : Up le (mg le a b) := by
  induction a generalizing b with
  | nil => simpa [mg_nil] using hb
  | cons x a iha =>
    induction b with
    | nil => simpa [mg_nil'] using ha
    | cons y b ihb =>
      rw [mg_cons]
      obtain ⟨hx, ha'⟩ := List.pairwise_cons.1 ha
      obtain ⟨hy, hb'⟩ := List.pairwise_cons.1 hb
      by_cases e : le x y = true
      · rw [if_pos e]
        refine List.pairwise_cons.2 ⟨fun z hz => ?_, iha (y :: b) ha' hb⟩
        rcases (mg_mem le _ _ _).1 hz with h | h
        · exact hx z h
        · rcases List.mem_cons.1 h with rfl | h
          · exact e
          · exact htr _ _ _ e (hy z h)
      · rw [if_neg e]
        have e2 : le y x = true := (hto x y).resolve_left e
        refine List.pairwise_cons.2 ⟨fun z hz => ?_, ihb hb'⟩
        rcases (mg_mem le _ _ _).1 hz with h | h
        · rcases List.mem_cons.1 h with rfl | h
          · exact e2
          · exact htr _ _ _ e2 (hx z h)
        · exact hy z h
include htr hto in
theorem mg_assoc (a b c : List α) (ha : Up le a) (hb : Up le b) (hc : Up le c) : mg le (mg le a b) c = mg le a (mg le b c) := by
  induction a generalizing b c with
  | nil => simp [mg_nil]
  | cons x a iha =>
    induction b generalizing c with
    | nil => simp [mg_nil, mg_nil']
    | cons y b ihb =>
      induction c with
      | nil => simp [mg_nil']
      | cons z c ihc =>
        obtain ⟨hx, ha'⟩ := List.pairwise_cons.1 ha
        obtain ⟨hy, hb'⟩ := List.pairwise_cons.1 hb
        obtain ⟨hz, hc'⟩ := List.pairwise_cons.1 hc
        by_cases e : le x y = true
        · by_cases f : le y z = true
          · have g : le x z = true := htr _ _ _ e f
            have ih := iha (y :: b) (z :: c) ha' hb hc
            rw [mg_cons le x y, if_pos e, mg_cons le y z, if_pos f, mg_cons, if_pos g, mg_cons, if_pos e, ih, mg_cons le y z, if_pos f]
          · by_cases g : le x z = true
            · have ih := iha (y :: b) (z :: c) ha' hb hc
              rw [mg_cons le x y, if_pos e, mg_cons le y z, if_neg f, mg_cons, if_pos g, mg_cons, if_pos g, ih, mg_cons le y z, if_neg f]
            · have ih := ihc hc'
              rw [mg_cons le x y, if_pos e] at ih
              rw [mg_cons le x y, if_pos e, mg_cons le y z, if_neg f, mg_cons, if_neg g, mg_cons, if_neg g, ih]
        · by_cases f : le y z = true
          · have ih := ihb (z :: c) hb' hc
            rw [mg_cons le x y, if_neg e, mg_cons le y z, if_pos f, mg_cons, if_pos f, mg_cons, if_neg e, ih]
          · have g : ¬ le x z = true := fun g => f (htr _ _ _ ((hto x y).resolve_left e) g)
            have ih := ihc hc'
            rw [mg_cons le x y, if_neg e] at ih
            rw [mg_cons le x y, if_neg e, mg_cons le y z, if_neg f, mg_cons, if_neg f, mg_cons, if_neg g, ih]
theorem snoc_ind {P : List α → Prop} (h0 : P []) (h1 : ∀ l x, P l → P (l ++ [x])) (l : List α) : P l := by
  have : ∀ n, ∀ l : List α, l.length = n → P l := by
    intro n
    induction n with
    | zero => intro l hl; rw [List.eq_nil_of_length_eq_zero hl]; exact h0
    | succ n ih =>
      intro l hl
      have hne : l ≠ [] := by intro h; rw [h] at hl; simp at hl
      rw [← List.dropLast_concat_getLast hne]
      exact h1 _ _ (ih _ (by simp [hl]))
  exact this _ l rfl
/-- the stable sort -/
def srt (l : List α) : List α := l.foldl (fun acc x => mg le acc [x]) []
theorem srt_nil : srt le [] = [] := rfl
theorem srt_snoc (l : List α) (x : α) : srt le (l ++ [x]) = mg le (srt le l) [x] := by simp [srt, List.foldl_append]
theorem srt_one (x : α) : srt le [x] = [x] := by simp [srt, mg_nil]
theorem srt_len (l : List α) : (srt le l).length = l.length := by
  refine snoc_ind (P := fun l => (srt le l).length = l.length) rfl (fun l x ih => ?_) l
  rw [srt_snoc, mg_len, ih]; simp
theorem srt_perm (l : List α) : (srt le l).Perm l := by
  refine snoc_ind (P := fun l => (srt le l).Perm l) (List.Perm.refl _) (fun l x ih => ?_) l
  rw [srt_snoc]; exact (mg_perm le _ _).trans (ih.append_right _)
include htr hto in
theorem srt_up (l : List α) : Up le (srt le l) := by
  refine snoc_ind (P := fun l => Up le (srt le l)) List.Pairwise.nil (fun l x ih => ?_) l
  rw [srt_snoc]; exact mg_up le htr hto _ _ ih (List.pairwise_singleton _ _)
include htr hto in
theorem srt_append (a b : List α) : srt le (a ++ b) = mg le (srt le a) (srt le b) := by
  refine snoc_ind (P := fun b => srt le (a ++ b) = mg le (srt le a) (srt le b)) (by simp [srt_nil, mg_nil']) (fun b x ih => ?_) b
  · rw [← List.append_assoc, srt_snoc, srt_snoc, ih]
    exact mg_assoc le htr hto _ _ _ (srt_up le htr hto a) (srt_up le htr hto b) (List.pairwise_singleton _ _)
/-- where a merge is parted -/
theorem mg_part (htr : ∀ a b c, le a b = true → le b c = true → le a c = true) (A B : List α) (hA : Up le A) (hB : Up le B) (s t : Nat) (hs : s ≤ A.length) (ht : t ≤ B.length)
    (h1 : ∀ (h : 0 < s) (h' : t < B.length), le (A[s - 1]'(by omega)) B[t] = true) (h2 : ∀ (h : s < A.length) (h' : 0 < t), le A[s] (B[t - 1]'(by omega)) = false) :
    mg le A B = mg le (A.take s) (B.take t) ++ mg le (A.drop s) (B.drop t) := by
  have e := mg_split le (A.take s) (A.drop s) (B.take t) (B.drop t) ?_ ?_
  · rwa [List.take_append_drop, List.take_append_drop] at e
  · intro x hx y hy
    obtain ⟨i, hi, rfl⟩ := List.mem_iff_getElem.1 hx
    obtain ⟨j, hj, rfl⟩ := List.mem_iff_getElem.1 hy
    simp only [List.length_drop] at hi
    simp only [List.length_take] at hj
    rw [List.getElem_drop, List.getElem_take]
    have h3 := h2 (by omega) (by omega)
    cases h4 : le (A[s + i]'(by omega)) (B[j]'(by omega)) with
    | false => rfl
    | true =>
      have a1 : le (A[s]'(by omega)) (A[s + i]'(by omega)) = true ∨ i = 0 := by
        by_cases hi0 : i = 0
        · exact .inr hi0
        · exact .inl (List.pairwise_iff_getElem.1 hA s (s + i) (by omega) (by omega) (by omega))
      have b1 : le (B[j]'(by omega)) (B[t - 1]'(by omega)) = true ∨ j = t - 1 := by
        by_cases hj0 : j = t - 1
        · exact .inr hj0
        · exact .inl (List.pairwise_iff_getElem.1 hB j (t - 1) (by omega) (by omega) (by omega))
      have h5 : le (A[s]'(by omega)) (B[j]'(by omega)) = true := by
        rcases a1 with a1 | rfl
        · exact htr _ _ _ a1 h4
        · simpa using h4
      have h6 : le (A[s]'(by omega)) (B[t - 1]'(by omega)) = true := by
        rcases b1 with b1 | b1
        · exact htr _ _ _ h5 b1
        · simpa only [b1] using h5
      rw [h6] at h3; cases h3
  · intro x hx y hy
    obtain ⟨i, hi, rfl⟩ := List.mem_iff_getElem.1 hx
    obtain ⟨j, hj, rfl⟩ := List.mem_iff_getElem.1 hy
    simp only [List.length_take] at hi
    simp only [List.length_drop] at hj
    rw [List.getElem_drop, List.getElem_take]
    have h3 := h1 (by omega) (by omega)
    have h5 : le (A[i]'(by omega)) (B[t]'(by omega)) = true := by
      by_cases h : i = s - 1
      · simpa only [h] using h3
      · exact htr _ _ _ (List.pairwise_iff_getElem.1 hA i (s - 1) (by omega) (by omega) (by omega)) h3
    by_cases h : j = 0
    · subst h; simpa using h5
    · exact htr _ _ _ h5 (List.pairwise_iff_getElem.1 hB t (t + j) (by omega) (by omega) (by omega))
/-- blocks of a size, each sorted -/
def chop (k : Nat) (l : List α) : List α := if h : 0 < k ∧ k ≤ l.length then srt le (l.take k) ++ chop k (l.drop k) else srt le l
termination_by l.length
decreasing_by simp only [List.length_drop]; omega
theorem chop_yes (k : Nat) (l : List α) (h0 : 0 < k) (h : k ≤ l.length) : chop le k l = srt le (l.take k) ++ chop le k (l.drop k) := by
  rw [chop, dif_pos ⟨h0, h⟩]
theorem chop_no (k : Nat) (l : List α) (h : l.length < k) : chop le k l = srt le l := by rw [chop, dif_neg (by omega)]
theorem chop_all (k : Nat) (l : List α) (h : l.length ≤ k) : chop le k l = srt le l := by
  by_cases h2 : l.length < k
  · exact chop_no le k l h2
  · by_cases h3 : k = 0
    · rw [chop, dif_neg (by omega)]
    · rw [chop_yes le k l (by omega) (by omega), chop_no le k _ (by simp only [List.length_drop]; omega), List.take_of_length_le (by omega), List.drop_eq_nil_of_le (by omega), srt_nil, List.append_nil]
include htr hto in
/-- two blocks become one -/
theorem chop_two (k : Nat) (l : List α) (h0 : 0 < k) (h : 2 * k ≤ l.length) :
    ∃ A B, A.length = k ∧ B.length = k ∧ Up le A ∧ Up le B ∧ chop le k l = A ++ B ++ chop le k (l.drop (2 * k)) ∧ chop le (2 * k) l = mg le A B ++ chop le (2 * k) (l.drop (2 * k)) := by
  refine ⟨srt le (l.take k), srt le ((l.drop k).take k), ?_, ?_, srt_up le htr hto _, srt_up le htr hto _, ?_, ?_⟩
  · rw [srt_len, List.length_take]; omega
  · rw [srt_len, List.length_take, List.length_drop]; omega
  · rw [chop_yes le k l h0 (by omega), chop_yes le k (l.drop k) h0 (by simp only [List.length_drop]; omega), List.drop_drop, List.append_assoc, show k + k = 2 * k from by omega]
  · rw [chop_yes le (2 * k) l (by omega) h, ← srt_append le htr hto]
    congr 2
    rw [show 2 * k = k + k from by omega, List.take_add]
include htr hto in
theorem chop_end (k : Nat) (l : List α) (h0 : 0 < k) (h : k < l.length) (h2 : l.length < 2 * k) :
    ∃ A B, A.length = k ∧ B.length = l.length - k ∧ Up le A ∧ Up le B ∧ chop le k l = A ++ B ∧ chop le (2 * k) l = mg le A B := by
  refine ⟨srt le (l.take k), srt le (l.drop k), ?_, ?_, srt_up le htr hto _, srt_up le htr hto _, ?_, ?_⟩
  · rw [srt_len, List.length_take]; omega
  · rw [srt_len, List.length_drop]
  · rw [chop_yes le k l h0 (by omega), chop_no le k (l.drop k) (by simp only [List.length_drop]; omega)]
  · rw [chop_no le (2 * k) l h2, ← srt_append le htr hto, List.take_append_drop]
theorem chop_rest (k : Nat) (l : List α) (h : l.length ≤ k) : chop le k l = chop le (2 * k) l := by rw [chop_all le k l h, chop_all le (2 * k) l (by omega)]
/-- one more, put in from the right -/
theorem srt_ins (l out : List α) (x : α) (htr : ∀ a b c, le a b = true → le b c = true → le a c = true) (hto : ∀ a b, le a b = true ∨ le b a = true) (ho : out = srt le l) (k : Nat) (hk : k ≤ out.length)
    (h1 : ∀ h : 0 < k, le (out[k - 1]'(by omega)) x = true) (h2 : ∀ j (h : j < out.length), k ≤ j → le out[j] x = false) : srt le (l ++ [x]) = out.take k ++ x :: out.drop k := by
  rw [srt_snoc, ← ho]
  have hu : Up le out := by rw [ho]; exact srt_up le htr hto l
  have e := mg_last le x (out.take k) (out.drop k) ?_ ?_
  · rwa [List.take_append_drop] at e
  · intro z hz
    obtain ⟨i, hi, rfl⟩ := List.mem_iff_getElem.1 hz
    simp only [List.length_take] at hi
    rw [List.getElem_take]
    have h3 := h1 (by omega)
    by_cases h : i = k - 1
    · simpa only [h] using h3
    · exact htr _ _ _ (List.pairwise_iff_getElem.1 hu i (k - 1) (by omega) (by omega) (by omega)) h3
  · intro z hz
    obtain ⟨i, hi, rfl⟩ := List.mem_iff_getElem.1 hz
    simp only [List.length_drop] at hi
    rw [List.getElem_drop]
    exact h2 _ (by omega) (by omega)
/-- two that change places -/
def sw (l : List α) (i j : Nat) (hi : i < l.length) (hj : j < l.length) : List α := (l.set i l[j]).set j l[i]
theorem sw_is (P M Q : List α) (x y : α) (i j : Nat) (hi : i = P.length) (hj : j = P.length + 1 + M.length) (h1 : i < (P ++ x :: (M ++ y :: Q)).length) (h2 : j < (P ++ x :: (M ++ y :: Q)).length) :
    sw (P ++ x :: (M ++ y :: Q)) i j h1 h2 = P ++ y :: (M ++ x :: Q) := by
  subst hi hj
  have e1 : (P ++ x :: (M ++ y :: Q))[P.length + 1 + M.length] = y := by
    rw [List.getElem_append_right (by omega)]
    simp [show P.length + 1 + M.length - P.length = M.length + 1 from by omega]
  have e2 : (P ++ x :: (M ++ y :: Q))[P.length] = x := by simp
  unfold sw
  rw [e1, e2]
  rw [List.set_append_right _ _ (by omega)]
  simp only [Nat.sub_self, List.set_cons_zero]
  rw [List.set_append_right _ _ (by omega), show P.length + 1 + M.length - P.length = M.length + 1 from by omega]
  simp
theorem sw_comm (l : List α) (i j : Nat) (hi : i < l.length) (hj : j < l.length) (hne : i ≠ j) : sw l i j hi hj = sw l j i hj hi := by
  unfold sw
  exact (List.set_comm _ _ hne)
/-- a range that changes places with another, k steps in -/
def swr (P X M Y Q : List α) (k : Nat) : List α := P ++ (Y.take k ++ (X.drop k ++ (M ++ (X.take k ++ (Y.drop k ++ Q)))))
theorem swr_zero (P X M Y Q : List α) : swr P X M Y Q 0 = P ++ (X ++ (M ++ (Y ++ Q))) := by simp [swr]
theorem swr_all (P X M Y Q : List α) (h : X.length = Y.length) : swr P X M Y Q X.length = P ++ (Y ++ (M ++ (X ++ Q))) := by
  simp [swr, h, List.take_of_length_le (Nat.le_of_eq h)]
theorem swr_len (P X M Y Q : List α) (k : Nat) : (swr P X M Y Q k).length = P.length + X.length + M.length + Y.length + Q.length := by
  simp only [swr, List.length_append, List.length_take, List.length_drop]; omega
theorem swr_step (P X M Y Q : List α) (k : Nat) (h : X.length = Y.length) (hk : k < X.length) (i j : Nat) (hi : i = P.length + k) (hj : j = P.length + X.length + M.length + k) (h1 : i < (swr P X M Y Q k).length) (h2 : j < (swr P X M Y Q k).length) :
    sw (swr P X M Y Q k) i j h1 h2 = swr P X M Y Q (k + 1) := by
  have hk2 : k < Y.length := by omega
  have e : swr P X M Y Q k = (P ++ Y.take k) ++ X[k] :: ((X.drop (k + 1) ++ (M ++ X.take k)) ++ Y[k] :: (Y.drop (k + 1) ++ Q)) := by
    unfold swr
    rw [List.drop_eq_getElem_cons hk, List.drop_eq_getElem_cons hk2]
    simp only [List.append_assoc, List.cons_append, List.nil_append]
  have f : swr P X M Y Q (k + 1) = (P ++ Y.take k) ++ Y[k] :: ((X.drop (k + 1) ++ (M ++ X.take k)) ++ X[k] :: (Y.drop (k + 1) ++ Q)) := by
    unfold swr
    rw [List.take_succ_eq_append_getElem hk, List.take_succ_eq_append_getElem hk2]
    simp only [List.append_assoc, List.cons_append, List.nil_append]
  rw [f]
  have g := sw_is (P ++ Y.take k) (X.drop (k + 1) ++ (M ++ X.take k)) (Y.drop (k + 1) ++ Q) X[k] Y[k] i j (by simp; omega) (by simp; omega) (by rw [← e]; exact h1) (by rw [← e]; exact h2)
  rw [← g]
  simp only [e]
/-- one that goes up through others -/
def mvu (P B Q : List α) (x : α) (k : Nat) : List α := P ++ (B.take k ++ x :: (B.drop k ++ Q))
theorem mvu_len (P B Q : List α) (x : α) (k : Nat) : (mvu P B Q x k).length = P.length + B.length + 1 + Q.length := by
  simp only [mvu, List.length_append, List.length_take, List.length_drop, List.length_cons]; omega
theorem mvu_step (P B Q : List α) (x : α) (k : Nat) (hk : k < B.length) (i j : Nat) (hi : i = P.length + k) (hj : j = P.length + k + 1) (h1 : i < (mvu P B Q x k).length) (h2 : j < (mvu P B Q x k).length) :
    sw (mvu P B Q x k) i j h1 h2 = mvu P B Q x (k + 1) := by
  have e : mvu P B Q x k = (P ++ B.take k) ++ x :: ([] ++ B[k] :: (B.drop (k + 1) ++ Q)) := by
    unfold mvu
    rw [List.drop_eq_getElem_cons hk]
    simp only [List.append_assoc, List.cons_append, List.nil_append]
  have f : mvu P B Q x (k + 1) = (P ++ B.take k) ++ B[k] :: ([] ++ x :: (B.drop (k + 1) ++ Q)) := by
    unfold mvu
    rw [List.take_succ_eq_append_getElem hk]
    simp only [List.append_assoc, List.cons_append, List.nil_append]
  rw [f]
  have g := sw_is (P ++ B.take k) [] (B.drop (k + 1) ++ Q) x B[k] i j (by simp; omega) (by simp; omega) (by rw [← e]; exact h1) (by rw [← e]; exact h2)
  rw [← g]
  simp only [e]
theorem mvd_step (P B Q : List α) (x : α) (k : Nat) (hk : k < B.length) (i j : Nat) (hi : i = P.length + k + 1) (hj : j = P.length + k) (h1 : i < (mvu P B Q x (k + 1)).length) (h2 : j < (mvu P B Q x (k + 1)).length) :
    sw (mvu P B Q x (k + 1)) i j h1 h2 = mvu P B Q x k := by
  have e : mvu P B Q x k = (P ++ B.take k) ++ x :: ([] ++ B[k] :: (B.drop (k + 1) ++ Q)) := by
    unfold mvu
    rw [List.drop_eq_getElem_cons hk]
    simp only [List.append_assoc, List.cons_append, List.nil_append]
  have f : mvu P B Q x (k + 1) = (P ++ B.take k) ++ B[k] :: ([] ++ x :: (B.drop (k + 1) ++ Q)) := by
    unfold mvu
    rw [List.take_succ_eq_append_getElem hk]
    simp only [List.append_assoc, List.cons_append, List.nil_append]
  rw [sw_comm _ _ _ _ _ (by omega), e]
  have g := sw_is (P ++ B.take k) [] (B.drop (k + 1) ++ Q) B[k] x j i (by simp; omega) (by simp; omega) (by rw [← f]; exact h2) (by rw [← f]; exact h1)
  rw [← g]
  simp only [f]
end Go.Proofs.Ytedlplkomfiahaa.Sta
namespace Go.Proofs.Ytedlplkomfiahaa
set_option linter.unusedVariables false
set_option linter.unusedSimpArgs false
set_option linter.unusedSectionVars false
open Go Go.RowKit
theorem Bs.take {w : World} {ao : Option Addr} {cap : Nat} {l : List UInt8} (h : Bs w ao cap l) (q : Nat) (hq : q ≤ l.length) : Bs w ao cap (l.take q) := by
  have hle := h.le
  refine ⟨by simp, by rw [List.length_take]; omega, h.max, h.none, fun j u hu => ?_⟩
  rw [List.map_take, List.getElem?_take] at hu
  split at hu
  · exact h.cell j u hu
  · cases hu
end Go.Proofs.Ytedlplkomfiahaa
namespace Go.Proofs.Ytedlplkomfiahaa
set_option linter.unusedVariables false
set_option linter.unusedSimpArgs false
set_option linter.unusedSectionVars false
open Go Go.RowKit
/-- the element type of a block of cells -/
def elem? (w : World) (b : Nat) : Option TypeId := match w.heap[b]? with
  | some (.cells _ e _) => some e
  | _ => .none
theorem elem?_of {w : World} {b : Nat} {cs : Array Value} {e : TypeId} {fr : Nat × Nat} (h : w.heap[b]? = some (.cells cs e fr)) : elem? w b = some e := by unfold elem?; rw [h]
theorem elem?_same {w w' : World} {b : Nat} (h : w'.heap[b]? = w.heap[b]?) : elem? w' b = elem? w b := by unfold elem?; rw [h]
/-- the slice (ao, n, cap) of elements of k cells, of type E, reads in w as the rows -/
structure Rw (w : World) (E : TypeId) (k : Nat) (ao : Option Addr) (n cap : Nat) (rows : List (List Value)) : Prop where
  num : rows.length = n
  each : ∀ r ∈ rows, r.length = k
  sl : Sl w k ao n cap rows.flatten
  typ : ∀ b off s, ao = some ⟨b, off, s⟩ → elem? w b = some E
theorem flatten_get {rows : List (List Value)} {k : Nat} (h : ∀ r ∈ rows, r.length = k) : ∀ (i j : Nat) (hi : i < rows.length) (hj : j < rows[i].length), rows.flatten[i * k + j]? = some rows[i][j] := by
  induction rows with
  | nil => intro i j hi; simp at hi
  | cons r rows ih =>
    intro i j hi hj
    have hr := h r (by simp)
    cases i with
    | zero =>
      simp only [List.getElem_cons_zero] at hj ⊢
      simp only [List.flatten_cons, Nat.zero_mul, Nat.zero_add]
      rw [List.getElem?_append_left (by omega), List.getElem?_eq_getElem hj]
    | succ i =>
      simp only [List.getElem_cons_succ] at hj ⊢
      have := ih (fun r hr => h r (by simp [hr])) i j (by simpa using hi) hj
      simp only [List.flatten_cons]
      rw [List.getElem?_append_right (by rw [hr, Nat.succ_mul]; omega), ← this]
      congr 1
      rw [hr, Nat.succ_mul]; omega
theorem Rw.get {w : World} {E : TypeId} {k n cap : Nat} {ao : Option Addr} {rows : List (List Value)} (h : Rw w E k ao n cap rows) (hk : 0 < k) (i : Nat) (hi : i < n) :
    ∃ b off, ao = some ⟨b, off, .none⟩ ∧ ∀ j (hj : j < (rows[i]'(by rw [h.num]; exact hi)).length), w.cell? ⟨b, off + i * k + j, .none⟩ = some ((rows[i]'(by rw [h.num]; exact hi))[j]) := by
  have hin : i < rows.length := by rw [h.num]; exact hi
  have hr := h.each _ (List.getElem_mem hin)
  obtain ⟨b, off, e, _⟩ := h.sl.cell (i * k + 0) _ (flatten_get h.each i 0 hin (by omega))
  refine ⟨b, off, e, fun j hj => ?_⟩
  obtain ⟨b', off', e', hc⟩ := h.sl.cell (i * k + j) _ (flatten_get h.each i j hin hj)
  rw [e] at e'
  simp only [Option.some.injEq, Addr.mk.injEq] at e'
  obtain ⟨rfl, rfl, -⟩ := e'
  rw [Nat.add_assoc]; exact hc
theorem elem?_lt {w : World} {b : Nat} {e : TypeId} (h : elem? w b = some e) : b < w.heap.size := by
  unfold elem? at h
  split at h
  · rename_i h'; exact (Array.getElem?_eq_some_iff.1 h').1
  · cases h
/-- blocks of another type may be written -/
theorem Rw.grown {w w' : World} {E T : TypeId} {k n cap g : Nat} {ao : Option Addr} {rows : List (List Value)} (h : Rw w E k ao n cap rows) (hg : w.grownBy w' (some g)) (hT : elem? w g = some T) (hne : T ≠ E) : Rw w' E k ao n cap rows := by
  have key : ∀ b off s, ao = some ⟨b, off, s⟩ → w'.heap[b]? = w.heap[b]? := fun b off s e => by
    have ht := h.typ b off s e
    refine hg.block b (elem?_lt ht) fun e2 => hne ?_
    simp only [Option.some.injEq] at e2
    rw [e2, hT] at ht
    simpa using ht
  refine ⟨h.num, h.each, ⟨h.sl.len, h.sl.le, h.sl.max, h.sl.none, fun j u hu => ?_⟩, fun b off s e => ?_⟩
  · obtain ⟨b, off, e, hc⟩ := h.sl.cell j u hu
    exact ⟨b, off, e, by rw [World.cell?_of_block (w := w) (key b off .none e)]; exact hc⟩
  · rw [elem?_same (key b off s e)]; exact h.typ b off s e
theorem Rw.below {w w' : World} {E : TypeId} {k n cap : Nat} {ao : Option Addr} {rows : List (List Value)} (h : Rw w E k ao n cap rows) (hb : Below w.heap.size w w') : Rw w' E k ao n cap rows :=
  ⟨h.num, h.each, h.sl.below hb, fun b off s e => by
    have ht := h.typ b off s e
    rw [elem?_same (hb.block b (elem?_lt ht))]; exact ht⟩
theorem Rw.nil (w : World) (E : TypeId) (k : Nat) : Rw w E k none 0 0 [] := ⟨rfl, by simp, ⟨by simp, by simp, by decide, fun _ => rfl, fun j u hu => by simp at hu⟩, by simp⟩
theorem Rw.of_own {w : World} {base E k n cap : Nat} {ao : Option Addr} {rows : List (List Value)} (h : w.ownsRow base E k (.slice ao n cap) n rows.flatten) (hn : rows.length = n) (hk : ∀ r ∈ rows, r.length = k) : Rw w E k ao n cap rows :=
  ⟨hn, hk, Sl.of_own h, fun b off s e => by
    rcases h.2 with ⟨h2, _⟩ | ⟨g, cap', cur, hv, _, hh, _⟩
    · simp only [Value.slice.injEq] at h2
      rw [h2.1] at e; cases e
    · simp only [Value.slice.injEq] at hv
      rw [hv.1] at e
      simp only [Option.some.injEq, Addr.mk.injEq] at e
      rw [← e.1]; exact elem?_of hh⟩
/-- append(out, x) of one element that lies at 'ad' -/
theorem wpo_append_one {P : Program} {w : World} {o : Oper} {a : Act} {K : Act → World → Prop} {Q : Exit → Act → World → Prop} (s x : Operand) (t : TypeId)
    (ho : o.op = .call { callee := .builtin .append, args := #[s, x], argTypes := #[t, t] })
    (base : Nat) (e : TypeId) {z : Value} {k bytes : Nat} (hi : (P.info? e).map (fun i => (i.zero, i.size, i.bytes)) = some (some z, k, bytes)) (ht : P.underlying t = some (.slice e))
    (hzs : z.cells.size = k) (hk : 0 < k)
    (v : Value) (n : Nat) (rows : List (List Value)) (hs : a.eval s = v) (hown : w.ownsRow base e k v n rows.flatten)
    (ad : Addr) (c : Nat) (row : List Value) (hx : a.eval x = .slice (some ad) 1 c) (hl : row.length = k) (hnews : ∀ j u, row[j]? = some u → w.cell? (ad.add j) = some u) (h1 : ∀ u ∈ row, u.oneCell' = true)
    (hbytes : (n + 1) * bytes ≤ 140737488355328) (hmax : n + 1 ≤ maxLen) (hbase : base ≤ w.heap.size)
    (h : ∀ g cap w', w'.ownsRow base e k (.slice (some ⟨g, 0, .none⟩) (n + 1) cap) (n + 1) (rows ++ [row]).flatten → w.grownBy w' v.ownBlock → (v.ownBlock = some g ∨ g = w.heap.size) → K (a.put o.dst (.slice (some ⟨g, 0, .none⟩) (n + 1) cap)) w') : o.wp P a w K Q := by
  obtain ⟨i, hi1, hi2, hi3, hi4⟩ := info_parts hi
  refine wp_append_lies w s x t ho base e i z k bytes ht hi1 hi2 hi3 hi4 hzs hk v n rows.flatten hs hown ad 1 c row hx (by omega) hnews h1 (by decide) hmax hbytes hbase _ rfl fun g cap w' h1 h2 h3 _ => ?_
  refine h g cap w' ?_ h2 h3
  rw [List.flatten_append]
  simpa using h1
theorem wpl_append_one {P : Program} {w : World} {ops : Array Oper} {rest : List Oper} {o : Oper} {a : Act} {Q : Exit → Act → World → Prop} (hw : Region.wanted o (yielded ops a.tmps) = true) (s x : Operand) (t : TypeId)
    (ho : o.op = .call { callee := .builtin .append, args := #[s, x], argTypes := #[t, t] })
    (base : Nat) (e : TypeId) {z : Value} {k bytes : Nat} (hi : (P.info? e).map (fun i => (i.zero, i.size, i.bytes)) = some (some z, k, bytes)) (ht : P.underlying t = some (.slice e))
    (hzs : z.cells.size = k) (hk : 0 < k)
    (v : Value) (n : Nat) (rows : List (List Value)) (hs : a.eval s = v) (hown : w.ownsRow base e k v n rows.flatten)
    (ad : Addr) (c : Nat) (row : List Value) (hx : a.eval x = .slice (some ad) 1 c) (hl : row.length = k) (hnews : ∀ j u, row[j]? = some u → w.cell? (ad.add j) = some u) (h1 : ∀ u ∈ row, u.oneCell' = true)
    (hbytes : (n + 1) * bytes ≤ 140737488355328) (hmax : n + 1 ≤ maxLen) (hbase : base ≤ w.heap.size)
    (h : ∀ g cap w', w'.ownsRow base e k (.slice (some ⟨g, 0, .none⟩) (n + 1) cap) (n + 1) (rows ++ [row]).flatten → w.grownBy w' v.ownBlock → (v.ownBlock = some g ∨ g = w.heap.size) → wpList P ops Q rest (a.put o.dst (.slice (some ⟨g, 0, .none⟩) (n + 1) cap)) w') : wpList P ops Q (o :: rest) a w :=
  wpl_of hw fun K hK => wpo_append_one s x t ho base e hi ht hzs hk v n rows hs hown ad c row hx hl hnews h1 hbytes hmax hbase fun g cap w' a1 a2 a3 => hK _ _ (h g cap w' a1 a2 a3)
theorem step_append_one {P : Program} {ops : Array Oper} {w : World} {o : Oper} {a : Act} {K : Act → World → Prop} {Q : Exit → Act → World → Prop} {E : Prop} (hw : Region.wanted o (yielded ops a.tmps) = true) (s x : Operand) (t : TypeId)
    (ho : o.op = .call { callee := .builtin .append, args := #[s, x], argTypes := #[t, t] })
    (base : Nat) (e : TypeId) {z : Value} {k bytes : Nat} (hi : (P.info? e).map (fun i => (i.zero, i.size, i.bytes)) = some (some z, k, bytes)) (ht : P.underlying t = some (.slice e))
    (hzs : z.cells.size = k) (hk : 0 < k)
    (v : Value) (n : Nat) (rows : List (List Value)) (hs : a.eval s = v) (hown : w.ownsRow base e k v n rows.flatten)
    (ad : Addr) (c : Nat) (row : List Value) (hx : a.eval x = .slice (some ad) 1 c) (hl : row.length = k) (hnews : ∀ j u, row[j]? = some u → w.cell? (ad.add j) = some u) (h1 : ∀ u ∈ row, u.oneCell' = true)
    (hbytes : (n + 1) * bytes ≤ 140737488355328) (hmax : n + 1 ≤ maxLen) (hbase : base ≤ w.heap.size)
    (h : ∀ g cap w', w'.ownsRow base e k (.slice (some ⟨g, 0, .none⟩) (n + 1) cap) (n + 1) (rows ++ [row]).flatten → w.grownBy w' v.ownBlock → (v.ownBlock = some g ∨ g = w.heap.size) → K (a.put o.dst (.slice (some ⟨g, 0, .none⟩) (n + 1) cap)) w') :
    if Region.wanted o (yielded ops a.tmps) = true then Oper.wp P o a w K Q else E := by
  rw [if_pos hw]
  exact wpo_append_one s x t ho base e hi ht hzs hk v n rows hs hown ad c row hx hl hnews h1 hbytes hmax hbase h
/-- a literal's cells in a new block -/
theorem news_at {w : World} {cs : Array Value} {T : TypeId} (row : List Value) (h : cs.toList = row) : ∀ j u, row[j]? = some u → (w.alloc (.cells cs T)).cell? ((⟨w.heap.size, 0, .none⟩ : Addr).add j) = some u := by
  intro j u hu
  rw [Addr.add_none, cell?_new, Nat.zero_add, ← Array.getElem?_toList, h]; exact hu
/-! objects behind a pointer -/
theorem block_cell {w : World} {b : Nat} {cs : Array Value} {T : TypeId} (h : w.heap[b]? = some (.cells cs T (0, 0))) (i : Nat) : w.cell? ⟨b, i, .none⟩ = cs[i]? := by
  unfold World.cell?; simp only [h]; rfl
theorem block_free {w : World} {b : Nat} {cs : Array Value} {T : TypeId} (h : w.heap[b]? = some (.cells cs T (0, 0))) (i : Nat) : w.frozen? ⟨b, i, .none⟩ = false := by
  unfold World.frozen?; simp only [h]; simp
theorem block_set {w : World} {b : Nat} {cs : Array Value} {T : TypeId} (h : w.heap[b]? = some (.cells cs T (0, 0))) (i : Nat) (u : Value) : (w.setCell ⟨b, i, .none⟩ u).heap[b]? = some (.cells (cs.setIfInBounds i u) T (0, 0)) :=
  heap_setCell_same w b i cs T u h
theorem grown_set (w : World) (b i : Nat) (u : Value) : w.grownBy (w.setCell ⟨b, i, .none⟩ u) (some b) :=
  ⟨rfl, rfl, rfl, by simp, fun k _ hk => heap_setCell_other w ⟨b, i, .none⟩ k u (fun e => hk (by simp [e]))⟩
theorem grown_below {w w' : World} {row : Option Nat} (h : Below w.heap.size w w') : w.grownBy w' row := ⟨h.os, h.tape, h.output, h.size, fun k hk _ => h.block k hk⟩
theorem grown_drew {w w' : World} {row : Option Nat} (h : w.grownBy w' row) : w.grownBy w'.drew row := ⟨h.os, h.tape, h.output, h.size, h.block⟩
theorem grown_trans {w w' w'' : World} {row : Option Nat} (h : w.grownBy w' row) (h2 : w'.grownBy w'' row) : w.grownBy w'' row :=
  ⟨h2.os.trans h.os, h2.tape.trans h.tape, h2.output.trans h.output, Nat.le_trans h.size h2.size, fun k hk hne => (h2.block k (Nat.lt_of_lt_of_le hk h.size) hne).trans (h.block k hk hne)⟩
theorem below_grown {B : Nat} {w0 w w' : World} {g : Nat} (h : Below B w0 w) (hg : w.grownBy w' (some g)) (hB : B ≤ g) (hw : B ≤ w.heap.size) : Below B w0 w' :=
  h.grown hg hw (fun k hk => by simp only [Option.some.injEq] at hk; omega)
end Go.Proofs.Ytedlplkomfiahaa
namespace Go.Proofs.Ytedlplkomfiahaa
set_option linter.unusedVariables false
set_option linter.unusedSimpArgs false
set_option linter.unusedSectionVars false
open Go Go.RowKit
structure Th where
  id : Int
  gen : Int
  due : Int
deriving DecidableEq
def thCells (t : Th) : List Value := [.int .u64 t.id, .int .u64 t.gen, .int .i64 t.due]
def thVal (t : Th) : Value := .agg #[.int .u64 t.id, .int .u64 t.gen, .int .i64 t.due]
theorem th_len (t : Th) : (thCells t).length = 3 := rfl
abbrev thFlat (l : List Th) : List Value := (l.map thCells).flatten
theorem thFlat_len (l : List Th) : (thFlat l).length = l.length * 3 := by
  induction l with
  | nil => rfl
  | cons t l ih => simp only [thFlat, List.map_cons, List.flatten_cons, List.length_append, th_len] at ih ⊢; rw [ih, List.length_cons]; omega
theorem thFlat_get (l : List Th) (i : Nat) (hi : i < l.length) (j : Nat) (hj : j < 3) : (thFlat l)[i * 3 + j]? = some ((thCells l[i])[j]'hj) := by
  induction l generalizing i with
  | nil => simp at hi
  | cons t l ih =>
    simp only [thFlat, List.map_cons, List.flatten_cons] at ih ⊢
    cases i with
    | zero => rw [List.getElem?_append_left (by rw [th_len]; omega), Nat.zero_mul, Nat.zero_add, List.getElem?_eq_getElem (by rw [th_len]; omega)]; rfl
    | succ i =>
      rw [List.getElem?_append_right (by rw [th_len]; omega), th_len, show (i + 1) * 3 + j - 3 = i * 3 + j from by omega, ih i (by simpa using hi)]
      rfl
theorem thFlat_set (l : List Th) (i : Nat) (hi : i < l.length) (t : Th) : (((thFlat l).set (i * 3) (.int .u64 t.id)).set (i * 3 + 1) (.int .u64 t.gen)).set (i * 3 + 2) (.int .i64 t.due) = thFlat (l.set i t) := by
  induction l generalizing i with
  | nil => simp at hi
  | cons u l ih =>
    cases i with
    | zero => rfl
    | succ i =>
      have ih := ih i (by simpa using hi)
      simp only [thFlat, List.map_cons, List.flatten_cons, List.set_cons_succ] at ih ⊢
      rw [← ih]
      have e : ∀ (a b : List Value) (k : Nat) (v : Value), a.length = 3 → (a ++ b).set (k + 3) v = a ++ b.set k v := fun a b k v h => by
        rw [List.set_append_right _ _ (by omega), h]; simp
      rw [show (i + 1) * 3 = i * 3 + 3 from by omega, show i * 3 + 3 + 1 = (i * 3 + 1) + 3 from by omega, show i * 3 + 3 + 2 = (i * 3 + 2) + 3 from by omega, e _ _ _ _ (th_len u), e _ _ _ _ (th_len u), e _ _ _ _ (th_len u)]
/-- the order: a stands no later than b -/
def thLt (a b : Th) : Bool := decide (a.due < b.due) || (decide (a.due = b.due) && decide (a.id < b.id))
def thLe (a b : Th) : Bool := !thLt b a
theorem thLe_iff (a b : Th) : thLe a b = true ↔ a.due < b.due ∨ (a.due = b.due ∧ a.id ≤ b.id) := by
  simp only [thLe, thLt, Bool.not_eq_true', Bool.or_eq_false_iff, Bool.and_eq_false_iff, decide_eq_false_iff_not]; omega
theorem thLe_no (a b : Th) : thLe a b = false ↔ thLt b a = true := by simp [thLe]
theorem thLt_iff (a b : Th) : thLt a b = true ↔ a.due < b.due ∨ (a.due = b.due ∧ a.id < b.id) := by simp [thLt]
theorem thLe_trans (a b c : Th) (h1 : thLe a b = true) (h2 : thLe b c = true) : thLe a c = true := by
  rw [thLe_iff] at h1 h2 ⊢; omega
theorem thLe_total (a b : Th) : thLe a b = true ∨ thLe b a = true := by
  rw [thLe_iff, thLe_iff]; omega
abbrev thUp (l : List Th) : Prop := Sta.Up thLe l
/-- a row of things of one's own that is being sorted -/
structure SR (E : TypeId) (W0 W : World) (base g n cap : Nat) (D : List Th) : Prop where
  own : W.ownsRow base E 3 (.slice (some ⟨g, 0, none⟩) n cap) n (thFlat D)
  gr : W0.grownBy W (some g)
  len : D.length = n
theorem SR.cells {E : TypeId} {W0 W : World} {base g n cap : Nat} {D : List Th} (h : SR E W0 W base g n cap D) (i : Nat) (hi : i < D.length) :
    W.cell? ⟨g, i * 3, none⟩ = some (.int .u64 D[i].id) ∧ W.cell? ⟨g, i * 3 + 1, none⟩ = some (.int .u64 D[i].gen) ∧ W.cell? ⟨g, i * 3 + 2, none⟩ = some (.int .i64 D[i].due) := by
  have hn := h.len
  refine ⟨?_, ?_, ?_⟩
  · rw [h.own.cellAt (i * 3) (by omega)]; exact thFlat_get D i hi 0 (by decide)
  · rw [h.own.cellAt (i * 3 + 1) (by omega)]; exact thFlat_get D i hi 1 (by decide)
  · rw [h.own.cellAt (i * 3 + 2) (by omega)]; exact thFlat_get D i hi 2 (by decide)
theorem SR.free {E : TypeId} {W0 W : World} {base g n cap : Nat} {D : List Th} (h : SR E W0 W base g n cap D) (j : Nat) : W.frozen? ⟨g, j, none⟩ = false := h.own.frozenAt j
theorem SR.lt {E : TypeId} {W0 W : World} {base g n cap : Nat} {D : List Th} (h : SR E W0 W base g n cap D) : g < W.heap.size := (h.own.lt g rfl).2
theorem SR.below {E : TypeId} {W0 W W' : World} {base g n cap : Nat} {D : List Th} (h : SR E W0 W base g n cap D) (hb : Below W.heap.size W W') : SR E W0 W' base g n cap D :=
  ⟨own_below h.own hb, h.gr.trans ⟨hb.os, hb.tape, hb.output, hb.size, fun i hi _ => hb.block i hi⟩, h.len⟩
theorem SR.put {E : TypeId} {W0 W : World} {base g n cap : Nat} {D : List Th} (h : SR E W0 W base g n cap D) (i : Nat) (hi : i < D.length) (t : Th) :
    SR E W0 (((W.setCell ⟨g, i * 3, none⟩ (.int .u64 t.id)).setCell ⟨g, i * 3 + 1, none⟩ (.int .u64 t.gen)).setCell ⟨g, i * 3 + 2, none⟩ (.int .i64 t.due)) base g n cap (D.set i t) := by
  refine ⟨?_, ?_, by simp [h.len]⟩
  · have := (((h.own.stored (i * 3) (.int .u64 t.id)).1.stored (i * 3 + 1) (.int .u64 t.gen)).1.stored (i * 3 + 2) (.int .i64 t.due)).1
    rwa [thFlat_set D i hi t] at this
  · exact h.gr.trans (grown_trans (grown_set _ _ _ _) (grown_trans (grown_set _ _ _ _) (grown_set _ _ _ _)))
end Go.Proofs.Ytedlplkomfiahaa
namespace Go.Proofs.Ytedlplkomfiahaa
set_option linter.unusedVariables false
set_option linter.unusedSimpArgs false
set_option linter.unusedSectionVars false
open Go Go.RowKit
theorem cmp64_any (x y : Int) (W : World) : Calls Try.prog 97 #[.int .i64 x, .int .i64 y] W fun e W' => e = .returned (.int .i64 (if x < y then -1 else if y < x then 1 else 0)) ∧ W = W' := by
  have hn : ∀ z W, Calls Try.prog 102 #[.int .i64 z] W fun e W' => e = .returned (.bool false) ∧ W = W' := fun z W => by
    go_enter Try.func102, Try.ntmps102
    go_wp2_with fail
    go_ret
    exact ⟨rfl, rfl⟩
  have Hn := Lib.hid hn
  clear hn
  by_cases h1 : x < y
  · go_enter Try.func97, Try.ntmps97
    go_wp2_with (go_at_call 102; refine (Hn.out _ _).mono ?_; rintro e w1 ⟨rfl, rfl⟩)
    go_ret
    exact ⟨rfl, rfl⟩
  · by_cases h2 : y < x
    · go_enter Try.func97, Try.ntmps97
      go_wp2_with (go_at_call 102; refine (Hn.out _ _).mono ?_; rintro e w1 ⟨rfl, rfl⟩)
      go_ret
      exact ⟨rfl, rfl⟩
    · go_enter Try.func97, Try.ntmps97
      go_wp2_with (go_at_call 102; refine (Hn.out _ _).mono ?_; rintro e w1 ⟨rfl, rfl⟩)
      go_ret
      exact ⟨rfl, rfl⟩
theorem cmpu64_any (x y : Int) (W : World) : Calls Try.prog 98 #[.int .u64 x, .int .u64 y] W fun e W' => e = .returned (.int .i64 (if x < y then -1 else if y < x then 1 else 0)) ∧ W = W' := by
  have hn : ∀ z W, Calls Try.prog 103 #[.int .u64 z] W fun e W' => e = .returned (.bool false) ∧ W = W' := fun z W => by
    go_enter Try.func103, Try.ntmps103
    go_wp2_with fail
    go_ret
    exact ⟨rfl, rfl⟩
  have Hn := Lib.hid hn
  clear hn
  by_cases h1 : x < y
  · go_enter Try.func98, Try.ntmps98
    go_wp2_with (go_at_call 103; refine (Hn.out _ _).mono ?_; rintro e w1 ⟨rfl, rfl⟩)
    go_ret
    exact ⟨rfl, rfl⟩
  · by_cases h2 : y < x
    · go_enter Try.func98, Try.ntmps98
      go_wp2_with (go_at_call 103; refine (Hn.out _ _).mono ?_; rintro e w1 ⟨rfl, rfl⟩)
      go_ret
      exact ⟨rfl, rfl⟩
    · go_enter Try.func98, Try.ntmps98
      go_wp2_with (go_at_call 103; refine (Hn.out _ _).mono ?_; rintro e w1 ⟨rfl, rfl⟩)
      go_ret
      exact ⟨rfl, rfl⟩
theorem or2_any (x y : Int) (W : World) (b : Nat) (h0 : W.cell? ⟨b, 0, none⟩ = some (.int .i64 x)) (h1 : W.cell? ⟨b, 1, none⟩ = some (.int .i64 y)) :
    Calls Try.prog 96 #[.slice (some ⟨b, 0, none⟩) 2 2] W fun e W' => e = .returned (.int .i64 (if x ≠ 0 then x else y)) ∧ W = W' := by
  go_enter Try.func96, Try.ntmps96
  go_wp2_with fail
  go_loopw [8] (fun u wr => ∃ k : Nat, u = .int .i64 (k : Nat) ∧ k ≤ 2 ∧ (1 ≤ k → x = 0) ∧ (2 ≤ k → y = 0) ∧ W = wr) (fun u _ => 2 - (intOf u).toNat)
  case atStart => exact ⟨0, rfl, by omega, by simp, by simp, rfl⟩
  case round =>
    obtain ⟨k, rfl, hk, k1, k2, hw⟩ := hrel
    subst hw
    have hk3 : k = 0 ∨ k = 1 ∨ k = 2 := by omega
    rcases hk3 with rfl | rfl | rfl
    · by_cases hx : x = 0
      · subst hx
        go_wp2_with fail
        go_roundw
        case rel => exact ⟨1, rfl, by omega, by simp, by simp, by first | rfl | trivial⟩
        case measure => simp [intOf]
      · have hx2 : (x != 0) = true := by simpa using hx
        go_wp2_with fail
        go_ret
        exact ⟨by simp [hx], rfl⟩
    · have hx := k1 (by omega)
      subst hx
      by_cases hy : y = 0
      · subst hy
        go_wp2_with fail
        go_roundw
        case rel => exact ⟨2, rfl, by omega, by simp, by simp, by first | rfl | trivial⟩
        case measure => simp [intOf]
      · have hx2 : (y != 0) = true := by simpa using hy
        go_wp2_with fail
        go_ret
        exact ⟨by simp, rfl⟩
    · have hx := k1 (by omega)
      have hy := k2 (by omega)
      subst hx hy
      go_wp2_with fail
      go_ret
      exact ⟨by simp, rfl⟩
def orderN (x y : Th) : Int := if (if x.due < y.due then (-1 : Int) else if y.due < x.due then 1 else 0) ≠ 0 then (if x.due < y.due then (-1 : Int) else if y.due < x.due then 1 else 0) else (if x.id < y.id then (-1 : Int) else if y.id < x.id then 1 else 0)
theorem orderN_lt (x y : Th) : orderN x y < 0 ↔ thLt x y = true := by
  rw [thLt_iff]
  unfold orderN
  by_cases h1 : x.due < y.due
  · simp [h1]
  · by_cases h2 : y.due < x.due
    · simp [h1, h2]; omega
    · have h3 : x.due = y.due := by omega
      by_cases h4 : x.id < y.id
      · simp [h3, h4]
      · by_cases h5 : y.id < x.id
        · simp [h3, h4, h5]
        · simp [h3, h4, h5]
set_option maxRecDepth 100000 in
set_option maxHeartbeats 4000000 in
theorem order_any (x y : Th) (W : World) : Calls Try.prog 80 #[thVal x, thVal y] W fun e W' => e = .returned (.int .i64 (orderN x y)) ∧ Below W.heap.size W W' := by
  have Hc := Lib.hid (fun W => cmp64_any x.due y.due W)
  have Hu := Lib.hid (fun W => cmpu64_any x.id y.id W)
  obtain ⟨c, hc⟩ : ∃ c, c = (if x.due < y.due then (-1 : Int) else if y.due < x.due then 1 else 0) := ⟨_, rfl⟩
  obtain ⟨u, hu⟩ : ∃ u, u = (if x.id < y.id then (-1 : Int) else if y.id < x.id then 1 else 0) := ⟨_, rfl⟩
  have ho : orderN x y = if c ≠ 0 then c else u := by rw [hc, hu]; rfl
  rw [ho]
  rw [← hc] at Hc
  rw [← hu] at Hu
  have Hor := Lib.hid (fun W b h0 h1 => or2_any c u W b h0 h1)
  obtain ⟨r, hr⟩ : ∃ r, r = if c ≠ 0 then c else u := ⟨_, rfl⟩
  rw [← hr] at Hor ⊢
  clear hc hu ho hr
  obtain ⟨xi, xg, xd⟩ := x
  obtain ⟨yi, yg, yd⟩ := y
  dsimp only [thVal] at *
  obtain ⟨W1, hW1⟩ : ∃ W1, W1 = W.alloc (.cells #[.int .u64 xi, .int .u64 xg, .int .i64 xd] 32) := ⟨_, rfl⟩
  have hB1 : Below W.heap.size W W1 := by rw [hW1]; exact below_new _ _
  have e1 : W1.heap.size = W.heap.size + 1 := by rw [hW1]; exact World.size_alloc _ _
  have k1 : W1.heap[W.heap.size]? = some (.cells #[.int .u64 xi, .int .u64 xg, .int .i64 xd] 32 (0, 0)) := by rw [hW1]; exact heap_alloc_new _ _
  obtain ⟨W2, hW2⟩ : ∃ W2, W2 = W1.alloc (.cells #[.int .u64 yi, .int .u64 yg, .int .i64 yd] 32) := ⟨_, rfl⟩
  have hB2 : Below W1.heap.size W1 W2 := by rw [hW2]; exact below_new _ _
  have m2 : W2.heap[W.heap.size + 1]? = some (.cells #[.int .u64 yi, .int .u64 yg, .int .i64 yd] 32 (0, 0)) := by rw [hW2, ← e1]; exact heap_alloc_new _ _
  have k2 := (hB2.block _ (Array.getElem?_eq_some_iff.1 k1).1).trans k1
  have hBw := below_on hB1 hB2 (Nat.le_refl _)
  go_enter Try.func80, Try.ntmps80
  go_upto_region 1 with fail
  rw [← hW1, ← hW2]
  clear hW1 hW2 hB1 hB2 e1 k1
  have hS : ∀ W', Below W2.heap.size W2 W' → (W'.cell? ⟨W.heap.size, 2, none⟩ = some (.int .i64 xd) ∧ W'.cell? ⟨W.heap.size + 1, 2, none⟩ = some (.int .i64 yd) ∧ W'.cell? ⟨W.heap.size, 0, none⟩ = some (.int .u64 xi) ∧ W'.cell? ⟨W.heap.size + 1, 0, none⟩ = some (.int .u64 yi)) := fun W' hb => by
    have a := (hb.block _ (Array.getElem?_eq_some_iff.1 k2).1).trans k2
    have b := (hb.block _ (Array.getElem?_eq_some_iff.1 m2).1).trans m2
    exact ⟨block_cell a 2, block_cell b 2, block_cell a 0, block_cell b 0⟩
  have HS := Lib.hid hS
  have hd : Below W2.heap.size W2 W2.drew := (Below.refl _ _).drew
  clear hS k2 m2
  refine wp_region_held_drew (S := fun W' => (W'.cell? ⟨W.heap.size, 2, none⟩ = some (.int .i64 xd) ∧ W'.cell? ⟨W.heap.size + 1, 2, none⟩ = some (.int .i64 yd) ∧ W'.cell? ⟨W.heap.size, 0, none⟩ = some (.int .u64 xi) ∧ W'.cell? ⟨W.heap.size + 1, 0, none⟩ = some (.int .u64 yi))) (by kernel_rfl) (HS.out _ hd) (fun hHeld => ?_)
  refine wpAnyH_take (i := 0) (v := ?_) rfl (by kernel_rfl) (by kernel_rfl) (by kernel_rfl) (fun _ _ _ h => h) (Or.inl ⟨by rfl, ?_⟩) (by assumption) ?_
  rotate_left
  · intro w8 hSw; obtain ⟨g1, g2, g3, g4⟩ := hSw; go_simp; (try with_reducible rfl)
  simp only [Act.put, List.getElem_toArray, List.getElem_cons_zero, List.getElem_cons_succ, List.setIfInBounds_toArray, List.set_cons_zero, List.set_cons_succ]
  refine wpAnyH_take (i := 1) (v := ?_) rfl (by kernel_rfl) (by kernel_rfl) (by kernel_rfl) (fun _ _ _ h => h) (Or.inl ⟨by rfl, ?_⟩) (by assumption) ?_
  rotate_left
  · intro w8 hSw; obtain ⟨g1, g2, g3, g4⟩ := hSw; go_simp; (try with_reducible rfl)
  simp only [Act.put, List.getElem_toArray, List.getElem_cons_zero, List.getElem_cons_succ, List.setIfInBounds_toArray, List.set_cons_zero, List.set_cons_succ]
  refine wpAnyH_take (i := 2) (v := ?_) rfl (by kernel_rfl) (by kernel_rfl) (by kernel_rfl) (fun _ _ _ h => h) (Or.inl ⟨by rfl, ?_⟩) (by assumption) ?_
  rotate_left
  · intro w8 hSw; obtain ⟨g1, g2, g3, g4⟩ := hSw; go_simp; (try with_reducible rfl)
  simp only [Act.put, List.getElem_toArray, List.getElem_cons_zero, List.getElem_cons_succ, List.setIfInBounds_toArray, List.set_cons_zero, List.set_cons_succ]
  refine wpAnyH_take (i := 3) (v := ?_) rfl (by kernel_rfl) (by kernel_rfl) (by kernel_rfl) (fun _ _ _ h => h) (Or.inl ⟨by rfl, ?_⟩) (by assumption) ?_
  rotate_left
  · intro w8 hSw; obtain ⟨g1, g2, g3, g4⟩ := hSw; go_simp; (try with_reducible rfl)
  simp only [Act.put, List.getElem_toArray, List.getElem_cons_zero, List.getElem_cons_succ, List.setIfInBounds_toArray, List.set_cons_zero, List.set_cons_succ]
  refine wpAnyH_take (i := 5) (v := ?_) rfl (by kernel_rfl) (by kernel_rfl) (by kernel_rfl) (fun _ _ _ h => h) (Or.inl ⟨by rfl, ?_⟩) (by assumption) ?_
  rotate_left
  · intro w8 hSw; obtain ⟨g1, g2, g3, g4⟩ := hSw; go_simp; (try with_reducible rfl)
  simp only [Act.put, List.getElem_toArray, List.getElem_cons_zero, List.getElem_cons_succ, List.setIfInBounds_toArray, List.set_cons_zero, List.set_cons_succ]
  refine wpAnyH_take (i := 6) (v := ?_) rfl (by kernel_rfl) (by kernel_rfl) (by kernel_rfl) (fun _ _ _ h => h) (Or.inl ⟨by rfl, ?_⟩) (by assumption) ?_
  rotate_left
  · intro w8 hSw; obtain ⟨g1, g2, g3, g4⟩ := hSw; go_simp; (try with_reducible rfl)
  simp only [Act.put, List.getElem_toArray, List.getElem_cons_zero, List.getElem_cons_succ, List.setIfInBounds_toArray, List.set_cons_zero, List.set_cons_succ]
  refine wpAnyH_take (i := 7) (v := ?_) rfl (by kernel_rfl) (by kernel_rfl) (by kernel_rfl) (fun _ _ _ h => h) (Or.inl ⟨by rfl, ?_⟩) (by assumption) ?_
  rotate_left
  · intro w8 hSw; obtain ⟨g1, g2, g3, g4⟩ := hSw; go_simp; (try with_reducible rfl)
  simp only [Act.put, List.getElem_toArray, List.getElem_cons_zero, List.getElem_cons_succ, List.setIfInBounds_toArray, List.set_cons_zero, List.set_cons_succ]
  refine wpAnyH_take (i := 8) (v := ?_) rfl (by kernel_rfl) (by kernel_rfl) (by kernel_rfl) (fun _ _ _ h => h) (Or.inl ⟨by rfl, ?_⟩) (by assumption) ?_
  rotate_left
  · intro w8 hSw; obtain ⟨g1, g2, g3, g4⟩ := hSw; go_simp; (try with_reducible rfl)
  simp only [Act.put, List.getElem_toArray, List.getElem_cons_zero, List.getElem_cons_succ, List.setIfInBounds_toArray, List.set_cons_zero, List.set_cons_succ]
  refine wpAnyH_ready (rs := [4]) (by kernel_rfl) (by simp) ?_
  refine AllReadyH.cons rfl (fun K hK => ?_) AllReadyH.nil
  go_simp
  go_at_call 97
  refine (Hc.out _).mono ?_
  rintro e w5 ⟨rfl, rfl⟩
  refine hK.out _ _ (HS.out _ hd) (fun hHeld => ?_)
  clear hK K
  try simp only [Act.put, List.getElem_toArray, List.getElem_cons_zero, List.getElem_cons_succ, List.setIfInBounds_toArray, List.set_cons_zero, List.set_cons_succ]
  refine wpAnyH_ready (rs := [9]) (by kernel_rfl) (by simp) ?_
  refine AllReadyH.cons rfl (fun K hK => ?_) AllReadyH.nil
  go_simp
  go_at_call 98
  refine (Hu.out _).mono ?_
  rintro e w6 ⟨rfl, rfl⟩
  refine hK.out _ _ (HS.out _ hd) (fun hHeld => ?_)
  clear hK K
  try simp only [Act.put, List.getElem_toArray, List.getElem_cons_zero, List.getElem_cons_succ, List.setIfInBounds_toArray, List.set_cons_zero, List.set_cons_succ]
  refine wpAnyH_ready (rs := [10]) (by kernel_rfl) (by simp) ?_
  refine AllReadyH.cons rfl (fun K hK => ?_) AllReadyH.nil
  go_simp
  obtain ⟨W5, hW5⟩ : ∃ W5, W5 = (W2.alloc (.cells #[.int .i64 c, .int .i64 u] 3)).drew := ⟨_, rfl⟩
  have hB5 : Below W2.heap.size W2 W5 := by rw [hW5]; exact (below_new _ _).drew
  have k5 : W5.heap[W2.heap.size]? = some (.cells #[.int .i64 c, .int .i64 u] 3 (0, 0)) := by rw [hW5]; exact heap_alloc_new W2 _
  rw [← hW5]
  clear hW5
  refine hK.out _ _ (HS.out _ hB5) (fun hHeld => ?_)
  clear hK K
  try simp only [Act.put, List.getElem_toArray, List.getElem_cons_zero, List.getElem_cons_succ, List.setIfInBounds_toArray, List.set_cons_zero, List.set_cons_succ]
  have q0 : W5.cell? ⟨W2.heap.size, 0, none⟩ = some (.int .i64 c) := block_cell k5 0
  have q1 : W5.cell? ⟨W2.heap.size, 1, none⟩ = some (.int .i64 u) := block_cell k5 1
  refine wpAnyH_ready (rs := [11]) (by kernel_rfl) (by simp) ?_
  refine AllReadyH.cons rfl (fun K hK => ?_) AllReadyH.nil
  go_simp
  go_at_call 96
  refine (Hor.out W5 _ q0 q1).mono ?_
  rintro e w6 ⟨rfl, rfl⟩
  refine hK.out _ _ (HS.out _ hB5) (fun hHeld => ?_)
  clear hK K
  try simp only [Act.put, List.getElem_toArray, List.getElem_cons_zero, List.getElem_cons_succ, List.setIfInBounds_toArray, List.set_cons_zero, List.set_cons_succ]
  refine wpAnyH_take (i := 12) (v := ?_) rfl (by kernel_rfl) (by kernel_rfl) (by kernel_rfl) (fun _ _ _ h => h) (Or.inl ⟨by rfl, ?_⟩) (by assumption) ?_
  rotate_left
  · intro w8 hSw; obtain ⟨g1, g2, g3, g4⟩ := hSw; go_simp; (try with_reducible rfl)
  simp only [Act.put, List.getElem_toArray, List.getElem_cons_zero, List.getElem_cons_succ, List.setIfInBounds_toArray, List.set_cons_zero, List.set_cons_succ]
  refine wpAnyH_done (by kernel_rfl) ?_ _
  go_wp2_with fail
  go_ret
  exact ⟨rfl, below_on hBw hB5 (Nat.le_refl _)⟩
end Go.Proofs.Ytedlplkomfiahaa
namespace Go.Proofs.Ytedlplkomfiahaa
set_option linter.unusedVariables false
set_option linter.unusedSimpArgs false
set_option linter.unusedSectionVars false
open Go Go.RowKit
theorem w_add (a k i n : Nat) (hi : i = a + k) (h : i ≤ n) (hn : n ≤ 4611686018427387904) : wrap64 ((a : Int) + (k : Int)) = (i : Int) := by
  subst hi
  rw [IntWalk.wrap64_in ((a : Int) + (k : Int)) (by omega)]; omega
theorem w_sub (a k i n : Nat) (hi : a = i + k) (h : a ≤ n) (hn : n ≤ 4611686018427387904) : wrap64 ((a : Int) - (k : Int)) = (i : Int) := by
  subst hi
  rw [IntWalk.wrap64_in (((i + k : Nat) : Int) - (k : Int)) (by omega)]; omega
theorem w_one (k n : Nat) (h : k < n) (hn : n ≤ 4611686018427387904) : wrap64 ((k : Int) + 1) = ((k + 1 : Nat) : Int) := by
  rw [IntWalk.wrap64_in ((k : Int) + 1) (by omega)]; omega
theorem i_lt {i n m : Nat} (h : i < m) (e : m = n) : (0 : Int) ≤ (i : Int) ∧ (i : Int) < (n : Int) := by omega
theorem th_apart (i j : Nat) (h : i ≠ j) : ¬ i = j ∧ ¬ j = i ∧ ¬ i * 3 = j * 3 ∧ ¬ j * 3 = i * 3 ∧ ¬ i * 3 + 1 = j * 3 ∧ ¬ j * 3 = i * 3 + 1 ∧ ¬ i * 3 + 2 = j * 3 ∧ ¬ j * 3 = i * 3 + 2 ∧ ¬ i * 3 = j * 3 + 1 ∧ ¬ j * 3 + 1 = i * 3 ∧ ¬ i * 3 = j * 3 + 2 ∧ ¬ j * 3 + 2 = i * 3 := by omega
theorem swr_nums (p x m y q n a b N k i j : Nat) (hlen : p + (x + (m + (y + q))) = n) (xy : x = y) (ha : a = p) (hb : b = p + x + m) (hN : N = x) (hk : k < N) (hi : i = a + k) (hj : j = b + k) :
    i < p + x + m + y + q ∧ j < p + x + m + y + q ∧ i ≠ j ∧ k < x ∧ i = p + k ∧ j = p + x + m + k ∧ k < n := by omega
abbrev thT : TypeId := 32
theorem SR.sw {E : TypeId} {W0 W : World} {base g n cap : Nat} {D : List Th} (h : SR E W0 W base g n cap D) (i j : Nat) (hi : i < D.length) (hj : j < D.length) :
    SR E W0 ((((((W.setCell ⟨g, i * 3, none⟩ (.int .u64 D[j].id)).setCell ⟨g, i * 3 + 1, none⟩ (.int .u64 D[j].gen)).setCell ⟨g, i * 3 + 2, none⟩ (.int .i64 D[j].due)).setCell ⟨g, j * 3, none⟩ (.int .u64 D[i].id)).setCell ⟨g, j * 3 + 1, none⟩ (.int .u64 D[i].gen)).setCell ⟨g, j * 3 + 2, none⟩ (.int .i64 D[i].due)) base g n cap (Sta.sw D i j hi hj) := by
  have h1 := h.put i hi D[j]
  have h2 := h1.put j (by simpa using hj) D[i]
  exact h2
theorem SR.drew {E : TypeId} {W0 W : World} {base g n cap : Nat} {D : List Th} (h : SR E W0 W base g n cap D) : SR E W0 W.drew base g n cap D := ⟨h.own.drew, h.gr.trans ⟨rfl, rfl, rfl, Nat.le_refl _, fun _ _ _ => rfl⟩, h.len⟩
set_option maxRecDepth 100000 in
set_option maxHeartbeats 4000000 in
theorem swapRange_any (P X M Y Q : List Th) (a b N : Nat) (fv : Value) (W0 W : World) (base g n cap : Nat) (hXY : X.length = Y.length) (hn : n ≤ 4611686018427387904) (ha : a = P.length) (hb : b = P.length + X.length + M.length) (hN : N = X.length)
    (h : SR thT W0 W base g n cap (P ++ (X ++ (M ++ (Y ++ Q))))) :
    Calls Try.prog 107 #[.slice (some ⟨g, 0, none⟩) n cap, .int .i64 (a : Nat), .int .i64 (b : Nat), .int .i64 (N : Nat), fv] W fun e W' => e = .returned (.tuple #[]) ∧ SR thT W0 W' base g n cap (P ++ (Y ++ (M ++ (X ++ Q)))) := by
  have hlen := h.len
  have hz := Sta.swr_zero P X M Y Q
  have hal := Sta.swr_all P X M Y Q hXY
  simp only [List.length_append] at hlen
  have Hxy := Lib.hid hXY
  have Ha := Lib.hid ha
  have Hb := Lib.hid hb
  have HN := Lib.hid hN
  have Hlen := Lib.hid hlen
  have Hz := Lib.hid hz
  have Hal := Lib.hid hal
  have H := Lib.hid h
  clear hXY ha hb hN hlen hz hal h
  go_enter Try.func107, Try.ntmps107
  go_wp2_with fail
  go_loopw [10] (fun u wr => ∃ k : Nat, u = .int .i64 (k : Nat) ∧ k ≤ N ∧ SR thT W0 wr base g n cap (Sta.swr P X M Y Q k)) (fun u _ => N - (intOf u).toNat)
  case atStart => exact ⟨0, rfl, by omega, by rw [Hz.out]; exact H.out⟩
  case round =>
    obtain ⟨k, rfl, hk, hr⟩ := hrel
    by_cases hlt : k < N
    · obtain ⟨i, hi⟩ : ∃ i, i = a + k := ⟨_, rfl⟩
      obtain ⟨j, hj⟩ : ∃ j, j = b + k := ⟨_, rfl⟩
      have hL := Sta.swr_len P X M Y Q k
      obtain ⟨m1, m2, hij, m3, m4, m5, m6⟩ := swr_nums _ _ _ _ _ n a b N k i j Hlen.out Hxy.out Ha.out Hb.out HN.out hlt hi hj
      obtain ⟨D, hD⟩ : ∃ D, D = Sta.swr P X M Y Q k := ⟨_, rfl⟩
      rw [← hL] at m1 m2
      have hst := Sta.swr_step P X M Y Q k Hxy.out m3 i j m4 m5 m1 m2
      have hi1 : i < D.length := by rw [hD]; exact m1
      have hj1 : j < D.length := by rw [hD]; exact m2
      simp only [← hD] at hr hst
      have hDn := hr.len
      obtain ⟨i0, i1, i2⟩ := hr.cells i hi1
      obtain ⟨j0, j1, j2⟩ := hr.cells j hj1
      have hsw := (hr.sw i j hi1 hj1).drew
      rw [hst] at hsw
      have fi0 := hr.free (i * 3)
      have fi1 := hr.free (i * 3 + 1)
      have fi2 := hr.free (i * 3 + 2)
      have fj0 := hr.free (j * 3)
      have fj1 := hr.free (j * 3 + 1)
      have fj2 := hr.free (j * 3 + 2)
      obtain ⟨x, hx⟩ : ∃ x, x = D[i] := ⟨_, rfl⟩
      obtain ⟨y, hy⟩ : ∃ y, y = D[j] := ⟨_, rfl⟩
      rw [← hx] at i0 i1 i2 hsw
      rw [← hy] at j0 j1 j2 hsw
      have w1 := w_add a k i n hi (by rw [← hDn]; exact Nat.le_of_lt hi1) hn
      have w2 := w_add b k j n hj (by rw [← hDn]; exact Nat.le_of_lt hj1) hn
      obtain ⟨c1, c2⟩ := i_lt hi1 hDn
      obtain ⟨c3, c4⟩ := i_lt hj1 hDn
      have zg := hr.lt
      obtain ⟨n1, n2, n3, n4, n5, n6, n7, n8, n9, n10, n11, n12⟩ := th_apart i j hij
      have Hsw := Lib.hid hsw
      have Hw := Lib.hid (w_one k n m6 hn)
      clear hst hD hL hDn hi hj hx hy hr hsw hi1 hj1 hij m1 m2 m3 m4 m5 m6
      go_wp2_with fail
      go_region
      go_wp2_with fail
      go_roundw
      case rel => exact ⟨k + 1, by rw [Hw.out], by omega, Hsw.out⟩
      case measure => rw [Hw.out]; simp only [intOf, Int.toNat_natCast]; omega
    · have hkk : k = N := by omega
      subst hkk
      have e := Hal.out
      rw [← HN.out] at e
      rw [e] at hr
      go_wp2_with fail
      refine bodyPost_end (results_none rfl _ _ _) rfl ?_
      exact ⟨rfl, hr⟩
end Go.Proofs.Ytedlplkomfiahaa
namespace Go.Proofs.Ytedlplkomfiahaa
set_option linter.unusedVariables false
set_option linter.unusedSimpArgs false
set_option linter.unusedSectionVars false
open Go Go.RowKit
theorem rot_nums (p x y q n m i j : Nat) (hs : p + (x + (y + q)) = n) (hm : m = p + x) (hi : i = x) (hj : j = y) : m ≤ n ∧ m = p + i ∧ i ≤ n ∧ j ≤ n ∧ m + j ≤ n := by omega
/-- how far a rotation has come -/
structure Rot (P A B Q : List Th) (m i j : Nat) (P' X Y Q' : List Th) : Prop where
  eq : P ++ (B ++ (A ++ Q)) = P' ++ (Y ++ (X ++ Q'))
  mm : m = P'.length + X.length
  ii : i = X.length
  jj : j = Y.length
  i0 : 0 < i
  j0 : 0 < j
theorem Rot.left {P A B Q P' X Y Q' : List Th} {m i j : Nat} (h : Rot P A B Q m i j P' X Y Q') (hij : j < i) : Rot P A B Q m (i - j) j (P' ++ Y) (X.drop j) (X.take j) Q' := by
  obtain ⟨h1, h2, h3, h4, h5, h6⟩ := h
  refine ⟨?_, ?_, ?_, ?_, by omega, h6⟩
  · rw [h1, List.append_assoc, ← List.append_assoc (X.take j), List.take_append_drop]
  · rw [List.length_append, List.length_drop]; omega
  · rw [List.length_drop]; omega
  · rw [List.length_take]; omega
theorem Rot.right {P A B Q P' X Y Q' : List Th} {m i j : Nat} (h : Rot P A B Q m i j P' X Y Q') (hij : i < j) : Rot P A B Q m i (j - i) P' (Y.drop (j - i)) (Y.take (j - i)) (X ++ Q') := by
  obtain ⟨h1, h2, h3, h4, h5, h6⟩ := h
  refine ⟨?_, ?_, ?_, ?_, h5, by omega⟩
  · rw [h1, ← List.append_assoc (Y.take (j - i)), List.take_append_drop]
  · rw [List.length_drop]; omega
  · rw [List.length_drop]; omega
  · rw [List.length_take]; omega
set_option maxRecDepth 100000 in
set_option maxHeartbeats 4000000 in
theorem rotate_any (P A B Q : List Th) (a m b : Nat) (fv : Value) (W0 W : World) (base g n cap : Nat) (hn : n ≤ 4611686018427387904) (ha : a = P.length) (hm : m = P.length + A.length) (hb : b = P.length + A.length + B.length) (hA : 0 < A.length) (hB : 0 < B.length)
    (h : SR thT W0 W base g n cap (P ++ (A ++ (B ++ Q)))) :
    Calls Try.prog 106 #[.slice (some ⟨g, 0, none⟩) n cap, .int .i64 (a : Nat), .int .i64 (m : Nat), .int .i64 (b : Nat), fv] W fun e W' => e = .returned (.tuple #[]) ∧ SR thT W0 W' base g n cap (P ++ (B ++ (A ++ Q))) := by
  have hlen := h.len
  simp only [List.length_append] at hlen
  obtain ⟨i0, hi0⟩ : ∃ i, i = A.length := ⟨_, rfl⟩
  obtain ⟨j0, hj0⟩ : ∃ j, j = B.length := ⟨_, rfl⟩
  have hR : Rot P A B Q m i0 j0 P A B Q := ⟨rfl, hm, hi0, hj0, by omega, by omega⟩
  have w1 := w_sub m a i0 n (by omega) (by omega) hn
  have w2 := w_sub b m j0 n (by omega) (by omega) hn
  have HR := Lib.hid hR
  have H := Lib.hid h
  have HW1 := Lib.hid w1
  have HW2 := Lib.hid w2
  clear hi0 hj0 hR h ha hm hb hA hB hlen
  go_enter Try.func106, Try.ntmps106
  go_wp2_with fail
  clear w1 w2
  go_loopw [10, 11] (fun u v wr => ∃ (i j : Nat) (P' X Y Q' : List Th), u = .int .i64 (i : Nat) ∧ v = .int .i64 (j : Nat) ∧ Hid (Rot P A B Q m i j P' X Y Q') ∧ SR thT W0 wr base g n cap (P' ++ (X ++ (Y ++ Q')))) (fun u v _ => (intOf u).toNat + (intOf v).toNat)
  case atStart => exact ⟨i0, j0, P, A, B, Q, by first | rfl | rw [HW1.out], by first | rfl | rw [HW2.out], HR, H.out⟩
  case round =>
    obtain ⟨i, j, P', X, Y, Q', rfl, rfl, hR, hr⟩ := hrel
    have hlen := hr.len
    simp only [List.length_append] at hlen
    obtain ⟨m1, m2, m3, m4, m5⟩ := rot_nums _ _ _ _ n m i j hlen hR.out.mm hR.out.ii hR.out.jj
    obtain ⟨p, hp⟩ : ∃ p, p = P'.length := ⟨_, rfl⟩
    rw [← hp] at m2
    have Hn := Lib.hid hlen
    have Hp := Lib.hid hp
    clear hlen hp
    have w1 := w_sub m i p n m2 m1 hn
    have M2 := Lib.hid m2
    clear m2
    by_cases h1 : i = j
    · subst h1
      have hst := swapRange_any P' X [] Y Q' p m i fv W0 wr base g n cap (by rw [← hR.out.ii, ← hR.out.jj]) hn Hp.out (by rw [hR.out.mm]; simp) hR.out.ii (by simpa using hr)
      have Hst := Lib.hid hst
      have c1 : (i != i) = false := by simp
      clear hst hr m1 m3 m4 m5 HR H
      go_wp2_with fail
      refine Hst.out.mono ?_
      rintro e W2 ⟨rfl, hr2⟩
      go_wp2_with fail
      refine bodyPost_end (results_none rfl _ _ _) rfl ?_
      rw [hR.out.eq]
      exact ⟨rfl, by simpa using hr2⟩
    · have c1 : ((i : Int) != (j : Int)) = true := by simp; omega
      by_cases h2 : j < i
      · have c2 : (j : Int) < (i : Int) := by omega
        have w2 := w_sub i j (i - j) n (by omega) m3 hn
        have hst := swapRange_any P' (X.take j) (X.drop j) Y Q' p m j fv W0 wr base g n cap (by rw [List.length_take, ← hR.out.ii, ← hR.out.jj]; omega) hn Hp.out (by rw [hR.out.mm, List.length_take, List.length_drop]; omega) (by rw [List.length_take, ← hR.out.ii]; omega) (by rw [← List.append_assoc (X.take j), List.take_append_drop]; exact hr)
        have Hst := Lib.hid hst
        have HR2 := Lib.hid (hR.out.left h2)
        have Hj := Lib.hid hR.out.j0
        have H2 := Lib.hid h2
        clear hst hr m1 m3 m4 m5 HR H h1 h2
        go_wp2_with fail
        refine Hst.out.mono ?_
        rintro e W2 ⟨rfl, hr2⟩
        go_wp2_with fail
        go_roundw
        case rel => exact ⟨i - j, j, P' ++ Y, X.drop j, X.take j, Q', by rw [w2], rfl, HR2, by rw [List.append_assoc]; exact hr2⟩
        case measure =>
          rw [w2]
          simp only [intOf, Int.toNat_natCast]
          have := Hj.out
          have := H2.out
          omega
      · have h2' : i < j := by omega
        have c2 : ¬ (j : Int) < (i : Int) := by omega
        have w2 := w_sub j i (j - i) n (by omega) m4 hn
        obtain ⟨mj, hmj⟩ : ∃ mj, mj = m + j := ⟨_, rfl⟩
        obtain ⟨pj, hpj⟩ : ∃ pj, pj = p + j := ⟨_, rfl⟩
        have w3 := w_add m j mj n hmj (by rw [hmj]; exact m5) hn
        have w4 := w_sub mj i pj n (by rw [hmj, hpj, M2.out]; omega) (by rw [hmj]; exact m5) hn
        have hst := swapRange_any P' X (Y.take (j - i)) (Y.drop (j - i)) Q' p pj i fv W0 wr base g n cap (by rw [List.length_drop, ← hR.out.ii, ← hR.out.jj]; omega) hn Hp.out (by rw [← Hp.out, hpj, List.length_take, ← hR.out.jj, ← hR.out.ii]; omega) hR.out.ii (by rw [← List.append_assoc (Y.take (j - i)), List.take_append_drop]; exact hr)
        have Hst := Lib.hid hst
        have HR2 := Lib.hid (hR.out.right h2')
        have Hi := Lib.hid hR.out.i0
        have H2 := Lib.hid h2'
        clear hst hr m1 m3 m4 m5 HR H h1 h2 h2' hmj hpj
        go_wp2_with fail
        refine Hst.out.mono ?_
        rintro e W2 ⟨rfl, hr2⟩
        go_wp2_with fail
        go_roundw
        case rel => exact ⟨i, j - i, P', Y.drop (j - i), Y.take (j - i), X ++ Q', rfl, by rw [w2], HR2, hr2⟩
        case measure =>
          rw [w2]
          simp only [intOf, Int.toNat_natCast]
          have := Hi.out
          have := H2.out
          omega
end Go.Proofs.Ytedlplkomfiahaa
