/- Lemmas for BagOnce (Aux4 Ba Bb Nw Nb). No statement of the seat is proved here. -/
import Derived.Maps.AppendAt
import Derived.Maps.RangeWalk
import Derived.Maps.OwnSet
import Derived.WalkLawsBesides
import Derived.BigQuiet
import Derived.Deep.QuietTactic
import Derived.RegionTactic
import Derived.BigRegion
import Derived.Deep.RegionWith
import Derived.Deep.RegionLaw
import Derived.Deep.RegionHeld3
import Derived.Deep.DeepCutAuto
import Derived.IntWalk
import Derived.WalkSpells
import Derived.Laws.NewBlocks
import Derived.Lib.QuietBelow
import Derived.Shelf.SlMaps.Clone
import Derived.Test.YtbmkgcoolofmpaaO1
import Derived.Test.YtbmkgcoolofmpaaO4
import Derived.Test.YtbmkgcoolofmpaaO5
namespace Go.Proofs.Ytbmkgcoolofmpaa
set_option linter.unusedVariables false
set_option linter.unusedSimpArgs false
set_option linter.unusedSectionVars false
open Go Go.RowKit Go.Maps
/-- append as one operation; where the new row lies -/
theorem wpo_append_lie {P : Program} {w : World} {o : Oper} {a : Act} {K : Act → World → Prop} {Q : Exit → Act → World → Prop} (s x : Operand) (t : TypeId)
    (ho : o.op = .call { callee := .builtin .append, args := #[s, x], argTypes := #[t, t] })
    (base : Nat) (e : TypeId) {z : Value} {size bytes : Nat} (hi : (P.info? e).map (fun i => (i.zero, i.size, i.bytes)) = some (some z, size, bytes)) (ht : P.underlying t = some (.slice e))
    (hzs : z.cells.size = size) (hsz : 0 < size)
    (v : Value) (n : Nat) (xs : List Value) (hs : a.eval s = v) (hown : w.ownsRow base e size v n xs)
    (ao : Option Addr) (m c : Nat) (news : List Value) (hx : a.eval x = .slice ao m c) (hsl : Sl w size ao m c news) (h1 : ∀ u ∈ news, u.oneCell' = true)
    (h63 : n + m ≤ maxLen) (hbytes : (n + m) * bytes ≤ 140737488355328) (hbase : base ≤ w.heap.size)
    (h : ∀ ao' cap' w', w'.ownsRow base e size (.slice ao' (n + m) cap') (n + m) (xs ++ news) → w.grownBy w' v.ownBlock → (∀ g, (Value.slice ao' (n + m) cap').ownBlock = some g → v.ownBlock = some g ∨ g = w.heap.size) → K (a.put o.dst (.slice ao' (n + m) cap')) w') : o.wp P a w K Q := by
  obtain ⟨i, hi1, hi2, hi3, hi4⟩ := info_parts hi
  cases ao with
  | none =>
    have hc := hsl.none rfl
    have hle := hsl.le
    obtain rfl : c = 0 := hc
    obtain rfl : m = 0 := by omega
    have hnews : news = [] := List.eq_nil_of_length_eq_zero (by simpa using hsl.len)
    subst hnews
    have hrun := run_append_owned_none (P := P) (w := w) base t o.type e i size ht hi1 v n xs hown
    obtain ⟨ao', cap', rfl⟩ := own_slice hown
    unfold Oper.wp
    simp [execOp, ho, resolve, invoke, builtin, hs, hx, hrun, Result.andThen]
    exact h ao' cap' _ (by simpa using hown) (World.grownBy.refl _ _) (fun g hg => .inl hg)
  | some ad =>
    have hnews : ∀ j u, news[j]? = some u → w.cell? (ad.add j) = some u := by
      intro j u hu
      obtain ⟨b, off, e, hc⟩ := hsl.cell j u hu
      simp only [Option.some.injEq] at e
      subst e
      rw [← hc]; congr 1
      unfold Addr.add; split <;> simp_all
    obtain ⟨v', w', hr, h2, h3, _, h5⟩ := run_append_own_at (P := P) w base t o.type e i z size bytes ht hi1 hi2 hi3 hi4 hzs hsz v n xs hown ad m c news hsl.len hnews h1 h63 hbytes hbase
    obtain ⟨ao', cap', rfl⟩ := own_slice h2
    unfold Oper.wp execOp
    simp only [ho, resolve, invoke, builtin, Sem.run_bind, Sem.run_pure, Result.andThen_ok, List.map_toArray, List.map_cons, List.map_nil, hs, hx, hr]
    refine h ao' cap' w' h2 h3 fun g hg => ?_
    rcases h5 with h5 | h5
    · exact .inl (by rw [← h5]; exact hg)
    · right
      exact Option.some.inj (hg.symm.trans h5)
theorem wpl_append_lie {P : Program} {w : World} {ops : Array Oper} {rest : List Oper} {o : Oper} {a : Act} {Q : Exit → Act → World → Prop} (hw : Region.wanted o (yielded ops a.tmps) = true) (s x : Operand) (t : TypeId)
    (ho : o.op = .call { callee := .builtin .append, args := #[s, x], argTypes := #[t, t] })
    (base : Nat) (e : TypeId) {z : Value} {size bytes : Nat} (hi : (P.info? e).map (fun i => (i.zero, i.size, i.bytes)) = some (some z, size, bytes)) (ht : P.underlying t = some (.slice e))
    (hzs : z.cells.size = size) (hsz : 0 < size)
    (v : Value) (n : Nat) (xs : List Value) (hs : a.eval s = v) (hown : w.ownsRow base e size v n xs)
    (ao : Option Addr) (m c : Nat) (news : List Value) (hx : a.eval x = .slice ao m c) (hsl : Sl w size ao m c news) (h1 : ∀ u ∈ news, u.oneCell' = true)
    (h63 : n + m ≤ maxLen) (hbytes : (n + m) * bytes ≤ 140737488355328) (hbase : base ≤ w.heap.size)
    (h : ∀ ao' cap' w', w'.ownsRow base e size (.slice ao' (n + m) cap') (n + m) (xs ++ news) → w.grownBy w' v.ownBlock → (∀ g, (Value.slice ao' (n + m) cap').ownBlock = some g → v.ownBlock = some g ∨ g = w.heap.size) → wpList P ops Q rest (a.put o.dst (.slice ao' (n + m) cap')) w') : wpList P ops Q (o :: rest) a w :=
  wpl_of hw fun K hK => wpo_append_lie s x t ho base e hi ht hzs hsz v n xs hs hown ao m c news hx hsl h1 h63 hbytes hbase fun ao' cap' w' a1 a2 a3 => hK _ _ (h ao' cap' w' a1 a2 a3)
end Go.Proofs.Ytbmkgcoolofmpaa
namespace Go.Proofs.Ytbmkgcoolofmpaa
set_option linter.unusedVariables false
set_option linter.unusedSimpArgs false
set_option linter.unusedSectionVars false
open Go Go.RowKit Go.Maps Go.Shelf
/-- only what lies in F has changed, or is new -/
structure Gr (F : Nat → Prop) (W W' : World) : Prop where
  os : W'.os = W.os
  tape : W'.tape = W.tape
  output : W'.output = W.output
  size : W.heap.size ≤ W'.heap.size
  block : ∀ i, i < W.heap.size → ¬ F i → W'.heap[i]? = W.heap[i]?
theorem Gr.below {F : Nat → Prop} {W W' : World} (h : Below W.heap.size W W') : Gr F W W' := ⟨h.os, h.tape, h.output, h.size, fun i hi _ => h.block i hi⟩
theorem Gr.one {F : Nat → Prop} {W W' : World} {row : Option Nat} (h : W.grownBy W' row) (hF : ∀ b, row = some b → F b) : Gr F W W' := ⟨h.os, h.tape, h.output, h.size, fun i hi hn => h.block i hi (fun e => hn (hF i e.symm))⟩
theorem Gr.then {F G : Nat → Prop} {W W1 W2 : World} (h : Gr F W W1) (h2 : Gr G W1 W2) (hG : ∀ i, G i → F i ∨ W.heap.size ≤ i) : Gr F W W2 :=
  ⟨h2.os.trans h.os, h2.tape.trans h.tape, h2.output.trans h.output, Nat.le_trans h.size h2.size, fun i hi hn => (h2.block i (Nat.lt_of_lt_of_le hi h.size) (fun e => by rcases hG i e with h3 | h3; exact hn h3; omega)).trans (h.block i hi hn)⟩
theorem Gr.trans {F : Nat → Prop} {W W1 W2 : World} (h : Gr F W W1) (h2 : Gr F W1 W2) : Gr F W W2 := h.then h2 (fun i hi => .inl hi)
theorem Gr.mono {F G : Nat → Prop} {W W' : World} (h : Gr F W W') (hG : ∀ i, F i → G i) : Gr G W W' := ⟨h.os, h.tape, h.output, h.size, fun i hi hn => h.block i hi (fun e => hn (hG i e))⟩
theorem Gr.above {F : Nat → Prop} {W W' : World} {B : Nat} (h : Gr F W W') (hB : B ≤ W.heap.size) (hF : ∀ i, F i → B ≤ i) : Below B W W' := ⟨h.os, h.tape, h.output, h.size, fun i hi => h.block i (Nat.lt_of_lt_of_le hi hB) (fun e => by have := hF i e; omega)⟩
theorem bx_below {W V : World} {b : Nat} {o : Obj} (hb : Below W.heap.size W V) (h : W.heap[b]? = some o) : V.heap[b]? = some o := (hb.block b (Array.getElem?_eq_some_iff.1 h).1).trans h
theorem bx_lt {W : World} {b : Nat} {o : Obj} (h : W.heap[b]? = some o) : b < W.heap.size := (Array.getElem?_eq_some_iff.1 h).1
theorem own_gr {W W' : World} {F : Nat → Prop} {base e size n : Nat} {v : Value} {xs : List Value} (h : W.ownsRow base e size v n xs) (hg : Gr F W W') (hd : ∀ g, v.ownBlock = some g → ¬ F g) : W'.ownsRow base e size v n xs := by
  have hl := h.lt
  obtain ⟨h1, h2⟩ := h
  refine ⟨h1, ?_⟩
  rcases h2 with h2 | ⟨g, cap, cur, hv, hb, hh, rest⟩
  · exact .inl h2
  · exact .inr ⟨g, cap, cur, hv, hb, (hg.block g (hl g (by rw [hv]; rfl)).2 (hd g (by rw [hv]; rfl))).trans hh, rest⟩
/-! the map of who is apart -/
abbrev amT : TypeId := 45
abbrev KeyOk (k : Int) : Prop := (Lit.int .i64 k).wf = true
theorem i64law : Keyed Try.prog 3 := int_keyed Try.underlying3
theorem zeroI (w : World) : (zeroValue 3).run Try.prog w = .ok (.int .i64 0) w := by kernel_rfl
theorem keyI_ne {a b : Int} (h : a ≠ b) : (Lit.int .i64 a) ≠ Lit.int .i64 b := fun e => by cases e; exact h rfl
/-- the map D holds 1 where T is true, and nothing elsewhere -/
def ASet (D : DataW Unit) (T : Int → Bool) : Prop := Maps.Tidy D ∧ (∀ k : Int, Maps.has D (.int .i64 k) = T k) ∧ (∀ k : Int, T k = true → ∀ z, D.atKey (.int .i64 k) z = .lit (.int .i64 1))
theorem ASet.start : ASet (.map []) (fun _ => false) := ⟨tidy_empty, fun k => by simp [has_eq], fun k h => by cases h⟩
theorem ASet.put {D : DataW Unit} {T : Int → Bool} (h : ASet D T) (k : Int) : ASet (D.put (.int .i64 k) (.lit (.int .i64 1))) (fun j => T j || k == j) := by
  obtain ⟨h1, h2, h3⟩ := h
  have hk : WideAt.IsKeyLit (.int .i64 k) := by trivial
  refine ⟨h1.put hk _, fun j => ?_, fun j hj z => ?_⟩
  · by_cases e : j = k
    · subst e
      rw [has_put_same h1.isMap hk]; simp
    · have e2 : (k == j) = false := by simp; exact fun h => e h.symm
      rw [has_put_other (keyI_ne e), h2 j]
      simp only [e2, Bool.or_false]
  · by_cases e : j = k
    · subst e
      exact atKey_put_same h1.isMap hk _ _
    · have e2 : (k == j) = false := by simp; exact fun h => e h.symm
      simp only [e2, Bool.or_false] at hj
      rw [atKey_put_other (keyI_ne e)]
      exact h3 j hj z
theorem ASet.del {D : DataW Unit} {T : Int → Bool} (h : ASet D T) (k : Int) : ASet (D.del (.int .i64 k)) (fun j => T j && !decide (j = k)) := by
  obtain ⟨h1, h2, h3⟩ := h
  refine ⟨h1.del _, fun j => ?_, fun j hj z => ?_⟩
  · by_cases e : j = k
    · subst e
      rw [has_del_same]; simp
    · rw [has_del_other (keyI_ne e), h2 j]; simp [e]
  · by_cases e : j = k
    · subst e
      simp at hj
    · rw [atKey_del_other (keyI_ne e)]
      simp [e] at hj
      exact h3 j hj z
def Ap (w : World) (b n : Nat) (T : Int → Bool) : Prop := ∃ D : DataW Unit, w.ownsMap Try.prog 3 (plainElem Try.prog 3) b n D ∧ ASet D T
theorem Ap.kept {w w' : World} {b n : Nat} {T : Int → Bool} (h : Ap w b n T) (hb : w'.heap[b]? = w.heap[b]?) : Ap w' b n T := by
  obtain ⟨D, ⟨es, clock, h1, h2⟩, h3⟩ := h
  exact ⟨D, ⟨es, clock, hb.trans h1, h2⟩, h3⟩
theorem Ap.lt {w : World} {b n : Nat} {T : Int → Bool} (h : Ap w b n T) : b < w.heap.size := by
  obtain ⟨D, h1, h3⟩ := h
  exact h1.lt
theorem Ap.elem {w : World} {b n : Nat} {T : Int → Bool} (h : Ap w b n T) (E : TypeId) : elem? w b ≠ some E := by
  obtain ⟨D, ⟨es, clock, hb, _⟩, h3⟩ := h
  unfold elem?; rw [hb]; simp
theorem Ap.below {w w' : World} {b n : Nat} {T : Int → Bool} (h : Ap w b n T) (hB : Below w.heap.size w w') : Ap w' b n T := h.kept (hB.block b h.lt)
theorem Ap.look {w : World} {b n : Nat} {T : Int → Bool} (h : Ap w b n T) (k : Int) (hk : KeyOk k) : (Instr.lookup amT (.map (some b)) (.int .i64 k) false).run Try.prog w = .ok (.int .i64 (if T k then 1 else 0)) w := by
  obtain ⟨D, h1, h2⟩ := h
  obtain ⟨c, hrun, hat, _⟩ := h1.lookup_int i64law Try.underlying45 Try.underlying3 (zeroI w) (keyOf_int_mk Try.underlying3 hk)
  rw [hrun]
  cases ht : T k with
  | true =>
    rw [h2.2.2 k ht] at hat
    simp only [DataW.lit.injEq, Lit.int.injEq, true_and] at hat
    rw [← hat]; simp
  | false =>
    rw [atKey_of_not_has (by rw [h2.2.1 k, ht])] at hat
    simp only [DataW.lit.injEq, Lit.int.injEq, true_and] at hat
    rw [← hat]; simp
theorem Ap.set {w : World} {b n : Nat} {T : Int → Bool} (h : Ap w b n T) (hn : n < 1000000) (k : Int) (hk : KeyOk k) : ∃ w', (Instr.mapUpdate amT (.map (some b)) (.int .i64 k) (.int .i64 1)).run Try.prog w = .ok () w' ∧ Ap w' b (n + 1) (fun j => T j || k == j) ∧ w.grownBy w' (some b) := by
  obtain ⟨D, h1, h2⟩ := h
  obtain ⟨w', hrun, ho, hg⟩ := h1.update i64law Try.underlying45 (by unfold maxLen; omega) (keyOf_int_mk Try.underlying3 hk) (plainElem_int Try.underlying3 (by decide : (Lit.int .i64 1).wf = true))
  exact ⟨w', hrun, ⟨_, ho, h2.put k⟩, hg⟩
/-- a range over the map under way, that deletes what it meets -/
def Rga (W : World) (m r n : Nat) (T : Int → Bool) (cnt : Nat) : Prop := ∃ D left, W.ranges Try.prog 3 (plainElem Try.prog 3) m r n D left cnt ∧ ASet D T ∧ ∀ kl, left kl = Maps.has D kl
/-- one was met, and is still there -/
def Rgm (W : World) (m r n : Nat) (T : Int → Bool) (x : Int) (cnt : Nat) : Prop := ∃ D left, W.ranges Try.prog 3 (plainElem Try.prog 3) m r n D left cnt ∧ ASet D T ∧ KeyOk x ∧ ∀ kl, left kl = (Maps.has D kl && !kl.sameKey (.int .i64 x))
end Go.Proofs.Ytbmkgcoolofmpaa
namespace Go.Proofs.Ytbmkgcoolofmpaa
set_option linter.unusedVariables false
set_option linter.unusedSimpArgs false
set_option linter.unusedSectionVars false
open Go Go.RowKit Go.Maps Go.Shelf
theorem ld_takeT {P : Program} {T : TypeId} {p i : Nat} {v : Value} {W : World} {ρ : Operand → Value} {o : Oper} {x : Operand} (ho : o.op = .load T x) (h : (Instr.loadAt T (.pointer (some ⟨p, i, none⟩))).run P W = .ok v W) (hx : ρ x = .pointer (some ⟨p, i, none⟩)) : (execOp ρ o).run P W = .ok (.value v) W := by
  unfold execOp
  simp [ho, hx, h]
theorem ldI {W : World} {b o : Nat} {n : Int} (h : W.cell? ⟨b, o, none⟩ = some (.int .i64 n)) : (Instr.loadAt 3 (.pointer (some ⟨b, o, none⟩))).run Try.prog W = .ok (.int .i64 n) W := by go_simp
abbrev bgT : TypeId := 48
abbrev ltT : TypeId := 73
abbrev ltsT : TypeId := 46
abbrev u8T : TypeId := 5
theorem infoLt : (Try.prog.info? 73).map (fun i => (i.zero, i.size, i.bytes)) = some (some (.agg #[.int .i64 0, .int .i64 0, .slice none 0 0]), 3, 40) := by kernel_rfl
/-- a letter: its message, where its bytes lie -/
structure Lt where
  m : Ms
  ao : Option Addr
  ac : Nat
def ltCells (x : Lt) : List Value := [.int .i64 x.m.frm, .int .i64 x.m.dst, .slice x.ao (wireB x.m).length x.ac]
abbrev ltFlat (l : List Lt) : List Value := (l.map ltCells).flatten
theorem lt_one (t : Lt) : ∀ u ∈ ltCells t, u.oneCell' = true := by
  intro u hu; simp [ltCells] at hu; rcases hu with rfl | rfl | rfl <;> rfl
theorem lts_one (l : List Lt) : ∀ u ∈ ltFlat l, u.oneCell' = true := by
  intro u hu
  obtain ⟨r, hr, hu⟩ := List.mem_flatten.1 hu
  obtain ⟨x, _, rfl⟩ := List.mem_map.1 hr
  exact lt_one x u hu
theorem ltFlat_len (l : List Lt) : (ltFlat l).length = l.length * 3 := by
  induction l with
  | nil => rfl
  | cons x l ih => simp only [ltFlat, List.map_cons, List.flatten_cons, List.length_append, List.length_cons] at ih ⊢; rw [ih]; simp [ltCells]; omega
/-- a message that may be a letter -/
structure MsFit (m : Ms) : Prop where
  snd : soundM m = true
  num : 0 ≤ m.index ∧ 0 ≤ m.logTerm ∧ 0 ≤ m.commit ∧ 0 ≤ m.round
structure LtOk (W : World) (x : Lt) : Prop where
  dat : BsT W x.ao x.ac (wireB x.m)
  fit : MsFit x.m
/-- a bag that the call made -/
def Bg (base : Nat) (W : World) (F : Nat → Prop) (b : Nat) (room : Nat) (T : Int → Bool) (l : List Lt) : Prop :=
  ∃ m n ao cap, W.heap[b]? = some (.cells #[.int .i64 (room : Nat), .map (some m), .slice ao l.length cap] bgT (0, 0)) ∧ W.ownsRow base ltT 3 (.slice ao l.length cap) l.length (ltFlat l) ∧ (Ap W m n T ∧ n ≤ 1000) ∧ (∀ x ∈ l, LtOk W x) ∧ (∀ i, F i ↔ (i = b ∨ i = m ∨ (Value.slice ao l.length cap).ownBlock = some i)) ∧ base ≤ b ∧ base ≤ m ∧ l.length ≤ room ∧ room ≤ 512
/-- behind a call that wrote it -/
def Bgx (base : Nat) (W : World) (F : Nat → Prop) (b : Nat) (room : Nat) (T : Int → Bool) (l : List Lt) (W' : World) : Prop := ∃ F', Bg base W' F' b room T l ∧ Gr F W W' ∧ ∀ i, F' i → F i ∨ W.heap.size ≤ i
theorem own_elemL {W : World} {base e k n : Nat} {v : Value} {xs : List Value} (h : W.ownsRow base e k v n xs) : ∀ g, v.ownBlock = some g → elem? W g = some e := fun g hg => by
  rcases h.2 with ⟨hn, _⟩ | ⟨g', cap, cur, rfl, hb, hh, rest⟩
  · subst hn; cases hg
  · simp only [Value.ownBlock, Option.some.injEq] at hg; subst hg; exact elem?_of hh
section
variable {base : Nat} {W W' : World} {F : Nat → Prop} {b room : Nat} {T : Int → Bool} {l : List Lt}
theorem Bg.elem (h : Bg base W F b room T l) : ∀ i, F i → i < W.heap.size ∧ base ≤ i ∧ (elem? W i = none ∨ elem? W i = some bgT ∨ elem? W i = some ltT) := by
  obtain ⟨m, n, ao, cap, h1, h2, h3, h4, h5, h6, h7, h8, h9⟩ := h
  intro i hi
  rcases (h5 i).1 hi with rfl | rfl | hi
  · exact ⟨bx_lt h1, h6, .inr (.inl (elem?_of h1))⟩
  · refine ⟨h3.1.lt, h7, .inl ?_⟩
    obtain ⟨D, ⟨es, clock, hb, _⟩, _⟩ := h3.1
    unfold elem?; rw [hb]
  · exact ⟨(h2.lt i hi).2, (h2.lt i hi).1, .inr (.inr (own_elemL h2 i hi))⟩
/-- blocks of other types are not the bag's -/
theorem Bg.off (h : Bg base W F b room T l) {E : TypeId} (h1 : E ≠ bgT) (h2 : E ≠ ltT) {i : Nat} (hi : elem? W i = some E) : ¬ F i := fun hf => by
  rcases (h.elem i hf).2.2 with h3 | h3 | h3
  · rw [hi] at h3; cases h3
  · rw [hi] at h3; exact h1 (by simpa using h3)
  · rw [hi] at h3; exact h2 (by simpa using h3)
theorem Bg.beside {H : Nat → Prop} (h : Bg base W F b room T l) (hg : Gr H W W') (hd : ∀ i, F i → ¬ H i) (hH : ∀ i, H i → elem? W i ≠ some u8T) : Bg base W' F b room T l := by
  obtain ⟨m, n, ao, cap, h1, h2, h3, h4, h5, h6, h7, h8, h9⟩ := h
  refine ⟨m, n, ao, cap, (hg.block b (bx_lt h1) (hd b ((h5 b).2 (.inl rfl)))).trans h1, own_gr h2 hg (fun g hg2 => hd g ((h5 g).2 (.inr (.inr hg2)))), ⟨h3.1.kept (hg.block m h3.1.lt (hd m ((h5 m).2 (.inr (.inl rfl))))), h3.2⟩, fun x hx => ⟨(h4 x hx).dat.kept (fun i hi => hg.block i (elem?_lt hi) (fun e => hH i e hi)), (h4 x hx).fit⟩, h5, h6, h7, h8, h9⟩
theorem Bg.below (h : Bg base W F b room T l) (hb : Below W.heap.size W W') : Bg base W' F b room T l := h.beside (H := fun _ => False) (Gr.below hb) (fun _ _ h => h) (fun _ h => h.elim)
theorem Bg.few (h : Bg base W F b room T l) : l.length ≤ room ∧ room ≤ 512 := by
  obtain ⟨m, n, ao, cap, h1, h2, h3, h4, h5, h6, h7, h8, h9⟩ := h
  exact ⟨h8, h9⟩
theorem Bg.ok (h : Bg base W F b room T l) : ∀ x ∈ l, LtOk W x := by
  obtain ⟨m, n, ao, cap, h1, h2, h3, h4, h5, h6, h7, h8, h9⟩ := h
  exact h4
theorem Bgx.same (h : Bg base W F b room T l) (hb : Below W.heap.size W W') : Bgx base W F b room T l W' := ⟨F, h.below hb, Gr.below hb, fun i hi => .inl hi⟩
theorem Bgx.below {W'' : World} (h : Bgx base W F b room T l W') (hb : Below W'.heap.size W' W'') : Bgx base W F b room T l W'' := by
  obtain ⟨G', h1, h2, h3⟩ := h
  exact ⟨G', h1.below hb, h2.trans (Gr.below hb), h3⟩
end
theorem bnone_no (W : World) (b m : Nat) (hc : W.cell? ⟨b, 1, none⟩ = some (.map (some m))) (hl : b < W.heap.size) : Calls Try.prog 28 #[.pointer (some ⟨b, 0, none⟩)] W fun e W' => e = .returned (.bool false) ∧ W' = W := by
  have hq := fun w => run_eql_map_nil_sl (P := Try.prog) w amT _ _ (some m) Try.underlying45
  go_enter Try.func28, Try.ntmps28
  go_wp2_with fail
  go_ret
  exact ⟨rfl, rfl⟩
def BNone (W : World) (q : Option Addr) : Prop := ∀ W', Below W.heap.size W W' → Calls Try.prog 28 #[.pointer q] W' fun e W'' => e = .returned (.bool true) ∧ W'' = W'
theorem BNone.zero {W : World} {b : Nat} (hc : W.cell? ⟨b, 1, none⟩ = some (.map none)) : BNone W (some ⟨b, 0, none⟩) := fun W' hb => by
  have hl := cell?_lt hc
  have hc2 : W'.cell? ⟨b, 1, none⟩ = some (.map none) := (hb.cell (p := ⟨b, 1, none⟩) hl).trans hc
  have hl2 : b < W'.heap.size := Nat.lt_of_lt_of_le hl hb.size
  have hq := fun w => run_eql_map_nil_sl (P := Try.prog) w amT _ _ none Try.underlying45
  go_enter Try.func28, Try.ntmps28
  go_wp2_with fail
  go_ret
  exact ⟨rfl, rfl⟩
section
variable {base : Nat} {W W' : World} {F : Nat → Prop} {b room : Nat} {T : Int → Bool} {l : List Lt}
theorem blen_o (h : Bg base W F b room T l) : Calls Try.prog 18 #[.pointer (some ⟨b, 0, none⟩)] W fun e W' => e = .returned (.int .i64 (l.length : Nat)) ∧ W' = W := by
  obtain ⟨m, n, ao, cap, h1, h2, h3, h4, h5, h6, h7, h8, h9⟩ := h
  have e1 := block_cell h1 1
  have e2 := block_cell h1 2
  have el := bx_lt h1
  simp at e1 e2
  have Hno := Lib.hid (bnone_no W b m e1 el)
  clear h1 h2 h3 h4 h5 h6 h7 h8 h9
  go_enter Try.func18, Try.ntmps18
  go_wp2_with fail
  refine Hno.out.mono ?_
  rintro e V1 ⟨rfl, hv⟩
  subst V1
  go_wp2_with fail
  go_ret
  exact ⟨rfl, rfl⟩
theorem bhas_o (h : Bg base W F b room T l) (k : Int) : Calls Try.prog 31 #[.pointer (some ⟨b, 0, none⟩), .int .i64 k] W fun e W' => e = .returned (.bool (decide (0 ≤ k ∧ k < (l.length : Nat)))) ∧ W' = W := by
  have Hln := Lib.hid (blen_o h)
  obtain ⟨c, hc⟩ : ∃ c, c = decide (0 ≤ k ∧ k < (l.length : Nat)) := ⟨_, rfl⟩
  rw [← hc]
  clear h
  by_cases h0 : 0 ≤ k
  · have g0 : k ≥ 0 := h0
    by_cases h1 : k < (l.length : Nat)
    · have hct : c = true := by rw [hc]; exact decide_eq_true ⟨h0, h1⟩
      subst c
      rw [hct]
      clear hct
      go_enter Try.func31, Try.ntmps31
      go_wp2_with fail
      refine Hln.out.mono ?_
      rintro e V1 ⟨rfl, hv⟩
      subst V1
      go_wp2_with fail
      go_ret
      exact ⟨rfl, rfl⟩
    · have hct : c = false := by rw [hc]; exact decide_eq_false (fun h => h1 h.2)
      subst c
      rw [hct]
      clear hct
      go_enter Try.func31, Try.ntmps31
      go_wp2_with fail
      refine Hln.out.mono ?_
      rintro e V1 ⟨rfl, hv⟩
      subst V1
      go_wp2_with fail
      go_ret
      exact ⟨ret_bool (by simpa using h1), rfl⟩
  · have hct : c = false := by rw [hc]; exact decide_eq_false (fun h => h0 h.1)
    subst c
    rw [hct]
    clear hct
    have g0 : ¬ k ≥ 0 := h0
    go_enter Try.func31, Try.ntmps31
    go_wp2_with fail
    go_ret
    exact ⟨rfl, rfl⟩
theorem bapart_o (h : Bg base W F b room T l) (k : Int) (hk : KeyOk k) : Calls Try.prog 19 #[.pointer (some ⟨b, 0, none⟩), .int .i64 k] W fun e W' => e = .returned (.bool (T k)) ∧ W' = W := by
  obtain ⟨m, n, ao, cap, h1, h2, h3, h4, h5, h6, h7, h8, h9⟩ := h
  have e1 := block_cell h1 1
  have el := bx_lt h1
  simp at e1
  have Hno := Lib.hid (bnone_no W b m e1 el)
  have hlk := h3.1.look k hk
  have hif : ((if T k = true then (1 : Int) else 0) == 1) = T k := by cases T k <;> rfl
  obtain ⟨c, hc⟩ : ∃ c, c = (if T k = true then (1 : Int) else 0) := ⟨_, rfl⟩
  rw [← hc] at hlk hif
  have Hif := Lib.hid hif
  clear h1 h2 h3 h4 h5 h6 h7 h8 h9 hc hif
  go_enter Try.func19, Try.ntmps19
  go_wp2_with fail
  refine Hno.out.mono ?_
  rintro e V1 ⟨rfl, hv⟩
  subst V1
  go_wp2_with fail
  go_ret
  exact ⟨ret_bool (by simpa using Hif.out), rfl⟩
set_option maxRecDepth 100000 in
set_option maxHeartbeats 2000000 in
theorem bcross_o (h : Bg base W F b room T l) (f d : Int) (v : Value) (ho : v.oneCell' = true) (hf : KeyOk f) (hd : KeyOk d) : Calls Try.prog 34 #[.pointer (some ⟨b, 0, none⟩), .agg #[.int .i64 f, .int .i64 d, v]] W fun e W' => e = .returned (.bool (T f != T d)) ∧ Below W.heap.size W W' := by
  obtain ⟨W1, hW1⟩ : ∃ W1, W1 = W.alloc (.cells #[.int .i64 f, .int .i64 d, v] ltT) := ⟨_, rfl⟩
  obtain ⟨p, hp⟩ : ∃ p, p = W.heap.size := ⟨_, rfl⟩
  have hB1 : Below W.heap.size W W1 := by rw [hW1]; exact below_new _ _
  have hx1 : W1.heap[p]? = some (.cells #[.int .i64 f, .int .i64 d, v] ltT (0, 0)) := by rw [hW1, hp]; exact heap_alloc_new _ _
  have Hd := Lib.hid (fun V (hb : Below W1.heap.size W1 V) => bapart_o (h.below (below_on hB1 hb (Nat.le_refl _))) d hd)
  have Hf := Lib.hid (fun V (hb : Below W1.heap.size W1 V) => bapart_o (h.below (below_on hB1 hb (Nat.le_refl _))) f hf)
  have p0 := block_cell hx1 0
  have p1 := block_cell hx1 1
  have pl := bx_lt hx1
  simp at p0 p1
  have HB1 := Lib.hid hB1
  have Hl0 := Lib.hid (ldI (W := W1.drew) p0)
  have Hl1 := Lib.hid (ldI (W := W1.drew) p1)
  clear h hB1 hx1 p0 p1
  go_enter Try.func34, Try.ntmps34
  go_upto_region 1 with fail
  rw [← hW1, ← hp]
  clear hW1 hp
  refine wp_region_held_drew (S := fun W' => W' = W1.drew) (by kernel_rfl) rfl (fun hHeld => ?_)
  refine wpAnyH_take (i := 0) (v := ?_) rfl (by kernel_rfl) (by kernel_rfl) (by kernel_rfl) (fun _ _ _ h => h) (Or.inl ⟨by rfl, ?_⟩) (by assumption) ?_
  rotate_left
  · intro w8 hSw; clear hSw; go_simp; (try with_reducible rfl)
  simp only [Act.put, List.getElem_toArray, List.getElem_cons_zero, List.getElem_cons_succ, List.setIfInBounds_toArray, List.set_cons_zero, List.set_cons_succ]
  refine wpAnyH_take (i := 1) (v := ?_) rfl (by kernel_rfl) (by kernel_rfl) (by kernel_rfl) (fun _ _ _ h => h) (Or.inl ⟨by rfl, ?_⟩) (by assumption) ?_
  rotate_left
  · intro w8 hSw; clear hSw; go_simp; (try with_reducible rfl)
  simp only [Act.put, List.getElem_toArray, List.getElem_cons_zero, List.getElem_cons_succ, List.setIfInBounds_toArray, List.set_cons_zero, List.set_cons_succ]
  refine wpAnyH_take (i := 2) (v := .int .i64 f) rfl (by kernel_rfl) (by kernel_rfl) (by kernel_rfl) (fun _ _ _ h => h) (Or.inl ⟨by rfl, ?_⟩) (by assumption) ?_
  · intro w8 hSw; exact ld_takeT rfl (by rw [hSw]; exact Hl0.out) rfl
  simp only [Act.put, List.getElem_toArray, List.getElem_cons_zero, List.getElem_cons_succ, List.setIfInBounds_toArray, List.set_cons_zero, List.set_cons_succ]
  refine wpAnyH_take (i := 4) (v := ?_) rfl (by kernel_rfl) (by kernel_rfl) (by kernel_rfl) (fun _ _ _ h => h) (Or.inl ⟨by rfl, ?_⟩) (by assumption) ?_
  rotate_left
  · intro w8 hSw; clear hSw; go_simp; (try with_reducible rfl)
  simp only [Act.put, List.getElem_toArray, List.getElem_cons_zero, List.getElem_cons_succ, List.setIfInBounds_toArray, List.set_cons_zero, List.set_cons_succ]
  refine wpAnyH_take (i := 5) (v := ?_) rfl (by kernel_rfl) (by kernel_rfl) (by kernel_rfl) (fun _ _ _ h => h) (Or.inl ⟨by rfl, ?_⟩) (by assumption) ?_
  rotate_left
  · intro w8 hSw; clear hSw; go_simp; (try with_reducible rfl)
  simp only [Act.put, List.getElem_toArray, List.getElem_cons_zero, List.getElem_cons_succ, List.setIfInBounds_toArray, List.set_cons_zero, List.set_cons_succ]
  refine wpAnyH_take (i := 6) (v := .int .i64 d) rfl (by kernel_rfl) (by kernel_rfl) (by kernel_rfl) (fun _ _ _ h => h) (Or.inl ⟨by rfl, ?_⟩) (by assumption) ?_
  · intro w8 hSw; exact ld_takeT rfl (by rw [hSw]; exact Hl1.out) rfl
  simp only [Act.put, List.getElem_toArray, List.getElem_cons_zero, List.getElem_cons_succ, List.setIfInBounds_toArray, List.set_cons_zero, List.set_cons_succ]
  refine wpAnyH_ready (rs := [3]) (by kernel_rfl) (by simp) ?_
  refine AllReadyH.cons rfl (fun K hK => ?_) AllReadyH.nil
  go_simp
  go_at_call 19
  refine (Hf.out _ (Below.refl _ W1).drew).mono ?_
  rintro e V2 ⟨rfl, hv⟩; subst V2
  refine hK.out _ _ rfl (fun hHeld => ?_)
  clear hK K
  try simp only [Act.put, List.getElem_toArray, List.getElem_cons_zero, List.getElem_cons_succ, List.setIfInBounds_toArray, List.set_cons_zero, List.set_cons_succ]
  refine wpAnyH_ready (rs := [7]) (by kernel_rfl) (by simp) ?_
  refine AllReadyH.cons rfl (fun K hK => ?_) AllReadyH.nil
  go_simp
  go_at_call 19
  refine (Hd.out _ (Below.refl _ W1).drew).mono ?_
  rintro e V2 ⟨rfl, hv⟩; subst V2
  refine hK.out _ _ rfl (fun hHeld => ?_)
  clear hK K
  try simp only [Act.put, List.getElem_toArray, List.getElem_cons_zero, List.getElem_cons_succ, List.setIfInBounds_toArray, List.set_cons_zero, List.set_cons_succ]
  refine wpAnyH_take (i := 8) (v := ?_) rfl (by kernel_rfl) (by kernel_rfl) (by kernel_rfl) (fun _ _ _ h => h) (Or.inl ⟨by rfl, ?_⟩) (by assumption) ?_
  rotate_left
  · intro w8 hSw; clear hSw; go_simp; (try with_reducible rfl)
  simp only [Act.put, List.getElem_toArray, List.getElem_cons_zero, List.getElem_cons_succ, List.setIfInBounds_toArray, List.set_cons_zero, List.set_cons_succ]
  refine wpAnyH_take (i := 9) (v := ?_) rfl (by kernel_rfl) (by kernel_rfl) (by kernel_rfl) (fun _ _ _ h => h) (Or.inl ⟨by rfl, ?_⟩) (by assumption) ?_
  rotate_left
  · intro w8 hSw; clear hSw; go_simp; (try with_reducible rfl)
  simp only [Act.put, List.getElem_toArray, List.getElem_cons_zero, List.getElem_cons_succ, List.setIfInBounds_toArray, List.set_cons_zero, List.set_cons_succ]
  refine wpAnyH_done (by kernel_rfl) ?_ _
  go_wp2_with fail
  go_ret
  exact ⟨rfl, HB1.out.drew⟩
end
end Go.Proofs.Ytbmkgcoolofmpaa
namespace Go.Proofs.Ytbmkgcoolofmpaa
set_option linter.unusedVariables false
set_option linter.unusedSimpArgs false
set_option linter.unusedSectionVars false
open Go Go.RowKit Go.Shelf
/-- a writer begun behind W0, that has written l, at most n bytes -/
structure WS (W0 W : World) (p : Nat) (l : List UInt8) (n : Nat) : Prop where
  wr : ∃ v, Wr W W0.heap.size p v l
  bel : Below W0.heap.size W0 W
  len : l.length ≤ n
theorem WS.new (W : World) : WS W (W.alloc (.cells #[.slice none 0 0] 102)) W.heap.size [] 0 := ⟨⟨_, Wr.new W⟩, below_new _ _, by simp⟩
theorem WS.below {W0 W W' : World} {p n : Nat} {l : List UInt8} (h : WS W0 W p l n) (hb : Below W.heap.size W W') : WS W0 W' p l n := by
  obtain ⟨⟨v, hv⟩, h2, h3⟩ := h
  exact ⟨⟨v, hv.below hb⟩, below_on h2 hb (Nat.le_refl _), h3⟩
theorem WS.wrote {W0 W W1 W' : World} {p n m : Nat} {l l' : List UInt8} {v : Value} {e : Ending} (h : WS W0 W p l n) (hb : Below W.heap.size W W1) (hv : Wr W1 W0.heap.size p v l) (hw : Wrote W0.heap.size p v l' W1 e W') (hm : l'.length ≤ m) : e = .returned (.tuple #[]) ∧ WS W0 W' p l' m := by
  obtain ⟨he, v', h1, h2, h3⟩ := hw
  exact ⟨he, ⟨v', h1⟩, hv.below_of h2 (below_on h.bel hb (Nat.le_refl _)) (Nat.le_refl _), hm⟩
theorem WS.lt {W0 W : World} {p n : Nat} {l : List UInt8} (h : WS W0 W p l n) : p < W.heap.size := by
  obtain ⟨⟨v, hv⟩, _⟩ := h
  exact (Array.getElem?_eq_some_iff.1 hv.blk).1
theorem ws_num (xs : List Nat) (hxs : ∀ n ∈ xs, n < 2 ^ 64) (k : Nat) (hk : xs.length = k) (cs : Array Value) (hcs : cs.toList = xs.map fun n : Nat => Value.int .u64 (n : Int)) (hm : k ≤ 1000) {W0 W : World} {p n : Nat} {l : List UInt8} (h : WS W0 W p l n) (hn : n + 9 * k ≤ 1000000000) :
    Calls Try.prog 53 #[.pointer (some ⟨p, 0, none⟩), .slice (some ⟨W.heap.size, 0, none⟩) k k] (W.alloc (.cells cs 31)) fun e W' => e = .returned (.tuple #[]) ∧ WS W0 W' p (l ++ numsB xs) (n + 9 * k) := by
  subst hk
  have h0 := h
  have hlt := h.lt
  obtain ⟨⟨v, hv⟩, h2, h3⟩ := h
  have hb := below_new W (.cells cs 31)
  have hv1 := hv.below hb
  refine (num_any xs hxs (some ⟨W.heap.size, 0, none⟩) xs.length hv1 (by omega) (Us.lit xs cs _ hcs hm) (fun a e => by
    cases e
    exact ⟨by simp only; omega, fun e => by have := (hv.own.lt _ e).2; simp only at this; omega⟩)).mono fun e W' hw => h0.wrote hb hv1 hw ?_
  have := numsB_len xs hxs
  simp; omega
/-- blocks that are neither bytes nor writers are kept -/
def KpW (W W' : World) : Prop := ∀ (b : Nat) (cs : Array Value) (T : TypeId), W.heap[b]? = some (.cells cs T (0, 0)) → T ≠ 5 → T ≠ 102 → W'.heap[b]? = some (.cells cs T (0, 0))
theorem ws_numK (xs : List Nat) (hxs : ∀ n ∈ xs, n < 2 ^ 64) (k : Nat) (hk : xs.length = k) (cs : Array Value) (hcs : cs.toList = xs.map fun n : Nat => Value.int .u64 (n : Int)) (hm : k ≤ 1000) {W0 W : World} {p n : Nat} {l : List UInt8} (h : WS W0 W p l n) (hn : n + 9 * k ≤ 1000000000) :
    Calls Try.prog 53 #[.pointer (some ⟨p, 0, none⟩), .slice (some ⟨W.heap.size, 0, none⟩) k k] (W.alloc (.cells cs 31)) fun e W' => e = .returned (.tuple #[]) ∧ WS W0 W' p (l ++ numsB xs) (n + 9 * k) ∧ KpW W W' := by
  subst hk
  have h0 := h
  have hlt := h.lt
  obtain ⟨⟨v, hv⟩, h2, h3⟩ := h
  have hb := below_new W (.cells cs 31)
  have hv1 := hv.below hb
  refine (num_any xs hxs (some ⟨W.heap.size, 0, none⟩) xs.length hv1 (by omega) (Us.lit xs cs _ hcs hm) (fun a e => by
    cases e
    exact ⟨by simp only; omega, fun e => by have := (hv.own.lt _ e).2; simp only at this; omega⟩)).mono fun e W' hw => ?_
  obtain ⟨he, hws⟩ := h0.wrote hb hv1 hw (m := n + 9 * xs.length) (by
    have := numsB_len xs hxs
    simp; omega)
  refine ⟨he, hws, fun b cs' T hbk hT1 hT2 => ?_⟩
  obtain ⟨_, v', h5, h6, h7⟩ := hw
  have hbz := (Array.getElem?_eq_some_iff.1 hbk).1
  refine (h6.block b (by have := hb.size; omega) (fun e2 => ?_) (fun e2 => ?_)).trans ((hb.block b hbz).trans hbk)
  · subst e2
    rw [hv.blk] at hbk
    cases hbk
    exact hT2 rfl
  · have h8 := own_elemE hv.own b e2
    rw [elem?_of hbk] at h8
    exact hT1 (by simpa using h8)
theorem ws_text (d : List UInt8) {W0 W : World} {p n : Nat} {l : List UInt8} (h : WS W0 W p l n) (hd : n + d.length + 9 ≤ 1000000000) :
    Calls Try.prog 55 #[.pointer (some ⟨p, 0, none⟩), .string ⟨d.toArray⟩] W fun e W' => e = .returned (.tuple #[]) ∧ WS W0 W' p (l ++ (numB d.length ++ d)) (n + d.length + 9) := by
  have h0 := h
  obtain ⟨⟨v, hv⟩, h2, h3⟩ := h
  refine (wtext_any hv (by omega)).mono fun e W' hw => h0.wrote (Below.refl _ _) hv hw ?_
  have := numB_len d.length (by omega)
  simp; omega
theorem ws_bytes {W0 W : World} {p n : Nat} {l : List UInt8} (h : WS W0 W p l n) (hn : n ≤ 1000000000) :
    Calls Try.prog 58 #[.pointer (some ⟨p, 0, none⟩)] W fun e W' => ∃ ao cap, e = .returned (.slice ao l.length cap) ∧ Bs W' ao cap l ∧ Below W0.heap.size W0 W' := by
  obtain ⟨⟨v, hv⟩, h2, h3⟩ := h
  refine (bytes_wr hv (by omega)).mono ?_
  rintro e W' ⟨ao, cap, rfl, hown, hB⟩
  exact ⟨ao, cap, rfl, Bs.of_own hown, below_on h2 hB (Nat.le_refl _)⟩
set_option maxRecDepth 100000 in
set_option maxHeartbeats 4000000 in
theorem ws_flag (b : Bool) {W0 W : World} {p n : Nat} {l : List UInt8} (h : WS W0 W p l n) (hn : n + 9 ≤ 100000000) :
    Calls Try.prog 54 #[.pointer (some ⟨p, 0, none⟩), .slice (some ⟨W.heap.size, 0, none⟩) 1 1] (W.alloc (.cells #[.bool b] 4)) fun e W' => e = .returned (.tuple #[]) ∧ WS W0 W' p (l ++ flagB b) (n + 9) := by
  have hb := below_new W (.cells #[.bool b] 4)
  have hw1 := h.below hb
  have hc : (W.alloc (.cells #[.bool b] 4)).cell? ⟨W.heap.size, 0, none⟩ = some (.bool b) := block_cell (heap_alloc_new _ _) 0
  obtain ⟨Z, hZ⟩ : ∃ Z, Z = W.heap.size := ⟨_, rfl⟩
  obtain ⟨W1, hW1⟩ : ∃ W1, W1 = W.alloc (.cells #[.bool b] 4) := ⟨_, rfl⟩
  rw [← hW1] at hb hw1 hc ⊢
  rw [← hZ] at hc ⊢
  clear hW1 hZ
  have Hone := Lib.hid (fun W' (h : WS W0 W' p l n) => ws_num [1] (by simp) 1 rfl #[.int .u64 1] rfl (by decide) h (by omega))
  have Hnil := Lib.hid (fun W' (h : WS W0 W' p l n) => ws_num [0] (by simp) 1 rfl #[.int .u64 0] rfl (by decide) h (by omega))
  go_enter Try.func54, Try.ntmps54
  go_wp2_with fail
  go_loopw [11] (fun u wr => ∃ i : Nat, u = .int .i64 (i : Nat) ∧ ((i = 0 ∧ wr = W1) ∨ (i = 1 ∧ WS W0 wr p (l ++ flagB b) (n + 9)))) (fun u _ => 1 - (intOf u).toNat)
  case atStart => exact ⟨0, rfl, .inl ⟨rfl, rfl⟩⟩
  case round =>
    obtain ⟨i, rfl, ⟨rfl, rfl⟩ | ⟨rfl, hws⟩⟩ := hrel
    · cases b
      · go_wp2_with fail
        refine (Hnil.out _ hw1).mono ?_
        rintro e W2 ⟨rfl, h2⟩
        go_wp2_with fail
        go_roundw
        case rel => exact ⟨1, by simp, .inr ⟨rfl, by simpa [flagB, numsB] using h2⟩⟩
        case measure => simp [intOf]
      · go_wp2_with fail
        refine (Hone.out _ hw1).mono ?_
        rintro e W2 ⟨rfl, h2⟩
        go_wp2_with fail
        go_roundw
        case rel => exact ⟨1, by simp, .inr ⟨rfl, by simpa [flagB, numsB] using h2⟩⟩
        case measure => simp [intOf]
    · go_wp2_with fail
      refine bodyPost_end (results_none rfl _ _ _) rfl ?_
      exact ⟨rfl, hws⟩
/-- a reader made behind W0, whose bytes lie in W0 -/
structure RdS (T : TypeId) (W0 W : World) (p : Nat) (s : St) : Prop where
  rd : ∃ ao cap, Rd T W p ao cap s.1 s.2 ∧ (0 < s.1.length → ∀ a, ao = some a → a.block < W0.heap.size)
  pos : W0.heap.size ≤ p
  bel : Below W0.heap.size W0 W
theorem Bs.kept {W W' : World} {ao : Option Addr} {cap B : Nat} {l : List UInt8} (h : Bs W ao cap l) (hl : 0 < l.length → ∀ a, ao = some a → a.block < B) (hk : ∀ b, b < B → W'.heap[b]? = W.heap[b]?) : Bs W' ao cap l :=
  ⟨h.len, h.le, h.max, h.none, fun j u hu => by
    obtain ⟨b, off, e, hc⟩ := h.cell j u hu
    have h0 : 0 < l.length := by
      cases l with
      | nil => simp at hu
      | cons c l => simp
    have := hl h0 _ e
    exact ⟨b, off, e, by rw [World.cell?_of_block (w := W) (hk b this)]; exact hc⟩⟩
theorem RdS.kept {T : TypeId} {W0 W W' : World} {p : Nat} {s : St} (h : RdS T W0 W p s) (hb : Below W0.heap.size W0 W') (hp : W'.heap[p]? = W.heap[p]?) : RdS T W0 W' p s := by
  obtain ⟨⟨ao, cap, hr, hl⟩, h2, h3⟩ := h
  exact ⟨⟨ao, cap, ⟨hp.trans hr.blk, hr.bs.kept hl fun b hlt => (hb.block b hlt).trans (h3.block b hlt).symm⟩, hl⟩, h2, hb⟩
theorem RdS.lt {T : TypeId} {W0 W : World} {p : Nat} {s : St} (h : RdS T W0 W p s) : p < W.heap.size := by
  obtain ⟨⟨ao, cap, hr, hl⟩, h2, h3⟩ := h
  exact (Array.getElem?_eq_some_iff.1 hr.blk).1
theorem RdS.below {T : TypeId} {W0 W W' : World} {p : Nat} {s : St} (h : RdS T W0 W p s) (hb : Below W.heap.size W W') : RdS T W0 W' p s :=
  h.kept (below_on h.bel hb (Nat.le_refl _)) (hb.block p h.lt)
/-- another block of the call's own is changed -/
theorem RdS.grown {T : TypeId} {W0 W W' : World} {p : Nat} {row : Option Nat} {s : St} (h : RdS T W0 W p s) (hg : W.grownBy W' row) (hq : ∀ q, row = some q → W0.heap.size ≤ q ∧ q ≠ p) : RdS T W0 W' p s :=
  h.kept (h.bel.grown hg h.bel.size (fun k e => (hq k e).1)) (hg.block p h.lt (fun e => (hq p e.symm).2 rfl))
theorem RdS.store {T : TypeId} {W0 W : World} {p q i : Nat} {s : St} (h : RdS T W0 W p s) (hq : W0.heap.size ≤ q) (hne : q ≠ p) (v : Value) : RdS T W0 (W.setCell ⟨q, i, none⟩ v) p s :=
  h.grown (grown_set W q i v) (fun k e => by cases e; exact ⟨hq, hne⟩)
theorem rds_next {T : TypeId} {W0 W W' : World} {p : Nat} {s s' : St} {ao ao' : Option Addr} {cap' : Nat} (hs : RdS T W0 W p s) (hl : 0 < s.1.length → ∀ a, ao = some a → a.block < W0.heap.size) (h1 : Rd T W' p ao' cap' s'.1 s'.2) (h2 : W.grownBy W' (some p)) (h3 : SameBlk ao ao') (hlen : s'.1.length ≤ s.1.length) : RdS T W0 W' p s' :=
  ⟨⟨ao', cap', h1, fun h0 a' e => by
    obtain ⟨a, e1, e2⟩ := h3 a' e
    rw [← e2]
    exact hl (by omega) a e1⟩, hs.pos, hs.bel.grown h2 hs.bel.size (fun k e => by cases e; exact hs.pos)⟩
theorem gT_len (most : Nat) (s : St) : (gT most s).2.1.length ≤ s.1.length := by
  have := readN_len most s.1 s.2
  unfold gT readT
  simp only
  split
  · simp
  · simp; omega
theorem rds_num (most : Nat) (hm : most < 2 ^ 64) {W0 W : World} {p : Nat} {s : St} (h : RdS 123 W0 W p s) :
    Calls Try.prog 49 #[.pointer (some ⟨p, 0, none⟩), .int .u64 (most : Int)] W fun e W' => e = .returned (.int .u64 ((gN most s).1 : Nat)) ∧ RdS 123 W0 W' p (gN most s).2 ∧ W.grownBy W' (some p) := by
  obtain ⟨ao, cap, hr, hl⟩ := h.rd
  refine (rnum_any most hm hr).mono ?_
  rintro e W' ⟨ao', cap', rfl, h1, h2, h3⟩
  exact ⟨rfl, rds_next h hl h1 h2 h3 (gN_len _ _), h2⟩
theorem rds_text (most : Nat) (hm : most ≤ 1048576) {W0 W : World} {p : Nat} {s : St} (h : RdS 123 W0 W p s) (hs : s.1.length ≤ 70000000000000) :
    Calls Try.prog 76 #[.pointer (some ⟨p, 0, none⟩), .int .i64 (most : Int)] W fun e W' => e = .returned (.string ⟨(gT most s).1.toArray⟩) ∧ RdS 123 W0 W' p (gT most s).2 ∧ W.grownBy W' (some p) := by
  obtain ⟨ao, cap, hr, hl⟩ := h.rd
  refine (text_rd most hm hr hs).mono ?_
  rintro e W' ⟨ao', cap', rfl, h1, h2, h3⟩
  exact ⟨rfl, rds_next h hl h1 h2 h3 (gT_len _ _), h2⟩
theorem rds_fail {W0 W : World} {p : Nat} {s : St} (h : RdS 123 W0 W p s) :
    Calls Try.prog 77 #[.pointer (some ⟨p, 0, none⟩)] W fun e W' => e = .returned (.tuple #[]) ∧ RdS 123 W0 W' p ([], true) ∧ W.grownBy W' (some p) := by
  obtain ⟨ao, cap, hr, hl⟩ := h.rd
  refine (fail_rd hr).mono ?_
  rintro e W' ⟨rfl, h1, h2⟩
  exact ⟨rfl, rds_next (s' := ([], true)) h hl h1 h2 (SameBlk.none _) (by simp), h2⟩
theorem rds_end {W0 W : World} {p : Nat} {s : St} (h : RdS 123 W0 W p s) :
    Calls Try.prog 51 #[.pointer (some ⟨p, 0, none⟩)] W fun e W' => e = .returned (.int .i64 (if doneR s = true then 0 else 20)) ∧ W = W' := by
  obtain ⟨ao, cap, hr, hl⟩ := h.rd
  rw [← endR_done]
  exact end_rd hr
theorem rds_flag {W0 W : World} {p : Nat} {s : St} (h : RdS 123 W0 W p s) :
    Calls Try.prog 74 #[.pointer (some ⟨p, 0, none⟩)] W fun e W' => e = .returned (.bool (gF s).1) ∧ RdS 123 W0 W' p (gF s).2 ∧ W.grownBy W' (some p) := by
  have Hn := Lib.hid (rds_num 1 (by decide) h)
  obtain ⟨x, hx⟩ : ∃ x, x = (gN 1 s).1 := ⟨_, rfl⟩
  unfold gF
  simp only
  rw [← hx] at Hn ⊢
  clear hx
  go_enter Try.func74, Try.ntmps74
  go_wp2_with fail
  refine Hn.out.mono ?_
  rintro e W2 ⟨rfl, hr, hg⟩
  go_wp2_with fail
  go_ret
  refine ⟨ret_bool ?_, hr, hg⟩
  rw [Bool.eq_iff_iff]; simp; try omega
theorem rds_open {W0 : World} {ao : Option Addr} {cap : Nat} {l : List UInt8} (h : Bs W0 ao cap l) :
    Calls Try.prog 47 #[.slice ao l.length cap] W0 fun e W' => e = .returned (.pointer (some ⟨W0.heap.size, 0, none⟩)) ∧ RdS 123 W0 W' W0.heap.size (l, false) ∧ Below W0.heap.size W0 W' := by
  refine (open_rd ao cap l W0 h).mono ?_
  rintro e W' ⟨rfl, h1, h2⟩
  exact ⟨rfl, ⟨⟨ao, cap, h1, fun h0 a e => by
    obtain ⟨b, off, e2, hc⟩ := h.get 0 h0
    rw [e] at e2
    cases e2
    exact cell?_lt hc⟩, Nat.le_refl _, h2⟩, h2⟩
end Go.Proofs.Ytbmkgcoolofmpaa
namespace Go.Proofs.Ytbmkgcoolofmpaa
set_option linter.unusedVariables false
set_option linter.unusedSimpArgs false
set_option linter.unusedSectionVars false
open Go Go.RowKit Go.Shelf
theorem memB_take (l : List Int) (k : Nat) (hk : k < l.length) : memB (l.take (k + 1)) = memB (l.take k) ++ numB l[k].toNat := by
  rw [List.take_succ_eq_append_getElem hk, memB_snoc]
set_option maxRecDepth 100000 in
set_option maxHeartbeats 4000000 in
theorem snapBytes_ok (i t : Int) (mo ao : Option Addr) (mc ac : Nat) (ml : List Int) (d : List UInt8) (w : World) (hm : Iz w .i64 mo mc ml) (hd : Bs w ao ac d) (hs : soundSn ⟨i, t, ml, d⟩ = true) :
    Calls Try.prog 56 #[.agg #[.int .u64 i, .int .u64 t, .slice mo ml.length mc, .slice ao d.length ac]] w fun e w' => ∃ a c, e = .returned (.tuple #[.slice a (snB ⟨i, t, ml, d⟩).length c, .int .i64 0]) ∧ Fresh w w' a c (snB ⟨i, t, ml, d⟩) := by
  obtain ⟨s1, s2, s3, s4, s5, s6⟩ := soundSn_iff.1 hs
  simp only at s1 s2 s3 s4 s5 s6
  obtain ⟨m1, m2, m3⟩ := mOk_all s5
  have hlen := snBody_len _ hs
  have hsnd := fun W hW => snapSound_any i t mo ao mc ac ml d W hW (by omega)
  rw [hs] at hsnd
  have Hsnd := Lib.hid hsnd
  have M3 := Lib.hid m3
  obtain ⟨x, rfl⟩ : ∃ x : Nat, i = (x : Int) := ⟨i.toNat, by omega⟩
  obtain ⟨y, rfl⟩ : ∃ y : Nat, t = (y : Int) := ⟨t.toNat, by omega⟩
  have hbody : snBody ⟨(x : Int), (y : Int), ml, d⟩ = numsB [x, y, ml.length] ++ memB ml ++ (numB d.length ++ d) := by simp [snBody]
  unfold snB
  obtain ⟨B, hB⟩ : ∃ B, B = snBody ⟨(x : Int), (y : Int), ml, d⟩ := ⟨_, rfl⟩
  rw [← hB] at hbody hlen ⊢
  have Hbody := Lib.hid hbody
  have wl : IntKind.u64.wrap (ml.length : Int) = (ml.length : Int) := IntWalk.u64_in _ (by omega)
  have Hnum := Lib.hid (fun W0 W p (h : WS W0 W p [] 0) => ws_num [x, y, ml.length] (by intro n hn; simp at hn; omega) 3 rfl #[.int .u64 (x : Int), .int .u64 (y : Int), .int .u64 (ml.length : Int)] rfl (by decide) h (by omega))
  have Hone := Lib.hid (fun (z : Nat) (hz : z ≤ 6) W0 W p l n (h : WS W0 W p l n) (hn : n ≤ 1000000) => ws_num [z] (by intro n hn; simp at hn; omega) 1 rfl #[.int .u64 (z : Int)] rfl (by decide) h (by omega))
  have Htx := Lib.hid (fun W0 W p l n (h : WS W0 W p l n) (hn : n ≤ 1000000) => ws_text d h (by omega))
  clear hsnd hs hbody hB m3 s1 s2 s3 s4 s5
  obtain ⟨W1, hW1⟩ : ∃ W1, W1 = w.alloc (.cells #[.int .u64 (x : Int), .int .u64 (y : Int), .slice mo ml.length mc, .slice ao d.length ac] 35) := ⟨_, rfl⟩
  have hB1 : Below w.heap.size w W1 := by rw [hW1]; exact below_new _ _
  have k1 : W1.heap[w.heap.size]? = some (.cells #[.int .u64 (x : Int), .int .u64 (y : Int), .slice mo ml.length mc, .slice ao d.length ac] 35) := by rw [hW1]; exact heap_alloc_new _ _
  have z1 : w.heap.size < W1.heap.size := (Array.getElem?_eq_some_iff.1 k1).1
  go_enter Try.func56, Try.ntmps56
  go_upto_region 1 with fail
  rw [← hW1]
  clear hW1
  obtain ⟨p0, p1, p2, p3⟩ := (⟨block_cell k1 0, block_cell k1 1, block_cell k1 2, block_cell k1 3⟩ : W1.cell? ⟨w.heap.size, 0, none⟩ = some (.int .u64 (x : Int)) ∧ W1.cell? ⟨w.heap.size, 1, none⟩ = some (.int .u64 (y : Int)) ∧ W1.cell? ⟨w.heap.size, 2, none⟩ = some (.slice mo ml.length mc) ∧ W1.cell? ⟨w.heap.size, 3, none⟩ = some (.slice ao d.length ac))
  go_wp2_with fail
  refine (Hsnd.out _ (hm.below hB1)).mono ?_
  rintro e W2 ⟨rfl, hB2⟩
  have k2 := (hB2.block _ z1).trans k1
  have hBw2 := below_on hB1 hB2 (Nat.le_refl _)
  have z2 := hB2.size
  clear p0 p1 p2 p3 Hsnd k1
  have hws := WS.new W2
  obtain ⟨W3, hW3⟩ : ∃ W3, W3 = W2.alloc (.cells #[.slice none 0 0] 102) := ⟨_, rfl⟩
  rw [← hW3] at hws
  have e3 : W3.heap.size = W2.heap.size + 1 := by rw [hW3]; exact World.size_alloc _ _
  have hcw : ∀ W', Below W2.heap.size W2 W' → (W'.cell? ⟨w.heap.size, 0, none⟩ = some (.int .u64 (x : Int)) ∧ W'.cell? ⟨w.heap.size, 1, none⟩ = some (.int .u64 (y : Int)) ∧ W'.cell? ⟨w.heap.size, 2, none⟩ = some (.slice mo ml.length mc) ∧ W'.cell? ⟨w.heap.size, 3, none⟩ = some (.slice ao d.length ac)) := fun W' hb => by
    have hk := (hb.block _ (Array.getElem?_eq_some_iff.1 k2).1).trans k2
    exact ⟨block_cell hk 0, block_cell hk 1, block_cell hk 2, block_cell hk 3⟩
  obtain ⟨p0, p1, p2, p3⟩ := hcw W3 hws.bel
  have hn3 := Hnum.out _ _ _ hws
  rw [e3] at hn3
  have Hn3 := Lib.hid hn3
  have q2 : w.heap.size < W2.heap.size := by omega
  have q3 : w.heap.size < W3.heap.size := by omega
  have E3 := Lib.hid e3
  clear e3 hn3
  go_upto_region 4 with fail
  rw [← hW3]
  clear hW3
  go_wp2_with fail
  first | rw [E3.out] | skip
  refine Hn3.out.mono ?_
  rintro e W5 ⟨rfl, hws5⟩
  clear p0 p1 p2 p3 Hn3 q3
  obtain ⟨p0, p1, p2, p3⟩ := hcw W5 hws5.bel
  go_wp2_with fail
  go_loopw [23] (fun u wr => ∃ k : Nat, u = .int .i64 (k : Nat) ∧ k ≤ ml.length ∧ WS W2 wr W2.heap.size ([] ++ numsB [x, y, ml.length] ++ memB (ml.take k)) (27 + 9 * k)) (fun u _ => ml.length - (intOf u).toNat)
  case atStart => exact ⟨0, rfl, Nat.zero_le _, by simpa [memB, numsB] using hws5⟩
  case round =>
    obtain ⟨k, rfl, hk, hwsr⟩ := hrel
    clear p0 p1 p2 p3
    obtain ⟨p0, p1, p2, p3⟩ := hcw wr hwsr.bel
    by_cases hlt : k < ml.length
    · have hmr := ((hm.below hBw2).below hwsr.bel)
      obtain ⟨b, off, rfl, hc⟩ := hmr.get k hlt
      have hz := M3.out ml[k] (List.getElem_mem hlt)
      have hst := memB_take ml k hlt
      obtain ⟨z, hze⟩ : ∃ z : Nat, ml[k] = (z : Int) := ⟨ml[k].toNat, by omega⟩
      rw [hze] at hc hz hst
      rw [Int.toNat_natCast] at hst
      have hnz := Hone.out z (by omega) W2 wr _ _ _ hwsr (by omega)
      have hns : numsB [z] = numB z := by simp [numsB]
      rw [hns, List.append_assoc _ (memB _), ← hst] at hnz
      have Hnz := Lib.hid hnz
      have wz : IntKind.u64.wrap (z : Int) = (z : Int) := IntWalk.u64_in _ (by omega)
      have i0 : (0 : Int) ≤ (k : Int) := by omega
      have i1 : (k : Int) < (ml.length : Int) := by omega
      clear hnz hst hns hze
      go_wp2_with fail
      refine Hnz.out.mono ?_
      rintro e W6 ⟨rfl, hws6⟩
      go_wp2_with fail
      go_roundw
      case rel => exact ⟨k + 1, by simp, by omega, hws6⟩
      case measure => simp [intOf]; omega
    · have hkk : k = ml.length := by omega
      subst hkk
      rw [List.take_length] at hwsr
      have hcv := conv_any ((hd.below hBw2).below hwsr.bel)
      go_wp2_with fail
      refine (Htx.out _ _ _ _ _ hwsr (by omega)).mono ?_
      rintro e W7 ⟨rfl, hws7⟩
      rw [List.nil_append, ← Hbody.out] at hws7
      clear hcv
      go_wp2_with fail
      refine (ws_bytes hws7 (by omega)).mono ?_
      rintro e W8 ⟨a8, c8, rfl, hb8, hB8⟩
      have hBw8 := below_on hBw2 hB8 (Nat.le_refl _)
      have hwrap := wrap_ok 4 a8 c8 B W8 hb8 (by decide) (by omega)
      rw [show (((4 : UInt8).toNat : Nat) : Int) = 4 from rfl] at hwrap
      have Hwrap := Lib.hid hwrap
      clear hwrap
      go_wp2_with fail
      refine Hwrap.out.mono ?_
      rintro e W9 ⟨a9, c9, rfl, hfr9⟩
      go_wp2_with fail
      go_ret2
      exact ⟨a9, c9, rfl, own_base hfr9.own hBw8.size, below_on hBw8 hfr9.bel (Nat.le_refl _)⟩
end Go.Proofs.Ytbmkgcoolofmpaa
