/- The state of the law LazyRows, and At of a table with a function. No statement of the seat is proved here. -/
import Derived.Test.YtljlgphieefdmaaLazyS
import Derived.Maps.OwnSet
import Derived.Deep.OwnRows
namespace Go.Proofs.Ytljlgphieefdmaa
set_option linter.unusedVariables false
set_option linter.unusedSimpArgs false
set_option linter.unusedSectionVars false
open Go Go.RowKit Go.Shelf Go.Maps

abbrev lawFn (lb cb : Nat) : Value := .func (.func 20) #[] #[.pointer (some ⟨lb, 0, none⟩), .pointer (some ⟨cb, 0, none⟩)]

/-- the blocks of the law: l's box, calls' box, calls' array, the table, its box, the function's box; where the table's blocks begin -/
structure Bl where
  lb : Nat
  cb : Nat
  K : Nat
  T : Nat
  tb : Nat
  rb : Nat
  base : Nat

/-- the state: x a row that is being made; S tells which are made, m how many; most: how often a row was asked, at most -/
structure RS (w : World) (q : Bl) (lo : Option Addr) (lc : Nat) (l : List Int) (L : List (Nat × Nat)) (x : Option Nat) (S : Nat → Bool) (m : Int) (most : Int) (W : World) : Prop where
  lbox : W.heap[q.lb]? = some (.cells #[.slice lo l.length lc] 22 (0, 0))
  cbox : W.heap[q.cb]? = some (.cells #[.slice (some ⟨q.K, 0, none⟩) l.length l.length] 24 (0, 0))
  arr : ∃ A : Array Value, W.heap[q.K]? = some (.cells A 3 (0, 0)) ∧ A.size = l.length ∧ ∀ j, j < l.length → A[j]? = some (.int .i64 (if S j then 1 else 0))
  T : ∃ ao cap, W.heap[q.T]? = some (.cells #[.slice ao L.length cap, .int .i64 m] 62 (0, 0)) ∧ W.ownsRow q.base 26 1 (.slice ao L.length cap) L.length (L.map fun p => .pointer (some ⟨p.1, 0, none⟩))
  t : W.heap[q.tb]? = some (.cells #[.pointer (some ⟨q.T, 0, none⟩)] 48 (0, 0))
  r : W.heap[q.rb]? = some (.cells #[lawFn q.lb q.cb] 56 (0, 0))
  box : ∀ (j : Nat) (p : Nat × Nat), L[j]? = some p → Bx W p.2 j
  cell : ∀ (j : Nat) (p : Nat × Nat), L[j]? = some p → x ≠ some j → (S j = false ∧ Cl W p.1 0 0 0 0 (rowFn q.tb q.rb p.2) 0) ∨ (S j = true ∧ ∃ a, 0 ≤ a ∧ a ≤ most ∧ Cl W p.1 0 1 1 a .nilFunc (l.getD j 0))
  ord : L.Pairwise (fun p p' => p.1 < p'.1)
  B : Below w.heap.size w W
  low : w.heap.size ≤ q.K ∧ w.heap.size ≤ q.T ∧ q.K < q.base ∧ (∀ p ∈ L, w.heap.size ≤ p.1 ∧ q.base ≤ p.2) ∧ L.length = l.length

theorem RS.ne {w : World} {q : Bl} {lo : Option Addr} {lc : Nat} {l : List Int} {L : List (Nat × Nat)} {x : Option Nat} {S : Nat → Bool} {m most : Int} {W : World} (h : RS w q lo lc l L x S m most W) {i j : Nat} {p p' : Nat × Nat} (hi : L[i]? = some p) (hj : L[j]? = some p') (hne : i ≠ j) : p.1 ≠ p'.1 := by
  obtain ⟨hi1, rfl⟩ := List.getElem?_eq_some_iff.1 hi
  obtain ⟨hj1, rfl⟩ := List.getElem?_eq_some_iff.1 hj
  have := List.pairwise_iff_getElem.1 h.ord
  rcases Nat.lt_or_gt_of_ne hne with hl | hl
  · have := this i j hi1 hj1 hl; omega
  · have := this j i hj1 hi1 hl; omega

/-- a block of type E is written, of which nothing is said -/
theorem RS.other {w : World} {q : Bl} {lo : Option Addr} {lc : Nat} {l : List Int} {L : List (Nat × Nat)} {x : Option Nat} {S : Nat → Bool} {m most : Int} {W W' : World} {e : TypeId} (h : RS w q lo lc l L x S m most W) (K : Keeps W W' e) (hB : Below w.heap.size w W') (hown : ∀ ao n cap xs, W.ownsRow q.base 26 1 (.slice ao n cap) n xs → W'.ownsRow q.base 26 1 (.slice ao n cap) n xs)
    (h1 : 22 ≠ e) (h2 : 24 ≠ e) (h3 : 3 ≠ e) (h4 : 62 ≠ e) (h5 : 48 ≠ e) (h6 : 56 ≠ e) (h7 : 47 ≠ e) : RS w q lo lc l L x S m most W' := by
  obtain ⟨A, a1, a2, a3⟩ := h.arr
  obtain ⟨ao, cap, t1, t2⟩ := h.T
  exact ⟨K _ _ _ h1 h.lbox, K _ _ _ h2 h.cbox, ⟨A, K _ _ _ h3 a1, a2, a3⟩, ⟨ao, cap, K _ _ _ h4 t1, hown _ _ _ _ t2⟩, K _ _ _ h5 h.t, K _ _ _ h6 h.r, fun j p hj => K _ _ _ h3 (h.box j p hj),
    fun j p hj hx => (h.cell j p hj hx).imp (fun ⟨a, c⟩ => ⟨a, K _ _ _ h7 c⟩) (fun ⟨a, y, b, c, d⟩ => ⟨a, y, b, c, K _ _ _ h7 d⟩), h.ord, hB, h.low⟩
theorem own_of {w w' : World} {b : Nat} {T : TypeId} {base : Nat} (hg : w.grownBy w' (some b)) (hb : elem? w b ≠ some 26) (ao : Option Addr) (n cap : Nat) (xs : List Value) (h : w.ownsRow base 26 1 (.slice ao n cap) n xs) : w'.ownsRow base 26 1 (.slice ao n cap) n xs := by
  refine h.kept hg ?_
  cases hv : (Value.slice ao n cap).ownBlock with
  | none => exact .inl rfl
  | some g => exact .inr fun e => hb (by cases e; exact own_elem h _ hv)
theorem RS.below {w : World} {q : Bl} {lo : Option Addr} {lc : Nat} {l : List Int} {L : List (Nat × Nat)} {x : Option Nat} {S : Nat → Bool} {m most : Int} {W W' : World} (h : RS w q lo lc l L x S m most W) (hB : Below W.heap.size W W') : RS w q lo lc l L x S m most W' :=
  h.other (e := 1000000) (keeps_below hB _) (below_on h.B hB (Nat.le_refl _)) (fun _ _ _ _ ho => own_below ho hB) (by decide) (by decide) (by decide) (by decide) (by decide) (by decide) (by decide)
/-- a row's cell is written -/
theorem RS.open {w : World} {q : Bl} {lo : Option Addr} {lc : Nat} {l : List Int} {L : List (Nat × Nat)} {x : Option Nat} {S : Nat → Bool} {m most : Int} {W W' : World} {i : Nat} {p : Nat × Nat} (h : RS w q lo lc l L x S m most W) (hx : x = none ∨ x = some i) (hel : elem? W p.1 = some 47) (hi : L[i]? = some p) (hg : W.grownBy W' (some p.1)) : RS w q lo lc l L (some i) S m most W' := by
  have K := keeps_grown hg hel
  obtain ⟨A, a1, a2, a3⟩ := h.arr
  obtain ⟨ao, cap, t1, t2⟩ := h.T
  have kc : ∀ j p', L[j]? = some p' → j ≠ i → ∀ {cs : Array Value} {E : TypeId}, W.heap[p'.1]? = some (.cells cs E (0, 0)) → W'.heap[p'.1]? = some (.cells cs E (0, 0)) := fun j p' hj hne cs E hb => (hg.block p'.1 (Array.getElem?_eq_some_iff.1 hb).1 (by simpa using h.ne hj hi hne)).trans hb
  exact ⟨K _ _ _ (by decide) h.lbox, K _ _ _ (by decide) h.cbox, ⟨A, K _ _ _ (by decide) a1, a2, a3⟩, ⟨ao, cap, K _ _ _ (by decide) t1, own_of (T := 0) hg (by rw [hel]; decide) _ _ _ _ t2⟩, K _ _ _ (by decide) h.t, K _ _ _ (by decide) h.r, fun j p hj => K _ _ _ (by decide) (h.box j p hj),
    fun j p' hj hx' => (h.cell j p' hj (by rcases hx with rfl | rfl <;> first | exact hx' | simp)).imp (fun ⟨a, c⟩ => ⟨a, kc j p' hj (fun e => hx' (by rw [e])) c⟩) (fun ⟨a, y, b, c, d⟩ => ⟨a, y, b, c, kc j p' hj (fun e => hx' (by rw [e])) d⟩), h.ord, below_grown h.B hg (h.low.2.2.2.1 p (List.mem_of_getElem? hi)).1 h.B.size, h.low⟩
theorem RS.shut {w : World} {q : Bl} {lo : Option Addr} {lc : Nat} {l : List Int} {L : List (Nat × Nat)} {S : Nat → Bool} {m most most' : Int} {W : World} {i : Nat} {p : Nat × Nat} {a : Int} (h : RS w q lo lc l L (some i) S m most W) (hi : L[i]? = some p) (hS : S i = true) (h0 : 0 ≤ a) (h1 : a ≤ most') (hm : most ≤ most') (hc : Cl W p.1 0 1 1 a .nilFunc (l.getD i 0)) : RS w q lo lc l L none S m most' W := by
  refine ⟨h.lbox, h.cbox, h.arr, h.T, h.t, h.r, h.box, fun j p' hj _ => ?_, h.ord, h.B, h.low⟩
  by_cases e : i = j
  · subst e
    rw [hi] at hj
    cases hj
    exact .inr ⟨hS, a, h0, h1, hc⟩
  · exact (h.cell j p' hj (by simpa using e)).imp id (fun ⟨a, y, b, c, d⟩ => ⟨a, y, b, by omega, d⟩)
/-- one more is made -/
theorem RS.made {w : World} {q : Bl} {lo : Option Addr} {lc : Nat} {l : List Int} {L : List (Nat × Nat)} {x : Option Nat} {S : Nat → Bool} {m most : Int} {W : World} (h : RS w q lo lc l L x S m most W) : RS w q lo lc l L x S (m + 1) most (W.setCell ⟨q.T, 1, none⟩ (.int .i64 (m + 1))) := by
  obtain ⟨A, a1, a2, a3⟩ := h.arr
  obtain ⟨ao, cap, t1, t2⟩ := h.T
  have K := keeps_set W q.T 1 (.int .i64 (m + 1)) t1
  have hg := grown_set W q.T 1 (.int .i64 (m + 1))
  have t3 := block_set t1 1 (.int .i64 (m + 1))
  exact ⟨K _ _ _ (by decide) h.lbox, K _ _ _ (by decide) h.cbox, ⟨A, K _ _ _ (by decide) a1, a2, a3⟩, ⟨ao, cap, by simpa using t3, own_of (T := 0) hg (by rw [elem?_of t1]; decide) _ _ _ _ t2⟩, K _ _ _ (by decide) h.t, K _ _ _ (by decide) h.r, fun j p hj => K _ _ _ (by decide) (h.box j p hj),
    fun j p' hj hx => (h.cell j p' hj hx).imp (fun ⟨a, c⟩ => ⟨a, K _ _ _ (by decide) c⟩) (fun ⟨a, y, b, c, d⟩ => ⟨a, y, b, c, K _ _ _ (by decide) d⟩), h.ord, below_grown h.B hg h.low.2.1 h.B.size, h.low⟩
/-- calls[i]++ of a row that is being made -/
theorem RS.call {w : World} {q : Bl} {lo : Option Addr} {lc : Nat} {l : List Int} {L : List (Nat × Nat)} {S : Nat → Bool} {m most : Int} {W : World} {i : Nat} (h : RS w q lo lc l L (some i) S m most W) (hi : i < l.length) : RS w q lo lc l L (some i) (fun j => if j = i then true else S j) m most (W.setCell ⟨q.K, i, none⟩ (.int .i64 1)) := by
  obtain ⟨A, a1, a2, a3⟩ := h.arr
  obtain ⟨ao, cap, t1, t2⟩ := h.T
  have K := keeps_set W q.K i (.int .i64 1) a1
  have hg := grown_set W q.K i (.int .i64 1)
  have t3 := block_set a1 i (.int .i64 1)
  refine ⟨K _ _ _ (by decide) h.lbox, K _ _ _ (by decide) h.cbox, ⟨_, t3, by simpa using a2, fun j hj => ?_⟩, ⟨ao, cap, K _ _ _ (by decide) t1, own_of (T := 0) hg (by rw [elem?_of a1]; decide) _ _ _ _ t2⟩, K _ _ _ (by decide) h.t, K _ _ _ (by decide) h.r, fun j p hj => ?_,
    fun j p' hj hx => ?_, h.ord, below_grown h.B hg h.low.1 h.B.size, h.low⟩
  · rw [Array.getElem?_setIfInBounds]
    by_cases e : i = j
    · subst e; simp [a2, hi]
    · have e' : ¬ j = i := fun h => e h.symm
      simp only [if_neg e, if_neg e']
      exact a3 j hj
  · have hb := h.box j p hj
    have := h.low.2.2.1
    have := (h.low.2.2.2.1 p (List.mem_of_getElem? hj)).2
    exact (hg.block p.2 (Array.getElem?_eq_some_iff.1 hb).1 (by simp; omega)).trans hb
  · have e' : ¬ j = i := fun e => hx (by rw [e])
    simp only [if_neg e']
    exact (h.cell j p' hj hx).imp (fun ⟨a, c⟩ => ⟨a, K _ _ _ (by decide) c⟩) (fun ⟨a, y, b, c, d⟩ => ⟨a, y, b, c, K _ _ _ (by decide) d⟩)

/-- all maps are kept -/
def MK (w w' : World) : Prop := ∀ (b : Nat) (es : Array MapEntry) (c : Nat), w.heap[b]? = some (.map es c) → w'.heap[b]? = some (.map es c)
theorem mk_grown {w w' : World} {g : Nat} {E : TypeId} (hg : w.grownBy w' (some g)) (he : elem? w g = some E) : MK w w' := fun b es c hb => (hg.block b (Array.getElem?_eq_some_iff.1 hb).1 (fun e => by cases e; unfold elem? at he; rw [hb] at he; cases he)).trans hb
theorem MK.trans {w w' w'' : World} (h : MK w w') (h2 : MK w' w'') : MK w w'' := fun b es c hb => h2 b es c (h b es c hb)
/-- the law's function, of a row that is being made -/
theorem lawfn_at {w : World} {q : Bl} {lo : Option Addr} {lc : Nat} {l : List Int} {L : List (Nat × Nat)} {S : Nat → Bool} {m most : Int} {W : World} {i : Nat} (h : RS w q lo lc l L (some i) S m most W) (hl : Sl w 1 lo l.length lc (l.map (Value.int .i64))) (hi : i < l.length) (hS : S i = false) (hn : l.length ≤ 300) :
    Calls Try.prog 20 #[.int .i64 i, .pointer (some ⟨q.lb, 0, none⟩), .pointer (some ⟨q.cb, 0, none⟩)] W fun e w' => e = .returned (.int .i64 (l.getD i 0)) ∧ w' = W.setCell ⟨q.K, i, none⟩ (.int .i64 1) := by
  obtain ⟨A, a1, a2, a3⟩ := h.arr
  obtain ⟨b, off, rfl, hc⟩ := (Sl.below hl h.B).cell i (.int .i64 (l.getD i 0)) (by simp [List.getD_eq_getElem?_getD, List.getElem?_eq_getElem hi])
  have c0 := block_cell h.lbox 0
  have c1 := block_cell h.cbox 0
  have c2 := block_cell a1 i
  rw [a3 i hi, hS] at c2
  have f2 := block_free a1 i
  simp at c0 c1 c2
  have hne1 : q.lb ≠ q.K := fun e => by have := h.lbox; rw [e, a1] at this; simp at this
  have hg := grown_set W q.K i (.int .i64 1)
  have d0 := block_cell ((hg.block q.lb (Array.getElem?_eq_some_iff.1 h.lbox).1 (by simpa using hne1)).trans h.lbox) 0
  simp at d0
  have hbK : b ≠ q.K := fun e => by
    have h1 := cell?_lt hc
    have := h.low.1
    have h2 : b < w.heap.size := by
      obtain ⟨b', off', e', hc'⟩ := hl.cell i (.int .i64 (l.getD i 0)) (by simp [List.getD_eq_getElem?_getD, List.getElem?_eq_getElem hi])
      simp only [Option.some.injEq, Addr.mk.injEq] at e'
      rw [e'.1]; exact cell?_lt hc'
    omega
  have d1 := cell_grown hc hg hbK
  obtain ⟨v, hv⟩ : ∃ v, v = l.getD i 0 := ⟨_, rfl⟩
  rw [← hv] at hc d1 ⊢
  have Ha := Lib.hid a2
  have Hv := Lib.hid hv
  have HS := Lib.hid hS
  have Ha3 := Lib.hid a3
  clear a2 hv hS a3
  go_enter Try.func20, Try.ntmps20
  go_wp2
  go_ret
  exact ⟨rfl, rfl⟩
theorem rows1_fn {w : World} {q : Bl} {lo : Option Addr} {lc : Nat} {l : List Int} {L : List (Nat × Nat)} {S : Nat → Bool} {m most : Int} {W : World} {i : Nat} {p : Nat × Nat} (h : RS w q lo lc l L (some i) S m most W) (hl : Sl w 1 lo l.length lc (l.map (Value.int .i64))) (hi : i < l.length) (hp : L[i]? = some p) (hS : S i = false) (hn : l.length ≤ 300) (h0 : 0 ≤ m) (h1 : m ≤ 1000) :
    Calls Try.prog 28 #[.pointer (some ⟨q.tb, 0, none⟩), .pointer (some ⟨q.rb, 0, none⟩), .pointer (some ⟨p.2, 0, none⟩)] W fun e w' => e = .returned (.int .i64 (l.getD i 0)) ∧ RS w q lo lc l L (some i) (fun j => if j = i then true else S j) (m + 1) most w' ∧ (∀ c, Cl W p.1 1 0 0 c (rowFn q.tb q.rb p.2) 0 → Cl w' p.1 1 0 0 c (rowFn q.tb q.rb p.2) 0) ∧ MK W w' := by
  obtain ⟨ao, cap, t1, t2⟩ := h.T
  have c0 := block_cell h.t 0
  have c1 := block_cell t1 1
  have f1 := block_free t1 1
  simp at c0 c1
  have h2 := h.made
  have d0 := block_cell h2.r 0
  have d1 := block_cell (h2.box i p hp) 0
  simp at d0 d1
  have hq := eql_fn 20 #[.pointer (some ⟨q.lb, 0, none⟩), .pointer (some ⟨q.cb, 0, none⟩)]
  have H0 := lawfn_at h2 hl hi hS hn
  obtain ⟨v, hv⟩ : ∃ v, v = l.getD i 0 := ⟨_, rfl⟩
  rw [← hv] at H0 ⊢
  have H := Lib.hid H0
  have HS := Lib.hid hS
  clear hv H0
  have Hp := Lib.hid hp
  clear hS hp t2
  go_enter Try.func28, Try.ntmps28
  go_wp2_with (first
    | (go_at_call 22; refine (iadd ⟨q.T, 1, none⟩ m _ c1 f1 h0 (by omega)).mono ?_; rintro e w' ⟨rfl, rfl⟩)
    | (go_at_call 20; refine H.out.mono ?_; rintro e w' ⟨rfl, hw'⟩))
  go_ret
  subst hw'
  obtain ⟨A, a1, a2, a3⟩ := h2.arr
  refine ⟨rfl, h2.call hi, fun c hc => ?_, (mk_grown (grown_set _ _ _ _) (elem?_of t1)).trans (mk_grown (grown_set _ _ _ _) (elem?_of a1))⟩
  exact keeps_set _ q.K i _ a1 _ _ _ (by decide) (keeps_set W q.T 1 _ t1 _ _ _ (by decide) hc)

/-- At, of a row that is not made -/
theorem at_new {w : World} {q : Bl} {lo : Option Addr} {lc : Nat} {l : List Int} {L : List (Nat × Nat)} {S : Nat → Bool} {m most : Int} {W : World} {i : Nat} (h : RS w q lo lc l L none S m most W) (hl : Sl w 1 lo l.length lc (l.map (Value.int .i64))) (hi : i < l.length) (hS : S i = false) (hn : l.length ≤ 300) (h0 : 0 ≤ m) (h1 : m ≤ 1000) (hm : 0 ≤ most) :
    Calls Try.prog 12 #[.pointer (some ⟨q.T, 0, none⟩), .int .i64 i] W fun e w' => e = .returned (.tuple #[.int .i64 (l.getD i 0), .bool true]) ∧ RS w q lo lc l L none (fun j => if j = i then true else S j) (m + 1) (most + 1) w' ∧ MK W w' := by
  have hL := h.low.2.2.2.2
  obtain ⟨p, hp⟩ : ∃ p, L[i]? = some p := ⟨L[i]'(by omega), List.getElem?_eq_getElem (by omega)⟩
  have hcl : Cl W p.1 0 0 0 0 (rowFn q.tb q.rb p.2) 0 := by
    rcases h.cell i p hp (by simp) with ⟨_, c⟩ | ⟨c, _⟩
    · exact c
    · rw [hS] at c; cases c
  refine tat_in W q.T L q.base m (l.getD i 0) i p _ h.T (by omega) hp ?_
  refine (get_fn 28 _ (enters_of Try.func28 (by kernel_rfl) rfl) W p.1 0 (l.getD i 0) (fun w1 => RS w q lo lc l L (some i) (fun j => if j = i then true else S j) (m + 1) most w1 ∧ elem? w1 p.1 = some 47 ∧ MK W w1) hcl (by omega) (by omega) ?_).mono ?_
  · intro W1 hg hW1
    refine (rows1_fn (h.open (.inl rfl) (elem?_of hcl) hp hg) hl hi hp hS hn h0 h1).mono ?_
    rintro e w1 ⟨rfl, h2, h3, h4⟩
    exact ⟨rfl, h3 _ hW1, h2, elem?_of (h3 _ hW1), (mk_grown hg (elem?_of hcl)).trans h4⟩
  · rintro e w' ⟨rfl, hc', w1, ⟨h2, h3, h4⟩, hg⟩
    exact ⟨rfl, (h2.open (.inr rfl) h3 hp hg).shut hp (by simp) (by omega) (by omega) (by omega) hc', h4.trans (mk_grown hg h3)⟩
/-- At, of a row that is made -/
theorem at_old {w : World} {q : Bl} {lo : Option Addr} {lc : Nat} {l : List Int} {L : List (Nat × Nat)} {S : Nat → Bool} {m most : Int} {W : World} {i : Nat} (h : RS w q lo lc l L none S m most W) (hi : i < l.length) (hS : S i = true) (hn : l.length ≤ 300) (hm : 0 ≤ most) (hm1 : most ≤ 1000) :
    Calls Try.prog 12 #[.pointer (some ⟨q.T, 0, none⟩), .int .i64 i] W fun e w' => e = .returned (.tuple #[.int .i64 (l.getD i 0), .bool true]) ∧ RS w q lo lc l L none S m (most + 1) w' ∧ MK W w' := by
  have hL := h.low.2.2.2.2
  obtain ⟨p, hp⟩ : ∃ p, L[i]? = some p := ⟨L[i]'(by omega), List.getElem?_eq_getElem (by omega)⟩
  obtain ⟨a, a0, a1, hcl⟩ : ∃ a, 0 ≤ a ∧ a ≤ most ∧ Cl W p.1 0 1 1 a .nilFunc (l.getD i 0) := by
    rcases h.cell i p hp (by simp) with ⟨c, _⟩ | ⟨_, c⟩
    · rw [hS] at c; cases c
    · exact c
  refine tat_in W q.T L q.base m (l.getD i 0) i p _ h.T (by omega) hp ?_
  refine (get_again W p.1 0 1 a (l.getD i 0) .nilFunc hcl a0 (by omega)).mono ?_
  rintro e w' ⟨rfl, hc', hg⟩
  exact ⟨rfl, (h.open (.inl rfl) (elem?_of hcl) hp hg).shut hp hS (by omega) (by omega) (by omega) hc', mk_grown hg (elem?_of hcl)⟩
end Go.Proofs.Ytljlgphieefdmaa
