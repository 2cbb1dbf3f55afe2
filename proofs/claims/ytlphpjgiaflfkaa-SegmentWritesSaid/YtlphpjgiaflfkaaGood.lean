/- A range over a function of which the values lie in memory: what is handed over is known to be good where it is handed over. No statement of the seat is proved here. -/
import Derived.Test.YtlphpjgiaflfkaaAux3
import Derived.RangeFuncNested
import Derived.RangeFuncBound
import Derived.RangeFuncCalls
import Derived.RangeFuncLeaves
import Derived.Shelf.Abstract
import Derived.Shelf.RegionOpen
import Derived.OwnWalkIn
import Derived.TacticsInMore
import Derived.LoopNIn
import Derived.LoopIn
namespace Go.Proofs.Ytlphpjgiaflfkaa
set_option linter.unusedVariables false
set_option linter.unusedSimpArgs false
set_option linter.unusedSectionVars false
open Go Go.RowKit Go.Shelf

/-- how a round's body may be left -/
def Leaves (R0 : World → Prop) (Rx : Code → World → Prop) : Exit → Act → World → Prop
  | .normal, _, W => R0 W
  | .ret, _, W => Rx .ret W
  | .exit i, _, W => Rx (.exit i) W
  | .goto t, _, W => Rx (.goto t) W
  | .panic _, _, _ => False
  | .outgrown, _, _ => False
/-- one round, from the walk of its body -/
theorem yield_round {F : Fence} {n l : Nat} {r : Loop} {W : World} {args : Array Value} {a : Act} {R : Ending → World → Prop} (hl : W.heap[l]? = some (.loop r)) (hst : r.state = .ready) (hF : F.fn r.fn) (hsz : args.size = r.params.size)
    (hassign : ∀ K : Act → World → Prop, K a W → r.assign.wpIn (F.inRound l) n Try.prog (Exit.then K (fun _ _ _ => False)) { tmps := (r.params.zip args).foldl (fun t (p, v) => t.setIfInBounds p v) r.tmps, defers := [] } W)
    (hbody : r.body.wpIn (F.inRound l) n Try.prog (Leaves
        (fun W3 => W3.heap[l]? = some (.loop { r with state := .busy }) ∧ R (.returned (.bool true)) (W3.putObj l (.loop { r with state := .ready, pending := none })))
        (fun c W3 => W3.heap[l]? = some (.loop { r with state := .busy }) ∧ R (.returned (.bool false)) (W3.putObj l (.loop { r with state := .done, pending := some c })))) a (W.putObj l (.loop { r with state := .busy }))) :
    YieldAt F n Try.prog l args W R := by
  refine ⟨r.fn, _, r.assign, r.body, run_yield hl hsz, roundIn_of_wpIn hF (hassign _ ⟨_, run_beginRound hl hst, wpIn_mono hbody ?_⟩)⟩
  intro x a3 W3 hx
  cases x with
  | normal => exact ⟨_, _, run_endRound none hx.1, hx.2⟩
  | ret => exact ⟨_, _, run_endRound (some .ret) hx.1, hx.2⟩
  | exit i => exact ⟨_, _, run_endRound (some (.exit i)) hx.1, hx.2⟩
  | goto t => exact ⟨_, _, run_endRound (some (.goto t)) hx.1, hx.2⟩
  | panic c => exact hx.elim
  | outgrown => exact hx.elim
theorem wpIn_code {F : Fence} {n : Nat} {c c' : Code} {Q : Exit → Act → World → Prop} {a : Act} {W : World} (e : c = c') (h : c'.wpIn F n Try.prog Q a W) : c.wpIn F n Try.prog Q a W := by subst e; exact h
/-- the iterator's contract: each value is good where it is handed over -/
def SeqGood {α : Type} (n g : Nat) (lb : Array Value) (encs : α → Array Value) (Gd : List α → α → World → Prop) (n0 : Nat) (S Sp : List α → Prop) (N : Nat) (w : World) : Prop :=
  ∀ (l : Nat) (J Jx : List α → World → Prop) (W : World), Below w.heap.size w W → (∀ pre A B, J pre A → Below A.heap.size A B → J pre B) → (∀ pre A B, Jx pre A → Below A.heap.size A B → Jx pre B) →
    (∀ pre x W1, J pre W1 → pre.length < N → Gd pre x W1 → YieldAt Fence.wide (n - 1) Try.prog l (encs x) W1 fun e W' =>
      (e = .returned (.bool true) ∧ J (pre ++ [x]) W' ∧ Below n0 W1 W') ∨ (e = .returned (.bool false) ∧ Jx (pre ++ [x]) W')) → J [] W →
    CallsIn Fence.wide n Try.prog g (#[.func (.yield l) #[] #[]] ++ lb) W fun e W' => (∃ v, e = .returned v) ∧ ((∃ xs, S xs ∧ J xs W') ∨ (∃ pre, Sp pre ∧ Jx pre W'))
theorem below_put {n0 : Nat} {W : World} {l : Nat} {o o' : Obj} (hl : n0 ≤ l) (h : W.heap[l]? = some o) : Below n0 W (W.putObj l o') :=
  (Below.refl n0 W).grown (grownBy_putObj' W l o') (by have := (Array.getElem?_eq_some_iff.1 h).1; omega) (fun k e => by cases e; exact hl)
set_option maxHeartbeats 1000000 in
theorem wpIn_range_good {α : Type} {n : Nat} {g : Operand} {ps : Array Tmp} {assign body : Code} {Q : Exit → Act → World → Prop} {a : Act} {w : World} (h1 : 1 ≤ n) {gf : Nat} {lb : Array Value} (hg : a.eval g = .func (.func gf) #[] lb) (eg : ∀ args w, (callFunc gf args).run Try.prog w = .ok (.enter gf args) w)
    {encs : α → Array Value} {Gd : List α → α → World → Prop} {n0 N : Nat} {S Sp : List α → Prop} (hseq : SeqGood (n - 1) gf lb encs Gd n0 S Sp N w) (hn0 : n0 ≤ w.heap.size) (hps : ∀ x, (encs x).size = ps.size)
    (hGd : ∀ pre x W l o o', Gd pre x W → W.heap[l]? = some (.loop o) → Gd pre x (W.putObj l (.loop o')))
    (I : List α → World → Prop) (Ix : Code → List α → World → Prop) (hI : OwnFrom w.heap.size I) (hIx : ∀ c, OwnFrom w.heap.size (Ix c)) (h0 : I [] w) (a1 : α → Act)
    (hassign : ∀ (l : Nat) (x : α) (W : World) (K : Act → World → Prop), K (a1 x) W → assign.wpIn (Fence.wide.inRound l) (n - 1 - 1) Try.prog (Exit.then K (fun _ _ _ => False)) { tmps := (ps.zip (encs x)).foldl (fun t (p, v) => t.setIfInBounds p v) a.tmps, defers := [] } W)
    (hbody : ∀ (l : Nat) (pre : List α) (x : α) (W : World), w.heap.size ≤ l → (∃ r, W.heap[l]? = some (.loop r)) → I pre W → pre.length < N → Gd pre x W →
      body.wpIn (Fence.wide.inRound l) (n - 1 - 1) Try.prog (Leaves (fun W' => KeepsFrom w.heap.size W W' ∧ Below n0 W W' ∧ I (pre ++ [x]) W') (fun c W' => KeepsFrom w.heap.size W W' ∧ Ix c (pre ++ [x]) W')) (a1 x) W)
    (hdone : ∀ (D : Nat) (xs : List α) (W : World), w.heap.size ≤ D → S xs → I xs W → W.heap[D]? = some (.deferred (some [])) → Q .normal { a with defers := { target := .collected D, args := #[] } :: a.defers } W)
    (hstop : ∀ (D : Nat) (c : Code) (pre : List α) (W : World), w.heap.size ≤ D → Sp pre → Ix c pre W → W.heap[D]? = some (.deferred (some [])) → c.wpIn Fence.wide n Try.prog Q { a with defers := { target := .collected D, args := #[] } :: a.defers } W) :
    (Code.rangeFunc g ps assign body).wpIn Fence.wide n Try.prog Q a w := by
  refine wpIn_rangeFunc fun fn hfn => ?_
  obtain ⟨r0, hr0⟩ : ∃ r0 : Loop, r0 = { state := .ready, pending := none, fn, tmps := a.tmps, params := ps, assign, body, defers := w.heap.size } := ⟨_, rfl⟩
  obtain ⟨W1, hW1⟩ : ∃ W1, W1 = (w.alloc (.deferred (some []))).alloc (.loop r0) := ⟨_, rfl⟩
  obtain ⟨L, hLd⟩ : ∃ L, L = w.heap.size + 1 := ⟨_, rfl⟩
  have hD1 : W1.heap[w.heap.size]? = some (.deferred (some [])) := by rw [hW1]; exact (Below.heap_alloc _ _ _ (by simp)).trans (World.alloc_heap_new w _)
  have hL1 : W1.heap[L]? = some (.loop r0) := by
    have h := World.alloc_heap_new (w.alloc (.deferred (some []))) (.loop r0)
    rw [World.size_alloc] at h
    rw [hW1, hLd]; exact h
  have hB1 : Below w.heap.size w W1 := by rw [hW1]; exact ((Below.refl _ w).alloc (Nat.le_refl _) _).alloc (by simp) _
  have hI1 : I [] W1 := by rw [hW1]; exact hI.alloc _ (hI.alloc _ h0)
  have hlow : w.heap.size ≤ L := by omega
  have hne : w.heap.size ≠ L := by omega
  -- what is kept between two rounds; behind the round that left
  have hown : ∀ {I' : List α → World → Prop} (r : Loop), OwnFrom w.heap.size I' → ∀ pre A B, (I' pre A ∧ A.heap[L]? = some (.loop r) ∧ A.heap[w.heap.size]? = some (.deferred (some []))) → Below A.heap.size A B → (I' pre B ∧ B.heap[L]? = some (.loop r) ∧ B.heap[w.heap.size]? = some (.deferred (some []))) := by
    rintro I' r hI' pre A B ⟨h2, h3, h4⟩ hAB
    exact ⟨hI' pre A B none h2 (grown_below hAB) (fun r e => by cases e), (hAB.block L (Array.getElem?_eq_some_iff.1 h3).1).trans h3, (hAB.block _ (Array.getElem?_eq_some_iff.1 h4).1).trans h4⟩
  have hcall := hseq L
    (fun pre W => I pre W ∧ W.heap[L]? = some (.loop r0) ∧ W.heap[w.heap.size]? = some (.deferred (some [])))
    (fun pre W => ∃ c, Ix c pre W ∧ W.heap[L]? = some (.loop { r0 with state := .done, pending := some c }) ∧ W.heap[w.heap.size]? = some (.deferred (some [])))
    W1 hB1 (hown r0 hI) (fun pre A B hA hAB => by obtain ⟨c, hc⟩ := hA; exact ⟨c, hown _ (hIx c) pre A B hc hAB⟩) ?round ⟨hI1, hL1, hD1⟩
  case round =>
    rintro pre x W ⟨hi, hl, hd⟩ hlen hx
    have hlt := (Array.getElem?_eq_some_iff.1 hl).1
    have hbusy : (W.putObj L (.loop { r0 with state := .busy })).heap[L]? = some (.loop { r0 with state := .busy }) := World.putObj_heap_same hlt
    have hd2 : (W.putObj L (.loop { r0 with state := .busy })).heap[w.heap.size]? = some (.deferred (some [])) := (World.putObj_heap_other hne).trans hd
    have hend : ∀ (W3 : World) (r : Loop), KeepsFrom w.heap.size (W.putObj L (.loop { r0 with state := .busy })) W3 → W3.heap[L]? = some (.loop { r0 with state := .busy }) ∧ (W3.putObj L (.loop r)).heap[L]? = some (.loop r) ∧ (W3.putObj L (.loop r)).heap[w.heap.size]? = some (.deferred (some [])) := by
      intro W3 r hk
      have e1 := hk.same L _ hlow hbusy rfl
      exact ⟨e1, World.putObj_heap_same (Array.getElem?_eq_some_iff.1 e1).1, (World.putObj_heap_other hne).trans (hk.same _ _ (Nat.le_refl _) hd2 rfl)⟩
    refine yield_round (F := Fence.wide) (r := r0) (a := a1 x) hl (by rw [hr0]) (by rw [hr0]; exact hfn) (by rw [hr0]; exact hps x) ?_ ?_
    · intro K hK
      rw [hr0]
      exact hassign L x W K hK
    · have hb := hbody L pre x _ hlow ⟨_, hbusy⟩ (hI.putObj _ hi hlow hl rfl) hlen (hGd pre x W L r0 _ hx hl)
      refine wpIn_mono (wpIn_code (show r0.body = body by rw [hr0]) hb) ?_
      intro e a3 W3 hp
      have hjump : ∀ c, KeepsFrom w.heap.size (W.putObj L (.loop { r0 with state := .busy })) W3 ∧ Ix c (pre ++ [x]) W3 → (W3.heap[L]? = some (.loop { r0 with state := .busy }) ∧ ((Ending.returned (.bool false) = .returned (.bool true) ∧ (I (pre ++ [x]) (W3.putObj L (.loop { r0 with state := .done, pending := some c })) ∧ (W3.putObj L (.loop { r0 with state := .done, pending := some c })).heap[L]? = some (.loop r0) ∧ (W3.putObj L (.loop { r0 with state := .done, pending := some c })).heap[w.heap.size]? = some (.deferred (some []))) ∧ Below n0 W (W3.putObj L (.loop { r0 with state := .done, pending := some c }))) ∨ (Ending.returned (.bool false) = .returned (.bool false) ∧ ∃ c', Ix c' (pre ++ [x]) (W3.putObj L (.loop { r0 with state := .done, pending := some c })) ∧ (W3.putObj L (.loop { r0 with state := .done, pending := some c })).heap[L]? = some (.loop { r0 with state := .done, pending := some c' }) ∧ (W3.putObj L (.loop { r0 with state := .done, pending := some c })).heap[w.heap.size]? = some (.deferred (some []))))) := by
        rintro c ⟨hk, hi3⟩
        obtain ⟨e1, e2, e3⟩ := hend W3 { r0 with state := .done, pending := some c } hk
        exact ⟨e1, .inr ⟨rfl, c, (hIx c).putObj _ hi3 hlow e1 rfl, e2, e3⟩⟩
      cases e with
      | normal =>
        obtain ⟨hk, hbel, hi3⟩ := hp
        obtain ⟨e1, e2, e3⟩ := hend W3 { r0 with state := .ready, pending := none } hk
        have er : ({ r0 with state := .ready, pending := none } : Loop) = r0 := by rw [hr0]
        refine ⟨e1, .inl ⟨rfl, ⟨hI.putObj _ hi3 hlow e1 rfl, by rw [e2, er], e3⟩, ?_⟩⟩
        exact ((below_put (Nat.le_trans hn0 hlow) hl).trans hbel).trans (below_put (Nat.le_trans hn0 hlow) e1)
      | ret => exact hjump .ret hp
      | exit i => exact hjump (.exit i) hp
      | goto t => exact hjump (.goto t) hp
      | panic c => exact hp.elim
      | outgrown => exact hp.elim
  have e1 : (Instr.enterLoop fn a.tmps ps assign body none).run Try.prog w = .ok (L, [{ target := .collected w.heap.size, args := #[] }]) W1 := by
    rw [hLd, hW1, hr0]; exact run_enterLoop_outer _ _ _ _ _
  have e2 : (resolve a.eval (rangeCall g L) 0).run Try.prog W1 = .ok { target := .fn (.func gf) lb, args := #[.func (.yield L) #[] #[]] } W1 := by
    simp only [resolve, hg]
    simp [go_sem]
  have e3 : (invoke (.fn (.func gf) lb) #[.func (.yield L) #[] #[]]).run Try.prog W1 = .ok (.enter gf (#[.func (.yield L) #[] #[]] ++ lb)) W1 := by
    simp [invoke, go_sem, eg]
  have e4 : CallsIn Fence.wide (n - 1) Try.prog gf (#[.func (.yield L) #[] #[]] ++ lb) W1 (rangePost Fence.wide n Try.prog L Q { a with defers := [{ target := .collected w.heap.size, args := #[] }] ++ a.defers }) := by
    refine hcall.mono ?_
    rintro e W2 ⟨⟨v, rfl⟩, (⟨xs, hS, hi, hl, hd⟩ | ⟨pre, hSp, c, hi, hl, hd⟩)⟩
    · have hE := run_endLoop (P := Try.prog) hl (by rw [hr0]; simp)
      rw [show r0.pending = none by rw [hr0]] at hE
      exact ⟨none, _, hE, hdone _ xs _ (Nat.le_refl _) hS (hI.putObj _ hi hlow hl rfl) ((World.putObj_heap_other hne).trans hd)⟩
    · have hE := run_endLoop (P := Try.prog) hl (by simp)
      exact ⟨some c, _, hE, hstop _ c pre _ (Nat.le_refl _) hSp ((hIx c).putObj _ hi hlow hl rfl) ((World.putObj_heap_other hne).trans hd)⟩
  exact ⟨L, _, W1, _, W1, gf, _, W1, e1, e2, fun _ _ => trivial, e3, fun _ => h1, e4⟩
end Go.Proofs.Ytlphpjgiaflfkaa
