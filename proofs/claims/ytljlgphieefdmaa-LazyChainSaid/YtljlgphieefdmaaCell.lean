/- Contracts of sync.Once, of the atomics, and of lazy.Cell at int64. No statement of the seat is proved here. -/
import Derived.Test.YtljlgphieefdmaaAux3
import Derived.WalkLawsBesides
import Derived.BigQuiet
import Derived.Deep.QuietTactic
import Derived.RegionTactic
import Derived.BigRegion
import Derived.Deep.RegionWith
import Derived.Deep.RegionLaw
import Derived.Deep.DeepCutAuto
import Derived.Defers
import Derived.Laws.Pointers
import Derived.Laws.LoneSync
import Derived.Laws.NewBlocks
import Derived.RegionCalls
import Derived.ChangeAlike
import Derived.RangeFuncCalls
import Derived.Laws.EntriesVeiled
namespace Go.Proofs.Ytljlgphieefdmaa
set_option linter.unusedVariables false
set_option linter.unusedSimpArgs false
set_option linter.unusedSectionVars false
open Go Go.RowKit

theorem disable (w : World) : (callFunc 40 #[]).run Try.prog w = .ok (.value (.tuple #[])) w := run_call_mark0 Try.func40 (by kernel_rfl) (by kernel_rfl) (by kernel_rfl) .disable (by kernel_rfl) w
theorem enable (w : World) : (callFunc 42 #[]).run Try.prog w = .ok (.value (.tuple #[])) w := run_call_mark0 Try.func42 (by kernel_rfl) (by kernel_rfl) (by kernel_rfl) .enable (by kernel_rfl) w
theorem acquire (a : Addr) (w : World) : (callFunc 43 #[.pointer (some a)]).run Try.prog w = .ok (.value (.tuple #[])) w := run_call_marked Try.func43 (by kernel_rfl) (by kernel_rfl) (by kernel_rfl) .acquire (by kernel_rfl) a w
theorem releaseMerge (a : Addr) (w : World) : (callFunc 45 #[.pointer (some a)]).run Try.prog w = .ok (.value (.tuple #[])) w := run_call_marked Try.func45 (by kernel_rfl) (by kernel_rfl) (by kernel_rfl) .releaseMerge (by kernel_rfl) a w

/-- (*atomic.Bool).Load -/
theorem bload (a : Addr) (x : Int) (w : World) (hc : w.cell? a = some (.int .u32 x)) :
    Calls Try.prog 25 #[.pointer (some a)] w fun e w' => e = .returned (.bool (x != 0)) ∧ w' = w := by
  have hl := run_call_load (P := Try.prog) Try.func32 (by kernel_rfl) (by kernel_rfl) (by kernel_rfl) .u32 (by kernel_rfl) hc
  go_enter Try.func25, Try.ntmps25
  go_wp2
  go_ret
  exact ⟨rfl, rfl⟩

/-- (*atomic.Bool).Store(true) -/
theorem bstore (a : Addr) (x : Value) (w : World) (hc : w.cell? a = some x) (hz : w.frozen? a = false) :
    Calls Try.prog 31 #[.pointer (some a), .bool true] w fun e w' => e = .returned (.tuple #[]) ∧ w' = w.drew.setCell a (.int .u32 1) := by
  have hc' : w.drew.cell? a = some x := by go_simp
  have hz' : w.drew.frozen? a = false := by go_simp
  have hst := run_call_store (P := Try.prog) Try.func36 (by kernel_rfl) (by kernel_rfl) (by kernel_rfl) (by kernel_rfl) (k := .u32) (y := 1) hc' hz'
  go_enter Try.func31, Try.ntmps31
  go_wp2
  go_region_calls
  all_goals (go_end0; exact ⟨rfl, rfl⟩)
theorem store_deferred (a : Addr) (x : Value) (u : FrameMode) (w : World) (hc : w.cell? a = some x) (hz : w.frozen? a = false) :
    CallsD Try.prog 31 #[.pointer (some a), .bool true] u w fun e u' w' => u' = u ∧ (e = .returned (.tuple #[]) ∧ w' = w.drew.setCell a (.int .u32 1)) := by
  have hc' : w.drew.cell? a = some x := by go_simp
  have hz' : w.drew.frozen? a = false := by go_simp
  have hst := run_call_store (P := Try.prog) Try.func36 (by kernel_rfl) (by kernel_rfl) (by kernel_rfl) (by kernel_rfl) (k := .u32) (y := 1) hc' hz'
  go_enter_d Try.func31, Try.ntmps31
  go_wp2
  go_region_calls
  all_goals (go_end0; exact ⟨rfl, rfl⟩)

/-- (*sync.Mutex).Unlock, deferred, the lock held, nobody waiting -/
theorem unlock_deferred (a : Addr) (u : FrameMode) (w : World) (hc : w.cell? a = some (.int .i32 1)) (hz : w.frozen? a = false) :
    CallsD Try.prog 35 #[.pointer (some a)] u w fun e u' w' => u' = u ∧ (e = .returned (.tuple #[]) ∧ w' = w.setCell a (.int .i32 0)) := by
  have hd := disable
  have he := enable
  have hr := releaseMerge
  have hadd := run_call_add (P := Try.prog) Try.func46 (by kernel_rfl) (by kernel_rfl) (by kernel_rfl) .i32 (by kernel_rfl) (y := -1) (s := 0) hc hz (by simp [go_sem]; rfl)
  have hcv := run_convert_to_unsafe (P := Try.prog) (src := 77) (dst := 81) Try.underlying77 Try.underlying81 (by kernel_rfl) hc
  go_enter_d Try.func35, Try.ntmps35
  go_wp2
  go_end0
  go_wp2
  go_end0
  exact ⟨rfl, rfl⟩

/-- (*sync.Mutex).Lock, the lock free -/
theorem lock_free (a : Addr) (w : World) (hc : w.cell? a = some (.int .i32 0)) (hz : w.frozen? a = false) :
    Calls Try.prog 34 #[.pointer (some a)] w fun e w' => e = .returned (.tuple #[]) ∧ w' = w.setCell a (.int .i32 1) := by
  have hd := disable
  have he := enable
  have ha := acquire
  have hcas := run_call_cas_hit (P := Try.prog) Try.func41 (by kernel_rfl) (by kernel_rfl) (by kernel_rfl) .i32 (by kernel_rfl) (y := 1) hc hz
  have hc' : (w.setCell a (.int .i32 1)).cell? a = some (.int .i32 1) := World.cell?_setCell_same w a _ hc
  have hcv := run_convert_to_unsafe (P := Try.prog) (src := 77) (dst := 81) Try.underlying77 Try.underlying81 (by kernel_rfl) hc'
  go_enter Try.func34, Try.ntmps34
  go_wp2
  first | go_end0 | (simp only [Exit.inBlock, Exit.then]; refine bodyPost_ret (results_none rfl _ _ _) rfl ?_) | refine bodyPost_ret (results_none rfl _ _ _) rfl ?_
  go_wp2
  go_end0
  exact ⟨rfl, rfl⟩

/-- (*atomic.Int64).Add(1), Load -/
theorem iadd (a : Addr) (x : Int) (w : World) (hc : w.cell? a = some (.int .i64 x)) (hz : w.frozen? a = false) (h0 : 0 ≤ x) (h1 : x < 9223372036854775807) :
    Calls Try.prog 22 #[.pointer (some a), .int .i64 1] w fun e w' => e = .returned (.int .i64 (x + 1)) ∧ w' = w.setCell a (.int .i64 (x + 1)) := by
  have hadd := run_call_add (P := Try.prog) Try.func29 (by kernel_rfl) (by kernel_rfl) (by kernel_rfl) .i64 (by kernel_rfl) (y := 1) (s := x + 1) hc hz (by have := IntWalk.i64_in (x + 1) (by omega); simp [go_sem, this])
  go_enter Try.func22, Try.ntmps22
  go_wp2
  go_ret
  exact ⟨rfl, rfl⟩
theorem iload (a : Addr) (x : Int) (w : World) (hc : w.cell? a = some (.int .i64 x)) :
    Calls Try.prog 27 #[.pointer (some a)] w fun e w' => e = .returned (.int .i64 x) ∧ w' = w := by
  have hl := run_call_load (P := Try.prog) Try.func33 (by kernel_rfl) (by kernel_rfl) (by kernel_rfl) .i64 (by kernel_rfl) hc
  go_enter Try.func27, Try.ntmps27
  go_wp2
  go_ret
  exact ⟨rfl, rfl⟩

/-- a cell of lazy.Cell[int64] at block b: 'done' of its once, 'made', how often it was asked, how it is built, what it has -/
def Cl (w : World) (b : Nat) (st d m asked : Int) (fn : Value) (v : Int) : Prop :=
  w.heap[b]? = some (.cells #[.int .u32 d, .int .i32 st, .int .u32 0, .int .u32 m, .int .i64 asked, fn, .int .i64 v] 47 (0, 0))

theorem cl_below {W W' : World} {b : Nat} {st d m asked v : Int} {fn : Value} (h : Cl W b st d m asked fn v) (hB : Below W.heap.size W W') : Cl W' b st d m asked fn v := (hB.block _ (Array.getElem?_eq_some_iff.1 h).1).trans h
theorem cl_grown {W W' : World} {b g : Nat} {st d m asked v : Int} {fn : Value} (h : Cl W b st d m asked fn v) (hB : W.grownBy W' (some g)) (hne : b ≠ g) : Cl W' b st d m asked fn v := (hB.block _ (Array.getElem?_eq_some_iff.1 h).1 (by simpa using hne)).trans h

theorem new_fn (w : World) (k : Nat) (caps : Array Value) : Calls Try.prog 8 #[.func (.func k) #[] caps] w fun e w' => e = .returned (.pointer (some ⟨w.heap.size, 0, none⟩)) ∧ w' = w.alloc (.cells #[.int .u32 0, .int .i32 0, .int .u32 0, .int .u32 0, .int .i64 0, .func (.func k) #[] caps, .int .i64 0] 47) := by
  go_enter Try.func8, Try.ntmps8
  go_wp2
  go_ret
  exact ⟨rfl, rfl⟩
theorem new_nil (w : World) : Calls Try.prog 8 #[.nilFunc] w fun e w' => e = .returned (.pointer (some ⟨w.heap.size, 0, none⟩)) ∧ w' = w.alloc (.cells #[.int .u32 0, .int .i32 0, .int .u32 0, .int .u32 0, .int .i64 0, .nilFunc, .int .i64 0] 47) := by
  go_enter Try.func8, Try.ntmps8
  go_wp2
  go_ret
  exact ⟨rfl, rfl⟩
theorem neq_fn (k : Nat) (caps : Array Value) (w : World) : (binOp .neq 28 (.func (.func k) #[] caps) .nilFunc).run Try.prog w = .ok (.bool true) w := by
  first | rfl | kernel_rfl | (simp [binOp, go_sem]; done)
theorem eql_fn (k : Nat) (caps : Array Value) (w : World) : (binOp .eql 56 (.func (.func k) #[] caps) .nilFunc).run Try.prog w = .ok (.bool false) w := by
  first | rfl | kernel_rfl | (simp [binOp, go_sem]; done)
theorem neq_nil (w : World) : (binOp .neq 28 .nilFunc .nilFunc).run Try.prog w = .ok (.bool false) w := by
  first | rfl | kernel_rfl | (simp [binOp, go_sem]; done)
theorem eql_nil (w : World) : (binOp .eql 56 .nilFunc .nilFunc).run Try.prog w = .ok (.bool true) w := by
  first | rfl | kernel_rfl | (simp [binOp, go_sem]; done)

set_option maxRecDepth 100000 in
set_option maxHeartbeats 1600000 in
/-- (*sync.Once).doSlow of a cell's once, not yet done, the lock free: what the cell's fill does (R) stands in the middle -/
theorem slow_any (w : World) (b : Nat) (asked v : Int) (fn : Value) (R : World → Prop) (h : Cl w b 0 0 0 asked fn 0)
    (hfill : Calls Try.prog 24 #[.pointer (some ⟨b, 0, none⟩)] (w.setCell ⟨b, 1, none⟩ (.int .i32 1)) fun e w1 => e = .returned (.tuple #[]) ∧ Cl w1 b 1 0 1 asked .nilFunc v ∧ R w1) :
    Calls Try.prog 30 #[.pointer (some ⟨b, 0, none⟩), .func (.func 24) #[.pointer (some ⟨b, 0, none⟩)] #[]] w fun e w' => e = .returned (.tuple #[]) ∧ Cl w' b 0 1 1 asked .nilFunc v ∧ ∃ w1, R w1 ∧ w1.grownBy w' (some b) := by
  have c0 := block_cell h 0
  have c1 := block_cell h 1
  have f1 := block_free h 1
  simp at c0 c1
  have h1 := block_set h 1 (.int .i32 1)
  have d0 := block_cell h1 0
  simp at d0
  have Hf := Lib.hid hfill
  clear hfill
  have hnot : ∀ (x : Bool) (w : World), (Op.unary .not (.bool x)).run Try.prog w = .ok (.bool (!x)) w := fun _ _ => rfl
  go_enter_defers Try.func30, Try.ntmps30
  go_wp2_with (first
    | (go_at_call 34; refine (lock_free ⟨b, 1, none⟩ _ c1 f1).mono ?_; rintro e w' ⟨rfl, rfl⟩)
    | (go_at_call 25; refine (bload ⟨b, 0, none⟩ 0 _ d0).mono ?_; rintro e w' ⟨rfl, rfl⟩)
    | (go_at_call 24; refine Hf.out.mono ?_; rintro e w1 ⟨rfl, hw1, hR⟩))
  have e0 := block_cell hw1 0
  have z0 := block_free hw1 0
  simp at e0
  have hd1 : w1.grownBy w1.drew (some b) := ⟨rfl, rfl, rfl, Nat.le_refl _, fun _ _ _ => rfl⟩
  have hw2 : Cl (w1.drew.setCell ⟨b, 0, none⟩ (.int .u32 1)) b 1 1 1 asked .nilFunc v := block_set (w := w1.drew) hw1 0 (.int .u32 1)
  have e1 := block_cell hw2 1
  have z1 := block_free hw2 1
  simp at e1
  refine leaves_cons (f := 31) (args := #[.pointer (some ⟨b, 0, none⟩), .bool true]) (by simp) (by simp [go_sem]) ?_
  refine (store_deferred ⟨b, 0, none⟩ _ .returning _ e0 z0).mono ?_
  rintro e u' w'' ⟨rfl, rfl, rfl⟩
  refine leaves_cons (f := 35) (args := #[.pointer (some ⟨b, 1, none⟩)]) (by simp [settle]) (by simp [go_sem]) ?_
  refine (unlock_deferred ⟨b, 1, none⟩ _ _ e1 z1).mono ?_
  rintro e u' w'' ⟨rfl, rfl, rfl⟩
  have hw3 : Cl ((w1.drew.setCell ⟨b, 0, none⟩ (.int .u32 1)).setCell ⟨b, 1, none⟩ (.int .i32 0)) b 0 1 1 asked .nilFunc v := block_set hw2 1 (.int .i32 0)
  have hg : w1.grownBy ((w1.drew.setCell ⟨b, 0, none⟩ (.int .u32 1)).setCell ⟨b, 1, none⟩ (.int .i32 0)) (some b) := grown_trans hd1 (grown_trans (grown_set _ _ _ _) (grown_set _ _ _ _))
  simp [Leaves, settle, results, Try.results30]
  exact ⟨hw3, w1, hR, hg⟩

set_option maxRecDepth 100000 in
set_option maxHeartbeats 1600000 in
theorem do_first (w : World) (b : Nat) (asked v : Int) (fn : Value) (R : World → Prop) (h : Cl w b 0 0 0 asked fn 0)
    (hfill : Calls Try.prog 24 #[.pointer (some ⟨b, 0, none⟩)] (w.setCell ⟨b, 1, none⟩ (.int .i32 1)) fun e w1 => e = .returned (.tuple #[]) ∧ Cl w1 b 1 0 1 asked .nilFunc v ∧ R w1) :
    Calls Try.prog 23 #[.pointer (some ⟨b, 0, none⟩), .func (.func 24) #[.pointer (some ⟨b, 0, none⟩)] #[]] w fun e w' => e = .returned (.tuple #[]) ∧ Cl w' b 0 1 1 asked .nilFunc v ∧ ∃ w1, R w1 ∧ w1.grownBy w' (some b) := by
  have c0 := block_cell h 0
  simp at c0
  have H := Lib.hid (slow_any w b asked v fn R h hfill)
  clear hfill
  have hnot : ∀ (x : Bool) (w : World), (Op.unary .not (.bool x)).run Try.prog w = .ok (.bool (!x)) w := fun _ _ => rfl
  go_enter Try.func23, Try.ntmps23
  go_wp2_with (first
    | (go_at_call 25; refine (bload ⟨b, 0, none⟩ 0 _ c0).mono ?_; rintro e w' ⟨rfl, rfl⟩)
    | (go_at_call 30; refine H.out.mono ?_; rintro e w' ⟨rfl, hw1, hR⟩))
  go_end0
  exact ⟨rfl, hw1, hR⟩
theorem do_done (w : World) (b : Nat) (st m asked v : Int) (fn fv : Value) (h : Cl w b st 1 m asked fn v) :
    Calls Try.prog 23 #[.pointer (some ⟨b, 0, none⟩), fv] w fun e w' => e = .returned (.tuple #[]) ∧ w' = w := by
  have c0 := block_cell h 0
  simp at c0
  have hnot : ∀ (x : Bool) (w : World), (Op.unary .not (.bool x)).run Try.prog w = .ok (.bool (!x)) w := fun _ _ => rfl
  go_enter Try.func23, Try.ntmps23
  go_wp2_with (first
    | (go_at_call 25; refine (bload ⟨b, 0, none⟩ 1 _ c0).mono ?_; rintro e w' ⟨rfl, rfl⟩))
  go_end0
  exact ⟨rfl, rfl⟩

set_option maxRecDepth 100000 in
set_option maxHeartbeats 1600000 in
/-- Get, the first time: what the fill does (R) stands in the middle -/
theorem get_first (w : World) (b : Nat) (asked v : Int) (fn : Value) (R : World → Prop) (h : Cl w b 0 0 0 asked fn 0) (h0 : 0 ≤ asked) (h1 : asked < 9223372036854775807)
    (hfill : ∀ W, w.grownBy W (some b) → Cl W b 1 0 0 (asked + 1) fn 0 → Calls Try.prog 24 #[.pointer (some ⟨b, 0, none⟩)] W fun e w1 => e = .returned (.tuple #[]) ∧ Cl w1 b 1 0 1 (asked + 1) .nilFunc v ∧ R w1) :
    Calls Try.prog 10 #[.pointer (some ⟨b, 0, none⟩)] w fun e w' => e = .returned (.int .i64 v) ∧ Cl w' b 0 1 1 (asked + 1) .nilFunc v ∧ ∃ w1, R w1 ∧ w1.grownBy w' (some b) := by
  have c4 := block_cell h 4
  have f4 := block_free h 4
  simp at c4
  have h4 : Cl (w.setCell ⟨b, 4, none⟩ (.int .i64 (asked + 1))) b 0 0 0 (asked + 1) fn 0 := block_set h 4 (.int .i64 (asked + 1))
  have h5 : Cl ((w.setCell ⟨b, 4, none⟩ (.int .i64 (asked + 1))).setCell ⟨b, 1, none⟩ (.int .i32 1)) b 1 0 0 (asked + 1) fn 0 := block_set h4 1 (.int .i32 1)
  have H := Lib.hid (do_first _ b (asked + 1) v fn R h4 (hfill _ (grown_trans (grown_set _ _ _ _) (grown_set _ _ _ _)) h5))
  clear hfill
  go_enter Try.func10, Try.ntmps10
  go_wp2_with (go_at_call 22; refine (iadd ⟨b, 4, none⟩ asked _ c4 f4 h0 h1).mono ?_; rintro e w' ⟨rfl, rfl⟩)
  refine H.out.mono ?_
  rintro e w' ⟨rfl, hw1, hR⟩
  have c6 := block_cell hw1 6
  simp at c6
  go_wp2
  go_ret
  exact ⟨rfl, hw1, hR⟩
theorem get_again (w : World) (b : Nat) (st m asked v : Int) (fn : Value) (h : Cl w b st 1 m asked fn v) (h0 : 0 ≤ asked) (h1 : asked < 9223372036854775807) :
    Calls Try.prog 10 #[.pointer (some ⟨b, 0, none⟩)] w fun e w' => e = .returned (.int .i64 v) ∧ Cl w' b st 1 m (asked + 1) fn v ∧ w.grownBy w' (some b) := by
  have c4 := block_cell h 4
  have f4 := block_free h 4
  simp at c4
  have h4 : Cl (w.setCell ⟨b, 4, none⟩ (.int .i64 (asked + 1))) b st 1 m (asked + 1) fn v := block_set h 4 (.int .i64 (asked + 1))
  have c6 := block_cell h4 6
  simp at c6
  go_enter Try.func10, Try.ntmps10
  go_wp2_with (go_at_call 22; refine (iadd ⟨b, 4, none⟩ asked _ c4 f4 h0 h1).mono ?_; rintro e w' ⟨rfl, rfl⟩)
  refine (do_done _ b st m (asked + 1) v fn _ h4).mono ?_
  rintro e w' ⟨rfl, rfl⟩
  go_wp2
  go_ret
  exact ⟨rfl, h4, grown_set _ _ _ _⟩
theorem made_at (w : World) (b : Nat) (st d m asked v : Int) (fn : Value) (h : Cl w b st d m asked fn v) :
    Calls Try.prog 11 #[.pointer (some ⟨b, 0, none⟩)] w fun e w' => e = .returned (.bool (m != 0)) ∧ w' = w := by
  have c3 := block_cell h 3
  simp at c3
  go_enter Try.func11, Try.ntmps11
  go_wp2_with (go_at_call 25; refine (bload ⟨b, 3, none⟩ m _ c3).mono ?_; rintro e w' ⟨rfl, rfl⟩)
  go_ret
  exact ⟨rfl, rfl⟩
theorem asked_at (w : World) (b : Nat) (st d m asked v : Int) (fn : Value) (h : Cl w b st d m asked fn v) :
    Calls Try.prog 18 #[.pointer (some ⟨b, 0, none⟩)] w fun e w' => e = .returned (.int .i64 asked) ∧ w' = w := by
  have c4 := block_cell h 4
  simp at c4
  go_enter Try.func18, Try.ntmps18
  go_wp2_with (go_at_call 27; refine (iload ⟨b, 4, none⟩ asked _ c4).mono ?_; rintro e w' ⟨rfl, rfl⟩)
  go_ret
  exact ⟨rfl, rfl⟩

/-- fill, of a closure k: what the closure does (R) stands in the middle -/
theorem fill_any (k : Nat) (caps : Array Value) (he : ∀ args w, (callFunc k args).run Try.prog w = .ok (.enter k args) w) (w : World) (b : Nat) (asked v : Int) (R : World → Prop) (h : Cl w b 1 0 0 asked (.func (.func k) #[] caps) 0)
    (hk : Calls Try.prog k caps w fun e w1 => e = .returned (.int .i64 v) ∧ Cl w1 b 1 0 0 asked (.func (.func k) #[] caps) 0 ∧ R w1) :
    Calls Try.prog 24 #[.pointer (some ⟨b, 0, none⟩)] w fun e w2 => e = .returned (.tuple #[]) ∧ Cl w2 b 1 0 1 asked .nilFunc v ∧ ∃ w1, R w1 ∧ w1.grownBy w2 (some b) := by
  have c5 := block_cell h 5
  simp at c5
  have H := Lib.hid hk
  clear hk
  have hne := neq_fn k caps
  go_enter Try.func24, Try.ntmps24
  go_wp2_with fail
  refine H.out.mono ?_
  rintro e w1 ⟨rfl, hw1, hR⟩
  have a6 := block_cell hw1 6
  have z6 := block_free hw1 6
  simp at a6
  have hw2 : Cl (w1.setCell ⟨b, 6, none⟩ (.int .i64 v)) b 1 0 0 asked (.func (.func k) #[] caps) v := block_set hw1 6 (.int .i64 v)
  have a5 := block_cell hw2 5
  have z5 := block_free hw2 5
  simp at a5
  have hw3 : Cl ((w1.setCell ⟨b, 6, none⟩ (.int .i64 v)).setCell ⟨b, 5, none⟩ .nilFunc) b 1 0 0 asked .nilFunc v := block_set hw2 5 .nilFunc
  have a3 := block_cell hw3 3
  have z3 := block_free hw3 3
  simp at a3
  go_wp2_with fail
  refine (bstore ⟨b, 3, none⟩ _ _ a3 z3).mono ?_
  rintro e w4 ⟨rfl, hw4⟩
  have hd1 : ((w1.setCell ⟨b, 6, none⟩ (.int .i64 v)).setCell ⟨b, 5, none⟩ .nilFunc).grownBy ((w1.setCell ⟨b, 6, none⟩ (.int .i64 v)).setCell ⟨b, 5, none⟩ .nilFunc).drew (some b) := ⟨rfl, rfl, rfl, Nat.le_refl _, fun _ _ _ => rfl⟩
  have hw5 : Cl w4 b 1 0 1 asked .nilFunc v := by rw [hw4]; exact block_set (w := ((w1.setCell ⟨b, 6, none⟩ (.int .i64 v)).setCell ⟨b, 5, none⟩ .nilFunc).drew) hw3 3 (.int .u32 1)
  have hg : w1.grownBy w4 (some b) := by rw [hw4]; exact grown_trans (grown_trans (grown_set _ _ _ _) (grown_set _ _ _ _)) (grown_trans hd1 (grown_set _ _ _ _))
  clear hw4
  go_wp2_with fail
  go_end0
  exact ⟨rfl, hw5, w1, hR, hg⟩
theorem fill_nil (w : World) (b : Nat) (asked : Int) (h : Cl w b 1 0 0 asked .nilFunc 0) :
    Calls Try.prog 24 #[.pointer (some ⟨b, 0, none⟩)] w fun e w2 => e = .returned (.tuple #[]) ∧ Cl w2 b 1 0 1 asked .nilFunc 0 ∧ w.grownBy w2 (some b) := by
  have c5 := block_cell h 5
  have f5 := block_free h 5
  simp at c5
  have hw3 : Cl (w.setCell ⟨b, 5, none⟩ .nilFunc) b 1 0 0 asked .nilFunc 0 := block_set h 5 .nilFunc
  have a3 := block_cell hw3 3
  have z3 := block_free hw3 3
  simp at a3
  have hne := neq_nil
  go_enter Try.func24, Try.ntmps24
  go_wp2_with fail
  refine (bstore ⟨b, 3, none⟩ _ _ a3 z3).mono ?_
  rintro e w4 ⟨rfl, hw4⟩
  have hd1 : (w.setCell ⟨b, 5, none⟩ .nilFunc).grownBy (w.setCell ⟨b, 5, none⟩ .nilFunc).drew (some b) := ⟨rfl, rfl, rfl, Nat.le_refl _, fun _ _ _ => rfl⟩
  have hw5 : Cl w4 b 1 0 1 asked .nilFunc 0 := by rw [hw4]; exact block_set (w := (w.setCell ⟨b, 5, none⟩ .nilFunc).drew) hw3 3 (.int .u32 1)
  have hg : w.grownBy w4 (some b) := by rw [hw4]; exact grown_trans (grown_set _ _ _ _) (grown_trans hd1 (grown_set _ _ _ _))
  clear hw4
  go_wp2_with fail
  go_end0
  exact ⟨rfl, hw5, hg⟩
end Go.Proofs.Ytljlgphieefdmaa
