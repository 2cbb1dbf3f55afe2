/- Contracts of sync.Once, of the atomics, and of lazy.Cell at a slice of int64 (XCell with other names; what is built is known only behind the call). No statement of the seat is proved here. -/
import Derived.Test.YtndifinjdheceaaAux3
import Derived.WalkLawsBesides
import Derived.BigQuiet
import Derived.Deep.QuietTactic
import Derived.RegionTactic
import Derived.BigRegion
import Derived.Deep.RegionWith
import Derived.Deep.RegionLaw
import Derived.Deep.DeepCutAuto
import Derived.Defers
import Derived.Laws.Pointers
import Derived.Laws.LoneSync
import Derived.Laws.NewBlocks
import Derived.RegionCalls
import Derived.ChangeAlike
import Derived.RangeFuncCalls
import Derived.Laws.EntriesVeiled
namespace Go.Proofs.Ytndifinjdheceaa
set_option linter.unusedVariables false
set_option linter.unusedSimpArgs false
set_option linter.unusedSectionVars false
open Go Go.RowKit

theorem disable (w : World) : (callFunc 58 #[]).run Try.prog w = .ok (.value (.tuple #[])) w := run_call_mark0 Try.func58 (by kernel_rfl) (by kernel_rfl) (by kernel_rfl) .disable (by kernel_rfl) w
theorem enable (w : World) : (callFunc 60 #[]).run Try.prog w = .ok (.value (.tuple #[])) w := run_call_mark0 Try.func60 (by kernel_rfl) (by kernel_rfl) (by kernel_rfl) .enable (by kernel_rfl) w
theorem acquire (a : Addr) (w : World) : (callFunc 61 #[.pointer (some a)]).run Try.prog w = .ok (.value (.tuple #[])) w := run_call_marked Try.func61 (by kernel_rfl) (by kernel_rfl) (by kernel_rfl) .acquire (by kernel_rfl) a w
theorem releaseMerge (a : Addr) (w : World) : (callFunc 63 #[.pointer (some a)]).run Try.prog w = .ok (.value (.tuple #[])) w := run_call_marked Try.func63 (by kernel_rfl) (by kernel_rfl) (by kernel_rfl) .releaseMerge (by kernel_rfl) a w

/-- (*atomic.Bool).Load -/
theorem bload (a : Addr) (x : Int) (w : World) (hc : w.cell? a = some (.int .u32 x)) :
    Calls Try.prog 47 #[.pointer (some a)] w fun e w' => e = .returned (.bool (x != 0)) ∧ w' = w := by
  have hl := run_call_load (P := Try.prog) Try.func51 (by kernel_rfl) (by kernel_rfl) (by kernel_rfl) .u32 (by kernel_rfl) hc
  go_enter Try.func47, Try.ntmps47
  go_wp2
  go_ret
  exact ⟨rfl, rfl⟩

/-- (*atomic.Bool).Store(true) -/
theorem bstore (a : Addr) (x : Value) (w : World) (hc : w.cell? a = some x) (hz : w.frozen? a = false) :
    Calls Try.prog 49 #[.pointer (some a), .bool true] w fun e w' => e = .returned (.tuple #[]) ∧ w' = w.drew.setCell a (.int .u32 1) := by
  have hc' : w.drew.cell? a = some x := by go_simp
  have hz' : w.drew.frozen? a = false := by go_simp
  have hst := run_call_store (P := Try.prog) Try.func54 (by kernel_rfl) (by kernel_rfl) (by kernel_rfl) (by kernel_rfl) (k := .u32) (y := 1) hc' hz'
  go_enter Try.func49, Try.ntmps49
  go_wp2
  go_region_calls
  all_goals (go_end0; exact ⟨rfl, rfl⟩)
theorem store_deferred (a : Addr) (x : Value) (u : FrameMode) (w : World) (hc : w.cell? a = some x) (hz : w.frozen? a = false) :
    CallsD Try.prog 49 #[.pointer (some a), .bool true] u w fun e u' w' => u' = u ∧ (e = .returned (.tuple #[]) ∧ w' = w.drew.setCell a (.int .u32 1)) := by
  have hc' : w.drew.cell? a = some x := by go_simp
  have hz' : w.drew.frozen? a = false := by go_simp
  have hst := run_call_store (P := Try.prog) Try.func54 (by kernel_rfl) (by kernel_rfl) (by kernel_rfl) (by kernel_rfl) (k := .u32) (y := 1) hc' hz'
  go_enter_d Try.func49, Try.ntmps49
  go_wp2
  go_region_calls
  all_goals (go_end0; exact ⟨rfl, rfl⟩)

set_option maxRecDepth 100000 in
/-- (*sync.Mutex).Unlock, deferred, the lock held, nobody waiting -/
theorem unlock_deferred (a : Addr) (u : FrameMode) (w : World) (hc : w.cell? a = some (.int .i32 1)) (hz : w.frozen? a = false) :
    CallsD Try.prog 53 #[.pointer (some a)] u w fun e u' w' => u' = u ∧ (e = .returned (.tuple #[]) ∧ w' = w.setCell a (.int .i32 0)) := by
  have hd := disable
  have he := enable
  have hr := releaseMerge
  have hadd := run_call_add (P := Try.prog) Try.func64 (by kernel_rfl) (by kernel_rfl) (by kernel_rfl) .i32 (by kernel_rfl) (y := -1) (s := 0) hc hz (by simp [go_sem]; rfl)
  have hcv := run_convert_to_unsafe (P := Try.prog) (src := 97) (dst := 101) Try.underlying97 Try.underlying101 (by kernel_rfl) hc
  go_enter_d Try.func53, Try.ntmps53
  go_wp2
  go_end0
  go_wp2
  go_end0
  exact ⟨rfl, rfl⟩

set_option maxRecDepth 100000 in
/-- (*sync.Mutex).Lock, the lock free -/
theorem lock_free (a : Addr) (w : World) (hc : w.cell? a = some (.int .i32 0)) (hz : w.frozen? a = false) :
    Calls Try.prog 52 #[.pointer (some a)] w fun e w' => e = .returned (.tuple #[]) ∧ w' = w.setCell a (.int .i32 1) := by
  have hd := disable
  have he := enable
  have ha := acquire
  have hcas := run_call_cas_hit (P := Try.prog) Try.func59 (by kernel_rfl) (by kernel_rfl) (by kernel_rfl) .i32 (by kernel_rfl) (y := 1) hc hz
  have hc' : (w.setCell a (.int .i32 1)).cell? a = some (.int .i32 1) := World.cell?_setCell_same w a _ hc
  have hcv := run_convert_to_unsafe (P := Try.prog) (src := 97) (dst := 101) Try.underlying97 Try.underlying101 (by kernel_rfl) hc'
  go_enter Try.func52, Try.ntmps52
  go_wp2
  first | go_end0 | (simp only [Exit.inBlock, Exit.then]; refine bodyPost_ret (results_none rfl _ _ _) rfl ?_) | refine bodyPost_ret (results_none rfl _ _ _) rfl ?_
  go_wp2
  go_end0
  exact ⟨rfl, rfl⟩

/-- (*atomic.Int64).Add(1): whatever it comes to -/
theorem iadd (a : Addr) (x : Int) (w : World) (hc : w.cell? a = some (.int .i64 x)) (hz : w.frozen? a = false) :
    Calls Try.prog 39 #[.pointer (some a), .int .i64 1] w fun e w' => ∃ y, e = .returned (.int .i64 y) ∧ w' = w.setCell a (.int .i64 y) := by
  obtain ⟨s, hs⟩ : ∃ s, s = IntKind.i64.wrap (x + 1) := ⟨_, rfl⟩
  have hadd := run_call_add (P := Try.prog) Try.func46 (by kernel_rfl) (by kernel_rfl) (by kernel_rfl) .i64 (by kernel_rfl) (y := 1) (s := s) hc hz (by simp [go_sem, hs])
  clear hs
  go_enter Try.func39, Try.ntmps39
  go_wp2
  go_ret
  exact ⟨s, rfl, rfl⟩
/-- a cell of lazy.Cell[[]int64] at block b: 'done' of its once, 'made', how often it was asked, how it is built, what it has -/
def Cl (w : World) (b : Nat) (st d m asked : Int) (fn v : Value) : Prop :=
  w.heap[b]? = some (.cells #[.int .u32 d, .int .i32 st, .int .u32 0, .int .u32 m, .int .i64 asked, fn, v] 78 (0, 0))

theorem cl_below {W W' : World} {b : Nat} {st d m asked : Int} {fn v : Value} (h : Cl W b st d m asked fn v) (hB : Below W.heap.size W W') : Cl W' b st d m asked fn v := (hB.block _ (Array.getElem?_eq_some_iff.1 h).1).trans h
theorem cl_grown {W W' : World} {b g : Nat} {st d m asked : Int} {fn v : Value} (h : Cl W b st d m asked fn v) (hB : W.grownBy W' (some g)) (hne : b ≠ g) : Cl W' b st d m asked fn v := (hB.block _ (Array.getElem?_eq_some_iff.1 h).1 (by simpa using hne)).trans h

theorem new_fn (w : World) (k : Nat) (first : Array Value) : Calls Try.prog 26 #[.func (.func k) first #[]] w fun e w' => e = .returned (.pointer (some ⟨w.heap.size, 0, none⟩)) ∧ w' = w.alloc (.cells #[.int .u32 0, .int .i32 0, .int .u32 0, .int .u32 0, .int .i64 0, .func (.func k) first #[], .slice none 0 0] 78) := by
  go_enter Try.func26, Try.ntmps26
  go_wp2
  go_ret
  exact ⟨rfl, rfl⟩
set_option maxRecDepth 100000 in
theorem neq_fn (k : Nat) (first : Array Value) (w : World) : (binOp .neq 55 (.func (.func k) first #[]) .nilFunc).run Try.prog w = .ok (.bool true) w := by
  first | rfl | kernel_rfl | (simp [binOp, go_sem]; done)
set_option maxRecDepth 100000 in
set_option maxHeartbeats 1600000 in
/-- (*sync.Once).doSlow of a cell's once, not yet done, the lock free: what the cell's fill does (R) stands in the middle -/
theorem slow_any (w : World) (b : Nat) (asked : Int) (fn v0 : Value) (R : Value → World → Prop) (h : Cl w b 0 0 0 asked fn v0)
    (hfill : Calls Try.prog 41 #[.pointer (some ⟨b, 0, none⟩)] (w.setCell ⟨b, 1, none⟩ (.int .i32 1)) fun e w1 => e = .returned (.tuple #[]) ∧ ∃ v, Cl w1 b 1 0 1 asked .nilFunc v ∧ R v w1) :
    Calls Try.prog 48 #[.pointer (some ⟨b, 0, none⟩), .func (.func 41) #[.pointer (some ⟨b, 0, none⟩)] #[]] w fun e w' => e = .returned (.tuple #[]) ∧ ∃ v, Cl w' b 0 1 1 asked .nilFunc v ∧ ∃ w1, R v w1 ∧ w1.grownBy w' (some b) := by
  have c0 := block_cell h 0
  have c1 := block_cell h 1
  have f1 := block_free h 1
  simp at c0 c1
  have h1 := block_set h 1 (.int .i32 1)
  have d0 := block_cell h1 0
  simp at d0
  have Hf := Lib.hid hfill
  clear hfill
  have hnot : ∀ (x : Bool) (w : World), (Op.unary .not (.bool x)).run Try.prog w = .ok (.bool (!x)) w := fun _ _ => rfl
  go_enter_defers Try.func48, Try.ntmps48
  go_wp2_with (first
    | (go_at_call 52; refine (lock_free ⟨b, 1, none⟩ _ c1 f1).mono ?_; rintro e w' ⟨rfl, rfl⟩)
    | (go_at_call 47; refine (bload ⟨b, 0, none⟩ 0 _ d0).mono ?_; rintro e w' ⟨rfl, rfl⟩)
    | (go_at_call 41; refine Hf.out.mono ?_; rintro e w1 ⟨rfl, v, hw1, hR⟩))
  have e0 := block_cell hw1 0
  have z0 := block_free hw1 0
  simp at e0
  have hd1 : w1.grownBy w1.drew (some b) := ⟨rfl, rfl, rfl, Nat.le_refl _, fun _ _ _ => rfl⟩
  have hw2 : Cl (w1.drew.setCell ⟨b, 0, none⟩ (.int .u32 1)) b 1 1 1 asked .nilFunc v := block_set (w := w1.drew) hw1 0 (.int .u32 1)
  have e1 := block_cell hw2 1
  have z1 := block_free hw2 1
  simp at e1
  refine leaves_cons (f := 49) (args := #[.pointer (some ⟨b, 0, none⟩), .bool true]) (by simp) (by simp [go_sem]) ?_
  refine (store_deferred ⟨b, 0, none⟩ _ .returning _ e0 z0).mono ?_
  rintro e u' w'' ⟨rfl, rfl, rfl⟩
  refine leaves_cons (f := 53) (args := #[.pointer (some ⟨b, 1, none⟩)]) (by simp [settle]) (by simp [go_sem]) ?_
  refine (unlock_deferred ⟨b, 1, none⟩ _ _ e1 z1).mono ?_
  rintro e u' w'' ⟨rfl, rfl, rfl⟩
  have hw3 : Cl ((w1.drew.setCell ⟨b, 0, none⟩ (.int .u32 1)).setCell ⟨b, 1, none⟩ (.int .i32 0)) b 0 1 1 asked .nilFunc v := block_set hw2 1 (.int .i32 0)
  have hg : w1.grownBy ((w1.drew.setCell ⟨b, 0, none⟩ (.int .u32 1)).setCell ⟨b, 1, none⟩ (.int .i32 0)) (some b) := grown_trans hd1 (grown_trans (grown_set _ _ _ _) (grown_set _ _ _ _))
  simp [Leaves, settle, results, Try.results48]
  exact ⟨v, hw3, w1, hR, hg⟩

set_option maxRecDepth 100000 in
set_option maxHeartbeats 1600000 in
theorem do_first (w : World) (b : Nat) (asked : Int) (fn v0 : Value) (R : Value → World → Prop) (h : Cl w b 0 0 0 asked fn v0)
    (hfill : Calls Try.prog 41 #[.pointer (some ⟨b, 0, none⟩)] (w.setCell ⟨b, 1, none⟩ (.int .i32 1)) fun e w1 => e = .returned (.tuple #[]) ∧ ∃ v, Cl w1 b 1 0 1 asked .nilFunc v ∧ R v w1) :
    Calls Try.prog 40 #[.pointer (some ⟨b, 0, none⟩), .func (.func 41) #[.pointer (some ⟨b, 0, none⟩)] #[]] w fun e w' => e = .returned (.tuple #[]) ∧ ∃ v, Cl w' b 0 1 1 asked .nilFunc v ∧ ∃ w1, R v w1 ∧ w1.grownBy w' (some b) := by
  have c0 := block_cell h 0
  simp at c0
  have H := Lib.hid (slow_any w b asked fn v0 R h hfill)
  clear hfill
  have hnot : ∀ (x : Bool) (w : World), (Op.unary .not (.bool x)).run Try.prog w = .ok (.bool (!x)) w := fun _ _ => rfl
  go_enter Try.func40, Try.ntmps40
  go_wp2_with (first
    | (go_at_call 47; refine (bload ⟨b, 0, none⟩ 0 _ c0).mono ?_; rintro e w' ⟨rfl, rfl⟩)
    | (go_at_call 48; refine H.out.mono ?_; rintro e w' ⟨rfl, v, hw1, hR⟩))
  go_end0
  exact ⟨rfl, v, hw1, hR⟩
theorem do_done (w : World) (b : Nat) (st m asked : Int) (fn v fv : Value) (h : Cl w b st 1 m asked fn v) :
    Calls Try.prog 40 #[.pointer (some ⟨b, 0, none⟩), fv] w fun e w' => e = .returned (.tuple #[]) ∧ w' = w := by
  have c0 := block_cell h 0
  simp at c0
  have hnot : ∀ (x : Bool) (w : World), (Op.unary .not (.bool x)).run Try.prog w = .ok (.bool (!x)) w := fun _ _ => rfl
  go_enter Try.func40, Try.ntmps40
  go_wp2_with (first
    | (go_at_call 47; refine (bload ⟨b, 0, none⟩ 1 _ c0).mono ?_; rintro e w' ⟨rfl, rfl⟩))
  go_end0
  exact ⟨rfl, rfl⟩

set_option maxRecDepth 100000 in
set_option maxHeartbeats 1600000 in
/-- Get, the first time: what the fill does (R) stands in the middle -/
theorem get_first (w : World) (b : Nat) (asked : Int) (fn v0 : Value) (R : Value → World → Prop) (h : Cl w b 0 0 0 asked fn v0)
    (hfill : ∀ W y, w.grownBy W (some b) → Cl W b 1 0 0 y fn v0 → Calls Try.prog 41 #[.pointer (some ⟨b, 0, none⟩)] W fun e w1 => e = .returned (.tuple #[]) ∧ ∃ v, Cl w1 b 1 0 1 y .nilFunc v ∧ R v w1) :
    Calls Try.prog 30 #[.pointer (some ⟨b, 0, none⟩)] w fun e w' => ∃ v, e = .returned v ∧ (∃ y, Cl w' b 0 1 1 y .nilFunc v) ∧ ∃ w1, R v w1 ∧ w1.grownBy w' (some b) := by
  have c4 := block_cell h 4
  have f4 := block_free h 4
  simp at c4
  have Hfill := Lib.hid hfill
  clear hfill
  go_enter Try.func30, Try.ntmps30
  go_wp2_with fail
  refine (iadd ⟨b, 4, none⟩ asked _ c4 f4).mono ?_
  rintro e w' ⟨y, rfl, rfl⟩
  have h4 : Cl (w.setCell ⟨b, 4, none⟩ (.int .i64 y)) b 0 0 0 y fn v0 := block_set h 4 (.int .i64 y)
  have h5 : Cl ((w.setCell ⟨b, 4, none⟩ (.int .i64 y)).setCell ⟨b, 1, none⟩ (.int .i32 1)) b 1 0 0 y fn v0 := block_set h4 1 (.int .i32 1)
  have H := Lib.hid (do_first _ b y fn v0 R h4 (Hfill.out _ y (grown_trans (grown_set _ _ _ _) (grown_set _ _ _ _)) h5))
  clear h5
  go_wp2_with fail
  refine H.out.mono ?_
  rintro e w' ⟨rfl, v, hw1, hR⟩
  have c6 := block_cell hw1 6
  simp at c6
  go_wp2
  go_ret
  exact ⟨v, rfl, ⟨y, hw1⟩, hR⟩
theorem get_again (w : World) (b : Nat) (st m asked : Int) (fn v : Value) (h : Cl w b st 1 m asked fn v) :
    Calls Try.prog 30 #[.pointer (some ⟨b, 0, none⟩)] w fun e w' => e = .returned v ∧ (∃ y, Cl w' b st 1 m y fn v) ∧ w.grownBy w' (some b) := by
  have c4 := block_cell h 4
  have f4 := block_free h 4
  simp at c4
  go_enter Try.func30, Try.ntmps30
  go_wp2_with fail
  refine (iadd ⟨b, 4, none⟩ asked _ c4 f4).mono ?_
  rintro e w' ⟨y, rfl, rfl⟩
  have h4 : Cl (w.setCell ⟨b, 4, none⟩ (.int .i64 y)) b st 1 m y fn v := block_set h 4 (.int .i64 y)
  have c6 := block_cell h4 6
  simp at c6
  go_wp2_with fail
  refine (do_done _ b st m y fn v _ h4).mono ?_
  rintro e w' ⟨rfl, rfl⟩
  go_wp2
  go_ret
  exact ⟨rfl, ⟨y, h4⟩, grown_set _ _ _ _⟩
set_option maxRecDepth 100000 in
/-- fill, of a closure k: what the closure does (R) stands in the middle -/
theorem fill_any (k : Nat) (first : Array Value) (he : ∀ args w, (callFunc k args).run Try.prog w = .ok (.enter k args) w) (w : World) (b : Nat) (asked : Int) (v0 : Value) (R : Value → World → Prop) (h : Cl w b 1 0 0 asked (.func (.func k) first #[]) v0)
    (hk : Calls Try.prog k first w fun e w1 => ∃ v, e = .returned v ∧ (∃ ao n c, v = .slice ao n c) ∧ Cl w1 b 1 0 0 asked (.func (.func k) first #[]) v0 ∧ R v w1) :
    Calls Try.prog 41 #[.pointer (some ⟨b, 0, none⟩)] w fun e w2 => e = .returned (.tuple #[]) ∧ ∃ v, Cl w2 b 1 0 1 asked .nilFunc v ∧ ∃ w1, R v w1 ∧ w1.grownBy w2 (some b) := by
  have c5 := block_cell h 5
  simp at c5
  have H := Lib.hid hk
  clear hk
  have hne := neq_fn k first
  go_enter Try.func41, Try.ntmps41
  go_wp2_with fail
  refine H.out.mono ?_
  rintro e w1 ⟨v, rfl, ⟨zo, zn, zc, rfl⟩, hw1, hR⟩
  have a6 := block_cell hw1 6
  have z6 := block_free hw1 6
  simp at a6
  have hw2 : Cl (w1.setCell ⟨b, 6, none⟩ (.slice zo zn zc)) b 1 0 0 asked (.func (.func k) first #[]) (.slice zo zn zc) := block_set hw1 6 (.slice zo zn zc)
  have a5 := block_cell hw2 5
  have z5 := block_free hw2 5
  simp at a5
  have hw3 : Cl ((w1.setCell ⟨b, 6, none⟩ (.slice zo zn zc)).setCell ⟨b, 5, none⟩ .nilFunc) b 1 0 0 asked   .nilFunc (.slice zo zn zc) := block_set hw2 5 .nilFunc
  have a3 := block_cell hw3 3
  have z3 := block_free hw3 3
  simp at a3
  go_wp2_with fail
  refine (bstore ⟨b, 3, none⟩ _ _ a3 z3).mono ?_
  rintro e w4 ⟨rfl, hw4⟩
  have hd1 : ((w1.setCell ⟨b, 6, none⟩ (.slice zo zn zc)).setCell ⟨b, 5, none⟩ .nilFunc).grownBy ((w1.setCell ⟨b, 6, none⟩ (.slice zo zn zc)).setCell ⟨b, 5, none⟩ .nilFunc).drew (some b) := ⟨rfl, rfl, rfl, Nat.le_refl _, fun _ _ _ => rfl⟩
  have hw5 : Cl w4 b 1 0 1 asked   .nilFunc (.slice zo zn zc) := by rw [hw4]; exact block_set (w := ((w1.setCell ⟨b, 6, none⟩ (.slice zo zn zc)).setCell ⟨b, 5, none⟩ .nilFunc).drew) hw3 3 (.int .u32 1)
  have hg : w1.grownBy w4 (some b) := by rw [hw4]; exact grown_trans (grown_trans (grown_set _ _ _ _) (grown_set _ _ _ _)) (grown_trans hd1 (grown_set _ _ _ _))
  clear hw4
  go_wp2_with fail
  go_end0
  exact ⟨rfl, _, hw5, w1, hR, hg⟩
theorem get_fn (k : Nat) (first : Array Value) (he : ∀ args w, (callFunc k args).run Try.prog w = .ok (.enter k args) w) (w : World) (b : Nat) (asked : Int) (v0 : Value) (R : Value → World → Prop) (h : Cl w b 0 0 0 asked (.func (.func k) first #[]) v0)
    (hk : ∀ W y, w.grownBy W (some b) → Cl W b 1 0 0 y (.func (.func k) first #[]) v0 → Calls Try.prog k first W fun e w1 => ∃ v, e = .returned v ∧ (∃ ao n c, v = .slice ao n c) ∧ Cl w1 b 1 0 0 y (.func (.func k) first #[]) v0 ∧ R v w1) :
    Calls Try.prog 30 #[.pointer (some ⟨b, 0, none⟩)] w fun e w' => ∃ v, e = .returned v ∧ (∃ y, Cl w' b 0 1 1 y .nilFunc v) ∧ ∃ w1, R v w1 ∧ w1.grownBy w' (some b) := by
  refine (get_first w b asked _ v0 (fun v w2 => ∃ w1, R v w1 ∧ w1.grownBy w2 (some b)) h fun W y hg hW => ?_).mono ?_
  · exact fill_any k first he W b y v0 R hW (hk W y hg hW)
  · rintro e w' ⟨v, rfl, h2, w2, ⟨w1, h3, h4⟩, h5⟩
    exact ⟨v, rfl, h2, w1, h3, grown_trans h4 h5⟩
theorem cl_new (w : World) (fn : Value) : Cl (w.alloc (.cells #[.int .u32 0, .int .i32 0, .int .u32 0, .int .u32 0, .int .i64 0, fn, .slice none 0 0] 78)) w.heap.size 0 0 0 0 fn (.slice none 0 0) := heap_alloc_new _ _
end Go.Proofs.Ytndifinjdheceaa
