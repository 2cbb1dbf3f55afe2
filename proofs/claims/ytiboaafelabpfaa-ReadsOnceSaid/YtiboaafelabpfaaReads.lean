/- Contracts of package reads: none, New, Begin, Round, Len, Confirm. No statement of the seat is proved here. -/
import Derived.Test.YtiboaafelabpfaaAux3
import Derived.WalkLawsBesides
import Derived.BigQuiet
import Derived.Deep.QuietTactic
import Derived.RegionTactic
import Derived.BigRegion
import Derived.Deep.RegionWith
import Derived.Deep.RegionLaw
import Derived.Deep.DeepCutAuto
namespace Go.Proofs.Ytiboaafelabpfaa
set_option linter.unusedVariables false
set_option linter.unusedSimpArgs false
set_option linter.unusedSectionVars false
open Go Go.RowKit

theorem set_int {w : World} {a : Addr} {k : IntKind} {x y : Int} (h : x = y) : w.setCell a (.int k x) = w.setCell a (.int k y) := by rw [h]

/-- a queue at block b -/
def Q (w : World) (b : Nat) (made : Bool) (begun sure : Int) (ao : Option Addr) (n cap : Nat) : Prop :=
  w.heap[b]? = some (.cells #[.bool made, .int .u64 begun, .int .u64 sure, .slice ao n cap] 56 (0, 0))

theorem none_nil (w : World) : Calls Try.prog 21 #[.pointer none] w fun e w' => e = .returned (.bool true) ∧ w = w' := by
  go_enter Try.func21, Try.ntmps21
  go_wp2
  go_ret
  exact ⟨rfl, rfl⟩
theorem none_at (w : World) (b : Nat) (made : Bool) (begun sure : Int) (ao : Option Addr) (n cap : Nat) (h : Q w b made begun sure ao n cap) :
    Calls Try.prog 21 #[.pointer (some ⟨b, 0, none⟩)] w fun e w' => e = .returned (.bool (!made)) ∧ w = w' := by
  have c0 := block_cell h 0
  simp at c0
  go_enter Try.func21, Try.ntmps21
  go_wp2
  go_ret
  exact ⟨rfl, rfl⟩

theorem new_any (w : World) : Calls Try.prog 7 #[] w fun e w' => e = .returned (.pointer (some ⟨w.heap.size, 0, none⟩)) ∧ Q w' w.heap.size true 0 0 none 0 0 ∧ Below w.heap.size w w' := by
  go_enter Try.func7, Try.ntmps7
  go_wp2
  go_ret
  exact ⟨rfl, heap_alloc_new _ _, below_new _ _⟩

theorem round_nil (w : World) : Calls Try.prog 19 #[.pointer none] w fun e w' => e = .returned (.int .u64 0) ∧ w = w' := by
  go_enter Try.func19, Try.ntmps19
  go_wp2_with (go_at_call 21; refine (none_nil _).mono ?_; rintro e w1 ⟨rfl, rfl⟩)
  go_ret
  exact ⟨rfl, rfl⟩
theorem round_at (w : World) (b : Nat) (made : Bool) (begun sure : Int) (ao : Option Addr) (n cap : Nat) (h : Q w b made begun sure ao n cap) :
    Calls Try.prog 19 #[.pointer (some ⟨b, 0, none⟩)] w fun e w' => e = .returned (.int .u64 (bif made then begun else 0)) ∧ w = w' := by
  have c1 := block_cell h 1
  simp at c1
  cases made
  all_goals
    go_enter Try.func19, Try.ntmps19
    go_wp2_with (go_at_call 21; refine (none_at _ b _ _ _ _ _ _ h).mono ?_; rintro e w1 ⟨rfl, rfl⟩)
    go_ret
    exact ⟨rfl, rfl⟩
theorem len_nil (w : World) : Calls Try.prog 20 #[.pointer none] w fun e w' => e = .returned (.int .i64 0) ∧ w = w' := by
  go_enter Try.func20, Try.ntmps20
  go_wp2_with (go_at_call 21; refine (none_nil _).mono ?_; rintro e w1 ⟨rfl, rfl⟩)
  go_ret
  exact ⟨rfl, rfl⟩
theorem len_at (w : World) (b : Nat) (made : Bool) (begun sure : Int) (ao : Option Addr) (n cap : Nat) (h : Q w b made begun sure ao n cap) :
    Calls Try.prog 20 #[.pointer (some ⟨b, 0, none⟩)] w fun e w' => e = .returned (.int .i64 (bif made then (n : Int) else 0)) ∧ w = w' := by
  have c3 := block_cell h 3
  simp at c3
  cases made
  all_goals
    go_enter Try.func20, Try.ntmps20
    go_wp2_with (go_at_call 21; refine (none_at _ b _ _ _ _ _ _ h).mono ?_; rintro e w1 ⟨rfl, rfl⟩)
    go_ret
    exact ⟨rfl, rfl⟩

theorem begin_nil (w : World) : Calls Try.prog 9 #[.pointer none] w fun e w' => e = .returned (.int .u64 0) ∧ w = w' := by
  go_enter Try.func9, Try.ntmps9
  go_wp2_with (go_at_call 21; refine (none_nil _).mono ?_; rintro e w1 ⟨rfl, rfl⟩)
  go_ret
  exact ⟨rfl, rfl⟩
theorem begin_not (w : World) (b : Nat) (begun sure : Int) (ao : Option Addr) (n cap : Nat) (h : Q w b false begun sure ao n cap) :
    Calls Try.prog 9 #[.pointer (some ⟨b, 0, none⟩)] w fun e w' => e = .returned (.int .u64 0) ∧ w = w' := by
  go_enter Try.func9, Try.ntmps9
  go_wp2_with (go_at_call 21; refine (none_at _ b _ _ _ _ _ _ h).mono ?_; rintro e w1 ⟨rfl, rfl⟩)
  go_ret
  exact ⟨rfl, rfl⟩
set_option maxHeartbeats 400000 in
theorem begin_at (w : World) (b : Nat) (begun sure : Int) (ao : Option Addr) (n cap : Nat) (h : Q w b true begun sure ao n cap) (h0 : 0 ≤ begun) (h1 : begun ≤ 1152921504606846976) :
    Calls Try.prog 9 #[.pointer (some ⟨b, 0, none⟩)] w fun e w' => e = .returned (.int .u64 (min (begun + 1) 1152921504606846976)) ∧ w' = w.setCell ⟨b, 1, none⟩ (.int .u64 (min (begun + 1) 1152921504606846976)) := by
  have c1 := block_cell h 1
  have f1 := block_free h 1
  simp at c1
  go_enter Try.func9, Try.ntmps9
  go_wp2_with (go_at_call 21; refine (none_at _ b _ _ _ _ _ _ h).mono ?_; rintro e w1 ⟨rfl, rfl⟩)
  all_goals
    go_ret
    exact ⟨ret_int (by omega), set_int (by omega)⟩

theorem confirm_nil (w : World) (r : Int) : Calls Try.prog 11 #[.pointer none, .int .u64 r] w fun e w' => e = .returned (.tuple #[]) ∧ w = w' := by
  go_enter Try.func11, Try.ntmps11
  go_wp2_with (go_at_call 21; refine (none_nil _).mono ?_; rintro e w1 ⟨rfl, rfl⟩)
  go_end0
  exact ⟨rfl, rfl⟩
theorem confirm_not (w : World) (b : Nat) (begun sure r : Int) (ao : Option Addr) (n cap : Nat) (h : Q w b false begun sure ao n cap) :
    Calls Try.prog 11 #[.pointer (some ⟨b, 0, none⟩), .int .u64 r] w fun e w' => e = .returned (.tuple #[]) ∧ w = w' := by
  go_enter Try.func11, Try.ntmps11
  go_wp2_with (go_at_call 21; refine (none_at _ b _ _ _ _ _ _ h).mono ?_; rintro e w1 ⟨rfl, rfl⟩)
  go_end0
  exact ⟨rfl, rfl⟩
set_option maxHeartbeats 400000 in
theorem confirm_at (w : World) (b : Nat) (begun sure r : Int) (ao : Option Addr) (n cap : Nat) (h : Q w b true begun sure ao n cap) :
    Calls Try.prog 11 #[.pointer (some ⟨b, 0, none⟩), .int .u64 r] w fun e w' => e = .returned (.tuple #[]) ∧ Q w' b true begun (max sure (min r begun)) ao n cap ∧ w.grownBy w' (some b) := by
  have c1 := block_cell h 1
  have c2 := block_cell h 2
  have f2 := block_free h 2
  simp at c1 c2
  have fin : ∀ x : Int, x = max sure (min r begun) → Q ((w.setCell ⟨b, 2, none⟩ (.int .u64 x)).drew) b true begun (max sure (min r begun)) ao n cap ∧ w.grownBy ((w.setCell ⟨b, 2, none⟩ (.int .u64 x)).drew) (some b) := by
    intro x hx
    have := block_set h 2 (.int .u64 x)
    rw [hx] at this ⊢
    have hg := grown_set w b 2 (.int .u64 (max sure (min r begun)))
    exact ⟨this, ⟨hg.os, hg.tape, hg.output, hg.size, hg.block⟩⟩
  have Fin := Lib.hid fin
  clear fin
  rcases Int.le_total r begun with h1 | h1 <;> rcases Int.le_total sure (min r begun) with h2 | h2
  all_goals
    go_enter Try.func11, Try.ntmps11
    go_wp2_with (go_at_call 21; refine (none_at _ b _ _ _ _ _ _ h).mono ?_; rintro e w1 ⟨rfl, rfl⟩)
    go_region
    all_goals
      go_end0
      exact ⟨rfl, Fin.out _ (by omega)⟩

/-- a read, as the program's -/
structure Rd where
  id : Int
  index : Int
  round : Int
def rdCells (r : Rd) : List Value := [.int .u64 r.id, .int .u64 r.index, .int .u64 r.round]
theorem rd_each (l : List Rd) : ∀ r ∈ l.map rdCells, r.length = 3 := by
  intro r hr
  obtain ⟨x, _, rfl⟩ := List.mem_map.1 hr
  rfl
theorem rd_one (r : Rd) : ∀ u ∈ rdCells r, u.oneCell' = true := by
  intro u hu
  simp only [rdCells, List.mem_cons, List.not_mem_nil, or_false] at hu
  rcases hu with rfl | rfl | rfl <;> rfl
theorem infoRd : (Try.prog.info? 53).map (fun i => (i.zero, i.size, i.bytes)) = some (some (.agg #[.int .u64 0, .int .u64 0, .int .u64 0]), 3, 24) := by kernel_rfl

/-- what waits, read from the queue -/
def Wait (w : World) (ao : Option Addr) (cap : Nat) (l : List Rd) : Prop := Rw w 53 3 ao l.length cap (l.map rdCells)

theorem Wait.get {w : World} {ao : Option Addr} {cap : Nat} {l : List Rd} (h : Wait w ao cap l) (k : Nat) (hk : k < l.length) :
    ∃ b off, ao = some ⟨b, off, none⟩ ∧ w.cell? ⟨b, off + k * 3, none⟩ = some (.int .u64 l[k].id) ∧ w.cell? ⟨b, off + k * 3 + 1, none⟩ = some (.int .u64 l[k].index) ∧ w.cell? ⟨b, off + k * 3 + 2, none⟩ = some (.int .u64 l[k].round) := by
  obtain ⟨b, off, e, hc⟩ := Rw.get h (by decide) k hk
  simp only [List.getElem_map] at hc
  exact ⟨b, off, e, hc 0 (by simp [rdCells]), hc 1 (by simp [rdCells]), hc 2 (by simp [rdCells])⟩

theorem ask_nil (w : World) (x y : Int) : Calls Try.prog 18 #[.pointer none, .int .u64 x, .int .u64 y] w fun e w' => e = .returned (.tuple #[.int .u64 0, .int .i64 1]) ∧ w = w' := by
  go_enter Try.func18, Try.ntmps18
  go_wp2_with (go_at_call 21; refine (none_nil _).mono ?_; rintro e w1 ⟨rfl, rfl⟩)
  go_ret2
  exact ⟨rfl, rfl⟩
theorem ask_not (w : World) (b : Nat) (begun sure x y : Int) (ao : Option Addr) (n cap : Nat) (h : Q w b false begun sure ao n cap) :
    Calls Try.prog 18 #[.pointer (some ⟨b, 0, none⟩), .int .u64 x, .int .u64 y] w fun e w' => e = .returned (.tuple #[.int .u64 0, .int .i64 1]) ∧ w = w' := by
  go_enter Try.func18, Try.ntmps18
  go_wp2_with (go_at_call 21; refine (none_at _ b _ _ _ _ _ _ h).mono ?_; rintro e w1 ⟨rfl, rfl⟩)
  go_ret2
  exact ⟨rfl, rfl⟩
theorem ask_full (w : World) (b : Nat) (begun sure x y : Int) (ao : Option Addr) (n cap : Nat) (h : Q w b true begun sure ao n cap) (hn : 32 ≤ n) :
    Calls Try.prog 18 #[.pointer (some ⟨b, 0, none⟩), .int .u64 x, .int .u64 y] w fun e w' => e = .returned (.tuple #[.int .u64 0, .int .i64 30]) ∧ w = w' := by
  have c3 := block_cell h 3
  simp at c3
  go_enter Try.func18, Try.ntmps18
  go_wp2_with (go_at_call 21; refine (none_at _ b _ _ _ _ _ _ h).mono ?_; rintro e w1 ⟨rfl, rfl⟩)
  go_ret2
  exact ⟨rfl, rfl⟩
theorem ask_big (w : World) (b : Nat) (begun sure x y : Int) (ao : Option Addr) (n cap : Nat) (h : Q w b true begun sure ao n cap) (hn : n < 32) (hg : 1152921504606846976 ≤ begun) :
    Calls Try.prog 18 #[.pointer (some ⟨b, 0, none⟩), .int .u64 x, .int .u64 y] w fun e w' => e = .returned (.tuple #[.int .u64 0, .int .i64 10]) ∧ w = w' := by
  have c3 := block_cell h 3
  have c1 := block_cell h 1
  simp at c3 c1
  go_enter Try.func18, Try.ntmps18
  go_wp2_with (go_at_call 21; refine (none_at _ b _ _ _ _ _ _ h).mono ?_; rintro e w1 ⟨rfl, rfl⟩)
  go_ret2
  exact ⟨rfl, rfl⟩
end Go.Proofs.Ytiboaafelabpfaa
