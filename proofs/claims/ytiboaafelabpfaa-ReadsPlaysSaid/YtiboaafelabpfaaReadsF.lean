/- The reference of reads: Begin, Confirm, Same, Ask's refusals. No statement of the seat is proved here. -/
import Derived.Test.YtiboaafelabpfaaReadsE
namespace Go.Proofs.Ytiboaafelabpfaa
set_option linter.unusedVariables false
set_option linter.unusedSimpArgs false
set_option linter.unusedSectionVars false
open Go Go.RowKit

/-- the reference's queue, a value -/
def RQ (begun sure : Int) (ao : Option Addr) (n cap : Nat) : Value := .agg #[.int .u64 begun, .int .u64 sure, .slice ao n cap]
/-- the reference's reads -/
def RW (w : World) (ao : Option Addr) (cap : Nat) (l : List Rd) : Prop := Rw w 59 3 ao l.length cap (l.map rdCells)
theorem RW.get {w : World} {ao : Option Addr} {cap : Nat} {l : List Rd} (h : RW w ao cap l) (k : Nat) (hk : k < l.length) :
    ∃ b off, ao = some ⟨b, off, none⟩ ∧ w.cell? ⟨b, off + k * 3, none⟩ = some (.int .u64 l[k].id) ∧ w.cell? ⟨b, off + k * 3 + 1, none⟩ = some (.int .u64 l[k].index) ∧ w.cell? ⟨b, off + k * 3 + 2, none⟩ = some (.int .u64 l[k].round) := by
  obtain ⟨b, off, e, hc⟩ := Rw.get h (by decide) k hk
  simp only [List.getElem_map] at hc
  exact ⟨b, off, e, hc 0 (by simp [rdCells]), hc 1 (by simp [rdCells]), hc 2 (by simp [rdCells])⟩

theorem below_set_new {w W : World} {b i : Nat} {u : Value} (h : Below w.heap.size w W) (hb : w.heap.size ≤ b) : Below w.heap.size w (W.setCell ⟨b, i, none⟩ u) :=
  below_grown h (grown_set W b i u) hb h.size

theorem below_two (w : World) (o1 o2 : Obj) (n : Nat) : Below w.heap.size w (World.drewN ((w.alloc o1).alloc o2) n) := below_drewN (below_on (below_new _ _) (below_new _ _) (by simp)) n

set_option maxHeartbeats 1000000 in
theorem rbegin_at (w : World) (begun sure : Int) (ao : Option Addr) (n cap : Nat) (h0 : 0 ≤ begun) (h1 : begun ≤ 1152921504606846976) :
    Calls Try.prog 8 #[RQ begun sure ao n cap] w fun e w' => e = .returned (.tuple #[RQ (min (begun + 1) 1152921504606846976) sure ao n cap, .int .u64 (min (begun + 1) 1152921504606846976)]) ∧ Below w.heap.size w w' := by
  unfold RQ
  by_cases hlt : begun < 1152921504606846976
  · have e1 : min (begun + 1) 1152921504606846976 = begun + 1 := by omega
    rw [e1]
    clear e1
    go_enter Try.func8, Try.ntmps8
    go_wp2
    go_region
    go_wp2
    refine bodyPost_ret (v := .tuple #[RQ (begun + 1) sure ao n cap, .int .u64 (begun + 1)]) ?_ rfl ?_
    · simp [results, Try.results8, go_sem, RQ]
    · exact ⟨rfl, below_two _ _ _ 1⟩
  · have e1 : min (begun + 1) 1152921504606846976 = begun := by omega
    rw [e1]
    clear e1
    go_enter Try.func8, Try.ntmps8
    go_wp2
    go_region
    go_wp2
    refine bodyPost_ret (v := .tuple #[RQ begun sure ao n cap, .int .u64 begun]) ?_ rfl ?_
    · simp [results, Try.results8, go_sem, RQ]
    · exact ⟨rfl, below_two _ _ _ 1⟩

set_option maxHeartbeats 1000000 in
theorem rconfirm_at (w : World) (begun sure r : Int) (ao : Option Addr) (n cap : Nat) :
    Calls Try.prog 10 #[RQ begun sure ao n cap, .int .u64 r] w fun e w' => e = .returned (RQ begun (max sure (min r begun)) ao n cap) ∧ Below w.heap.size w w' := by
  unfold RQ
  obtain ⟨x, hx⟩ : ∃ x, x = max sure (min r begun) := ⟨_, rfl⟩
  by_cases h1 : begun < r
  all_goals by_cases h2 : sure < min r begun
  all_goals
    go_enter Try.func10, Try.ntmps10
    go_wp2
    refine bodyPost_ret (v := RQ begun x ao n cap) ?_ rfl ?_
    · simp [results, Try.results10, go_sem, RQ]
      try omega
    · exact ⟨by rw [hx, RQ], below_two _ _ _ 0⟩

theorem rask_full (w : World) (begun sure x y : Int) (ao : Option Addr) (n cap : Nat) (hn : 32 ≤ n) :
    Calls Try.prog 17 #[RQ begun sure ao n cap, .int .u64 x, .int .u64 y] w fun e w' => e = .returned (.tuple #[RQ begun sure ao n cap, .int .u64 0, .int .i64 30]) ∧ Below w.heap.size w w' := by
  unfold RQ
  go_enter Try.func17, Try.ntmps17
  go_wp2
  refine bodyPost_ret (v := .tuple #[RQ begun sure ao n cap, .int .u64 0, .int .i64 30]) ?_ rfl ?_
  · simp [results, Try.results17, go_sem, RQ]
  · exact ⟨rfl, below_two _ _ _ 0⟩
theorem rask_big (w : World) (begun sure x y : Int) (ao : Option Addr) (n cap : Nat) (hn : n < 32) (hg : 1152921504606846976 ≤ begun) :
    Calls Try.prog 17 #[RQ begun sure ao n cap, .int .u64 x, .int .u64 y] w fun e w' => e = .returned (.tuple #[RQ begun sure ao n cap, .int .u64 0, .int .i64 10]) ∧ Below w.heap.size w w' := by
  unfold RQ
  go_enter Try.func17, Try.ntmps17
  go_wp2
  refine bodyPost_ret (v := .tuple #[RQ begun sure ao n cap, .int .u64 0, .int .i64 10]) ?_ rfl ?_
  · simp [results, Try.results17, go_sem, RQ]
  · exact ⟨rfl, below_two _ _ _ 0⟩

set_option maxHeartbeats 1000000 in
theorem rsame_eq (w : World) (a1 a2 : Option Addr) (c1 c2 : Nat) (l : List Rd) (h1 : RW w a1 c1 l) (h2 : RW w a2 c2 l) (hn : l.length ≤ 1000) :
    Calls Try.prog 13 #[.slice a1 l.length c1, .slice a2 l.length c2] w fun e w' => e = .returned (.bool true) ∧ Below w.heap.size w w' := by
  go_enter Try.func13, Try.ntmps13
  have hmx := h1.sl.max
  have hle := h1.sl.le
  go_wp2
  go_loopw [5] (fun i wr => ∃ k : Nat, k ≤ l.length ∧ i = .int .i64 k ∧ Below w.heap.size w wr) (fun i _ => l.length - (intOf i).toNat)
  case atStart => exact ⟨0, by omega, rfl, Below.refl _ _⟩
  case round =>
    obtain ⟨k, hk, rfl, hB⟩ := hrel
    by_cases hlt : k < l.length
    · obtain ⟨b1, o1, rfl, d0, d1, d2⟩ := RW.get (Rw.below h1 hB) k hlt
      obtain ⟨b2, o2, rfl, e0, e1, e2⟩ := RW.get (Rw.below h2 hB) k hlt
      go_wp2
      go_quiet (fail)
      go_wp2
      go_roundw
      case rel => exact ⟨k + 1, by omega, by go_num, below_drewN hB _⟩
      case measure => simp [intOf]; omega
    · obtain rfl : k = l.length := by omega
      go_wp2
      go_ret
      exact ⟨rfl, hB⟩
end Go.Proofs.Ytiboaafelabpfaa
