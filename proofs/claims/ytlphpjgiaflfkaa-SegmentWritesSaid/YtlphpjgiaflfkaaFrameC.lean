/- The example of the chapter on frames (lives). No statement of the seat is proved here. -/
import Derived.Test.YtlphpjgiaflfkaaFrameB
namespace Go.Proofs.Ytlphpjgiaflfkaa
set_option linter.unusedVariables false
set_option linter.unusedSimpArgs false
set_option linter.unusedSectionVars false
open Go Go.RowKit

def letterA : List UInt8 := [97]
theorem wrapA : Fr.wrapped 1 letterA = [102, 1, 0, 0, 1, 97, 216, 112, 30] := by decide +kernel

theorem wrap_one (ao : Option Addr) (cap : Nat) (l : List UInt8) (w : World) (hb : Bs w ao cap l) (hl : l.length ≤ 65536) :
    Calls Try.prog 67 #[.int .u8 1, .slice ao l.length cap] w fun e w' => ∃ ao' cap', e = .returned (.tuple #[.slice ao' (Fr.wrapped 1 l).length cap', .int .i64 0]) ∧ Fresh w w' ao' cap' (Fr.wrapped 1 l) :=
  wrap_ok 1 ao cap l w hb (by decide) hl

theorem take_is (ao : Option Addr) (cap : Nat) (l : List UInt8) (w : World) (hl : l.length ≤ 70000000000000) (hb : Bs w ao cap l) (k : UInt8) (body : List UInt8) (n err : Nat) (h : Fr.take l = ⟨k, body, n, err⟩) :
    Calls Try.prog 81 #[.slice ao l.length cap] w fun e w' => ∃ ab cb, e = .returned (.tuple #[.int .u8 (k.toNat : Nat), .slice ab body.length cb, .int .i64 (n : Nat), .int .i64 (err : Nat)]) ∧ Bs w' ab cb body ∧ Below w.heap.size w w' := by
  refine (take_any ao cap l w hl hb).mono fun e w' h' => ?_
  unfold TakeIs at h'
  rw [h] at h'
  exact h'

theorem u8_of (k : Int) (h0 : 0 ≤ k) (h1 : k ≤ 255) : ∃ c : UInt8, k = (c.toNat : Int) := by
  refine ⟨UInt8.ofNat k.toNat, ?_⟩
  simp only [UInt8.toNat_ofNat', Nat.reducePow]
  omega
end Go.Proofs.Ytlphpjgiaflfkaa
