/- What Open answers, way by way. -/
import Derived.Test.YtlphpjgiaflfkaaCrcC
namespace Go.Proofs.Ytlphpjgiaflfkaa
set_option linter.unusedVariables false
set_option linter.unusedSimpArgs false
set_option linter.unusedSectionVars false
open Go Go.RowKit

theorem open_yes (ao : Option Addr) (cap : Nat) (l l' : List UInt8) (w : World) (hl : l.length ≤ 70000000000000) (hb : Bs w ao cap l) (h : Crc.opened l = some l') :
    Calls Try.prog 106 #[.slice ao l.length cap] w fun e w' => ∃ ao' cap', e = .returned (.tuple #[.slice ao' l'.length cap', .bool true]) ∧ Fresh w w' ao' cap' l' := by
  refine (open_any ao cap l w hl hb).mono fun e w' h' => ?_
  unfold OpenIs at h'
  rw [h] at h'
  exact h'
theorem open_none (ao : Option Addr) (cap : Nat) (l : List UInt8) (w : World) (hl : l.length ≤ 70000000000000) (hb : Bs w ao cap l) (h : Crc.opened l = none) :
    Calls Try.prog 106 #[.slice ao l.length cap] w fun e w' => e = .returned (.tuple #[.slice none 0 0, .bool false]) ∧ Below w.heap.size w w' := by
  refine (open_any ao cap l w hl hb).mono fun e w' h' => ?_
  unfold OpenIs at h'
  rw [h] at h'
  exact h'
end Go.Proofs.Ytlphpjgiaflfkaa
