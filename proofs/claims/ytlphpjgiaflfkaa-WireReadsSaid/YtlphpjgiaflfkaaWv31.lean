/- Lemmas for WireReads (Nl). No statement of the seat is proved here. -/
import Derived.Test.YtlphpjgiaflfkaaWv29
import Derived.Test.YtlphpjgiaflfkaaWv30
namespace Go.Proofs.Ytlphpjgiaflfkaa
set_option linter.unusedVariables false
set_option linter.unusedSimpArgs false
set_option linter.unusedSectionVars false
open Go Go.RowKit Go.Shelf
theorem refMsgRead_any (ao : Option Addr) (cap : Nat) (l : List UInt8) (w : World) (hb : Bs w ao cap l) (hl : l.length ≤ 70000000000000) :
    Calls Try.prog 38 #[.slice ao l.length cap] w (MsgTold (wireR 6 l) w) := by
  by_cases h : wholeF 5 l
  · cases hr : (wireR 6 l).2 with
    | true => exact refMsgRead_true ao cap l w hb hl h hr
    | false => exact refMsgRead_false ao cap l w hb hl h hr
  · exact refMsgRead_no ao cap l w hb hl h
end Go.Proofs.Ytlphpjgiaflfkaa
