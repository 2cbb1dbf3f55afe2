/- SlotsNobody: the walk. No statement of the seat is proved here. -/
import Derived.Test.YtadghaiengonoaaDoorVc
import Derived.Test.YtadghaiengonoaaDoorOpenT
namespace Go.Proofs.YtadghaiengonoaaDoor
set_option linter.unusedVariables false
open Go Go.RowKit
theorem slotsNobody_walk (s : Int) (t : Th) (W : World) (hT : Tab W) (h1 : -9223372036854775808 ≤ s) (h2 : s ≤ 9223372036854775807) (hok : ThOk t) : Calls Tryd.prog 5 #[.int .i64 s, thVal t] W fun e W' => e = .returned (.bool true) ∧ Below W.heap.size W W' :=
  slotsNobody_run W s t hT
end Go.Proofs.YtadghaiengonoaaDoor
