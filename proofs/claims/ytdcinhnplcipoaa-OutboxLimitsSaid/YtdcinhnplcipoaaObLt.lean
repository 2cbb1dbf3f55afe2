/- Contract of the law's Light. No statement of the seat is proved here. -/
import Derived.Test.YtdcinhnplcipoaaObPd
namespace Go.Proofs.Ytdcinhnplcipoaa
set_option linter.unusedVariables false
set_option linter.unusedSimpArgs false
set_option linter.unusedSectionVars false
open Go Go.RowKit Go.Shelf

theorem light_any (last : Int) (ao : Option Addr) (n cap : Nat) (w : World) :
    Calls Try.prog 18 #[.agg #[.int .u64 last, .slice ao n cap]] w fun e w' => e = .returned (.bool (decide ((n : Int) ≤ 200))) ∧ Below w.heap.size w w' := by
  by_cases h : (n : Int) ≤ 200
  · have HR := Lib.hid (show decide ((n : Int) ≤ 200) = true by simpa using h)
    go_enter Try.func18, Try.ntmps18
    go_wp2_with fail
    go_ret
    exact ⟨ret_bool HR.out.symm, below_new _ _⟩
  · have HR := Lib.hid (show decide ((n : Int) ≤ 200) = false by simpa using h)
    have h2 : (200 : Int) < (n : Int) := by omega
    go_enter Try.func18, Try.ntmps18
    go_wp2_with fail
    go_ret
    exact ⟨ret_bool HR.out.symm, below_new _ _⟩
end Go.Proofs.Ytdcinhnplcipoaa
