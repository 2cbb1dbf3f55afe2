/- slots: what the laid table gives a walk. No statement of the seat is proved here. -/
import Derived.Test.YtadghaiengonoaaDoorVc
import Derived.ProofKit
import Derived.LaidMore
import Derived.OpenShut
import Derived.Stop.Joined
namespace Go.Proofs.YtadghaiengonoaaDoor
set_option linter.unusedVariables false
set_option linter.unusedSimpArgs false
set_option linter.unusedSectionVars false
open Go Go.ChangeShapes Go.WideShapes Go.ChangeAt Go.RowKit

abbrev laidT : List (String × DataW Unit) := [("math/bits.deBruijn64tab", Rows.laid_math_bits_deBruijn64tab)]
theorem gTab : Tryd.prog.globalNamed "math/bits.deBruijn64tab" = some 0 := by kernel_rfl
theorem tTab : (Tryd.prog.globals[0]?).map (·.type) = some 84 := by kernel_rfl
theorem door_met (os : Os) (args : Array Value) : laidMetH Tryd.prog laidT ((World.doorLaid Tryd.prog 400 os).forCall (fun _ _ => 0) ⟨#[], args, []⟩).memory :=
  laidMetH_of_parts3 (fuel := 8) (laidMet_of_run' 8 (by kernel_rfl) (by kernel_rfl)) (by kernel_rfl) (by kernel_rfl)
theorem tab_datum : (Rows.laid_math_bits_deBruijn64tab : DataW Unit) = .agg (tabL.map fun n => .lit (.int .u8 ((n : Nat) : Int))) := by kernel_rfl
theorem of_tab {W : World} (h : laidMetH Tryd.prog laidT W) : Tab W := by
  rw [MakeChecks.laidMetH_plain _ _ _ (by kernel_rfl)] at h
  obtain ⟨ps, ⟨g0, t0, cs0, f0, p0, q0, hg0, ht0, hv0, hd0, _, _⟩, _, _⟩ := h
  obtain rfl := Option.some.inj (gTab.symm.trans hg0)
  obtain rfl := Option.some.inj (tTab.symm.trans ht0)
  obtain ⟨xs, m, rfl, hx, hlen, hxl, hel⟩ := DataW.trod_array Tryd.underlying84 hd0
  have c1 : Tryd.prog.cellsOf 5 = 1 := by kernel_rfl
  rw [tab_datum] at hx
  simp only [Prod.mk.injEq, DataW.agg.injEq] at hx
  have hl64 : tabL.length = 64 := rfl
  intro k hk
  have hk64 : k < 64 := by rw [← hl64]; exact hk
  have hkx : k < xs.length := by rw [hxl]; exact hk64
  have h1 := hel k hk64
  rw [c1, List.getElem?_eq_getElem hkx] at h1
  obtain ⟨n, e1, e2, _⟩ := DataW.trod_int Tryd.underlying5 h1
  have h2 : (xs.map (·.1))[k]'(by simpa using hkx) = xs[k].1 := by simp
  have h3 : (tabL.map fun n => (DataW.lit (.int .u8 ((n : Nat) : Int)) : DataW Unit))[k]'(by simpa using hk) = .lit (.int .u8 ((tabL[k] : Nat) : Int)) := by rw [List.getElem_map]; rfl
  have h4 : xs[k].1 = .lit (.int .u8 ((tabL[k] : Nat) : Int)) := by
    rw [← h2, ← h3]
    congr 1
    exact hx.1.symm
  rw [e2] at h4
  simp only [DataW.lit.injEq, Lit.int.injEq, true_and] at h4
  have h5 := World.var?_cell hg0 hv0 k
  rw [h5, ← Array.getElem?_toList]
  rw [Nat.mul_one] at e1
  have h6 : cs0.toList[k]? = (List.take 1 (List.drop k cs0.toList))[0]? := by
    rw [List.getElem?_take]; simp
  rw [h6, e1]
  have h7 : some (Value.int .u8 n) = some (Value.int .u8 ((tabL[k] : Nat) : Int)) := congrArg (fun z => some (Value.int .u8 z)) h4
  exact h7
end Go.Proofs.YtadghaiengonoaaDoor
