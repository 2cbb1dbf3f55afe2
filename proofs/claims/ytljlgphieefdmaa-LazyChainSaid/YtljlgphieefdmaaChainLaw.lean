/- Exclusive or of numbers of 64 bits: the plain law of LazyChain. No statement of the seat is proved here. -/
import Derived.Test.YtljlgphieefdmaaAux3
import Derived.OpenShut
namespace Go.Proofs.Ytljlgphieefdmaa
set_option linter.unusedVariables false
set_option linter.unusedSimpArgs false
set_option linter.unusedSectionVars false
open Go Go.RowKit

def toI (r : BitVec 64) : Int := IntKind.i64.wrap (r.toNat : Int)
theorem toI_eq (r : BitVec 64) : toI r = r.toInt := by
  unfold toI
  have h := r.isLt
  have e1 : (IntKind.i64).bits = 64 := rfl
  have e2 : (IntKind.i64).signed = true := rfl
  rw [BitVec.toInt_eq_toNat_cond]
  unfold IntKind.wrap
  rw [e1, e2]
  simp only [Bool.true_and, decide_eq_true_eq]
  have e3 : (2 : Int) ^ 64 = 18446744073709551616 := by decide
  have e4 : (2 : Int) ^ (64 - 1) = 9223372036854775808 := by decide
  have e5 : (2 : Nat) ^ 64 = 18446744073709551616 := by decide
  rw [e3, e4, e5]
  rw [e5] at h
  split <;> split <;> omega
theorem of_toI (r : BitVec 64) : BitVec.ofInt 64 (toI r) = r := by
  rw [toI_eq]; exact BitVec.ofInt_toInt
theorem bits_xor (x y : Int) : bits .xor .i64 x y = toI (BitVec.ofInt 64 x ^^^ BitVec.ofInt 64 y) := rfl
/-- the exclusive or of the first k -/
def xs (l : List Int) (k : Nat) : BitVec 64 := (l.take k).foldl (fun r x => r ^^^ BitVec.ofInt 64 x) 0#64
def val (l : List Int) (k : Nat) : Int := toI (xs l k)
theorem xs_succ (l : List Int) (k : Nat) (hk : k < l.length) : xs l (k + 1) = xs l k ^^^ BitVec.ofInt 64 l[k] := by
  unfold xs
  rw [List.take_succ_eq_append_getElem hk, List.foldl_append]
  rfl
theorem val_zero (l : List Int) : val l 0 = 0 := by unfold val xs; simp; decide
theorem val_step (l : List Int) (k : Nat) (hk : k < l.length) : bits .xor .i64 (val l k) l[k] = val l (k + 1) := by
  rw [bits_xor]; unfold val; rw [of_toI, xs_succ l k hk]
theorem val_back (l : List Int) (k : Nat) (hk : k < l.length) : bits .xor .i64 l[k] (val l k) = val l (k + 1) := by
  rw [bits_xor]; unfold val; rw [of_toI, xs_succ l k hk, BitVec.xor_comm]
theorem val_one (l : List Int) (h : 0 < l.length) (hw : (Lit.int .i64 l[0]).wf = true) : val l 1 = l[0] := by
  unfold val
  rw [xs_succ l 0 h, toI_eq]
  have h0 : xs l 0 = 0#64 := rfl
  rw [h0, BitVec.zero_xor, BitVec.toInt_ofInt]
  have hb : -9223372036854775808 ≤ l[0] ∧ l[0] ≤ 9223372036854775807 := Go.bounds_i64 hw
  rw [Int.bmod_def]
  have e5 : ((2 ^ 64 : Nat) : Int) = 18446744073709551616 := by decide
  rw [e5]
  split <;> omega
end Go.Proofs.Ytljlgphieefdmaa
