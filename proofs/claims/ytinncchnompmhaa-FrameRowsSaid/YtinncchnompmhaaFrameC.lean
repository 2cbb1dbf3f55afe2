/- The example of the chapter on frames (lives). No statement of the seat is proved here. -/
import Derived.Test.YtinncchnompmhaaFrameB
namespace Go.Proofs.Ytinncchnompmhaa
set_option linter.unusedVariables false
set_option linter.unusedSimpArgs false
set_option linter.unusedSectionVars false
open Go Go.RowKit

def letterA : List UInt8 := [97]
theorem wrapA : Fr.wrapped 1 letterA = [102, 1, 0, 0, 1, 97, 216, 112, 30] := by decide +kernel

theorem wrap_one (ao : Option Addr) (cap : Nat) (l : List UInt8) (w : World) (hb : Bs w ao cap l) (hl : l.length ≤ 65536) :
    Calls Try.prog 23 #[.int .u8 1, .slice ao l.length cap] w fun e w' => ∃ ao' cap', e = .returned (.tuple #[.slice ao' (Fr.wrapped 1 l).length cap', .int .i64 0]) ∧ Fresh w w' ao' cap' (Fr.wrapped 1 l) :=
  wrap_ok 1 ao cap l w hb (by decide) hl

theorem take_is (ao : Option Addr) (cap : Nat) (l : List UInt8) (w : World) (hl : l.length ≤ 70000000000000) (hb : Bs w ao cap l) (k : UInt8) (body : List UInt8) (n err : Nat) (h : Fr.take l = ⟨k, body, n, err⟩) :
    Calls Try.prog 25 #[.slice ao l.length cap] w fun e w' => ∃ ab cb, e = .returned (.tuple #[.int .u8 (k.toNat : Nat), .slice ab body.length cb, .int .i64 (n : Nat), .int .i64 (err : Nat)]) ∧ Bs w' ab cb body ∧ Below w.heap.size w w' := by
  refine (take_any ao cap l w hl hb).mono fun e w' h' => ?_
  unfold TakeIs at h'
  rw [h] at h'
  exact h'

set_option maxHeartbeats 1000000 in
theorem flives_any (w : World) : Calls Try.prog 22 #[] w fun e w' => e = .returned (.bool true) ∧ Below w.heap.size w w' := by
  have hA : Bs (w.alloc (.cells #[.int .u8 97] 5 (1, 2))) (some ⟨w.heap.size, 0, none⟩) 1 letterA := Bs.litM letterA _ _ 1 rfl rfl (by decide) _
  have kc := fun (w : World) (C : Array Value) (n c : Nat) => Lib.run_convert_bytes_const (P := Try.prog) w 25 5 C n c Try.underlying25 Try.underlying5
  have hw := fun W a c h => wrap_one a c letterA W h (by decide)
  have ht := fun W a c h => take_is a c (Fr.wrapped 1 letterA) W (by rw [wrapA]; decide) h 1 letterA 9 0 (by have := Fr.take_wrapped 1 letterA [] (by decide) (by decide); rw [List.append_nil] at this; exact this)
  have h9 : ((Fr.wrapped 1 letterA).length : Int) = 9 := by rw [wrapA]; rfl
  have h6 : (Fr.wrapped 1 letterA).take 6 = [102, 1, 0, 0, 1, 97] := by rw [wrapA]; rfl
  generalize Fr.wrapped 1 letterA = W at *
  have hz9 : ((W.length : Int) == 9) = true := by rw [h9]; rfl
  have Hw := Lib.hid hw
  have Ht := Lib.hid ht
  have H9 := Lib.hid h9
  have H6 := Lib.hid h6
  clear hw ht h9 h6
  go_enter Try.func22, Try.ntmps22
  go_wp2_with fail
  refine (Hw.out _ _ _ hA).mono ?_
  rintro e w1 ⟨a1, c1, rfl, hf1⟩
  have hb1 := Bs.of_own hf1.own
  have hB1 := below_on (below_new _ _) hf1.bel (Nat.le_refl _)
  have hc9 := hb1.le
  obtain ⟨g, _, rfl, _⟩ : ∃ g off, a1 = some ⟨g, 0, none⟩ ∧ off = 0 := by
    rcases hf1.own.2 with ⟨_, hn⟩ | ⟨g, cap', cur, hv, _⟩
    · have := H9.out; omega
    · simp only [Value.slice.injEq] at hv
      exact ⟨g, 0, hv.1, rfl⟩
  go_wp2_with fail
  refine (Ht.out _ _ _ hb1).mono ?_
  rintro e w2 ⟨a2, c2, rfl, hb2, hB2⟩
  have hb12 := (hb1.take 6 (by have := H9.out; omega)).below hB2
  have cv6 := conv_any hb12
  rw [H6.out] at cv6
  have cv6' : (convert 25 9 (.slice (some ⟨g, 0, none⟩) 6 c1)).run Try.prog w2 = .ok (.string ⟨#[102, 1, 0, 0, 1, 97]⟩) w2 := cv6
  clear cv6
  have cvA := conv_any hb2
  have hc6 : (6 : Int) ≤ (c1 : Int) := by have := H9.out; omega
  go_wp2_with fail
  go_ret
  exact ⟨rfl, below_on hB1 hB2 (Nat.le_refl _)⟩

theorem u8_of (k : Int) (h0 : 0 ≤ k) (h1 : k ≤ 255) : ∃ c : UInt8, k = (c.toNat : Int) := by
  refine ⟨UInt8.ofNat k.toNat, ?_⟩
  simp only [UInt8.toNat_ofNat', Nat.reducePow]
  omega
end Go.Proofs.Ytinncchnompmhaa
