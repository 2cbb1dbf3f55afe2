/- The walk of the law FrameTakes. -/
import Derived.Test.YtinncchnompmhaaFrameC
namespace Go.Proofs.Ytinncchnompmhaa
open Go Go.RowKit

theorem frameTakes_far (ao : Option Addr) (cap : Nat) (l : List UInt8) (w : World) (h : 3000 < l.length) :
    Calls Try.prog 8 #[.slice ao l.length cap] w fun e w' => e = .returned (.bool true) ∧ Below w.heap.size w w' := by
  go_enter Try.func8, Try.ntmps8
  go_wp2_with (go_at_call 22; refine (flives_any _).mono ?_; rintro e w1 ⟨rfl, hb1⟩)
  go_ret
  exact ⟨rfl, hb1⟩

theorem refTake_is (ao : Option Addr) (cap : Nat) (l : List UInt8) (w : World) (hl : l.length ≤ 70000000000000) (hb : Bs w ao cap l) (k : UInt8) (body : List UInt8) (n err : Nat) (h : Fr.take l = ⟨k, body, n, err⟩) :
    Calls Try.prog 26 #[.slice ao l.length cap] w fun e w' => ∃ ab cb, e = .returned (.tuple #[.int .u8 (k.toNat : Nat), .slice ab body.length cb, .int .i64 (n : Nat), .int .i64 (err : Nat)]) ∧ Bs w' ab cb body ∧ Below w.heap.size w w' := by
  refine (refTake_any ao cap l w hl hb).mono fun e w' h' => ?_
  unfold TakeIs at h'
  rw [h] at h'
  exact h'

set_option maxHeartbeats 2000000 in
theorem frameTakes_near (ao : Option Addr) (cap : Nat) (l : List UInt8) (w : World) (hb : Bs w ao cap l) (h : ¬ 3000 < l.length) :
    Calls Try.prog 8 #[.slice ao l.length cap] w fun e w' => e = .returned (.bool true) ∧ Below w.heap.size w w' := by
  obtain ⟨k, body, n, err, hT⟩ : ∃ k body n err, Fr.take l = ⟨k, body, n, err⟩ := ⟨_, _, _, _, rfl⟩
  have hwh := fun W (h : Bs W ao cap l) => whole_any ao cap l W (by omega) h
  rw [hT] at hwh
  simp only at hwh
  have HT := Lib.hid hT
  have Hwh := Lib.hid hwh
  clear hT hwh
  go_enter Try.func8, Try.ntmps8
  go_wp2_with fail
  refine (take_is ao cap l w (by omega) hb k body n err HT.out).mono ?_
  rintro e w1 ⟨a1, c1, rfl, hb1, hB1⟩
  go_wp2_with fail
  refine (refTake_is ao cap l w1 (by omega) (hb.below hB1) k body n err HT.out).mono ?_
  rintro e w2 ⟨a2, c2, rfl, hb2, hB2'⟩
  have hB2 := below_on hB1 hB2' (Nat.le_refl _)
  have cv1 := conv_any (hb1.below hB2')
  have cv2 := conv_any hb2
  go_wp2_with fail
  clear cv1 cv2
  refine (Hwh.out w2 (hb.below hB2)).mono ?_
  rintro e w3 ⟨hB3', hW⟩
  have hB3 := below_on hB2 hB3' (Nat.le_refl _)
  rcases hW with ⟨h1, h2, a3, c3, rfl, hb3⟩ | ⟨h1, rfl⟩
  · have t1 : ((err : Int) == 0) = true := by simp [h1]
    have t2 : ((n : Int) == (l.length : Int)) = true := by simp [h2]
    have cv1 := conv_any hb3
    have cv2 := conv_any (hb2.below hB3')
    clear h1 h2
    go_wp2_with fail
    refine (flives_any _).mono ?_
    rintro e w6 ⟨rfl, hB6⟩
    go_wp2_with fail
    go_ret
    exact ⟨ret_bool (by simp), below_on hB3 hB6 (Nat.le_refl _)⟩
  · by_cases he : err = 0
    · have t1 : ((err : Int) == 0) = true := by simp [he]
      have t2 : ((n : Int) == (l.length : Int)) = false := by simp; intro e; exact h1 ⟨he, by omega⟩
      clear h1 he
      go_wp2_with fail
      refine (flives_any _).mono ?_
      rintro e w6 ⟨rfl, hB6⟩
      go_wp2_with fail
      go_ret
      exact ⟨ret_bool (by simp), below_on hB3 hB6 (Nat.le_refl _)⟩
    · have t1 : ((err : Int) == 0) = false := by simp; omega
      clear h1 he
      go_wp2_with fail
      refine (flives_any _).mono ?_
      rintro e w6 ⟨rfl, hB6⟩
      go_wp2_with fail
      go_ret
      exact ⟨ret_bool (by simp), below_on hB3 hB6 (Nat.le_refl _)⟩

theorem frameTakes_walk (ao : Option Addr) (cap : Nat) (l : List UInt8) (w : World) (hb : Bs w ao cap l) :
    Calls Try.prog 8 #[.slice ao l.length cap] w fun e w' => e = .returned (.bool true) ∧ Below w.heap.size w w' := by
  by_cases h : 3000 < l.length
  · exact frameTakes_far ao cap l w h
  · exact frameTakes_near ao cap l w hb h
end Go.Proofs.Ytinncchnompmhaa
