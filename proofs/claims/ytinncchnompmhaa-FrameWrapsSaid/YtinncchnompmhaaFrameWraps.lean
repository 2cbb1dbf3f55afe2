/- The walk of the law FrameWraps. -/
import Derived.Test.YtinncchnompmhaaFrameC
namespace Go.Proofs.Ytinncchnompmhaa
open Go Go.RowKit

theorem frameWraps_far (k : Int) (ao1 : Option Addr) (cap1 : Nat) (a : List UInt8) (ao2 : Option Addr) (cap2 : Nat) (b : List UInt8) (w : World) (h : 66000 < a.length ∨ ¬ 66000 < a.length ∧ 1000 < b.length) :
    Calls Try.prog 7 #[.int .u8 k, .slice ao1 a.length cap1, .slice ao2 b.length cap2] w fun e w' => e = .returned (.bool true) ∧ Below w.heap.size w w' := by
  rcases h with h | ⟨h, h2⟩
  all_goals
    go_enter Try.func7, Try.ntmps7
    go_wp2_with (go_at_call 22; refine (flives_any _).mono ?_; rintro e w1 ⟨rfl, hb1⟩)
    go_ret
    exact ⟨rfl, hb1⟩

theorem frameWraps_zero (ao1 : Option Addr) (cap1 : Nat) (a : List UInt8) (ao2 : Option Addr) (cap2 : Nat) (b : List UInt8) (w : World) (h1 : ¬ 66000 < a.length) (h2 : ¬ 1000 < b.length) :
    Calls Try.prog 7 #[.int .u8 0, .slice ao1 a.length cap1, .slice ao2 b.length cap2] w fun e w' => e = .returned (.bool true) ∧ Below w.heap.size w w' := by
  have hw : Calls Try.prog 23 #[.int .u8 0, .slice ao1 a.length cap1] w fun e w' => e = .returned (.tuple #[.slice none 0 0, .int .i64 2]) ∧ w = w' := wrap_nil 0 ao1 cap1 a w rfl
  have Hw := Lib.hid hw
  clear hw
  go_enter Try.func7, Try.ntmps7
  go_wp2_with fail
  refine Hw.out.mono ?_
  rintro e w1 ⟨rfl, rfl⟩
  go_wp2_with fail
  refine (flives_any _).mono ?_
  rintro e w2 ⟨rfl, hb2⟩
  go_wp2_with fail
  go_ret
  exact ⟨rfl, hb2⟩

theorem frameWraps_long (kind : UInt8) (hk : kind ≠ 0) (ao1 : Option Addr) (cap1 : Nat) (a : List UInt8) (ao2 : Option Addr) (cap2 : Nat) (b : List UInt8) (w : World) (h1 : ¬ 66000 < a.length) (h2 : ¬ 1000 < b.length) (h3 : 65536 < a.length) :
    Calls Try.prog 7 #[.int .u8 kind.toNat, .slice ao1 a.length cap1, .slice ao2 b.length cap2] w fun e w' => e = .returned (.bool true) ∧ Below w.heap.size w w' := by
  have hkb := kind_ne hk
  go_enter Try.func7, Try.ntmps7
  go_wp2_with fail
  refine (wrap_long kind ao1 cap1 a w hk h3).mono ?_
  rintro e w1 ⟨rfl, rfl⟩
  go_wp2_with fail
  refine (flives_any _).mono ?_
  rintro e w2 ⟨rfl, hb2⟩
  go_wp2_with fail
  go_ret
  exact ⟨rfl, hb2⟩

set_option maxRecDepth 100000 in
set_option maxHeartbeats 2000000 in
theorem frameWraps_near (kind : UInt8) (hk : kind ≠ 0) (ao1 : Option Addr) (cap1 : Nat) (a : List UInt8) (ao2 : Option Addr) (cap2 : Nat) (b : List UInt8) (w : World) (ha : Bs w ao1 cap1 a) (hb : Bs w ao2 cap2 b) (h2 : ¬ 1000 < b.length) (h3 : a.length ≤ 65536) :
    Calls Try.prog 7 #[.int .u8 kind.toNat, .slice ao1 a.length cap1, .slice ao2 b.length cap2] w fun e w' => e = .returned (.bool true) ∧ Below w.heap.size w w' := by
  have hkb := kind_ne hk
  have hwr := fun W (h : Bs W ao1 cap1 a) => wrap_ok kind ao1 cap1 a W h hk h3
  have hby := fun W (h : Bs W ao1 cap1 a) => bytes_any kind ao1 cap1 a W h h3
  have hlen : (Fr.wrapped kind a).length = a.length + 8 := Fr.wrapped_length kind a
  have htk := Fr.take_wrapped kind a b hk h3
  generalize Fr.wrapped kind a = W at *
  obtain ⟨n, hn⟩ : ∃ n, n = a.length + 8 := ⟨_, rfl⟩
  rw [← hn] at htk hlen
  have hnb : ((n : Int) == (W.length : Int)) = true := by simp [hlen]
  have hWl : W.length ≤ 70000 := by omega
  have Hwr := Lib.hid hwr
  have Hby := Lib.hid hby
  have Htk := Lib.hid htk
  clear hwr hby htk hlen hn
  go_enter Try.func7, Try.ntmps7
  go_wp2_with fail
  refine (Hwr.out w ha).mono ?_
  rintro e w1 ⟨a1, c1, rfl, hf1⟩
  have hB1 := hf1.bel
  have hW1 := Bs.of_own hf1.own
  clear hf1
  have ha1 := ha.below hB1
  go_wp2_with fail
  go_cut [63] (fun s wx => s = .bool false ∧ Below w1.heap.size w1 wx)
  case first =>
    have cW := fun W' (h : Below w1.heap.size w1 W') => conv_any (hW1.below h)
    have cR := fun W' a c (h : Bs W' a c W) => conv_any h
    have h0 := Below.refl w1.heap.size w1
    have h1 : Below w1.heap.size w1 w1.drew := h0.drew
    go_region_with (first | (go_at_call 24; refine (Hby.out _ (ha1.below h1)).mono ?_; rintro e w2 ⟨a2, c2, rfl, hf2⟩; have hs2 := Bs.of_own hf2.own; have hB2 := below_on h1 hf2.bel (Nat.le_refl _)))
    all_goals (go_wp2_with fail; go_meet; exact ⟨rfl, hB2⟩)
  case rest =>
    obtain ⟨rfl, hB2⟩ := hcut
    have hW2 := hW1.below hB2
    have hBc := below_on hB1 hB2 (Nat.le_refl _)
    have hb2 := hb.below hBc
    have hnew := below_new wc (.cells #[] 5)
    have Hnew := Lib.hid hnew
    clear hnew
    go_wp2_with (first
      | (at_builtin; refine wpl_append_bs rfl (.tmp 65) (.tmp 66) 25 rfl wc.heap.size 5 infoU8 Try.underlying25 _ _ [] rfl (own_empty wc wc.heap.size _ 1 (Nat.le_refl _)) _ _ W rfl (hW2.below Hnew.out) (by simp; omega) Hnew.out.size ?_; intro ao3 cap3 l3 w3 hl3 hown3 hg3; have hB3 := below_app Hnew.out hg3 (own_empty wc wc.heap.size _ 1 (Nat.le_refl _)) (Nat.le_refl _) Hnew.out.size; have hlen3 : l3.length ≤ 70000 := (by rw [hl3.out]; exact hWl))
      | (at_builtin; refine wpl_append_bs rfl (.tmp 67) (.tmp 68) 25 rfl wc.heap.size 5 infoU8 Try.underlying25 _ _ l3 rfl hown3 _ _ b rfl (hb2.below hB3) (by omega) hB3.size ?_; intro ao4 cap4 l4 w4 hl4 hown4 hg4; have hB4 := below_app hB3 hg4 hown3 (Nat.le_refl _) hB3.size; have hlen4 : l4.length ≤ 80000 := (by rw [hl4.out]; simp; omega))
      | fail)
    have e4 : l4 = W ++ b := by rw [hl4.out, hl3.out]; rfl
    refine (take_is ao4 cap4 l4 w4 (by omega) (Bs.of_own hown4) kind a n 0 (by rw [e4]; exact Htk.out)).mono ?_
    rintro e w5 ⟨a5, c5, rfl, hb5, hB5⟩
    have cA5 := conv_any hb5
    have cA := conv_any ((ha1.below (below_on hB2 hB4 (Nat.le_refl _))).below hB5)
    go_wp2_with fail
    refine (flives_any _).mono ?_
    rintro e w6 ⟨rfl, hB6⟩
    go_wp2_with fail
    go_ret
    exact ⟨ret_bool (by simp), below_on (below_on (below_on hBc hB4 (Nat.le_refl _)) hB5 (Nat.le_refl _)) hB6 (Nat.le_refl _)⟩

theorem frameWraps_walk (k : Int) (ao1 : Option Addr) (cap1 : Nat) (a : List UInt8) (ao2 : Option Addr) (cap2 : Nat) (b : List UInt8) (w : World) (k0 : 0 ≤ k) (k1 : k ≤ 255) (ha : Bs w ao1 cap1 a) (hb : Bs w ao2 cap2 b) :
    Calls Try.prog 7 #[.int .u8 k, .slice ao1 a.length cap1, .slice ao2 b.length cap2] w fun e w' => e = .returned (.bool true) ∧ Below w.heap.size w w' := by
  by_cases h1 : 66000 < a.length
  · exact frameWraps_far k ao1 cap1 a ao2 cap2 b w (.inl h1)
  by_cases h2 : 1000 < b.length
  · exact frameWraps_far k ao1 cap1 a ao2 cap2 b w (.inr ⟨h1, h2⟩)
  obtain ⟨kind, rfl⟩ := u8_of k k0 k1
  by_cases hk : kind = 0
  · subst hk
    exact frameWraps_zero ao1 cap1 a ao2 cap2 b w h1 h2
  by_cases h3 : 65536 < a.length
  · exact frameWraps_long kind hk ao1 cap1 a ao2 cap2 b w h1 h2 h3
  · exact frameWraps_near kind hk ao1 cap1 a ao2 cap2 b w ha hb h2 (by omega)
end Go.Proofs.Ytinncchnompmhaa
