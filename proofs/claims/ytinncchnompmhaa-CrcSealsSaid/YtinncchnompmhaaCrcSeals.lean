/- The walk of the law CrcSeals. -/
import Derived.Test.YtinncchnompmhaaCrcC
namespace Go.Proofs.Ytinncchnompmhaa
open Go Go.RowKit

theorem open_yes (ao : Option Addr) (cap : Nat) (l l' : List UInt8) (w : World) (hl : l.length ≤ 70000000000000) (hb : Bs w ao cap l) (h : Crc.opened l = some l') :
    Calls Try.prog 19 #[.slice ao l.length cap] w fun e w' => ∃ ao' cap', e = .returned (.tuple #[.slice ao' l'.length cap', .bool true]) ∧ Fresh w w' ao' cap' l' := by
  refine (open_any ao cap l w hl hb).mono fun e w' h' => ?_
  unfold OpenIs at h'
  rw [h] at h'
  exact h'
theorem open_none (ao : Option Addr) (cap : Nat) (l : List UInt8) (w : World) (hl : l.length ≤ 70000000000000) (hb : Bs w ao cap l) (h : Crc.opened l = none) :
    Calls Try.prog 19 #[.slice ao l.length cap] w fun e w' => e = .returned (.tuple #[.slice none 0 0, .bool false]) ∧ Below w.heap.size w w' := by
  refine (open_any ao cap l w hl hb).mono fun e w' h' => ?_
  unfold OpenIs at h'
  rw [h] at h'
  exact h'
theorem refOpen_yes (ao : Option Addr) (cap : Nat) (l l' : List UInt8) (w : World) (hl : l.length ≤ 70000000000000) (hb : Bs w ao cap l) (h : Crc.opened l = some l') :
    Calls Try.prog 20 #[.slice ao l.length cap] w fun e w' => ∃ ao' cap', e = .returned (.tuple #[.slice ao' l'.length cap', .bool true]) ∧ Below w.heap.size w w' ∧ Bs w' ao' cap' l' := by
  refine (refOpen_any ao cap l w hl hb).mono fun e w' h' => ?_
  obtain ⟨h1, v, b, rfl, h2, h3⟩ := h'
  obtain ⟨rfl, ao', cap', rfl, h4⟩ := h3 l' h
  exact ⟨_, _, rfl, h1, h4⟩
theorem refOpen_none (ao : Option Addr) (cap : Nat) (l : List UInt8) (w : World) (hl : l.length ≤ 70000000000000) (hb : Bs w ao cap l) (h : Crc.opened l = none) :
    Calls Try.prog 20 #[.slice ao l.length cap] w fun e w' => ∃ v, e = .returned (.tuple #[v, .bool false]) ∧ Below w.heap.size w w' := by
  refine (refOpen_any ao cap l w hl hb).mono fun e w' h' => ?_
  obtain ⟨h1, v, b, rfl, h2, h3⟩ := h'
  obtain rfl := h2 h
  exact ⟨_, rfl, h1⟩

theorem crcSeals_far (ao1 : Option Addr) (cap1 : Nat) (a : List UInt8) (ao2 : Option Addr) (cap2 : Nat) (b : List UInt8) (w : World) (h : 3000 < a.length ∨ ¬ 3000 < a.length ∧ 3000 < b.length) :
    Calls Try.prog 4 #[.slice ao1 a.length cap1, .slice ao2 b.length cap2] w fun e w' => e = .returned (.bool true) ∧ Below w.heap.size w w' := by
  rcases h with h | ⟨h, h2⟩
  all_goals
    go_enter Try.func4, Try.ntmps4
    go_wp2_with (go_at_call 12; refine (lives_any _).mono ?_; rintro e w1 ⟨rfl, hb1⟩)
    go_ret
    exact ⟨rfl, hb1⟩

set_option maxHeartbeats 4000000 in
theorem crcSeals_near (ao1 : Option Addr) (cap1 : Nat) (a : List UInt8) (ao2 : Option Addr) (cap2 : Nat) (b : List UInt8) (w : World) (hb1 : Bs w ao1 cap1 a) (hb2 : Bs w ao2 cap2 b) (ha3 : ¬ 3000 < a.length) (hb3 : ¬ 3000 < b.length) :
    Calls Try.prog 4 #[.slice ao1 a.length cap1, .slice ao2 b.length cap2] w fun e w' => e = .returned (.bool true) ∧ Below w.heap.size w w' := by
  have hsl : (Crc.sealed a).length ≤ 70000000000000 := by rw [Crc.sealed_length]; omega
  have hos := Crc.opened_sealed a
  have Hos := Lib.hid hos
  clear hos
  generalize hsg : Crc.sealed a = sa at *
  have Hsg := Lib.hid hsg
  clear hsg
  have hcv := fun (W : World) (ao : Option Addr) (cap : Nat) (l : List UInt8) (h : Bs W ao cap l) => conv_any h
  have Hcv := Lib.hid hcv
  clear hcv
  go_enter Try.func4, Try.ntmps4
  go_wp2_with fail
  refine (seal_any ao1 cap1 a w (by omega) hb1).mono ?_
  rintro e w1 ⟨aS, cs, rfl, hf1⟩
  rw [Hsg.out] at hf1 ⊢
  have hB1 := hf1.bel
  have hs1 := Bs.of_own hf1.own
  clear hf1
  go_wp2_with fail
  cases ho : Crc.opened b with
  | none =>
    have Ho := Lib.hid ho
    clear ho
    refine (open_none ao2 cap2 b _ (by omega) (hb2.below hB1) Ho.out).mono ?_
    rintro e w2 ⟨rfl, hB2'⟩
    have hB2 := below_on hB1 hB2' (Nat.le_refl _)
    have hs2 := hs1.below hB2'
    go_wp2_with fail
    refine (refOpen_none ao2 cap2 b _ (by omega) (hb2.below hB2) Ho.out).mono ?_
    rintro e w3 ⟨v3, rfl, hB3'⟩
    have hB3 := below_on hB2 hB3' (Nat.le_refl _)
    have hs3 := hs2.below hB3'
    go_wp2_with fail
    refine (open_yes aS cs sa a _ hsl hs3 Hos.out).mono ?_
    rintro e w4 ⟨az, cz, rfl, hf4⟩
    have hB4 := below_on hB3 hf4.bel (Nat.le_refl _)
    have hs4 := hs3.below hf4.bel
    have hz4 := Bs.of_own hf4.own
    clear hf4
    go_wp2_with fail
    have cS := fun W (h : Below w4.heap.size w4 W) => Hcv.out W aS cs sa (hs4.below h)
    have cA := fun W (h : Below w4.heap.size w4 W) => Hcv.out W ao1 cap1 a ((hb1.below hB4).below h)
    have cZ := fun W (h : Below w4.heap.size w4 W) => Hcv.out W az cz a (hz4.below h)
    have cR := fun W ar cr (h : Bs W ar cr sa) => Hcv.out W ar cr sa h
    have h0 := Below.refl w4.heap.size w4
    have h1 : Below w4.heap.size w4 w4.drew := h0.drew
    go_region_with (first
      | (go_at_call 21; refine (refSeal_any ao1 cap1 a _ (by omega) ((hb1.below hB4).below h1)).mono ?_; rintro e w5 ⟨ar, cr, rfl, hf5⟩; rw [Hsg.out] at hf5 ⊢; have hr5 := Bs.of_own hf5.own; have h5 := below_on h1 hf5.bel (Nat.le_refl _))
      | (go_at_call 12; refine (lives_any _).mono ?_; rintro e w6 ⟨rfl, hB6⟩))
    all_goals go_wp2
    all_goals go_ret
    all_goals exact ⟨ret_bool (by simp), below_on (below_on hB4 h5 (Nat.le_refl _)) hB6 (Nat.le_refl _)⟩
  | some l' =>
    have Ho := Lib.hid ho
    clear ho
    refine (open_yes ao2 cap2 b l' _ (by omega) (hb2.below hB1) Ho.out).mono ?_
    rintro e w2 ⟨ax, cx, rfl, hf2⟩
    have hB2' := hf2.bel
    have hx2 := Bs.of_own hf2.own
    clear hf2
    have hB2 := below_on hB1 hB2' (Nat.le_refl _)
    have hs2 := hs1.below hB2'
    go_wp2_with fail
    refine (refOpen_yes ao2 cap2 b l' _ (by omega) (hb2.below hB2) Ho.out).mono ?_
    rintro e w3 ⟨ay, cy, rfl, hB3', hy3⟩
    have hx3 := hx2.below hB3'
    have hB3 := below_on hB2 hB3' (Nat.le_refl _)
    have hs3 := hs2.below hB3'
    go_wp2_with fail
    refine (open_yes aS cs sa a _ hsl hs3 Hos.out).mono ?_
    rintro e w4 ⟨az, cz, rfl, hf4⟩
    have hB4 := below_on hB3 hf4.bel (Nat.le_refl _)
    have hs4 := hs3.below hf4.bel
    have hz4 := Bs.of_own hf4.own
    have cX := Hcv.out w4 ax cx l' (hx3.below hf4.bel)
    have cY := Hcv.out w4 ay cy l' (hy3.below hf4.bel)
    clear hf4
    go_wp2_with fail
    have cS := fun W (h : Below w4.heap.size w4 W) => Hcv.out W aS cs sa (hs4.below h)
    have cA := fun W (h : Below w4.heap.size w4 W) => Hcv.out W ao1 cap1 a ((hb1.below hB4).below h)
    have cZ := fun W (h : Below w4.heap.size w4 W) => Hcv.out W az cz a (hz4.below h)
    have cR := fun W ar cr (h : Bs W ar cr sa) => Hcv.out W ar cr sa h
    have h0 := Below.refl w4.heap.size w4
    have h1 : Below w4.heap.size w4 w4.drew := h0.drew
    go_region_with (first
      | (go_at_call 21; refine (refSeal_any ao1 cap1 a _ (by omega) ((hb1.below hB4).below h1)).mono ?_; rintro e w5 ⟨ar, cr, rfl, hf5⟩; rw [Hsg.out] at hf5 ⊢; have hr5 := Bs.of_own hf5.own; have h5 := below_on h1 hf5.bel (Nat.le_refl _))
      | (go_at_call 12; refine (lives_any _).mono ?_; rintro e w6 ⟨rfl, hB6⟩))
    all_goals go_wp2
    all_goals go_ret
    all_goals exact ⟨ret_bool (by simp), below_on (below_on hB4 h5 (Nat.le_refl _)) hB6 (Nat.le_refl _)⟩

theorem crcSeals_walk (ao1 : Option Addr) (cap1 : Nat) (a : List UInt8) (ao2 : Option Addr) (cap2 : Nat) (b : List UInt8) (w : World) (hb1 : Bs w ao1 cap1 a) (hb2 : Bs w ao2 cap2 b) :
    Calls Try.prog 4 #[.slice ao1 a.length cap1, .slice ao2 b.length cap2] w fun e w' => e = .returned (.bool true) ∧ Below w.heap.size w w' := by
  by_cases h1 : 3000 < a.length
  · exact crcSeals_far ao1 cap1 a ao2 cap2 b w (.inl h1)
  · by_cases h2 : 3000 < b.length
    · exact crcSeals_far ao1 cap1 a ao2 cap2 b w (.inr ⟨h1, h2⟩)
    · exact crcSeals_near ao1 cap1 a ao2 cap2 b w hb1 hb2 h1 h2
end Go.Proofs.Ytinncchnompmhaa
