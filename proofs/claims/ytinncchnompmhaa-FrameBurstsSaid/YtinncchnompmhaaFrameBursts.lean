/- The walk of the law FrameBursts. -/
import Derived.Test.YtinncchnompmhaaFrameC
import Derived.Test.YtinncchnompmhaaCrcBursts
namespace Go.Proofs.Ytinncchnompmhaa
open Go Go.RowKit

theorem frameBursts_far (k : Int) (ao : Option Addr) (cap : Nat) (a : List UInt8) (at_ turn : Int) (w : World) (h0 : 0 ≤ turn) (h1 : turn ≤ 4294967295) (h : 300 < a.length ∨ ¬ 300 < a.length ∧ turn % 16777216 = 0) :
    Calls Try.prog 9 #[.int .u8 k, .slice ao a.length cap, .int .i64 at_, .int .u32 turn] w fun e w' => e = .returned (.bool true) ∧ Below w.heap.size w w' := by
  rcases h with h | ⟨h, h2⟩
  · go_enter Try.func9, Try.ntmps9
    go_wp2_with (go_at_call 22; refine (flives_any _).mono ?_; rintro e w1 ⟨rfl, hb1⟩)
    go_ret
    exact ⟨rfl, hb1⟩
  · have h3 : (turn % 16777216 == 0) = true := by simpa using h2
    clear h2
    go_enter Try.func9, Try.ntmps9
    go_wp2_with (go_at_call 22; refine (flives_any _).mono ?_; rintro e w1 ⟨rfl, hb1⟩)
    go_ret
    exact ⟨rfl, hb1⟩

theorem frameBursts_zero (ao : Option Addr) (cap : Nat) (a : List UInt8) (at_ turn : Int) (w : World) (h0 : 0 ≤ turn) (h1 : turn ≤ 4294967295) (ha : ¬ 300 < a.length) (ht : (turn % 16777216 == 0) = false) :
    Calls Try.prog 9 #[.int .u8 0, .slice ao a.length cap, .int .i64 at_, .int .u32 turn] w fun e w' => e = .returned (.bool true) ∧ Below w.heap.size w w' := by
  have hw : Calls Try.prog 23 #[.int .u8 0, .slice ao a.length cap] w fun e w' => e = .returned (.tuple #[.slice none 0 0, .int .i64 2]) ∧ w = w' := wrap_nil 0 ao cap a w rfl
  have Hw := Lib.hid hw
  clear hw
  go_enter Try.func9, Try.ntmps9
  go_wp2_with fail
  refine Hw.out.mono ?_
  rintro e w1 ⟨rfl, rfl⟩
  go_wp2_with fail
  refine (flives_any _).mono ?_
  rintro e w2 ⟨rfl, hb2⟩
  go_wp2_with fail
  go_ret
  exact ⟨rfl, hb2⟩

set_option maxHeartbeats 1000000 in
theorem frameBursts_out (kind : UInt8) (hk : kind ≠ 0) (ao : Option Addr) (cap : Nat) (a : List UInt8) (at_ turn : Int) (w : World) (hb : Bs w ao cap a) (h0 : 0 ≤ turn) (h1 : turn ≤ 4294967295) (ha : ¬ 300 < a.length) (ht : (turn % 16777216 == 0) = false)
    (g0 : -9223372036854775808 ≤ at_) (g1 : at_ ≤ 9223372036854775807) (h : at_ < 0 ∨ ¬ at_ < 0 ∧ 8 * ((a.length : Int) + 8) - 24 < at_) :
    Calls Try.prog 9 #[.int .u8 kind.toNat, .slice ao a.length cap, .int .i64 at_, .int .u32 turn] w fun e w' => e = .returned (.bool true) ∧ Below w.heap.size w w' := by
  have hwr := wrap_ok kind ao cap a w hb hk (by omega)
  have hsl := Fr.wrapped_length kind a
  generalize Fr.wrapped kind a = sa at *
  have hs1 : (sa.length : Int) = a.length + 8 := by omega
  have hs2 : (sa.length : Int) ≤ 308 := by omega
  have Hwr := Lib.hid hwr
  clear hsl hwr
  rcases h with h | ⟨h, h2⟩
  · go_enter Try.func9, Try.ntmps9
    clear hs1
    go_wp2_with fail
    refine Hwr.out.mono ?_
    rintro e w1 ⟨aS, cs, rfl, hf1⟩
    go_wp2_with fail
    refine (flives_any _).mono ?_
    rintro e w2 ⟨rfl, hb2⟩
    go_wp2_with fail
    go_ret
    exact ⟨rfl, below_on hf1.bel hb2 (Nat.le_refl _)⟩
  · have h3 : 8 * (sa.length : Int) - 24 < at_ := by omega
    clear hs1
    go_enter Try.func9, Try.ntmps9
    go_wp2_with fail
    refine Hwr.out.mono ?_
    rintro e w1 ⟨aS, cs, rfl, hf1⟩
    go_wp2_with fail
    refine (flives_any _).mono ?_
    rintro e w2 ⟨rfl, hb2⟩
    go_wp2_with fail
    go_ret
    exact ⟨rfl, below_on hf1.bel hb2 (Nat.le_refl _)⟩

set_option maxHeartbeats 1000000 in
theorem frameBursts_in (kind : UInt8) (hk : kind ≠ 0) (ao : Option Addr) (cap : Nat) (a : List UInt8) (A T : Nat) (w : World) (hb : Bs w ao cap a) (h1 : T ≤ 4294967295) (ha : ¬ 300 < a.length) (ht : ((T : Int) % 16777216 == 0) = false)
    (h : A + 24 ≤ 8 * (a.length + 8)) :
    Calls Try.prog 9 #[.int .u8 kind.toNat, .slice ao a.length cap, .int .i64 A, .int .u32 T] w fun e w' => e = .returned (.bool true) ∧ Below w.heap.size w w' := by
  have hwr := wrap_ok kind ao cap a w hb hk (by omega)
  have hsl := Fr.wrapped_length kind a
  have hz : Crc.on 11994318 (Fr.wrapped kind a) = 0 := Crc.on_sealed _
  generalize Fr.wrapped kind a = sa at *
  have hs2 : (sa.length : Int) ≤ 308 := by omega
  have hs3 : (A : Int) ≤ 8 * (sa.length : Int) - 24 := by omega
  have hA : A ≤ 5000 := by omega
  have hsp : 0 < sa.length := by omega
  have Hz := Lib.hid hz
  have Hwr := Lib.hid hwr
  clear hsl hz h hwr
  go_enter Try.func9, Try.ntmps9
  go_wp2_with fail
  refine Hwr.out.mono ?_
  rintro e w1 ⟨aS, cs, rfl, hf1⟩
  obtain ⟨hown, hbel⟩ := hf1
  obtain ⟨g, rfl⟩ : ∃ g, aS = some ⟨g, 0, none⟩ := by
    rcases hown.2 with ⟨_, hn⟩ | ⟨g, cap', cur, hv, _⟩
    · omega
    · simp only [Value.slice.injEq] at hv
      exact ⟨g, hv.1⟩
  go_wp2_with fail
  go_loopw [45] (fun v wr => ∃ i : Nat, i ≤ 24 ∧ v = .int .i64 i ∧ BurstRel w wr g cs A T i sa) (fun v _ => 24 - (intOf v).toNat)
  case atStart => exact ⟨0, by omega, rfl, sa, rfl, hown, hbel, by rw [Hz.out, Crc.burst, Crc.iter_zero]⟩
  case round =>
    obtain ⟨i, hi, rfl, hR⟩ := hrel
    by_cases hlt : i < 24
    · obtain ⟨l, hl, hown, hbel, hst⟩ := hR
      have hp : (A + i) / 8 < l.length := by omega
      have hc := hown.cellAt ((A + i) / 8) (by omega)
      rw [List.getElem?_map, List.getElem?_eq_getElem hp] at hc
      have hc' : wr.cell? ⟨g, (A + i) / 8, none⟩ = some (.int .u8 (l[(A + i) / 8].toNat : Int)) := hc
      clear hc
      have hfr := hown.frozenAt ((A + i) / 8)
      have Hl := Lib.hid hl
      have Hst := Lib.hid hst
      clear hl hst
      have b1 : ((A : Int) + i) / 8 < sa.length := by omega
      go_wp2_with fail
      · go_region
        go_wp2
        go_roundw
        case rel =>
          have hb : (bits BinOp.and IntKind.u32 (↑T / 2 ^ i) 1 == 1) = true := by assumption
          exact ⟨i + 1, by omega, by go_num, burst_step hlt hA (by omega) l hp Hl.out hown hbel Hst.out ((burst_test T i (by omega)).1 hb)⟩
        case measure => simp [intOf]; omega
      · go_roundw
        case rel =>
          have hb : (bits BinOp.and IntKind.u32 (↑T / 2 ^ i) 1 == 1) = false := by assumption
          exact ⟨i + 1, by omega, by go_num, burst_stay l Hl.out hown hbel Hst.out (fun h => by rw [(burst_test T i (by omega)).2 h] at hb; cases hb)⟩
        case measure => simp [intOf]; omega
    · obtain rfl : i = 24 := by omega
      obtain ⟨l, hl, hown, hbel, hst⟩ := hR
      have hne : Crc.on 11994318 l ≠ 0 := by
        rw [hst]
        refine Crc.iter_ne _ _ (Crc.burst_lt _ _ (by omega)) (Crc.burst_ne _ fun e => ?_)
        have : ((T : Int) % 16777216 == 0) = true := by simp; omega
        rw [ht] at this; cases this
      have ho := Fr.take_none l (Crc.opened_zero l hne)
      have Ho := Lib.hid ho
      clear ho hne hst
      rw [← hl] at hown hs2
      have Hl := Lib.hid hl
      clear hl
      have hbs := Bs.of_own hown
      clear hown
      go_wp2_with fail
      rw [← Hl.out]
      refine (whole_any _ cs l _ (by omega) hbs).mono ?_
      rintro e w2 ⟨hB2, hW⟩
      rcases hW with ⟨h1, h2, _⟩ | ⟨_, rfl⟩
      · exact absurd ⟨h1, h2⟩ Ho.out
      go_wp2_with fail
      refine (flives_any _).mono ?_
      rintro e w3 ⟨rfl, hB3⟩
      go_wp2_with fail
      go_ret
      exact ⟨rfl, below_on (below_on hbel hB2 (Nat.le_refl _)) hB3 (Nat.le_refl _)⟩

theorem frameBursts_walk (k : Int) (ao : Option Addr) (cap : Nat) (a : List UInt8) (at_ turn : Int) (w : World) (k0 : 0 ≤ k) (k1 : k ≤ 255) (hb : Bs w ao cap a) (g0 : -9223372036854775808 ≤ at_) (g1 : at_ ≤ 9223372036854775807) (h0 : 0 ≤ turn) (h1 : turn ≤ 4294967295) :
    Calls Try.prog 9 #[.int .u8 k, .slice ao a.length cap, .int .i64 at_, .int .u32 turn] w fun e w' => e = .returned (.bool true) ∧ Below w.heap.size w w' := by
  by_cases c1 : 300 < a.length
  · exact frameBursts_far k ao cap a at_ turn w h0 h1 (.inl c1)
  by_cases c2 : turn % 16777216 = 0
  · exact frameBursts_far k ao cap a at_ turn w h0 h1 (.inr ⟨c1, c2⟩)
  have ht : (turn % 16777216 == 0) = false := by simpa using c2
  obtain ⟨kind, rfl⟩ := u8_of k k0 k1
  by_cases hk : kind = 0
  · subst hk
    exact frameBursts_zero ao cap a at_ turn w h0 h1 c1 ht
  by_cases c3 : at_ < 0
  · exact frameBursts_out kind hk ao cap a at_ turn w hb h0 h1 c1 ht g0 g1 (.inl c3)
  by_cases c4 : 8 * ((a.length : Int) + 8) - 24 < at_
  · exact frameBursts_out kind hk ao cap a at_ turn w hb h0 h1 c1 ht g0 g1 (.inr ⟨c3, c4⟩)
  obtain ⟨A, rfl⟩ := Int.eq_ofNat_of_zero_le (show 0 ≤ at_ by omega)
  obtain ⟨T, rfl⟩ := Int.eq_ofNat_of_zero_le h0
  exact frameBursts_in kind hk ao cap a A T w hb (by omega) c1 ht (by omega)
end Go.Proofs.Ytinncchnompmhaa
