/- The walk of the law CrcBursts. -/
import Derived.Test.YtinncchnompmhaaCrcO
import Derived.Test.YtinncchnompmhaaCrcBurst
import Derived.RegionTactic
import Derived.ChangeAlike
namespace Go.Proofs.Ytinncchnompmhaa
open Go Go.RowKit

theorem crcBursts_far (ao : Option Addr) (cap : Nat) (a : List UInt8) (at_ turn : Int) (w : World) (h0 : 0 ≤ turn) (h1 : turn ≤ 4294967295) (h : 500 < a.length ∨ ¬ 500 < a.length ∧ turn % 16777216 = 0) :
    Calls Try.prog 5 #[.slice ao a.length cap, .int .i64 at_, .int .u32 turn] w fun e w' => e = .returned (.bool true) ∧ Below w.heap.size w w' := by
  rcases h with h | ⟨h, h2⟩
  · go_enter Try.func5, Try.ntmps5
    go_wp2_with (go_at_call 12; refine (lives_any _).mono ?_; rintro e w1 ⟨rfl, hb1⟩)
    go_ret
    exact ⟨rfl, hb1⟩
  · have h3 : (turn % 16777216 == 0) = true := by simpa using h2
    clear h2
    go_enter Try.func5, Try.ntmps5
    go_wp2_with (go_at_call 12; refine (lives_any _).mono ?_; rintro e w1 ⟨rfl, hb1⟩)
    go_ret
    exact ⟨rfl, hb1⟩

set_option maxHeartbeats 1000000 in
theorem crcBursts_out (ao : Option Addr) (cap : Nat) (a : List UInt8) (at_ turn : Int) (w : World) (hb : Bs w ao cap a) (h0 : 0 ≤ turn) (h1 : turn ≤ 4294967295) (ha : ¬ 500 < a.length) (ht : (turn % 16777216 == 0) = false)
    (g0 : -9223372036854775808 ≤ at_) (g1 : at_ ≤ 9223372036854775807) (h : at_ < 0 ∨ ¬ at_ < 0 ∧ 8 * ((a.length : Int) + 3) - 24 < at_) :
    Calls Try.prog 5 #[.slice ao a.length cap, .int .i64 at_, .int .u32 turn] w fun e w' => e = .returned (.bool true) ∧ Below w.heap.size w w' := by
  have hsl := Crc.sealed_length a
  generalize hsg : Crc.sealed a = sa at *
  have Hsg := Lib.hid hsg
  clear hsg
  have hs1 : (sa.length : Int) = a.length + 3 := by omega
  have hs2 : (sa.length : Int) ≤ 503 := by omega
  have Hsl := Lib.hid hsl
  clear hsl
  rcases h with h | ⟨h, h2⟩
  · go_enter Try.func5, Try.ntmps5
    clear hs1
    go_wp2_with fail
    refine (seal_any ao cap a w (by omega) hb).mono ?_
    rintro e w1 ⟨aS, cs, rfl, hf1⟩
    rw [Hsg.out] at hf1 ⊢
    go_wp2_with fail
    refine (lives_any _).mono ?_
    rintro e w2 ⟨rfl, hb2⟩
    go_wp2_with fail
    go_ret
    exact ⟨rfl, below_on hf1.bel hb2 (Nat.le_refl _)⟩
  · have h3 : 8 * (sa.length : Int) - 24 < at_ := by omega
    clear hs1
    go_enter Try.func5, Try.ntmps5
    go_wp2_with fail
    refine (seal_any ao cap a w (by omega) hb).mono ?_
    rintro e w1 ⟨aS, cs, rfl, hf1⟩
    rw [Hsg.out] at hf1 ⊢
    go_wp2_with fail
    refine (lives_any _).mono ?_
    rintro e w2 ⟨rfl, hb2⟩
    go_wp2_with fail
    go_ret
    exact ⟨rfl, below_on hf1.bel hb2 (Nat.le_refl _)⟩

/-- the loop's relation -/
def BurstRel (w wr : World) (g cs A T i : Nat) (sa : List UInt8) : Prop :=
  ∃ l : List UInt8, l.length = sa.length ∧ wr.ownsRow w.heap.size 5 1 (.slice (some ⟨g, 0, none⟩) sa.length cs) sa.length (l.map u8) ∧ Below w.heap.size w wr ∧ Crc.on 11994318 l = Crc.iter (8 * sa.length - A) (Crc.burst T i)

theorem burst_test (T i : Nat) (h1 : T < 4294967296) : (bits BinOp.and IntKind.u32 (↑T / 2 ^ i) 1 == 1) = true ↔ T.testBit i = true := by
  have e : ((T : Int) / 2 ^ i) = ((T / 2 ^ i : Nat) : Int) := by rw [Int.natCast_ediv, Int.natCast_pow]; rfl
  have hle : T / 2 ^ i ≤ T := Nat.div_le_self _ _
  have e2 := u32_and_nat (T / 2 ^ i) 1 (by omega) (by omega)
  rw [nat_mask1] at e2
  rw [e, show (1 : Int) = ((1 : Nat) : Int) from rfl, e2, Nat.testBit_eq_decide_div_mod_eq]
  simp
  omega
theorem pow_128 (r : Nat) (h : r < 8) : (128 : Int) / 2 ^ r = ((2 ^ (7 - r) : Nat) : Int) := by
  have : r = 0 ∨ r = 1 ∨ r = 2 ∨ r = 3 ∨ r = 4 ∨ r = 5 ∨ r = 6 ∨ r = 7 := by omega
  rcases this with rfl | rfl | rfl | rfl | rfl | rfl | rfl | rfl <;> decide
theorem xor_u8 (c : UInt8) (r : Nat) (h : r < 8) : bits BinOp.xor IntKind.u8 (c.toNat : Int) (128 / 2 ^ r) = ((c ^^^ UInt8.ofNat (2 ^ (7 - r))).toNat : Int) := by
  have hc := c.toNat_lt
  have hp : 2 ^ (7 - r) < 256 := Nat.pow_lt_pow_right (a := 2) (by decide) (show 7 - r < 8 by omega)
  rw [pow_128 r h, u8_xor_nat _ _ hc hp, UInt8.toNat_xor]
  simp only [UInt8.toNat_ofNat', Nat.mod_eq_of_lt hp]
theorem burst_step {w wr : World} {g cs A T i : Nat} {sa : List UInt8} (hi : i < 24) (hA : A ≤ 5000) (hAl : A + 24 ≤ 8 * sa.length) (l : List UInt8) (hp : (A + i) / 8 < l.length) (hl : l.length = sa.length)
    (hown : wr.ownsRow w.heap.size 5 1 (.slice (some ⟨g, 0, none⟩) sa.length cs) sa.length (l.map u8)) (hbel : Below w.heap.size w wr) (hst : Crc.on 11994318 l = Crc.iter (8 * sa.length - A) (Crc.burst T i)) (ht : T.testBit i = true) :
    BurstRel w ((wr.setCell ⟨g, (A + i) / 8, none⟩ (.int .u8 (bits BinOp.xor IntKind.u8 (↑l[(A + i) / 8].toNat) (128 / 2 ^ ((A + i) % 8))))).drew) g cs A T (i + 1) sa := by
  rw [xor_u8 _ _ (Nat.mod_lt _ (by decide))]
  refine ⟨l.set ((A + i) / 8) (l[(A + i) / 8] ^^^ UInt8.ofNat (2 ^ (7 - (A + i) % 8))), by simpa using hl, ?_, ?_, ?_⟩
  · rw [List.map_set]
    exact (hown.stored _ _).1.drew
  · exact (hbel.setCell (by have := (hown.lt g rfl).1; exact this) _).drew
  · rw [Crc.burst, if_pos ht, ← hl]
    rw [← hl] at hst
    exact Crc.turn_one l A i (by omega) hi _ (Crc.burst_lt _ _ (by omega)) hst hp
theorem burst_stay {w wr : World} {g cs A T i : Nat} {sa : List UInt8} (l : List UInt8) (hl : l.length = sa.length)
    (hown : wr.ownsRow w.heap.size 5 1 (.slice (some ⟨g, 0, none⟩) sa.length cs) sa.length (l.map u8)) (hbel : Below w.heap.size w wr) (hst : Crc.on 11994318 l = Crc.iter (8 * sa.length - A) (Crc.burst T i)) (ht : ¬ T.testBit i = true) :
    BurstRel w wr g cs A T (i + 1) sa :=
  ⟨l, hl, hown, hbel, by rw [Crc.burst, if_neg ht]; exact hst⟩

set_option maxHeartbeats 1000000 in
theorem crcBursts_in (ao : Option Addr) (cap : Nat) (a : List UInt8) (A T : Nat) (w : World) (hb : Bs w ao cap a) (h1 : T ≤ 4294967295) (ha : ¬ 500 < a.length) (ht : ((T : Int) % 16777216 == 0) = false)
    (h : A + 24 ≤ 8 * (a.length + 3)) :
    Calls Try.prog 5 #[.slice ao a.length cap, .int .i64 A, .int .u32 T] w fun e w' => e = .returned (.bool true) ∧ Below w.heap.size w w' := by
  have hsl := Crc.sealed_length a
  have hz := Crc.on_sealed a
  generalize hsg : Crc.sealed a = sa at *
  have Hsg := Lib.hid hsg
  clear hsg
  have hs2 : (sa.length : Int) ≤ 503 := by omega
  have hs3 : (A : Int) ≤ 8 * (sa.length : Int) - 24 := by omega
  have hA : A ≤ 5000 := by omega
  have hsp : 0 < sa.length := by omega
  have Hsl := Lib.hid hsl
  have Hz := Lib.hid hz
  clear hsl hz h
  go_enter Try.func5, Try.ntmps5
  go_wp2_with fail
  refine (seal_any ao cap a w (by omega) hb).mono ?_
  rintro e w1 ⟨aS, cs, rfl, hf1⟩
  rw [Hsg.out] at hf1 ⊢
  obtain ⟨hown, hbel⟩ := hf1
  obtain ⟨g, rfl⟩ : ∃ g, aS = some ⟨g, 0, none⟩ := by
    rcases hown.2 with ⟨_, hn⟩ | ⟨g, cap', cur, hv, _⟩
    · omega
    · simp only [Value.slice.injEq] at hv
      exact ⟨g, hv.1⟩
  go_wp2_with fail
  go_loopw [33] (fun v wr => ∃ i : Nat, i ≤ 24 ∧ v = .int .i64 i ∧ BurstRel w wr g cs A T i sa) (fun v _ => 24 - (intOf v).toNat)
  case atStart => exact ⟨0, by omega, rfl, sa, rfl, hown, hbel, by rw [Hz.out, Crc.burst, Crc.iter_zero]⟩
  case round =>
    obtain ⟨i, hi, rfl, hR⟩ := hrel
    by_cases hlt : i < 24
    · obtain ⟨l, hl, hown, hbel, hst⟩ := hR
      have hp : (A + i) / 8 < l.length := by omega
      have hc := hown.cellAt ((A + i) / 8) (by omega)
      rw [List.getElem?_map, List.getElem?_eq_getElem hp] at hc
      have hc' : wr.cell? ⟨g, (A + i) / 8, none⟩ = some (.int .u8 (l[(A + i) / 8].toNat : Int)) := hc
      clear hc
      have hfr := hown.frozenAt ((A + i) / 8)
      have Hl := Lib.hid hl
      have Hst := Lib.hid hst
      clear hl hst
      have b1 : ((A : Int) + i) / 8 < sa.length := by omega
      go_wp2_with fail
      · go_region
        go_wp2
        go_roundw
        case rel =>
          have hb : (bits BinOp.and IntKind.u32 (↑T / 2 ^ i) 1 == 1) = true := by assumption
          exact ⟨i + 1, by omega, by go_num, burst_step hlt hA (by omega) l hp Hl.out hown hbel Hst.out ((burst_test T i (by omega)).1 hb)⟩
        case measure => simp [intOf]; omega
      · go_roundw
        case rel =>
          have hb : (bits BinOp.and IntKind.u32 (↑T / 2 ^ i) 1 == 1) = false := by assumption
          exact ⟨i + 1, by omega, by go_num, burst_stay l Hl.out hown hbel Hst.out (fun h => by rw [(burst_test T i (by omega)).2 h] at hb; cases hb)⟩
        case measure => simp [intOf]; omega
    · obtain rfl : i = 24 := by omega
      obtain ⟨l, hl, hown, hbel, hst⟩ := hR
      have hne : Crc.on 11994318 l ≠ 0 := by
        rw [hst]
        refine Crc.iter_ne _ _ (Crc.burst_lt _ _ (by omega)) (Crc.burst_ne _ fun e => ?_)
        have : ((T : Int) % 16777216 == 0) = true := by simp; omega
        rw [ht] at this; cases this
      have ho := Crc.opened_zero l hne
      have Ho := Lib.hid ho
      clear ho hne hst
      rw [← hl] at hown hs2
      have Hl := Lib.hid hl
      clear hl
      have hbs := Bs.of_own hown
      clear hown
      go_wp2_with fail
      rw [← Hl.out]
      refine (open_none _ cs l _ (by omega) hbs Ho.out).mono ?_
      rintro e w2 ⟨rfl, hB2⟩
      go_wp2_with fail
      refine (lives_any _).mono ?_
      rintro e w3 ⟨rfl, hB3⟩
      go_wp2_with fail
      go_ret
      exact ⟨rfl, below_on (below_on hbel hB2 (Nat.le_refl _)) hB3 (Nat.le_refl _)⟩

theorem crcBursts_walk (ao : Option Addr) (cap : Nat) (a : List UInt8) (at_ turn : Int) (w : World) (hb : Bs w ao cap a) (g0 : -9223372036854775808 ≤ at_) (g1 : at_ ≤ 9223372036854775807) (h0 : 0 ≤ turn) (h1 : turn ≤ 4294967295) :
    Calls Try.prog 5 #[.slice ao a.length cap, .int .i64 at_, .int .u32 turn] w fun e w' => e = .returned (.bool true) ∧ Below w.heap.size w w' := by
  by_cases c1 : 500 < a.length
  · exact crcBursts_far ao cap a at_ turn w h0 h1 (.inl c1)
  by_cases c2 : turn % 16777216 = 0
  · exact crcBursts_far ao cap a at_ turn w h0 h1 (.inr ⟨c1, c2⟩)
  have ht : (turn % 16777216 == 0) = false := by simpa using c2
  by_cases c3 : at_ < 0
  · exact crcBursts_out ao cap a at_ turn w hb h0 h1 c1 ht g0 g1 (.inl c3)
  by_cases c4 : 8 * ((a.length : Int) + 3) - 24 < at_
  · exact crcBursts_out ao cap a at_ turn w hb h0 h1 c1 ht g0 g1 (.inr ⟨c3, c4⟩)
  obtain ⟨A, rfl⟩ := Int.eq_ofNat_of_zero_le (show 0 ≤ at_ by omega)
  obtain ⟨T, rfl⟩ := Int.eq_ofNat_of_zero_le h0
  exact crcBursts_in ao cap a A T w hb (by omega) c1 ht (by omega)
end Go.Proofs.Ytinncchnompmhaa
