/- Contracts of the functions of package crc24 and of its reference. No statement of the seat is proved here. -/
import Derived.Test.YtlphpjgiaflfkaaAux
import Derived.Test.YtlphpjgiaflfkaaCrcLaw
import Derived.WalkLawsBesides
namespace Go.Proofs.Ytlphpjgiaflfkaa
set_option linter.unusedVariables false
set_option linter.unusedSimpArgs false
set_option linter.unusedSectionVars false
open Go Go.RowKit

theorem setCell_setCell (w : World) (a : Addr) (u v : Value) : (w.setCell a u).setCell a v = w.setCell a v := by
  unfold World.setCell
  congr 1
  apply Array.ext_getElem?
  intro i
  simp only [Array.getElem?_modify]
  split
  · cases w.heap[i]? with
    | none => rfl
    | some o => cases o <;> simp; split <;> simp
  · rfl

theorem shl1_yes (s : Nat) (h1 : s < 16777216) (h : ((s : Int) * 2 / 16777216 != 0) = true) : bits BinOp.xor IntKind.u32 (bits BinOp.and IntKind.u32 (↑s * 2) 16777215) 8801531 = (Crc.shl1 s : Int) := by
  have h' : (s : Int) * 2 / 16777216 ≠ 0 := by simpa using h
  have e := u32_and_nat (s * 2) 16777215 (by omega) (by omega)
  have e2 : (s * 2) &&& 16777215 = s * 2 % 16777216 := Nat.and_two_pow_sub_one_eq_mod _ 24
  rw [e2] at e
  have e' : bits BinOp.and IntKind.u32 (↑s * 2) 16777215 = ((s * 2 % 16777216 : Nat) : Int) := by simpa using e
  rw [e']
  have e3 := u32_xor_nat (s * 2 % 16777216) 8801531 (by omega) (by omega)
  unfold Crc.shl1
  rw [if_neg (by omega)]
  simpa using e3
theorem shl1_no (s : Nat) (h : ((s : Int) * 2 / 16777216 != 0) = false) : (s : Int) * 2 = (Crc.shl1 s : Int) := by
  have h' : (s : Int) * 2 / 16777216 = 0 := by simpa using h
  unfold Crc.shl1
  rw [if_pos (by omega)]; omega

theorem step_any (a : Addr) (s : Nat) (w : World) (h1 : s < 16777216) (hc : w.cell? a = some (.int .u32 s)) (hf : w.frozen? a = false) :
    Calls Try.prog 119 #[.pointer (some a)] w fun e w' => e = .returned (.tuple #[]) ∧ w' = w.setCell a (.int .u32 (Crc.shl1 s : Nat)) := by
  go_enter Try.func119, Try.ntmps119
  go_wp2
  · go_end0
    rename_i h
    exact ⟨rfl, by rw [setCell_setCell, shl1_yes s h1 h]⟩
  · go_end0
    rename_i h
    exact ⟨rfl, by rw [shl1_no s h]⟩

set_option maxHeartbeats 400000 in
theorem on_any (s : Int) (h0 : 0 ≤ s) (h1 : s ≤ 4294967295) (ao : Option Addr) (cap : Nat) (l : List UInt8) (w : World) (hl : l.length ≤ 140737488355328) (hb : Bs w ao cap l) :
    Calls Try.prog 118 #[.int .u32 s, .slice ao l.length cap] w fun e w' => e = .returned (.int .u32 (Crc.on (s.toNat % 16777216) l : Nat)) ∧ Below w.heap.size w w' := by
  obtain ⟨n, rfl⟩ := Int.eq_ofNat_of_zero_le h0
  have e : bits BinOp.and IntKind.u32 ↑n 16777215 = ((n % 16777216 : Nat) : Int) := by
    have := u32_and_nat n 16777215 (by omega) (by omega)
    rw [show n &&& 16777215 = n % 16777216 from Nat.and_two_pow_sub_one_eq_mod _ 24] at this
    simpa using this
  go_enter Try.func118, Try.ntmps118
  go_wp2
  have hm : ((n : Int) % 16777216) = ((n % 16777216 : Nat) : Int) := by omega
  rw [hm]
  obtain ⟨s0, hs0⟩ : ∃ s0, s0 = n % 16777216 := ⟨_, rfl⟩
  rw [← hs0]
  have hs1 : s0 < 16777216 := by omega
  have Hs := Lib.hid hs0
  clear hs0 hm e h1
  go_loopw [13] (fun i wr => ∃ k : Nat, k ≤ l.length ∧ i = .int .i64 k ∧ wr = w.alloc (.cells #[.int .u32 (Crc.on s0 (l.take k) : Nat)] 31)) (fun i _ => l.length - (intOf i).toNat)
  case atStart => exact ⟨0, Nat.zero_le _, rfl, rfl⟩
  case round =>
    obtain ⟨k, hk, rfl, rfl⟩ := hrel
    by_cases hlt : k < l.length
    · obtain ⟨b, off, rfl, hc⟩ := hb.get k hlt
      have hbw := cell?_lt hc
      have hx := Crc.on_lt (l.take k) s0 hs1
      have hn := Crc.on_take s0 l k hlt
      obtain ⟨s, hs⟩ : ∃ s, s = Crc.on s0 (l.take k) := ⟨_, rfl⟩
      rw [← hs] at hx hn
      rw [← hs]
      have Hn := Lib.hid hn
      clear hn
      have Hs' := Lib.hid hs
      clear hs
      have h255 : (l[k].toNat : Int) ≤ 255 := by have := l[k].toNat_lt; omega
      have hc255 : l[k].toNat < 256 := l[k].toNat_lt
      obtain ⟨x, hxe⟩ : ∃ x, x = s ^^^ (l[k].toNat * 65536) := ⟨_, rfl⟩
      have hxl : x < 16777216 := by rw [hxe]; exact Crc.xor_lt hx (by omega)
      have hbx : bits BinOp.xor IntKind.u32 (↑s) (↑l[k].toNat * 65536) = (x : Int) := by
        rw [hxe, ← u32_xor_nat s (l[k].toNat * 65536) (by omega) (by omega)]; simp
      have Hx := Lib.hid hxe
      clear hxe
      go_wp2
      go_loopw [22] (fun j wr => ∃ m : Nat, m ≤ 8 ∧ j = .int .i64 m ∧ wr = w.alloc (.cells #[.int .u32 (Crc.iter m x : Nat)] 31)) (fun j _ => 8 - (intOf j).toNat)
      case atStart => exact ⟨0, by omega, rfl, rfl⟩
      case round =>
        obtain ⟨m, hm8, rfl, rfl⟩ := hrel
        by_cases hm : m < 8
        · have hil := Crc.iter_lt m x hxl
          go_wp2_with (go_at_call 119; refine (step_any _ (Crc.iter m x) _ hil (by simp [go_sem]) (by simp [go_sem])).mono ?_; rintro e w' ⟨rfl, rfl⟩)
          go_roundw
          case rel => exact ⟨m + 1, by omega, by go_num, rfl⟩
          case measure => simp [intOf]; omega
        · obtain rfl : m = 8 := by omega
          go_wp2
          go_roundw
          case rel => exact ⟨k + 1, by omega, by go_num, by rw [Hn.out, Crc.byteP, ← Hx.out]⟩
          case measure => simp [intOf]; omega
    · obtain rfl : k = l.length := by omega
      go_wp2
      go_ret
      exact ⟨ret_int (by rw [Hs.out]; rfl), (Below.refl _ _).alloc (Nat.le_refl _) _⟩

theorem nat_bits (m c : Nat) (hm : m < 8) : ((c / 2 ^ (7 - m) % 2 : Nat) : Int) = (c : Int) / 2 ^ (7 - m) % 2 := by
  rw [Int.natCast_emod, Int.natCast_ediv, Int.natCast_pow]; rfl
theorem refBit_yes (y m c : Nat) (hm : m < 8) (hy : y < 16777216) (h : ((y : Int) / 8388608 % 2 != (c : Int) / 2 ^ (7 - m) % 2) = true) :
    bits BinOp.xor IntKind.u32 (↑y * 2 % 16777216) 8801531 = (Crc.refBit y (c / 2 ^ (7 - m) % 2) : Int) := by
  rw [← nat_bits m c hm] at h
  have h' : (y : Int) / 8388608 % 2 ≠ ((c / 2 ^ (7 - m) % 2 : Nat) : Int) := by simpa using h
  have e3 := u32_xor_nat (y * 2 % 16777216) 8801531 (by omega) (by omega)
  unfold Crc.refBit
  rw [if_neg (by omega)]
  simpa using e3
theorem refBit_no (y m c : Nat) (hm : m < 8) (hy : y < 16777216) (h : ((y : Int) / 8388608 % 2 != (c : Int) / 2 ^ (7 - m) % 2) = false) :
    (↑y * 2 % 16777216) = (Crc.refBit y (c / 2 ^ (7 - m) % 2) : Int) := by
  rw [← nat_bits m c hm] at h
  have h' : (y : Int) / 8388608 % 2 = ((c / 2 ^ (7 - m) % 2 : Nat) : Int) := by simpa using h
  unfold Crc.refBit
  rw [if_pos (by omega)]; omega
set_option maxHeartbeats 400000 in
theorem refOn_any (s : Int) (h0 : 0 ≤ s) (h1 : s ≤ 4294967295) (ao : Option Addr) (cap : Nat) (l : List UInt8) (w : World) (hl : l.length ≤ 140737488355328) (hb : Bs w ao cap l) :
    Calls Try.prog 117 #[.int .u32 s, .slice ao l.length cap] w fun e w' => e = .returned (.int .u32 (Crc.on (s.toNat % 16777216) l : Nat)) ∧ w = w' := by
  obtain ⟨n, rfl⟩ := Int.eq_ofNat_of_zero_le h0
  go_enter Try.func117, Try.ntmps117
  go_wp2
  have hm : ((n : Int) % 16777216) = ((n % 16777216 : Nat) : Int) := by omega
  rw [hm]
  obtain ⟨s0, hs0⟩ : ∃ s0, s0 = n % 16777216 := ⟨_, rfl⟩
  rw [← hs0]
  have hs1 : s0 < 16777216 := by omega
  have Hs := Lib.hid hs0
  clear hs0 hm h1
  go_loop [0, 5] (fun v i => ∃ k : Nat, k ≤ l.length ∧ i = .int .i64 k ∧ v = .int .u32 (Crc.on s0 (l.take k) : Nat)) (fun _ i => l.length - (intOf i).toNat)
  case atStart => exact ⟨0, Nat.zero_le _, rfl, rfl⟩
  case round =>
    obtain ⟨k, hk, rfl, rfl⟩ := hrel
    by_cases hlt : k < l.length
    · obtain ⟨b, off, rfl, hc⟩ := hb.get k hlt
      have hx := Crc.on_lt (l.take k) s0 hs1
      have hn := Crc.on_take s0 l k hlt
      obtain ⟨s, hs⟩ : ∃ s, s = Crc.on s0 (l.take k) := ⟨_, rfl⟩
      rw [← hs] at hx hn
      rw [← hs]
      have Hn := Lib.hid hn
      clear hn
      have Hs' := Lib.hid hs
      clear hs
      have hc255 : l[k].toNat < 256 := l[k].toNat_lt
      obtain ⟨c, hce⟩ : ∃ c, c = l[k].toNat := ⟨_, rfl⟩
      rw [← hce] at hc hc255 Hn
      have Hc := Lib.hid hce
      clear hce
      go_wp2
      go_loop [0, 6] (fun v j => ∃ m : Nat, m ≤ 8 ∧ j = .int .i64 (7 - (m : Int)) ∧ v = .int .u32 (Crc.refBits m s c : Nat)) (fun _ j => (intOf j + 1).toNat)
      case atStart => exact ⟨0, by omega, rfl, rfl⟩
      case round =>
        obtain ⟨m, hm8, rfl, rfl⟩ := hrel
        by_cases hm : m < 8
        · have hil := Crc.refBits_lt m s c hx
          obtain ⟨y, hy⟩ : ∃ y, y = Crc.refBits m s c := ⟨_, rfl⟩
          rw [← hy] at hil ⊢
          have Hy := Lib.hid hy
          clear hy
          go_wp2
          · go_round
            case rel => exact ⟨m + 1, by omega, by congr 1; omega, by rw [refBit_yes y m c (by omega) hil ‹_›, Hy.out]; rfl⟩
            case measure => simp [intOf]; omega
          · go_round
            case rel => exact ⟨m + 1, by omega, by congr 1; omega, by rw [refBit_no y m c (by omega) hil ‹_›, Hy.out]; rfl⟩
            case measure => simp [intOf]; omega
        · obtain rfl : m = 8 := by omega
          go_wp2
          go_round
          case rel => exact ⟨k + 1, by omega, by go_num, by rw [Hn.out, Crc.byteP_ref _ _ hx hc255]⟩
          case measure => simp [intOf]; omega
    · obtain rfl : k = l.length := by omega
      go_wp2
      go_ret
      exact ⟨ret_int (by rw [Hs.out]), rfl⟩

set_option maxHeartbeats 400000 in
theorem sum_any (ao : Option Addr) (cap : Nat) (ls : List (List UInt8)) (w : World) (hls : ls.length ≤ 140737488355328) (hl : ∀ l ∈ ls, l.length ≤ 140737488355328) (hb : Bss w ao cap ls) :
    Calls Try.prog 112 #[.slice ao ls.length cap] w fun e w' => e = .returned (.int .u32 (Crc.on 11994318 ls.flatten : Nat)) ∧ Below w.heap.size w w' := by
  go_enter Try.func112, Try.ntmps112
  go_wp2
  go_loopw [3, 8] (fun v i wr => ∃ k : Nat, k ≤ ls.length ∧ i = .int .i64 k ∧ v = .int .u32 (Crc.on 11994318 (ls.take k).flatten : Nat) ∧ Below w.heap.size w wr) (fun _ i _ => ls.length - (intOf i).toNat)
  case atStart => exact ⟨0, Nat.zero_le _, rfl, rfl, Below.refl _ _⟩
  case round =>
    obtain ⟨k, hk, rfl, rfl, hbel⟩ := hrel
    by_cases hlt : k < ls.length
    · obtain ⟨b, off, ak, ck, rfl, hc0, hs0⟩ := (hb.below hbel).cell k hlt
      have hx := Crc.on_lt (ls.take k).flatten 11994318 (by decide)
      have hn : Crc.on 11994318 (ls.take (k + 1)).flatten = Crc.on (Crc.on 11994318 (ls.take k).flatten) ls[k] := by
        rw [List.take_succ_eq_append_getElem hlt, List.flatten_append, Crc.on_append]; simp
      obtain ⟨s, hs⟩ : ∃ s, s = Crc.on 11994318 (ls.take k).flatten := ⟨_, rfl⟩
      rw [← hs] at hx hn ⊢
      have Hn := Lib.hid hn
      clear hn hs
      have hlk := hl _ (List.getElem_mem hlt)
      go_wp2_with (go_at_call 118; refine (on_any s (by omega) (by omega) ak ck _ _ hlk hs0).mono ?_; rintro e w' ⟨rfl, hbel'⟩)
      go_roundw
      case rel => exact ⟨k + 1, by omega, by go_num, by rw [Hn.out]; congr 2; congr 1; exact Nat.mod_eq_of_lt hx, below_on hbel hbel' (Nat.le_refl _)⟩
      case measure => simp [intOf]; omega
    · obtain rfl : k = ls.length := by omega
      go_wp2
      go_ret
      exact ⟨ret_int (by simp), hbel⟩

theorem refSum_any (ao : Option Addr) (cap : Nat) (l : List UInt8) (w : World) (hl : l.length ≤ 140737488355328) (hb : Bs w ao cap l) :
    Calls Try.prog 109 #[.slice ao l.length cap] w fun e w' => e = .returned (.int .u32 (Crc.sum l : Nat)) ∧ w = w' := by
  go_enter Try.func109, Try.ntmps109
  go_wp2_with (go_at_call 117; refine (refOn_any _ (by omega) (by omega) ao cap _ _ hl hb).mono ?_; rintro e w' ⟨rfl, rfl⟩)
  go_ret
  exact ⟨rfl, rfl⟩

theorem fits_any (ao : Option Addr) (cap : Nat) (l : List UInt8) (s : Int) (w : World) (hl : l.length ≤ 140737488355328) (hb : Bs w ao cap l) :
    Calls Try.prog 116 #[.slice ao l.length cap, .int .u32 s] w fun e w' => e = .returned (.bool ((Crc.sum l : Int) == s)) ∧ Below w.heap.size w w' := by
  go_enter Try.func116, Try.ntmps116
  go_wp2_with (go_at_call 112; refine (sum_any _ 1 [l] _ (by simp) (by simpa using hl) (Bss.one hb _)).mono ?_; rintro e w' ⟨rfl, hbel'⟩)
  go_ret
  exact ⟨ret_bool (by simp [Crc.sum]), below_on (below_new _ _) hbel' (Nat.le_refl _)⟩
end Go.Proofs.Ytlphpjgiaflfkaa
