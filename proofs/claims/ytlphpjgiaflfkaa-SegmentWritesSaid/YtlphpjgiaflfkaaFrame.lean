/- Contracts of package frame and of its reference: Wrap, Bytes, size. No statement of the seat is proved here. -/
import Derived.Test.YtlphpjgiaflfkaaCrcO
import Derived.Test.YtlphpjgiaflfkaaFrameLaw
namespace Go.Proofs.Ytlphpjgiaflfkaa
set_option linter.unusedVariables false
set_option linter.unusedSimpArgs false
set_option linter.unusedSectionVars false
open Go Go.RowKit

theorem wrap_nil (kind : UInt8) (ao : Option Addr) (cap : Nat) (l : List UInt8) (w : World) (h : kind = 0) :
    Calls Try.prog 67 #[.int .u8 kind.toNat, .slice ao l.length cap] w fun e w' => e = .returned (.tuple #[.slice none 0 0, .int .i64 2]) ∧ w = w' := by
  subst h
  go_enter Try.func67, Try.ntmps67
  go_wp2
  go_ret2
  exact ⟨rfl, rfl⟩

theorem kind_ne {kind : UInt8} (h : kind ≠ 0) : ((kind.toNat : Int) == 0) = false := by
  simp
  intro e
  exact h (UInt8.toNat_inj.1 (by simpa using e))

theorem wrap_long (kind : UInt8) (ao : Option Addr) (cap : Nat) (l : List UInt8) (w : World) (h : kind ≠ 0) (hl : 65536 < l.length) :
    Calls Try.prog 67 #[.int .u8 kind.toNat, .slice ao l.length cap] w fun e w' => e = .returned (.tuple #[.slice none 0 0, .int .i64 21]) ∧ w = w' := by
  have hk := kind_ne h
  go_enter Try.func67, Try.ntmps67
  go_wp2
  go_ret2
  exact ⟨rfl, rfl⟩

set_option maxHeartbeats 400000 in
theorem wrap_ok (kind : UInt8) (ao : Option Addr) (cap : Nat) (l : List UInt8) (w : World) (hb : Bs w ao cap l) (h : kind ≠ 0) (hl : l.length ≤ 65536) :
    Calls Try.prog 67 #[.int .u8 kind.toNat, .slice ao l.length cap] w fun e w' => ∃ ao' cap', e = .returned (.tuple #[.slice ao' (Fr.wrapped kind l).length cap', .int .i64 0]) ∧ Fresh w w' ao' cap' (Fr.wrapped kind l) := by
  have hk := kind_ne h
  obtain ⟨b2, hb2⟩ : ∃ b : UInt8, b = UInt8.ofNat (l.length / 65536) := ⟨_, rfl⟩
  obtain ⟨b1, hb1⟩ : ∃ b : UInt8, b = UInt8.ofNat (l.length / 256) := ⟨_, rfl⟩
  obtain ⟨b0, hb0⟩ : ∃ b : UInt8, b = UInt8.ofNat l.length := ⟨_, rfl⟩
  have e2 : (l.length : Int) / 65536 = (b2.toNat : Int) := by rw [hb2, ofNat_u8]; omega
  have e1 : (l.length : Int) / 256 % 256 = (b1.toNat : Int) := by rw [hb1, ofNat_u8]; simp
  have e0 : (l.length : Int) % 256 = (b0.toNat : Int) := by rw [hb0, ofNat_u8]
  have hfin : Fr.wrapped kind l = Crc.sealed ([102, kind, b2, b1, b0] ++ l) := by rw [Fr.wrapped, Fr.hdr, hb2, hb1, hb0]
  have Hfin := Lib.hid hfin
  clear hfin hb2 hb1 hb0
  have hB := below_new w (.cells #[.int .u8 102, u8 kind, u8 b2, u8 b1, u8 b0] 5)
  have hown0 : (w.alloc (.cells #[.int .u8 102, u8 kind, u8 b2, u8 b1, u8 b0] 5)).ownsRow w.heap.size 5 1 (.slice (some ⟨w.heap.size, 0, none⟩) 5 5) 5 ([102, kind, b2, b1, b0].map u8) :=
    World.ownsRow_lit w _ 5 (Nat.le_refl _) (by decide) rfl
  go_enter Try.func67, Try.ntmps67
  go_wp2_with (first
    | (at_builtin; refine wpl_append_bs rfl (.tmp 25) (.tmp 26) 22 rfl w.heap.size 5 infoU8 Try.underlying22 _ _ [102, kind, b2, b1, b0] rfl hown0 _ _ l rfl (hb.below hB) (by simp; omega) hB.size ?_; intro ao3 cap3 l3 w3 hl3 hown3 hg3; have hb3 := below_app hB hg3 hown0 (Nat.le_refl _) hB.size; have hlen3 : l3.length ≤ 70000000000000 := (by rw [hl3.out]; simp; omega))
    | fail)
  refine (seal_any ao3 cap3 l3 w3 hlen3 (Bs.of_own hown3)).mono ?_
  rintro e w4 ⟨ao4, cap4, rfl, hf4⟩
  go_wp2_with fail
  rw [Hfin.out, ← hl3.out]
  go_ret2
  exact ⟨_, _, rfl, ⟨own_base hf4.own hb3.size, below_on hb3 hf4.bel (Nat.le_refl _)⟩⟩

set_option maxHeartbeats 400000 in
theorem bytes_any (kind : UInt8) (ao : Option Addr) (cap : Nat) (l : List UInt8) (w : World) (hb : Bs w ao cap l) (hl : l.length ≤ 65536) :
    Calls Try.prog 46 #[.int .u8 kind.toNat, .slice ao l.length cap] w fun e w' => ∃ ao' cap', e = .returned (.slice ao' (Fr.wrapped kind l).length cap') ∧ Fresh w w' ao' cap' (Fr.wrapped kind l) := by
  obtain ⟨b2, hb2⟩ : ∃ b : UInt8, b = UInt8.ofNat (l.length / 65536) := ⟨_, rfl⟩
  obtain ⟨b1, hb1⟩ : ∃ b : UInt8, b = UInt8.ofNat (l.length / 256) := ⟨_, rfl⟩
  obtain ⟨b0, hb0⟩ : ∃ b : UInt8, b = UInt8.ofNat l.length := ⟨_, rfl⟩
  have e2 : (l.length : Int) / 65536 = (b2.toNat : Int) := by rw [hb2, ofNat_u8]; omega
  have e1 : (l.length : Int) / 256 % 256 = (b1.toNat : Int) := by rw [hb1, ofNat_u8]; simp
  have e0 : (l.length : Int) % 256 = (b0.toNat : Int) := by rw [hb0, ofNat_u8]
  have hfin : Fr.wrapped kind l = Crc.sealed ([102, kind, b2, b1, b0] ++ l) := by rw [Fr.wrapped, Fr.hdr, hb2, hb1, hb0]
  have Hfin := Lib.hid hfin
  clear hfin hb2 hb1 hb0
  have hB := below_new w (.cells #[.int .u8 102, u8 kind, u8 b2, u8 b1, u8 b0] 5)
  have hown0 : (w.alloc (.cells #[.int .u8 102, u8 kind, u8 b2, u8 b1, u8 b0] 5)).ownsRow w.heap.size 5 1 (.slice (some ⟨w.heap.size, 0, none⟩) 5 5) 5 ([102, kind, b2, b1, b0].map u8) :=
    World.ownsRow_lit w _ 5 (Nat.le_refl _) (by decide) rfl
  go_enter Try.func46, Try.ntmps46
  go_wp2_with (first
    | (at_builtin; refine wpl_append_bs rfl (.tmp 19) (.tmp 20) 22 rfl w.heap.size 5 infoU8 Try.underlying22 _ _ [102, kind, b2, b1, b0] rfl hown0 _ _ l rfl (hb.below hB) (by simp; omega) hB.size ?_; intro ao3 cap3 l3 w3 hl3 hown3 hg3; have hb3 := below_app hB hg3 hown0 (Nat.le_refl _) hB.size; have hlen3 : l3.length ≤ 70000000000000 := (by rw [hl3.out]; simp; omega))
    | fail)
  refine (refSeal_any ao3 cap3 l3 w3 hlen3 (Bs.of_own hown3)).mono ?_
  rintro e w4 ⟨ao4, cap4, rfl, hf4⟩
  go_wp2_with fail
  rw [Hfin.out, ← hl3.out]
  go_ret
  exact ⟨_, _, rfl, ⟨own_base hf4.own hb3.size, below_on hb3 hf4.bel (Nat.le_refl _)⟩⟩

/-- what 'size' answers -/
def SizeIs (w : World) (l : List UInt8) (e : Ending) (w' : World) : Prop := e = .returned (.tuple #[.int .i64 ((Fr.size l).1 : Nat), .int .i64 ((Fr.size l).2 : Nat)]) ∧ Below w.heap.size w w'

theorem ofInt_i64 (a : Nat) (ha : a < 9223372036854775808) : (BitVec.ofInt 64 (a : Int)).toNat = a := by
  rw [BitVec.ofInt_natCast, BitVec.toNat_ofNat]; omega
theorem i64_or_nat (a b : Nat) (ha : a < 9223372036854775808) (hb : b < 9223372036854775808) : bits .or .i64 (a : Int) (b : Int) = ((a ||| b : Nat) : Int) := by
  have h : a ||| b < 2 ^ 63 := Nat.or_lt_two_pow (by simpa using ha) (by simpa using hb)
  show IntKind.i64.wrap ((BitVec.ofInt 64 (a : Int) ||| BitVec.ofInt 64 (b : Int)).toNat : Int) = _
  rw [BitVec.toNat_or, ofInt_i64 a ha, ofInt_i64 b hb]
  exact IntWalk.i64_in _ (by omega)
theorem be3i (a b c : Nat) (ha : a < 256) (hb : b < 256) (hc : c < 256) :
    bits BinOp.or IntKind.i64 (bits BinOp.or IntKind.i64 (wrap64 (wrap64 (a : Int) * 65536)) (wrap64 (wrap64 (b : Int) * 256))) (wrap64 (c : Int)) = ((a * 65536 + b * 256 + c : Nat) : Int) := by
  have e1 : wrap64 (wrap64 (a : Int) * 65536) = ((a * 65536 : Nat) : Int) := by rw [IntWalk.wrap64_in (a : Int) (by omega), IntWalk.wrap64_in _ (by omega)]; omega
  have e2 : wrap64 (wrap64 (b : Int) * 256) = ((b * 256 : Nat) : Int) := by rw [IntWalk.wrap64_in (b : Int) (by omega), IntWalk.wrap64_in _ (by omega)]; omega
  have e3 : wrap64 (c : Int) = (c : Int) := IntWalk.wrap64_in _ (by omega)
  rw [e1, e2, e3, i64_or_nat _ _ (by omega) (by omega), nat_join 16 _ _ (by omega) (by omega), i64_or_nat _ _ (by omega) (by omega), nat_join 8 _ _ (by omega) (by omega)]

theorem size_bad (n k : Nat) (l : List UInt8) (h : Fr.size l = (n, k)) (w w' : World) (hb : Below w.heap.size w w') : SizeIs w l (.returned (.tuple #[.int .i64 (n : Nat), .int .i64 (k : Nat)])) w' := by
  refine ⟨?_, hb⟩; rw [h]

theorem size_nil (ao : Option Addr) (cap : Nat) (l : List UInt8) (w : World) (h : l.length = 0) :
    Calls Try.prog 105 #[.slice ao l.length cap] w (SizeIs w l) := by
  have hs : Fr.size l = (0, 23) := by unfold Fr.size; rw [if_pos h]
  have Hs := Lib.hid hs
  clear hs
  go_enter Try.func105, Try.ntmps105
  go_wp2
  go_ret2
  exact size_bad 0 23 l Hs.out w w (Below.refl _ _)

theorem u8_ne {c : UInt8} {k : UInt8} (h : c ≠ k) : ((c.toNat : Int) != (k.toNat : Int)) = true := by
  simp
  intro e
  exact h (UInt8.toNat_inj.1 (by omega))
theorem u8_eq {c : UInt8} {k : UInt8} (h : c = k) : ((c.toNat : Int) != (k.toNat : Int)) = false := by
  subst h; simp

set_option maxHeartbeats 400000 in
theorem size_one (b off cap : Nat) (l : List UInt8) (w : World) (hb : Bs w (some ⟨b, off, none⟩) cap l) (h : l.length = 1) :
    Calls Try.prog 105 #[.slice (some ⟨b, off, none⟩) l.length cap] w (SizeIs w l) := by
  have c0 : w.cell? ⟨b, off, none⟩ = some (.int .u8 (l[0].toNat : Int)) := hb.all 0 (by omega)
  have hg0 : l.getD 0 0 = l[0] := by simp [List.getD, List.getElem?_eq_getElem (show 0 < l.length by omega)]
  by_cases h1 : l[0] = 102
  · have hs : Fr.size l = (0, 23) := by unfold Fr.size; rw [if_neg (by omega), if_neg (by rw [hg0]; simpa using h1), if_pos (by omega)]
    have Hs := Lib.hid hs
    have t1 := u8_eq h1
    have t1' : ((l[0].toNat : Int) != 102) = false := t1
    clear hs t1 hg0 h1
    go_enter Try.func105, Try.ntmps105
    go_wp2
    go_ret2
    exact size_bad 0 23 l Hs.out w w (Below.refl _ _)
  · have hs : Fr.size l = (0, 20) := by unfold Fr.size; rw [if_neg (by omega), if_pos (by rw [hg0]; exact h1)]
    have Hs := Lib.hid hs
    have t1' : ((l[0].toNat : Int) != 102) = true := u8_ne h1
    clear hs hg0 h1
    go_enter Try.func105, Try.ntmps105
    go_wp2
    go_ret2
    exact size_bad 0 20 l Hs.out w w (Below.refl _ _)

set_option maxHeartbeats 400000 in
theorem size_few (b off cap : Nat) (l : List UInt8) (w : World) (hb : Bs w (some ⟨b, off, none⟩) cap l) (h : l.length = 2 ∨ l.length = 3 ∨ l.length = 4) :
    Calls Try.prog 105 #[.slice (some ⟨b, off, none⟩) l.length cap] w (SizeIs w l) := by
  have c0 : w.cell? ⟨b, off, none⟩ = some (.int .u8 (l[0].toNat : Int)) := hb.all 0 (by omega)
  have c1 := hb.all 1 (by omega)
  have hg0 : l.getD 0 0 = l[0] := by simp [List.getD, List.getElem?_eq_getElem (show 0 < l.length by omega)]
  have hg1 : l.getD 1 0 = l[1] := by simp [List.getD, List.getElem?_eq_getElem (show 1 < l.length by omega)]
  have three : (Fr.size l = (0, 20) ∧ ((l[0].toNat : Int) != 102) = true) ∨ (Fr.size l = (0, 20) ∧ ((l[0].toNat : Int) != 102) = false ∧ ((l[1].toNat : Int) == 0) = true) ∨
      (Fr.size l = (0, 23) ∧ ((l[0].toNat : Int) != 102) = false ∧ ((l[1].toNat : Int) == 0) = false) := by
    by_cases h1 : l[0] = 102
    · by_cases h2 : l[1] = 0
      · exact .inr (.inl ⟨by unfold Fr.size; rw [if_neg (by omega), if_neg (by rw [hg0]; simpa using h1), if_neg (by omega), if_pos (by rw [hg1]; exact h2)], u8_eq h1, by rw [h2]; rfl⟩)
      · exact .inr (.inr ⟨by unfold Fr.size; rw [if_neg (by omega), if_neg (by rw [hg0]; simpa using h1), if_neg (by omega), if_neg (by rw [hg1]; exact h2), if_pos (by omega)], u8_eq h1, kind_ne h2⟩)
    · exact .inl ⟨by unfold Fr.size; rw [if_neg (by omega), if_pos (by rw [hg0]; exact h1)], u8_ne h1⟩
  clear hg0 hg1
  rcases h with h | h | h <;> rcases three with ⟨hs, t1⟩ | ⟨hs, t1, t2⟩ | ⟨hs, t1, t2⟩
  all_goals
    have Hs := Lib.hid hs
    clear hs
    go_enter Try.func105, Try.ntmps105
    go_wp2
    all_goals
      go_ret2
      first | exact size_bad 0 20 l Hs.out w w (Below.refl _ _) | exact size_bad 0 23 l Hs.out w w (Below.refl _ _)

set_option maxHeartbeats 1000000 in
theorem size_many (b off cap : Nat) (l : List UInt8) (w : World) (hl : l.length ≤ 70000000000000) (hb : Bs w (some ⟨b, off, none⟩) cap l) (h : 5 ≤ l.length) :
    Calls Try.prog 105 #[.slice (some ⟨b, off, none⟩) l.length cap] w (SizeIs w l) := by
  have c0 : w.cell? ⟨b, off, none⟩ = some (.int .u8 (l[0].toNat : Int)) := hb.all 0 (by omega)
  have c1 := hb.all 1 (by omega)
  have c2 := hb.all 2 (by omega)
  have c3 := hb.all 3 (by omega)
  have c4 := hb.all 4 (by omega)
  have hv := be3i l[2].toNat l[3].toNat l[4].toNat (UInt8.toNat_lt _) (UInt8.toNat_lt _) (UInt8.toNat_lt _)
  have hx : Crc.num (l.getD 2 0) (l.getD 3 0) (l.getD 4 0) = l[2].toNat * 65536 + l[3].toNat * 256 + l[4].toNat := by
    simp [List.getD, List.getElem?_eq_getElem (show 2 < l.length by omega), List.getElem?_eq_getElem (show 3 < l.length by omega), List.getElem?_eq_getElem (show 4 < l.length by omega), Crc.num]
  have hxl : Crc.num (l.getD 2 0) (l.getD 3 0) (l.getD 4 0) < 16777216 := by
    rw [hx]; have := l[2].toNat_lt; have := l[3].toNat_lt; have := l[4].toNat_lt; omega
  rw [← hx] at hv
  have hg0 : l.getD 0 0 = l[0] := by simp [List.getD, List.getElem?_eq_getElem (show 0 < l.length by omega)]
  have hg1 : l.getD 1 0 = l[1] := by simp [List.getD, List.getElem?_eq_getElem (show 1 < l.length by omega)]
  have hsz : Fr.size l = if l[0] ≠ 102 then (0, 20) else if l[1] = 0 then (0, 20) else if 65536 < Crc.num (l.getD 2 0) (l.getD 3 0) (l.getD 4 0) then (0, 20)
      else if l.length < Crc.num (l.getD 2 0) (l.getD 3 0) (l.getD 4 0) + 8 then (0, 23) else (Crc.num (l.getD 2 0) (l.getD 3 0) (l.getD 4 0) + 8, 0) := by
    unfold Fr.size
    rw [if_neg (by omega), hg0, hg1, if_neg (show ¬ l.length < 2 by omega), if_neg (show ¬ l.length < 5 by omega)]
  clear hx hg0 hg1
  generalize Crc.num (l.getD 2 0) (l.getD 3 0) (l.getD 4 0) = x at *
  have Hv := Lib.hid hv
  clear hv
  by_cases hbig : 65536 < x
  · have hs : Fr.size l = (0, 20) := by rw [hsz, if_pos hbig]; split <;> (try split) <;> rfl
    have Hs := Lib.hid hs
    clear hs hsz
    go_enter Try.func105, Try.ntmps105
    go_wp2
    go_quiet (fail)
    rw [Hv.out]
    go_wp2
    go_ret2
    exact size_bad 0 20 l Hs.out w _ (below_drewN (Below.refl _ _) _)
  rw [if_neg hbig] at hsz
  by_cases h2 : l[1] = 0
  · have hs : Fr.size l = (0, 20) := by rw [hsz, if_pos h2]; split <;> rfl
    have Hs := Lib.hid hs
    have t2 : ((l[1].toNat : Int) == 0) = true := by rw [h2]; rfl
    clear hs hsz h2
    go_enter Try.func105, Try.ntmps105
    go_wp2
    go_quiet (fail)
    rw [Hv.out]
    go_wp2
    go_ret2
    exact size_bad 0 20 l Hs.out w _ (below_drewN (Below.refl _ _) _)
  rw [if_neg h2] at hsz
  have t2 := kind_ne h2
  clear h2
  by_cases h1 : l[0] = 102
  · rw [if_neg (by simpa using h1)] at hsz
    have t1 : ((l[0].toNat : Int) != 102) = false := u8_eq h1
    clear h1
    by_cases h3 : l.length < x + 8
    · rw [if_pos h3] at hsz
      have Hs := Lib.hid hsz
      have hz : ((x : Int) + 8 == 0) = false := by simp; omega
      clear hsz
      go_enter Try.func105, Try.ntmps105
      go_wp2
      go_quiet (fail)
      rw [Hv.out]
      go_wp2
      go_ret2
      exact size_bad 0 23 l Hs.out w _ (below_drewN (Below.refl _ _) _)
    · rw [if_neg h3] at hsz
      have Hs := Lib.hid hsz
      have hz : ((x : Int) + 8 == 0) = false := by simp; omega
      clear hsz
      go_enter Try.func105, Try.ntmps105
      go_wp2
      go_quiet (fail)
      rw [Hv.out]
      go_wp2
      go_ret2
      exact size_bad (x + 8) 0 l Hs.out w _ (below_drewN (Below.refl _ _) _)
  · rw [if_pos h1] at hsz
    have t1 : ((l[0].toNat : Int) != 102) = true := u8_ne h1
    have Hs := Lib.hid hsz
    clear h1 hsz
    go_enter Try.func105, Try.ntmps105
    go_wp2
    go_quiet (fail)
    rw [Hv.out]
    go_wp2
    go_ret2
    exact size_bad 0 20 l Hs.out w _ (below_drewN (Below.refl _ _) _)

theorem size_any (ao : Option Addr) (cap : Nat) (l : List UInt8) (w : World) (hl : l.length ≤ 70000000000000) (hb : Bs w ao cap l) :
    Calls Try.prog 105 #[.slice ao l.length cap] w (SizeIs w l) := by
  by_cases h0 : l.length = 0
  · exact size_nil ao cap l w h0
  · obtain ⟨b, off, rfl, _⟩ := hb.get 0 (by omega)
    by_cases h1 : l.length = 1
    · exact size_one b off cap l w hb h1
    · by_cases h5 : 5 ≤ l.length
      · exact size_many b off cap l w hl hb h5
      · exact size_few b off cap l w hb (by omega)
end Go.Proofs.Ytlphpjgiaflfkaa
