/- Lemmas for BagApart (Frame FrameB Sg Sl FrameE FrameR Sr Ss Sm Qv Sh Sw). No statement of the seat is proved here. -/
import Derived.Deep.RegionLaw
import Derived.Deep.DeepCutAuto
import Derived.RegionTactic
import Derived.ChangeAlike
import Derived.Deep.RegionHeld3
import Derived.RangeFuncNested
import Derived.RangeFuncBound
import Derived.RangeFuncCalls
import Derived.RangeFuncLeaves
import Derived.Shelf.Abstract
import Derived.Shelf.RegionOpen
import Derived.OwnWalkIn
import Derived.TacticsInMore
import Derived.LoopNIn
import Derived.LoopIn
import Derived.Sort.QuietIn
import Derived.Maps.OwnIn
import Derived.Lib.AppendStr
import Derived.Scope
import Derived.Test.YtbmkgcoolofmpaaA1
import Derived.Test.YtbmkgcoolofmpaaA3
namespace Go.Proofs.Ytbmkgcoolofmpaa
set_option linter.unusedVariables false
set_option linter.unusedSimpArgs false
set_option linter.unusedSectionVars false
open Go Go.RowKit
theorem kind_ne {kind : UInt8} (h : kind ≠ 0) : ((kind.toNat : Int) == 0) = false := by
  simp
  intro e
  exact h (UInt8.toNat_inj.1 (by simpa using e))
set_option maxHeartbeats 400000 in
theorem wrap_ok (kind : UInt8) (ao : Option Addr) (cap : Nat) (l : List UInt8) (w : World) (hb : Bs w ao cap l) (h : kind ≠ 0) (hl : l.length ≤ 65536) :
    Calls Try.prog 57 #[.int .u8 kind.toNat, .slice ao l.length cap] w fun e w' => ∃ ao' cap', e = .returned (.tuple #[.slice ao' (Fr.wrapped kind l).length cap', .int .i64 0]) ∧ Fresh w w' ao' cap' (Fr.wrapped kind l) := by
  have hk := kind_ne h
  obtain ⟨b2, hb2⟩ : ∃ b : UInt8, b = UInt8.ofNat (l.length / 65536) := ⟨_, rfl⟩
  obtain ⟨b1, hb1⟩ : ∃ b : UInt8, b = UInt8.ofNat (l.length / 256) := ⟨_, rfl⟩
  obtain ⟨b0, hb0⟩ : ∃ b : UInt8, b = UInt8.ofNat l.length := ⟨_, rfl⟩
  have e2 : (l.length : Int) / 65536 = (b2.toNat : Int) := by rw [hb2, ofNat_u8]; omega
  have e1 : (l.length : Int) / 256 % 256 = (b1.toNat : Int) := by rw [hb1, ofNat_u8]; simp
  have e0 : (l.length : Int) % 256 = (b0.toNat : Int) := by rw [hb0, ofNat_u8]
  have hfin : Fr.wrapped kind l = Crc.sealed ([102, kind, b2, b1, b0] ++ l) := by rw [Fr.wrapped, Fr.hdr, hb2, hb1, hb0]
  have Hfin := Lib.hid hfin
  clear hfin hb2 hb1 hb0
  have hB := below_new w (.cells #[.int .u8 102, u8 kind, u8 b2, u8 b1, u8 b0] 5)
  have hown0 : (w.alloc (.cells #[.int .u8 102, u8 kind, u8 b2, u8 b1, u8 b0] 5)).ownsRow w.heap.size 5 1 (.slice (some ⟨w.heap.size, 0, none⟩) 5 5) 5 ([102, kind, b2, b1, b0].map u8) :=
    World.ownsRow_lit w _ 5 (Nat.le_refl _) (by decide) rfl
  go_enter Try.func57, Try.ntmps57
  go_wp2_with (first
    | (at_builtin; refine wpl_append_bs rfl (.tmp 25) (.tmp 26) 33 rfl w.heap.size 5 infoU8 Try.underlying33 _ _ [102, kind, b2, b1, b0] rfl hown0 _ _ l rfl (hb.below hB) (by simp; omega) hB.size ?_; intro ao3 cap3 l3 w3 hl3 hown3 hg3; have hb3 := below_app hB hg3 hown0 (Nat.le_refl _) hB.size; have hlen3 : l3.length ≤ 70000000000000 := (by rw [hl3.out]; simp; omega))
    | fail)
  refine (seal_any ao3 cap3 l3 w3 hlen3 (Bs.of_own hown3)).mono ?_
  rintro e w4 ⟨ao4, cap4, rfl, hf4⟩
  go_wp2_with fail
  rw [Hfin.out, ← hl3.out]
  go_ret2
  exact ⟨_, _, rfl, ⟨own_base hf4.own hb3.size, below_on hb3 hf4.bel (Nat.le_refl _)⟩⟩
/-- what 'size' answers -/
def SizeIs (w : World) (l : List UInt8) (e : Ending) (w' : World) : Prop := e = .returned (.tuple #[.int .i64 ((Fr.size l).1 : Nat), .int .i64 ((Fr.size l).2 : Nat)]) ∧ Below w.heap.size w w'
theorem ofInt_i64 (a : Nat) (ha : a < 9223372036854775808) : (BitVec.ofInt 64 (a : Int)).toNat = a := by
  rw [BitVec.ofInt_natCast, BitVec.toNat_ofNat]; omega
theorem i64_or_nat (a b : Nat) (ha : a < 9223372036854775808) (hb : b < 9223372036854775808) : bits .or .i64 (a : Int) (b : Int) = ((a ||| b : Nat) : Int) := by
  have h : a ||| b < 2 ^ 63 := Nat.or_lt_two_pow (by simpa using ha) (by simpa using hb)
  show IntKind.i64.wrap ((BitVec.ofInt 64 (a : Int) ||| BitVec.ofInt 64 (b : Int)).toNat : Int) = _
  rw [BitVec.toNat_or, ofInt_i64 a ha, ofInt_i64 b hb]
  exact IntWalk.i64_in _ (by omega)
theorem be3i (a b c : Nat) (ha : a < 256) (hb : b < 256) (hc : c < 256) :
    bits BinOp.or IntKind.i64 (bits BinOp.or IntKind.i64 (wrap64 (wrap64 (a : Int) * 65536)) (wrap64 (wrap64 (b : Int) * 256))) (wrap64 (c : Int)) = ((a * 65536 + b * 256 + c : Nat) : Int) := by
  have e1 : wrap64 (wrap64 (a : Int) * 65536) = ((a * 65536 : Nat) : Int) := by rw [IntWalk.wrap64_in (a : Int) (by omega), IntWalk.wrap64_in _ (by omega)]; omega
  have e2 : wrap64 (wrap64 (b : Int) * 256) = ((b * 256 : Nat) : Int) := by rw [IntWalk.wrap64_in (b : Int) (by omega), IntWalk.wrap64_in _ (by omega)]; omega
  have e3 : wrap64 (c : Int) = (c : Int) := IntWalk.wrap64_in _ (by omega)
  rw [e1, e2, e3, i64_or_nat _ _ (by omega) (by omega), nat_join 16 _ _ (by omega) (by omega), i64_or_nat _ _ (by omega) (by omega), nat_join 8 _ _ (by omega) (by omega)]
theorem size_bad (n k : Nat) (l : List UInt8) (h : Fr.size l = (n, k)) (w w' : World) (hb : Below w.heap.size w w') : SizeIs w l (.returned (.tuple #[.int .i64 (n : Nat), .int .i64 (k : Nat)])) w' := by
  refine ⟨?_, hb⟩; rw [h]
theorem size_nil (ao : Option Addr) (cap : Nat) (l : List UInt8) (w : World) (h : l.length = 0) :
    Calls Try.prog 89 #[.slice ao l.length cap] w (SizeIs w l) := by
  have hs : Fr.size l = (0, 23) := by unfold Fr.size; rw [if_pos h]
  have Hs := Lib.hid hs
  clear hs
  go_enter Try.func89, Try.ntmps89
  go_wp2
  go_ret2
  exact size_bad 0 23 l Hs.out w w (Below.refl _ _)
theorem u8_ne {c : UInt8} {k : UInt8} (h : c ≠ k) : ((c.toNat : Int) != (k.toNat : Int)) = true := by
  simp
  intro e
  exact h (UInt8.toNat_inj.1 (by omega))
theorem u8_eq {c : UInt8} {k : UInt8} (h : c = k) : ((c.toNat : Int) != (k.toNat : Int)) = false := by
  subst h; simp
set_option maxHeartbeats 400000 in
theorem size_one (b off cap : Nat) (l : List UInt8) (w : World) (hb : Bs w (some ⟨b, off, none⟩) cap l) (h : l.length = 1) :
    Calls Try.prog 89 #[.slice (some ⟨b, off, none⟩) l.length cap] w (SizeIs w l) := by
  have c0 : w.cell? ⟨b, off, none⟩ = some (.int .u8 (l[0].toNat : Int)) := hb.all 0 (by omega)
  have hg0 : l.getD 0 0 = l[0] := by simp [List.getD, List.getElem?_eq_getElem (show 0 < l.length by omega)]
  by_cases h1 : l[0] = 102
  · have hs : Fr.size l = (0, 23) := by unfold Fr.size; rw [if_neg (by omega), if_neg (by rw [hg0]; simpa using h1), if_pos (by omega)]
    have Hs := Lib.hid hs
    have t1 := u8_eq h1
    have t1' : ((l[0].toNat : Int) != 102) = false := t1
    clear hs t1 hg0 h1
    go_enter Try.func89, Try.ntmps89
    go_wp2
    go_ret2
    exact size_bad 0 23 l Hs.out w w (Below.refl _ _)
  · have hs : Fr.size l = (0, 20) := by unfold Fr.size; rw [if_neg (by omega), if_pos (by rw [hg0]; exact h1)]
    have Hs := Lib.hid hs
    have t1' : ((l[0].toNat : Int) != 102) = true := u8_ne h1
    clear hs hg0 h1
    go_enter Try.func89, Try.ntmps89
    go_wp2
    go_ret2
    exact size_bad 0 20 l Hs.out w w (Below.refl _ _)
set_option maxHeartbeats 400000 in
theorem size_few (b off cap : Nat) (l : List UInt8) (w : World) (hb : Bs w (some ⟨b, off, none⟩) cap l) (h : l.length = 2 ∨ l.length = 3 ∨ l.length = 4) :
    Calls Try.prog 89 #[.slice (some ⟨b, off, none⟩) l.length cap] w (SizeIs w l) := by
  have c0 : w.cell? ⟨b, off, none⟩ = some (.int .u8 (l[0].toNat : Int)) := hb.all 0 (by omega)
  have c1 := hb.all 1 (by omega)
  have hg0 : l.getD 0 0 = l[0] := by simp [List.getD, List.getElem?_eq_getElem (show 0 < l.length by omega)]
  have hg1 : l.getD 1 0 = l[1] := by simp [List.getD, List.getElem?_eq_getElem (show 1 < l.length by omega)]
  have three : (Fr.size l = (0, 20) ∧ ((l[0].toNat : Int) != 102) = true) ∨ (Fr.size l = (0, 20) ∧ ((l[0].toNat : Int) != 102) = false ∧ ((l[1].toNat : Int) == 0) = true) ∨
      (Fr.size l = (0, 23) ∧ ((l[0].toNat : Int) != 102) = false ∧ ((l[1].toNat : Int) == 0) = false) := by
    by_cases h1 : l[0] = 102
    · by_cases h2 : l[1] = 0
      · exact .inr (.inl ⟨by unfold Fr.size; rw [if_neg (by omega), if_neg (by rw [hg0]; simpa using h1), if_neg (by omega), if_pos (by rw [hg1]; exact h2)], u8_eq h1, by rw [h2]; rfl⟩)
      · exact .inr (.inr ⟨by unfold Fr.size; rw [if_neg (by omega), if_neg (by rw [hg0]; simpa using h1), if_neg (by omega), if_neg (by rw [hg1]; exact h2), if_pos (by omega)], u8_eq h1, kind_ne h2⟩)
    · exact .inl ⟨by unfold Fr.size; rw [if_neg (by omega), if_pos (by rw [hg0]; exact h1)], u8_ne h1⟩
  clear hg0 hg1
  rcases h with h | h | h <;> rcases three with ⟨hs, t1⟩ | ⟨hs, t1, t2⟩ | ⟨hs, t1, t2⟩
  all_goals
    have Hs := Lib.hid hs
    clear hs
    go_enter Try.func89, Try.ntmps89
    go_wp2
    all_goals
      go_ret2
      first | exact size_bad 0 20 l Hs.out w w (Below.refl _ _) | exact size_bad 0 23 l Hs.out w w (Below.refl _ _)
set_option maxHeartbeats 1000000 in
theorem size_many (b off cap : Nat) (l : List UInt8) (w : World) (hl : l.length ≤ 70000000000000) (hb : Bs w (some ⟨b, off, none⟩) cap l) (h : 5 ≤ l.length) :
    Calls Try.prog 89 #[.slice (some ⟨b, off, none⟩) l.length cap] w (SizeIs w l) := by
  have c0 : w.cell? ⟨b, off, none⟩ = some (.int .u8 (l[0].toNat : Int)) := hb.all 0 (by omega)
  have c1 := hb.all 1 (by omega)
  have c2 := hb.all 2 (by omega)
  have c3 := hb.all 3 (by omega)
  have c4 := hb.all 4 (by omega)
  have hv := be3i l[2].toNat l[3].toNat l[4].toNat (UInt8.toNat_lt _) (UInt8.toNat_lt _) (UInt8.toNat_lt _)
  have hx : Crc.num (l.getD 2 0) (l.getD 3 0) (l.getD 4 0) = l[2].toNat * 65536 + l[3].toNat * 256 + l[4].toNat := by
    simp [List.getD, List.getElem?_eq_getElem (show 2 < l.length by omega), List.getElem?_eq_getElem (show 3 < l.length by omega), List.getElem?_eq_getElem (show 4 < l.length by omega), Crc.num]
  have hxl : Crc.num (l.getD 2 0) (l.getD 3 0) (l.getD 4 0) < 16777216 := by
    rw [hx]; have := l[2].toNat_lt; have := l[3].toNat_lt; have := l[4].toNat_lt; omega
  rw [← hx] at hv
  have hg0 : l.getD 0 0 = l[0] := by simp [List.getD, List.getElem?_eq_getElem (show 0 < l.length by omega)]
  have hg1 : l.getD 1 0 = l[1] := by simp [List.getD, List.getElem?_eq_getElem (show 1 < l.length by omega)]
  have hsz : Fr.size l = if l[0] ≠ 102 then (0, 20) else if l[1] = 0 then (0, 20) else if 65536 < Crc.num (l.getD 2 0) (l.getD 3 0) (l.getD 4 0) then (0, 20)
      else if l.length < Crc.num (l.getD 2 0) (l.getD 3 0) (l.getD 4 0) + 8 then (0, 23) else (Crc.num (l.getD 2 0) (l.getD 3 0) (l.getD 4 0) + 8, 0) := by
    unfold Fr.size
    rw [if_neg (by omega), hg0, hg1, if_neg (show ¬ l.length < 2 by omega), if_neg (show ¬ l.length < 5 by omega)]
  clear hx hg0 hg1
  generalize Crc.num (l.getD 2 0) (l.getD 3 0) (l.getD 4 0) = x at *
  have Hv := Lib.hid hv
  clear hv
  by_cases hbig : 65536 < x
  · have hs : Fr.size l = (0, 20) := by rw [hsz, if_pos hbig]; split <;> (try split) <;> rfl
    have Hs := Lib.hid hs
    clear hs hsz
    go_enter Try.func89, Try.ntmps89
    go_wp2
    go_quiet (fail)
    rw [Hv.out]
    go_wp2
    go_ret2
    exact size_bad 0 20 l Hs.out w _ (below_drewN (Below.refl _ _) _)
  rw [if_neg hbig] at hsz
  by_cases h2 : l[1] = 0
  · have hs : Fr.size l = (0, 20) := by rw [hsz, if_pos h2]; split <;> rfl
    have Hs := Lib.hid hs
    have t2 : ((l[1].toNat : Int) == 0) = true := by rw [h2]; rfl
    clear hs hsz h2
    go_enter Try.func89, Try.ntmps89
    go_wp2
    go_quiet (fail)
    rw [Hv.out]
    go_wp2
    go_ret2
    exact size_bad 0 20 l Hs.out w _ (below_drewN (Below.refl _ _) _)
  rw [if_neg h2] at hsz
  have t2 := kind_ne h2
  clear h2
  by_cases h1 : l[0] = 102
  · rw [if_neg (by simpa using h1)] at hsz
    have t1 : ((l[0].toNat : Int) != 102) = false := u8_eq h1
    clear h1
    by_cases h3 : l.length < x + 8
    · rw [if_pos h3] at hsz
      have Hs := Lib.hid hsz
      have hz : ((x : Int) + 8 == 0) = false := by simp; omega
      clear hsz
      go_enter Try.func89, Try.ntmps89
      go_wp2
      go_quiet (fail)
      rw [Hv.out]
      go_wp2
      go_ret2
      exact size_bad 0 23 l Hs.out w _ (below_drewN (Below.refl _ _) _)
    · rw [if_neg h3] at hsz
      have Hs := Lib.hid hsz
      have hz : ((x : Int) + 8 == 0) = false := by simp; omega
      clear hsz
      go_enter Try.func89, Try.ntmps89
      go_wp2
      go_quiet (fail)
      rw [Hv.out]
      go_wp2
      go_ret2
      exact size_bad (x + 8) 0 l Hs.out w _ (below_drewN (Below.refl _ _) _)
  · rw [if_pos h1] at hsz
    have t1 : ((l[0].toNat : Int) != 102) = true := u8_ne h1
    have Hs := Lib.hid hsz
    clear h1 hsz
    go_enter Try.func89, Try.ntmps89
    go_wp2
    go_quiet (fail)
    rw [Hv.out]
    go_wp2
    go_ret2
    exact size_bad 0 20 l Hs.out w _ (below_drewN (Below.refl _ _) _)
theorem size_any (ao : Option Addr) (cap : Nat) (l : List UInt8) (w : World) (hl : l.length ≤ 70000000000000) (hb : Bs w ao cap l) :
    Calls Try.prog 89 #[.slice ao l.length cap] w (SizeIs w l) := by
  by_cases h0 : l.length = 0
  · exact size_nil ao cap l w h0
  · obtain ⟨b, off, rfl, _⟩ := hb.get 0 (by omega)
    by_cases h1 : l.length = 1
    · exact size_one b off cap l w hb h1
    · by_cases h5 : 5 ≤ l.length
      · exact size_many b off cap l w hl hb h5
      · exact size_few b off cap l w hb (by omega)
end Go.Proofs.Ytbmkgcoolofmpaa
namespace Go.Proofs.Ytbmkgcoolofmpaa
set_option linter.unusedVariables false
set_option linter.unusedSimpArgs false
set_option linter.unusedSectionVars false
open Go Go.RowKit
/-- what Take answers -/
def TakeIs (w : World) (l : List UInt8) (e : Ending) (w' : World) : Prop :=
  ∃ ab cb, e = .returned (.tuple #[.int .u8 ((Fr.take l).kind.toNat : Nat), .slice ab (Fr.take l).body.length cb, .int .i64 ((Fr.take l).n : Nat), .int .i64 ((Fr.take l).err : Nat)]) ∧ Bs w' ab cb (Fr.take l).body ∧ Below w.heap.size w w'
theorem bs_nil {w : World} : Bs w none 0 [] := ⟨by simp, by simp, by decide, fun _ => rfl, fun j u hu => by simp at hu⟩
theorem takeIs_bad {w w' : World} {l : List UInt8} {k : Nat} (h : Fr.take l = ⟨0, [], 0, k⟩) (hb : Below w.heap.size w w') : TakeIs w l (.returned (.tuple #[.int .u8 0, .slice none 0 0, .int .i64 0, .int .i64 (k : Nat)])) w' := by
  unfold TakeIs; rw [h]; exact ⟨none, 0, rfl, bs_nil, hb⟩
theorem takeIs_ok {w w' : World} {l body : List UInt8} {k : UInt8} {n : Nat} {ab : Option Addr} {cb : Nat} (h : Fr.take l = ⟨k, body, n, 0⟩) (hb : Bs w' ab cb body) (hbel : Below w.heap.size w w') :
    TakeIs w l (.returned (.tuple #[.int .u8 (k.toNat : Nat), .slice ab body.length cb, .int .i64 (n : Nat), .int .i64 0])) w' := by
  unfold TakeIs; rw [h]; exact ⟨ab, cb, rfl, hb, hbel⟩
set_option maxHeartbeats 1000000 in
theorem take_any (ao : Option Addr) (cap : Nat) (l : List UInt8) (w : World) (hl : l.length ≤ 70000000000000) (hb : Bs w ao cap l) :
    Calls Try.prog 71 #[.slice ao l.length cap] w (TakeIs w l) := by
  obtain ⟨n, k, hs⟩ : ∃ n k, Fr.size l = (n, k) := ⟨_, _, rfl⟩
  by_cases hk : k = 0
  · subst hk
    have h5 := Fr.size_ok l (by rw [hs])
    have hno := fun h => Fr.take_sum l (by rw [hs]) h
    have hye := fun h => Fr.take_yes l (by rw [hs]) h
    rw [hs] at h5 hno hye
    obtain ⟨h5, _, _, h6, h7, h8⟩ := h5
    simp only at h7 h8 hno hye
    have hn8 : 8 ≤ n := by omega
    clear h6 h7
    have Hno := Lib.hid hno
    have Hye := Lib.hid hye
    clear hno hye
    have Hs := Lib.hid hs
    clear hs
    go_enter Try.func71, Try.ntmps71
    go_wp2_with fail
    refine (size_any ao cap l w hl hb).mono ?_
    rintro e w1 ⟨rfl, hB1⟩
    rw [Hs.out]
    go_wp2_with ((with_reducible show wpList _ _ _ (⟨_, Op.slice _ (.tmp 17) _ _ _, _, _, _, _⟩ :: _) _ _); refine wpl_slice_bs rfl (.tmp 17) none (some (.tmp 18)) 33 5 rfl Try.underlying33 sizeU8 _ _ l rfl (hb.below hB1) 0 n (.inr ⟨rfl, rfl⟩) (.inl ⟨_, rfl, ?_⟩) ?_ ?_ ?_; rfl; omega; omega; intro ao2 cap2 l2 hl2 hlen2 hb2; have hle2 : l2.length ≤ 70000000000000 := (by omega); clear hlen2)
    have hl2' : l2 = l.take n := hl2.out
    cases ho : Crc.opened l2 with
    | none =>
      have Hf := Lib.hid (Hno.out (by rw [← hl2']; exact ho))
      have Ho := Lib.hid ho
      clear ho hl2'
      refine (open_none ao2 cap2 l2 w1 hle2 hb2 Ho.out).mono ?_
      rintro e w2 ⟨rfl, hB2⟩
      go_wp2_with fail
      refine bodyPost_ret (v := .tuple #[.int .u8 0, .slice none 0 0, .int .i64 0, .int .i64 22]) (by simp [results, Try.results71, go_sem]) rfl ?_
      exact takeIs_bad (k := 22) Hf.out (below_on hB1 hB2 (Nat.le_refl _))
    | some own =>
      obtain ⟨e1, e2⟩ := Hye.out (by rw [← hl2', ho]; simp)
      have eo : own = l.take (n - 3) := by rw [← hl2', ho] at e1; simpa using e1
      rw [← eo] at e2
      have hol : own.length = n - 3 := by rw [eo, List.length_take]; omega
      have ho5 : 5 ≤ own.length := by omega
      have hk : l.getD 1 0 = own[1]'(Nat.lt_of_lt_of_le (by decide) ho5) := by
        simp only [eo, List.getElem_take]
        rw [List.getD, List.getElem?_eq_getElem (by omega)]; rfl
      rw [hk] at e2
      have Ho := Lib.hid ho
      have He := Lib.hid e2
      have hoL : own.length ≤ 70000000000000 := by omega
      clear ho hl2' e1 e2 eo hol hk
      refine (open_yes ao2 cap2 l2 own w1 hle2 hb2 Ho.out).mono ?_
      rintro e w2 ⟨a3, c3, rfl, hf3⟩
      have hb3 := Bs.of_own hf3.own
      have hB2 := below_on hB1 hf3.bel (Nat.le_refl _)
      clear hf3
      obtain ⟨b, off, rfl, k1⟩ := hb3.get 1 (by omega)
      have hlc := hb3.le
      have hcut := Sl.cut hb3 5 own.length ho5 (Nat.le_refl _) (by decide)
      have h5i : (5 : Int) ≤ (own.length : Int) := by omega
      go_wp2_with fail
      go_quiet (fail)
      have hcut' : Bs w2 (if c3 = 5 then some ⟨b, off, none⟩ else some ⟨b, off + 5, none⟩) (c3 - 5) (own.drop 5) := by
        unfold Bs
        rw [List.length_drop]
        have ht : (own.map u8).take own.length = own.map u8 := List.take_of_length_le (by simp)
        simpa [List.map_drop, Addr.add_none, ht] using hcut
      clear hcut
      generalize (if c3 = 5 then (some ⟨b, off, none⟩ : Option Addr) else some ⟨b, off + 5, none⟩) = ax at *
      have hld : own.length - 5 = (own.drop 5).length := by simp
      rw [hld]
      clear hld
      go_wp2
      refine bodyPost_ret (v := .tuple #[.int .u8 own[1].toNat, .slice ax (own.drop 5).length (c3 - 5), .int .i64 n, .int .i64 0]) (by simp [results, Try.results71, go_sem]) rfl ?_
      exact takeIs_ok He.out (hcut'.below (below_drewN (Below.refl _ _) _)) (below_drewN hB2 _)
  · have Hf := Lib.hid (Fr.take_err l (by rw [hs]; exact hk))
    rw [hs] at Hf
    have Hs := Lib.hid hs
    have hkb : ((k : Int) != 0) = true := by simp; omega
    clear hs
    go_enter Try.func71, Try.ntmps71
    go_wp2_with fail
    refine (size_any ao cap l w hl hb).mono ?_
    rintro e w1 ⟨rfl, hB1⟩
    rw [Hs.out]
    go_wp2_with fail
    refine bodyPost_ret (v := .tuple #[.int .u8 0, .slice none 0 0, .int .i64 0, .int .i64 k]) (by simp [results, Try.results71, go_sem]) rfl ?_
    exact takeIs_bad Hf.out hB1
set_option maxHeartbeats 1000000 in
theorem whole_any (ao : Option Addr) (cap : Nat) (l : List UInt8) (w : World) (hl : l.length ≤ 70000000000000) (hb : Bs w ao cap l) :
    Calls Try.prog 46 #[.slice ao l.length cap] w fun e w' => Below w.heap.size w w' ∧
      (((Fr.take l).err = 0 ∧ (Fr.take l).n = l.length ∧ ∃ ab cb, e = .returned (.tuple #[.int .u8 ((Fr.take l).kind.toNat : Nat), .slice ab (Fr.take l).body.length cb, .bool true]) ∧ Bs w' ab cb (Fr.take l).body) ∨
        (¬ ((Fr.take l).err = 0 ∧ (Fr.take l).n = l.length) ∧ e = .returned (.tuple #[.int .u8 0, .slice none 0 0, .bool false]))) := by
  have hbl : (Fr.take l).body.length ≤ l.length := by
    unfold Fr.take
    split
    · simp
    · split
      · simp
      · rename_i own ho
        obtain ⟨e, _⟩ := Fr.opened_take _ _ ho
        rw [e]; simp only [List.length_drop, List.length_take]; omega
  generalize hT : Fr.take l = T at *
  obtain ⟨k, body, n, err⟩ := T
  simp only at hbl ⊢
  have HT := Lib.hid hT
  clear hT
  have three : ((err : Int) != 0) = true ∧ err ≠ 0 ∨ ((err : Int) != 0) = false ∧ err = 0 ∧ ((n : Int) != l.length) = true ∧ n ≠ l.length ∨ ((err : Int) != 0) = false ∧ err = 0 ∧ ((n : Int) != l.length) = false ∧ n = l.length := by
    by_cases h1 : err = 0
    · by_cases h2 : n = l.length
      · exact .inr (.inr ⟨by simp [h1], h1, by simp [h2], h2⟩)
      · exact .inr (.inl ⟨by simp [h1], h1, by simp; omega, h2⟩)
    · exact .inl ⟨by simp; omega, h1⟩
  rcases three with ⟨t1, f1⟩ | ⟨t1, f1, t2, f2⟩ | ⟨t1, f1, t2, f2⟩
  · have F1 := Lib.hid f1
    clear f1
    go_enter Try.func46, Try.ntmps46
    go_wp2_with fail
    refine (take_any ao cap l w hl hb).mono ?_
    unfold TakeIs
    rw [HT.out]
    rintro e w1 ⟨ab, cb, rfl, hb1, hB1⟩
    go_wp2_with fail
    refine bodyPost_ret (v := .tuple #[.int .u8 0, .slice none 0 0, .bool false]) (by simp [results, Try.results46, go_sem]) rfl ?_
    exact ⟨hB1, .inr ⟨fun h => F1.out h.1, rfl⟩⟩
  · have F2 := Lib.hid f2
    have F1 := Lib.hid f1
    clear f1 f2
    go_enter Try.func46, Try.ntmps46
    go_wp2_with fail
    refine (take_any ao cap l w hl hb).mono ?_
    unfold TakeIs
    rw [HT.out]
    rintro e w1 ⟨ab, cb, rfl, hb1, hB1⟩
    go_wp2_with fail
    refine bodyPost_ret (v := .tuple #[.int .u8 0, .slice none 0 0, .bool false]) (by simp [results, Try.results46, go_sem]) rfl ?_
    exact ⟨hB1, .inr ⟨fun h => F2.out h.2, rfl⟩⟩
  · have F2 := Lib.hid f2
    have F1 := Lib.hid f1
    clear f1 f2
    go_enter Try.func46, Try.ntmps46
    go_wp2_with fail
    refine (take_any ao cap l w hl hb).mono ?_
    unfold TakeIs
    rw [HT.out]
    rintro e w1 ⟨ab, cb, rfl, hb1, hB1⟩
    go_wp2_with fail
    refine (clone_any ab cb body w1 (by omega) hb1).mono ?_
    rintro e w2 ⟨a2, c2, rfl, hf2⟩
    go_wp2_with fail
    refine bodyPost_ret (v := .tuple #[.int .u8 k.toNat, .slice a2 body.length c2, .bool true]) (by simp [results, Try.results46, go_sem]) rfl ?_
    exact ⟨below_on hB1 hf2.bel (Nat.le_refl _), .inl ⟨F1.out, F2.out, _, _, rfl, Bs.of_own hf2.own⟩⟩
end Go.Proofs.Ytbmkgcoolofmpaa
namespace Go.Proofs.Ytbmkgcoolofmpaa
set_option linter.unusedVariables false
set_option linter.unusedSimpArgs false
set_option linter.unusedSectionVars false
open Go Go.RowKit Go.Shelf
/-- an entry -/
structure En where
  term : Int
  kind : Int
  data : List UInt8
deriving Inhabited
def soundE (e : En) : Bool := decide (1 ≤ e.term) && decide (e.term ≤ 1152921504606846976) && decide (1 ≤ e.kind) && decide (e.kind ≤ 3) && decide (e.data.length ≤ 4096)
theorem soundE_iff {e : En} : soundE e = true ↔ 1 ≤ e.term ∧ e.term ≤ 1152921504606846976 ∧ 1 ≤ e.kind ∧ e.kind ≤ 3 ∧ e.data.length ≤ 4096 := by
  simp only [soundE, Bool.and_eq_true, decide_eq_true_eq, and_assoc]
set_option maxRecDepth 100000 in
theorem sound_e (x1 x2 : Int) (ad : Option Addr) (n cd : Nat) (d : List UInt8) (hd : n = d.length) (w : World) :
    Calls Try.prog 93 #[.agg #[.int .u64 x1, .int .i64 x2, .slice ad n cd]] w fun e w' => e = .returned (.bool (soundE ⟨x1, x2, d⟩)) ∧ Below w.heap.size w w' := by
  obtain ⟨c, hc⟩ : ∃ c, c = soundE ⟨x1, x2, d⟩ := ⟨_, rfl⟩
  have hiff := soundE_iff (e := ⟨x1, x2, d⟩)
  rw [← hc] at hiff
  simp only [← hd] at hiff
  rw [← hc]
  have Hc := Lib.hid hiff
  clear hiff hc hd
  go_enter Try.func93, Try.ntmps93
  go_wp2_with fail
  all_goals
    go_ret
    refine ⟨ret_bool ?_, below_new _ _⟩
    rw [Bool.eq_iff_iff, Hc.out]
    simp only [decide_eq_true_eq, Bool.false_eq_true, false_iff]
    omega
set_option maxRecDepth 100000 in
theorem refSound_e (x1 x2 : Int) (ad : Option Addr) (n cd : Nat) (d : List UInt8) (hd : n = d.length) (w : World) :
    Calls Try.prog 86 #[.agg #[.int .u64 x1, .int .i64 x2, .slice ad n cd]] w fun e w' => e = .returned (.bool (soundE ⟨x1, x2, d⟩)) ∧ Below w.heap.size w w' := by
  obtain ⟨c, hc⟩ : ∃ c, c = soundE ⟨x1, x2, d⟩ := ⟨_, rfl⟩
  have hiff := soundE_iff (e := ⟨x1, x2, d⟩)
  rw [← hc] at hiff
  simp only [← hd] at hiff
  rw [← hc]
  have Hc := Lib.hid hiff
  clear hiff hc hd
  go_enter Try.func86, Try.ntmps86
  go_wp2_with fail
  all_goals
    go_ret
    refine ⟨ret_bool ?_, below_new _ _⟩
    rw [Bool.eq_iff_iff, Hc.out]
    simp only [decide_eq_true_eq, Bool.false_eq_true, false_iff]
    omega
end Go.Proofs.Ytbmkgcoolofmpaa
namespace Go.Proofs.Ytbmkgcoolofmpaa
set_option linter.unusedVariables false
set_option linter.unusedSimpArgs false
set_option linter.unusedSectionVars false
open Go Go.RowKit Go.Shelf
/-- bytes in a block of bytes -/
def BsT (w : World) (ao : Option Addr) (cap : Nat) (l : List UInt8) : Prop := Bs w ao cap l ∧ ∀ b off s, ao = some ⟨b, off, s⟩ → elem? w b = some 5
theorem BsT.below {w w' : World} {ao : Option Addr} {cap : Nat} {l : List UInt8} (h : BsT w ao cap l) (hb : Below w.heap.size w w') : BsT w' ao cap l :=
  ⟨h.1.below hb, fun b off s e => by rw [elem?_same (hb.block b (elem?_lt (h.2 b off s e)))]; exact h.2 b off s e⟩
theorem BsT.kept {w w' : World} {ao : Option Addr} {cap : Nat} {l : List UInt8} (h : BsT w ao cap l) (hk : ∀ b, elem? w b = some 5 → w'.heap[b]? = w.heap[b]?) : BsT w' ao cap l :=
  ⟨⟨h.1.len, h.1.le, h.1.max, h.1.none, fun j u hu => by
    obtain ⟨b, off, e, hc⟩ := h.1.cell j u hu
    exact ⟨b, off, e, by rw [World.cell?_of_block (w := w) (hk b (h.2 _ _ _ e))]; exact hc⟩⟩, fun b off s e => by rw [elem?_same (hk b (h.2 b off s e))]; exact h.2 b off s e⟩
theorem BsT.grown {w w' : World} {T : TypeId} {g : Nat} {ao : Option Addr} {cap : Nat} {l : List UInt8} (h : BsT w ao cap l) (hg : w.grownBy w' (some g)) (hT : elem? w g = some T) (hne : T ≠ 5) : BsT w' ao cap l :=
  h.kept fun b hb => hg.block b (elem?_lt hb) fun e => by
    simp only [Option.some.injEq] at e
    subst e
    rw [hb] at hT
    exact hne (by simpa using hT.symm)
end Go.Proofs.Ytbmkgcoolofmpaa
namespace Go.Proofs.Ytbmkgcoolofmpaa
set_option linter.unusedVariables false
set_option linter.unusedSimpArgs false
set_option linter.unusedSectionVars false
open Go Go.RowKit Go.Shelf
attribute [local go_sem] Oper.semAt_some
namespace Fr
theorem take_n (l : List UInt8) (h : (take l).err = 0) : (take l).n = (take l).body.length + 8 ∧ (take l).n ≤ l.length ∧ (take l).body.length ≤ 65536 := by
  have hs : (size l).2 = 0 := by
    apply Classical.byContradiction
    intro hn
    rw [take_err l hn] at h
    exact hn h
  have ho : Crc.opened (l.take (size l).1) ≠ none := by
    intro hn
    rw [take_sum l hs hn] at h
    cases h
  obtain ⟨_, h2⟩ := take_yes l hs ho
  obtain ⟨a, b, c, d, e, f⟩ := size_ok l hs
  rw [h2]
  simp only [List.length_drop, List.length_take]
  omega
end Fr
end Go.Proofs.Ytbmkgcoolofmpaa
namespace Go.Proofs.Ytbmkgcoolofmpaa
set_option linter.unusedVariables false
set_option linter.unusedSimpArgs false
set_option linter.unusedSectionVars false
open Go Go.RowKit Go.Shelf
attribute [local go_sem] Oper.semAt_some
namespace Fr
/-- kind and body of the frames with which bytes begin -/
def rows : Nat → List UInt8 → List (UInt8 × List UInt8)
  | 0, _ => []
  | k + 1, l => if l = [] ∨ (take l).err ≠ 0 then [] else ((take l).kind, (take l).body) :: rows k (l.drop (take l).n)
def all (l : List UInt8) : List (UInt8 × List UInt8) := rows l.length l
end Fr
end Go.Proofs.Ytbmkgcoolofmpaa
namespace Go.Proofs.Ytbmkgcoolofmpaa
set_option linter.unusedVariables false
set_option linter.unusedSimpArgs false
set_option linter.unusedSectionVars false
open Go Go.RowKit Go.Shelf
/-- entries in memory: each with the place of its data -/
structure Ep where
  e : En
  ao : Option Addr
  cap : Nat
def epCells (x : Ep) : List Value := [.int .u64 x.e.term, .int .i64 x.e.kind, .slice x.ao x.e.data.length x.cap]
theorem ep_each (l : List Ep) : ∀ r ∈ l.map epCells, r.length = 3 := by
  intro r hr; obtain ⟨x, _, rfl⟩ := List.mem_map.1 hr; rfl
theorem infoEn : (Try.prog.info? 88).map (fun i => (i.zero, i.size, i.bytes)) = some (some (.agg #[.int .u64 0, .int .i64 0, .slice none 0 0]), 3, 40) := by kernel_rfl
/-- a row of entries of one's own -/
structure EnsO (W : World) (base : Nat) (v : Value) (l : List Ep) : Prop where
  own : W.ownsRow base 88 3 v l.length (l.map epCells).flatten
  data : ∀ x ∈ l, BsT W x.ao x.cap x.e.data
theorem own_elemE {w : World} {base e k n : Nat} {v : Value} {xs : List Value} (h : w.ownsRow base e k v n xs) (g : Nat) (hg : v.ownBlock = some g) : elem? w g = some e := by
  rcases h.2 with ⟨h2, _⟩ | ⟨g', cap', cur, hv, _, hh, _⟩
  · subst h2; cases hg
  · subst hv
    simp [Value.ownBlock] at hg
    subst hg
    exact elem?_of hh
theorem EnsO.below {W W' : World} {base : Nat} {v : Value} {l : List Ep} (h : EnsO W base v l) (hb : Below W.heap.size W W') : EnsO W' base v l :=
  ⟨own_below h.own hb, fun x hx => (h.data x hx).below hb⟩
theorem EnsO.nil (W : World) (base : Nat) : EnsO W base (.slice none 0 0) [] := ⟨World.ownsRow_nil _ _ _ _, fun x hx => by cases hx⟩
theorem EnsO.grown {W W' : World} {base g : Nat} {T : TypeId} {v : Value} {l : List Ep} (h : EnsO W base v l) (hg : W.grownBy W' (some g)) (hT : elem? W g = some T) (h1 : T ≠ 5) (h2 : T ≠ 88) : EnsO W' base v l :=
  ⟨h.own.kept hg (.inr fun e => by have := own_elemE h.own g e; rw [hT] at this; exact h2 (by simpa using this)), fun x hx => (h.data x hx).grown hg hT h1⟩
/-- behind an append -/
theorem EnsO.push {W W' : World} {base : Nat} {v v' : Value} {l : List Ep} {x : Ep} (h : EnsO W base v l) (ho : W'.ownsRow base 88 3 v' (l.length + 1) (l.map epCells ++ [epCells x]).flatten) (hg : W.grownBy W' v.ownBlock) (hx : BsT W x.ao x.cap x.e.data) : EnsO W' base v' (l ++ [x]) := by
  have key : ∀ {ao : Option Addr} {cap : Nat} {d : List UInt8}, BsT W ao cap d → BsT W' ao cap d := fun hd => by
    cases hv : v.ownBlock with
    | none => rw [hv] at hg; exact hd.kept fun b hb => hg.block b (elem?_lt hb) (by simp)
    | some g => rw [hv] at hg; exact hd.grown hg (own_elemE h.own g hv) (by decide)
  refine ⟨by simpa using ho, fun y hy => ?_⟩
  rcases List.mem_append.1 hy with hy | hy
  · exact key (h.data y hy)
  · simp at hy; subst hy; exact key hx
end Go.Proofs.Ytbmkgcoolofmpaa
namespace Go.Proofs.Ytbmkgcoolofmpaa
set_option linter.unusedVariables false
set_option linter.unusedSimpArgs false
set_option linter.unusedSectionVars false
open Go Go.RowKit Go.Shelf
deriving instance DecidableEq for En
/-- entries that read -/
structure Ens (W : World) (ao : Option Addr) (cap : Nat) (l : List Ep) : Prop where
  sl : Sl W 3 ao l.length cap (l.map epCells).flatten
  data : ∀ x ∈ l, Bs W x.ao x.cap x.e.data
theorem Ens.below {W W' : World} {ao : Option Addr} {cap : Nat} {l : List Ep} (h : Ens W ao cap l) (hb : Below W.heap.size W W') : Ens W' ao cap l := ⟨h.sl.below hb, fun x hx => (h.data x hx).below hb⟩
theorem EnsO.ens {W : World} {base cap : Nat} {ao : Option Addr} {l : List Ep} (h : EnsO W base (.slice ao l.length cap) l) : Ens W ao cap l := ⟨Sl.of_own h.own, fun x hx => (h.data x hx).1⟩
theorem flat3_get (l : List Ep) (i : Nat) (hi : i < l.length) (j : Nat) (hj : j < 3) : (l.map epCells).flatten[i * 3 + j]? = some ((epCells l[i])[j]'hj) := by
  have := flatten_get (rows := l.map epCells) (k := 3) (ep_each l) i j (by simpa using hi) (by rw [List.getElem_map]; exact hj)
  rw [this]; simp only [List.getElem_map]; rfl
theorem Ens.get {W : World} {ao : Option Addr} {cap : Nat} {l : List Ep} (h : Ens W ao cap l) (i : Nat) (hi : i < l.length) :
    ∃ b off, ao = some ⟨b, off, none⟩ ∧ W.cell? ⟨b, off + i * 3, none⟩ = some (.int .u64 l[i].e.term) ∧ W.cell? ⟨b, off + i * 3 + 1, none⟩ = some (.int .i64 l[i].e.kind) ∧ W.cell? ⟨b, off + i * 3 + 2, none⟩ = some (.slice l[i].ao l[i].e.data.length l[i].cap) := by
  obtain ⟨b, off, e, c0⟩ := h.sl.cell _ _ (flat3_get l i hi 0 (by decide))
  have hc : ∀ j (hj : j < 3), W.cell? ⟨b, off + i * 3 + j, none⟩ = some ((epCells l[i])[j]'hj) := by
    intro j hj
    obtain ⟨b', off', e', hc⟩ := h.sl.cell _ _ (flat3_get l i hi j hj)
    rw [e] at e'
    simp only [Option.some.injEq, Addr.mk.injEq] at e'
    obtain ⟨rfl, rfl, -⟩ := e'
    rw [Nat.add_assoc]; exact hc
  exact ⟨b, off, e, hc 0 (by decide), hc 1 (by decide), hc 2 (by decide)⟩
theorem neq_str (d1 d2 : List UInt8) (w : World) : (binOp .neq 9 (.string ⟨d1.toArray⟩) (.string ⟨d2.toArray⟩)).run Try.prog w = .ok (.bool (decide (d1 ≠ d2))) w := by
  by_cases h : d1 = d2
  · subst h; simp [go_sem]
  · simp [go_sem, h]
theorem take_next {α : Type} {a b : List α} {i : Nat} (ha : i < a.length) (hb : i < b.length) (h : a.take i = b.take i) (he : a[i] = b[i]) : a.take (i + 1) = b.take (i + 1) := by
  rw [List.take_succ_eq_append_getElem ha, List.take_succ_eq_append_getElem hb, h, he]
set_option maxRecDepth 100000 in
set_option maxHeartbeats 4000000 in
theorem segRefSame_any (ao1 ao2 : Option Addr) (c1 c2 : Nat) (l1 l2 : List Ep) (w : World) (h1 : Ens w ao1 c1 l1) (h2 : Ens w ao2 c2 l2) (hl1 : l1.length ≤ 1000000) (hl2 : l2.length ≤ 1000000) :
    Calls Try.prog 66 #[.slice ao1 l1.length c1, .slice ao2 l2.length c2] w fun e w' => e = .returned (.bool (decide (l1.map Ep.e = l2.map Ep.e))) ∧ Below w.heap.size w w' := by
  obtain ⟨c, hc⟩ : ∃ c, c = decide (l1.map Ep.e = l2.map Ep.e) := ⟨_, rfl⟩
  rw [← hc]
  have Hc := Lib.hid hc
  clear hc
  by_cases hlen : l1.length = l2.length
  · have hlb : ((l1.length : Int) != (l2.length : Int)) = false := by simp [hlen]
    have Hlen := Lib.hid hlen
    clear hlen
    go_enter Try.func66, Try.ntmps66
    go_wp2_with fail
    go_loopw [5] (fun u wr => ∃ i : Nat, u = .int .i64 (i : Nat) ∧ i ≤ l1.length ∧ Hid ((l1.map Ep.e).take i = (l2.map Ep.e).take i) ∧ Below w.heap.size w wr) (fun u _ => l1.length - (intOf u).toNat)
    case atStart => exact ⟨0, rfl, Nat.zero_le _, Lib.hid (by simp), Below.refl _ _⟩
    case round =>
      obtain ⟨i, rfl, hi, Hinv, hB⟩ := hrel
      by_cases hlt : i < l1.length
      · have hlt2 : i < l2.length := by have := Hlen.out; omega
        have g1 := h1.below hB
        have g2 := h2.below hB
        obtain ⟨b1, o1, rfl, p0, p1, p2⟩ := g1.get i hlt
        obtain ⟨b2, o2, rfl, q0, q1, q2⟩ := g2.get i hlt2
        have hd1 := g1.data _ (List.getElem_mem hlt)
        have hd2 := g2.data _ (List.getElem_mem hlt2)
        have hne : l1[i].e ≠ l2[i].e → c = false := fun h => by
          rw [Hc.out]
          simp only [decide_eq_false_iff_not]
          intro he
          apply h
          have e3 : (l1.map Ep.e)[i]'(by simpa using hlt) = (l2.map Ep.e)[i]'(by simpa using hlt2) := by simp only [he]
          simpa using e3
        have heq : l1[i].e = l2[i].e → (l1.map Ep.e).take (i + 1) = (l2.map Ep.e).take (i + 1) := fun h => take_next (by simpa using hlt) (by simpa using hlt2) Hinv.out (by simpa using h)
        obtain ⟨x, hx⟩ : ∃ x, x = l1[i] := ⟨_, rfl⟩
        obtain ⟨y, hy⟩ : ∃ y, y = l2[i] := ⟨_, rfl⟩
        rw [← hx] at p0 p1 p2 hd1 hne heq
        rw [← hy] at q0 q1 q2 hd2 hne heq
        clear hx hy
        obtain ⟨⟨x1, x2, xd⟩, xa, xc⟩ := x
        obtain ⟨⟨y1, y2, yd⟩, ya, yc⟩ := y
        simp only at p0 p1 p2 q0 q1 q2 hd1 hd2 hne heq
        have cv1 := fun m => conv_any (hd1.below (below_drewN (Below.refl wr.heap.size wr) m))
        have cv2 := fun m => conv_any (hd2.below (below_drewN (Below.refl wr.heap.size wr) m))
        have hns := neq_str xd yd
        have i0 : (0 : Int) ≤ (i : Int) := by omega
        have i1 : (i : Int) < (l1.length : Int) := by omega
        have i2 : (i : Int) < (l2.length : Int) := by omega
        have Hne := Lib.hid hne
        have Heq := Lib.hid heq
        clear hne heq hd1 hd2 g1 g2
        by_cases e1 : x1 = y1
        · have e1b : (x1 != y1) = false := by simp [e1]
          by_cases e2 : x2 = y2
          · have e2b : (x2 != y2) = false := by simp [e2]
            by_cases e3 : xd = yd
            · have Hgo := Lib.hid (Heq.out (by rw [e1, e2, e3]))
              have e3b : (xd == yd) = true := by simp [e3]
              clear hns
              clear e1 e2 e3 Hne Heq
              go_wp2_with fail
              go_quiet (fail)
              go_wp2_with fail
              go_roundw
              case rel => exact ⟨i + 1, by simp, by omega, Hgo, below_drewN hB _⟩
              case measure => simp [intOf]; omega
            · have e3b : (xd == yd) = false := by simpa using e3
              clear hns
              have Hf := Lib.hid (Hne.out (fun h => e3 (by cases h; rfl)))
              clear e1 e2
              clear e3 Hne Heq
              go_wp2_with fail
              go_quiet (fail)
              go_wp2_with fail
              go_ret
              exact ⟨by rw [Hf.out]; rfl, below_drewN hB _⟩
          · have e2b : (x2 != y2) = true := by simpa using e2
            have Hf := Lib.hid (Hne.out (fun h => e2 (by cases h; rfl)))
            clear e1
            clear e2 Hne Heq
            go_wp2_with fail
            go_quiet (fail)
            go_wp2_with fail
            go_ret
            exact ⟨by rw [Hf.out]; rfl, below_drewN hB _⟩
        · have e1b : (x1 != y1) = true := by simpa using e1
          have Hf := Lib.hid (Hne.out (fun h => e1 (by cases h; rfl)))
          clear e1 Hne Heq
          go_wp2_with fail
          go_quiet (fail)
          go_wp2_with fail
          go_ret
          exact ⟨by rw [Hf.out]; rfl, below_drewN hB _⟩
      · have hi' : i = l1.length := by omega
        subst hi'
        have Ht : Hid (c = true) := Lib.hid (by
          rw [Hc.out]
          simp only [decide_eq_true_eq]
          have h := Hinv.out
          rw [List.take_of_length_le (by simp), List.take_of_length_le (by simp [Hlen.out])] at h
          exact h)
        go_wp2_with fail
        go_ret
        exact ⟨by rw [Ht.out]; rfl, hB⟩
  · have hlb : ((l1.length : Int) != (l2.length : Int)) = true := by simp; omega
    have Hf : Hid (c = false) := Lib.hid (by
      rw [Hc.out]
      simp only [decide_eq_false_iff_not]
      intro h
      have := congrArg List.length h
      simp at this
      exact hlen this)
    clear hlen
    go_enter Try.func66, Try.ntmps66
    go_wp2_with fail
    go_ret
    exact ⟨by rw [Hf.out]; rfl, Below.refl _ _⟩
end Go.Proofs.Ytbmkgcoolofmpaa
namespace Go.Proofs.Ytbmkgcoolofmpaa
set_option linter.unusedVariables false
set_option linter.unusedSimpArgs false
set_option linter.unusedSectionVars false
open Go Go.RowKit Go.Shelf
set_option maxRecDepth 100000 in
set_option maxHeartbeats 1000000 in
theorem bytesEqual_any (ao1 ao2 : Option Addr) (c1 c2 : Nat) (d1 d2 : List UInt8) (w : World) (h1 : Bs w ao1 c1 d1) (h2 : Bs w ao2 c2 d2) :
    Calls Try.prog 64 #[.slice ao1 d1.length c1, .slice ao2 d2.length c2] w fun e w' => e = .returned (.bool (d1 == d2)) ∧ w = w' := by
  have cv1 := conv_any h1
  have cv2 := conv_any h2
  go_enter Try.func64, Try.ntmps64
  go_wp2_with fail
  go_ret
  exact ⟨ret_bool (by simp), rfl⟩
end Go.Proofs.Ytbmkgcoolofmpaa
namespace Go.Proofs.Ytbmkgcoolofmpaa
set_option linter.unusedVariables false
set_option linter.unusedSimpArgs false
set_option linter.unusedSectionVars false
open Go Go.RowKit Go.Shelf
theorem Us.lit {w : World} (xs : List Nat) (cs : Array Value) (T : TypeId) (hcs : cs.toList = xs.map fun n : Nat => Value.int .u64 (n : Int)) (hm : xs.length ≤ 1000) :
    Us (w.alloc (.cells cs T)) (some ⟨w.heap.size, 0, .none⟩) xs.length xs :=
  ⟨by simp, by omega, by unfold maxLen; omega, by simp, fun j u hu => ⟨_, 0, rfl, by
    rw [cell?_new, Nat.zero_add, ← Array.getElem?_toList, hcs]; exact hu⟩⟩
theorem infoUB1 : (Try.prog.info? 5).map (fun i => (i.zero, i.size, i.bytes)) = some (some (.int .u8 0), 1, 1) := by kernel_rfl
set_option maxRecDepth 100000 in
set_option maxHeartbeats 1000000 in
theorem wraw_any {W : World} {base p : Nat} {v : Value} {l d : List UInt8} {g cd : Nat} (h : Wr W base p v l) (hd : Bs W (some ⟨g, 0, none⟩) cd d) (hl : l.length + d.length ≤ 1099511627776) :
    Calls Try.prog 83 #[.pointer (some ⟨p, 0, none⟩), .slice (some ⟨g, 0, none⟩) d.length cd] W (Wrote base p v (l ++ d) W) := by
  have c0 : W.cell? ⟨p, 0, none⟩ = some v := block_cell h.blk 0
  have f0 := block_free h.blk 0
  have hpz := (Array.getElem?_eq_some_iff.1 h.blk).1
  obtain ⟨i0, hi, hz0, hz1, hz2⟩ := info_parts infoUB1
  have hnews : ∀ j u, (d.map u8)[j]? = some u → W.cell? ((⟨g, 0, none⟩ : Addr).add j) = some u := by
    intro j u hu
    obtain ⟨b, off, e, hc⟩ := hd.cell j u hu
    simp only [Option.some.injEq, Addr.mk.injEq] at e
    obtain ⟨rfl, rfl, -⟩ := e
    rw [Addr.add_none]; exact hc
  have Happ := Lib.hid (fun (v' : Value) (W2 : World) ho hg hv => h.app (W1 := W) (W2 := W2) (v' := v') (l' := l ++ d) (Below.refl _ _) ho hg hv)
  have hs1 : l.length + d.length ≤ maxLen := by unfold maxLen; omega
  have hown := h.own
  have hsz := h.sz
  have hbase : base ≤ W.heap.size := hsz
  have hdl : (d.map u8).length = d.length * 1 := by simp
  have hu8 := u8_one d
  have Hn := Lib.hid hnews
  have Hl := Lib.hid hl
  obtain ⟨m, hm⟩ : ∃ m, m = d.length := ⟨_, rfl⟩
  rw [← hm] at hs1 hdl hl ⊢
  have Hm := Lib.hid hm
  have hbytes : (l.length + m) * 1 ≤ 140737488355328 := by omega
  clear hm hnews hl Hl hd h
  go_enter Try.func83, Try.ntmps83
  go_wp2_with (at_builtin; refine wpList_append_own_at _ rfl (.tmp 10) (.tmp 11) 33 rfl base 5 i0 (.int .u8 0) 1 1 Try.underlying33 hi hz0 hz1 hz2 rfl (by decide) v l.length (l.map u8) rfl hown ⟨g, 0, none⟩ m cd (d.map u8) rfl hdl Hn.out hu8 hs1 hbytes hbase ?_; intro v' W2 hown' hgrow _ hat; obtain ⟨r1, r2, r3, r4⟩ := Happ.out v' W2 (by rw [List.length_append, ← Hm.out, List.map_append]; exact hown') hgrow (fun k hk => by rcases hat with e | e; exact .inl (e ▸ hk); exact .inr (by rw [e] at hk; cases hk; exact Nat.le_refl _)); have d0 : W2.cell? ⟨p, 0, none⟩ = some v := block_cell r1 0; have d1 := block_free r1 0; obtain ⟨a2, k2, rfl⟩ := own_slice hown')
  refine bodyPost_ret (v := .tuple #[]) (by simp [results, Try.results83, go_sem]) rfl ?_
  exact ⟨rfl, _, r2, r3, r4⟩
set_option maxRecDepth 100000 in
set_option maxHeartbeats 2000000 in
theorem wtext_any {W : World} {base p : Nat} {v : Value} {l d : List UInt8} (h : Wr W base p v l) (hl : l.length + d.length ≤ 1000000000) :
    Calls Try.prog 55 #[.pointer (some ⟨p, 0, none⟩), .string ⟨d.toArray⟩] W (Wrote base p v (l ++ (numB d.length ++ d)) W) := by
  have hsz : (⟨d.toArray⟩ : ByteArray).size = d.length := by simp [ByteArray.size]
  have w0 : IntKind.u64.wrap (d.length : Int) = (d.length : Int) := IntWalk.u64_in _ (by omega)
  have hpz := (Array.getElem?_eq_some_iff.1 h.blk).1
  have hvz := h.own.lt
  have hdl : d.length < 2 ^ 64 := by omega
  have hnl := numB_len d.length hdl
  have hns : numsB [d.length] = numB d.length := by simp [numsB]
  obtain ⟨W1, hW1⟩ : ∃ W1, W1 = W.alloc (.cells #[.int .u64 (d.length : Int)] 31) := ⟨_, rfl⟩
  have hus : Us W1 (some ⟨W.heap.size, 0, none⟩) 1 [d.length] := by rw [hW1]; exact Us.lit [d.length] #[.int .u64 (d.length : Int)] _ rfl (by simp)
  have hB1 : Below W.heap.size W W1 := by rw [hW1]; exact below_new _ _
  have hnum := num_any [d.length] (by simpa using hdl) (some ⟨W.heap.size, 0, none⟩) 1 (h.below hB1) (by simp; omega) hus (fun a e => by cases e; exact ⟨by simp only; omega, fun e => by have := (hvz _ e).2; simp only at this; omega⟩)
  rw [hns] at hnum
  have Hnum := Lib.hid hnum
  have hF1 := (FrO.refl W.heap.size p v W).below hB1 (Nat.le_refl _)
  have hz1 := hB1.size
  clear hnum hus hns hdl
  go_enter Try.func55, Try.ntmps55
  go_wp2_with fail
  rw [← hW1]
  clear hW1
  refine Hnum.out.mono ?_
  rintro e W2 ⟨rfl, v2, hwr2, hfr2, hv2⟩
  have hF2 := hF1.next hfr2 hz1 (fun k hk => .inl hk)
  have hV2 : ∀ k, v2.ownBlock = some k → v.ownBlock = some k ∨ W.heap.size ≤ k := fun k hk => (hv2 k hk).imp_right (fun x => by omega)
  obtain ⟨cd, W3, hcv, hb3, hB3, -⟩ := bytes_of d (by unfold maxLen; omega) W2
  have hwr3 := hwr2.below hB3
  have hF3 := hF2.below hB3 hF2.size
  have hraw := wraw_any hwr3 hb3 (by simp; omega)
  have Hraw := Lib.hid hraw
  have hsz3 := hF3.size
  clear hraw hb3 hwr3 hwr2 hfr2 hv2 Hnum
  go_wp2_with fail
  refine Hraw.out.mono ?_
  rintro e W4 ⟨rfl, v4, hwr4, hfr4, hv4⟩
  go_wp2_with fail
  refine bodyPost_ret (v := .tuple #[]) (by simp [results, Try.results55, go_sem]) rfl ?_
  refine ⟨rfl, v4, by rw [← List.append_assoc]; exact hwr4, hF3.next hfr4 hsz3 hV2, fun k hk => ?_⟩
  rcases hv4 k hk with e | e
  · exact hV2 k e
  · exact .inr (by omega)
end Go.Proofs.Ytbmkgcoolofmpaa
namespace Go.Proofs.Ytbmkgcoolofmpaa
set_option linter.unusedVariables false
set_option linter.unusedSimpArgs false
set_option linter.unusedSectionVars false
open Go Go.RowKit Go.Shelf
/-- a new writer -/
theorem Wr.new (w : World) : Wr (w.alloc (.cells #[.slice none 0 0] 102)) w.heap.size w.heap.size (.slice none 0 0) [] :=
  ⟨heap_alloc_new _ _, World.ownsRow_nil _ _ _ _, Nat.le_refl _, by simp [Value.ownBlock], by simp⟩
theorem Wr.below_of {w W W' : World} {base p : Nat} {v : Value} {l : List UInt8} (h : Wr W base p v l) (hf : FrO W.heap.size p v W W') (hb : Below w.heap.size w W) (hp : w.heap.size ≤ base) : Below w.heap.size w W' :=
  hf.below_of hb hb.size (Nat.le_trans hp h.le) (fun k e => Nat.le_trans hp (h.own.lt k e).1)
end Go.Proofs.Ytbmkgcoolofmpaa
namespace Go.Proofs.Ytbmkgcoolofmpaa
set_option linter.unusedVariables false
set_option linter.unusedSimpArgs false
set_option linter.unusedSectionVars false
open Go Go.RowKit Go.Shelf
def LightP (l : List Ep) : Prop := (∀ x ∈ l, x.e.data.length ≤ 5000) ∧ l.length ≤ 60
instance (l : List Ep) : Decidable (LightP l) := by unfold LightP; exact inferInstance
end Go.Proofs.Ytbmkgcoolofmpaa
