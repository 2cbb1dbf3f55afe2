/- Contracts of crc24.Seal, Open and of the reference's. No statement of the seat is proved here. -/
import Derived.Test.YtlphpjgiaflfkaaCrc
import Derived.BigQuiet
import Derived.Deep.QuietTactic
namespace Go.Proofs.Ytlphpjgiaflfkaa
set_option linter.unusedVariables false
set_option linter.unusedSimpArgs false
set_option linter.unusedSectionVars false
open Go Go.RowKit

theorem infoU8 : (Try.prog.info? 5).map (fun i => (i.zero, i.size, i.bytes)) = some (some (.int .u8 0), 1, 1) := by kernel_rfl
theorem sizeU8 : (Try.prog.info? 5).map (·.size) = some 1 := by kernel_rfl

/-- a new slice of bytes of the call's own -/
structure Fresh (w w' : World) (ao : Option Addr) (cap : Nat) (l : List UInt8) : Prop where
  own : w'.ownsRow w.heap.size 5 1 (.slice ao l.length cap) l.length (l.map u8)
  bel : Below w.heap.size w w'

theorem clone_any (ao : Option Addr) (cap : Nat) (l : List UInt8) (w : World) (hl : l.length ≤ 70000000000000) (hb : Bs w ao cap l) :
    Calls Try.prog 62 #[.slice ao l.length cap] w fun e w' => ∃ ao' cap', e = .returned (.slice ao' l.length cap') ∧ Fresh w w' ao' cap' l := by
  cases ao with
  | none =>
    have h1 := hb.none rfl
    have h2 := hb.le
    obtain rfl : l = [] := List.eq_nil_of_length_eq_zero (by omega)
    subst h1
    have hn := fun wx : World => run_eql_nil_slice (P := Try.prog) wx 22 5 none 0 0 0 0 Try.underlying22
    go_enter Try.func62, Try.ntmps62
    go_wp2
    go_ret
    exact ⟨_, _, rfl, ⟨World.ownsRow_nil _ _ _ _, Below.refl _ _⟩⟩
  | some a =>
    have hn := fun wx : World => Lib.run_eql_slice_nil (P := Try.prog) wx 22 5 (some a) l.length cap 0 0 Try.underlying22
    go_enter Try.func62, Try.ntmps62
    go_wp2_with (at_builtin; refine wpl_append_bs rfl (.tmp 5) (.tmp 6) 22 rfl w.heap.size 5 infoU8 Try.underlying22 _ _ [] rfl (own_empty w w.heap.size _ _ (Nat.le_refl _)) _ _ l rfl (hb.below (below_new _ _)) ?_ ?_ ?_; rotate_right; intro ao' cap' l' w' hl' hown' hg')
    · obtain rfl : l' = l := hl'
      go_ret
      exact ⟨_, _, rfl, ⟨hown', below_app (below_new _ _) hg' (own_empty w w.heap.size _ 1 (Nat.le_refl _)) (Nat.le_refl _) (by simp)⟩⟩
    · simp; omega
    · simp

theorem ofNat_u8 (n : Nat) : (((UInt8.ofNat n).toNat : Nat) : Int) = (n : Int) % 256 := by simp

set_option maxHeartbeats 400000 in
theorem seal_any (ao : Option Addr) (cap : Nat) (l : List UInt8) (w : World) (hl : l.length ≤ 70000000000000) (hb : Bs w ao cap l) :
    Calls Try.prog 95 #[.slice ao l.length cap] w fun e w' => ∃ ao' cap', e = .returned (.slice ao' (Crc.sealed l).length cap') ∧ Fresh w w' ao' cap' (Crc.sealed l) := by
  obtain ⟨i0, hi, hz0, hz1', hz2⟩ := info_parts infoU8
  have hs1 := Crc.sum_lt l
  have hs2 : Crc.on 11994318 [l].flatten = Crc.sum l := by simp [Crc.sum]
  have Hs2 := Lib.hid hs2
  clear hs2
  obtain ⟨s, hs⟩ : ∃ s, s = Crc.sum l := ⟨_, rfl⟩
  rw [← hs] at hs1
  obtain ⟨b2, hb2⟩ : ∃ b : UInt8, b = UInt8.ofNat (s / 65536) := ⟨_, rfl⟩
  obtain ⟨b1, hb1⟩ : ∃ b : UInt8, b = UInt8.ofNat (s / 256) := ⟨_, rfl⟩
  obtain ⟨b0, hb0⟩ : ∃ b : UInt8, b = UInt8.ofNat s := ⟨_, rfl⟩
  have e2 : (s : Int) / 65536 = (b2.toNat : Int) := by rw [hb2, ofNat_u8]; omega
  have e1 : (s : Int) / 256 % 256 = (b1.toNat : Int) := by rw [hb1, ofNat_u8]; simp
  have e0 : (s : Int) % 256 = (b0.toNat : Int) := by rw [hb0, ofNat_u8]
  have hfin : Crc.sealed l = (l ++ [b2, b1, b0]) := by rw [Crc.sealed, Crc.tail, hb2, hb1, hb0, hs]
  rw [← hs] at Hs2
  have Hfin := Lib.hid hfin
  clear hfin hb2 hb1 hb0 hs
  go_enter Try.func95, Try.ntmps95
  go_wp2_with (first
    | (go_at_call 112; refine (sum_any _ 1 [l] _ (by simp) (by simpa using (by omega)) (Bss.one hb _)).mono ?_; rintro e w1 ⟨rfl, hbel1⟩; rw [Hs2.out]; have hb1 := below_on (below_new _ _) hbel1 (Nat.le_refl _); have hz1 := hb1.size)
    | (at_make; refine wpList_make_own _ rfl _ _ 22 rfl w.heap.size 5 i0 (.int .u8 0) 1 Try.underlying22 hi hz0 hz1' _ _ _ (l.length + 3) rfl rfl (by omega) (by rw [hz2]; omega) (by unfold maxLen; omega) hz1 ?_; intro w2 hown2 hg2; have hb2 := hb1.grown hg2 hz1 (by intro k hk; cases hk))
    | (at_builtin; refine wpl_append_bs rfl (.tmp 12) (.tmp 13) 22 rfl w.heap.size 5 infoU8 Try.underlying22 _ _ [] rfl hown2 _ _ l rfl (hb.below hb2) (by simp; omega) hb2.size ?_; intro ao3 cap3 l3 w3 hl3 hown3 hg3; have hb3 := below_app hb2 hg3 hown2 (Nat.le_refl _) hb2.size; have hlen3 : l3.length ≤ 70000000000000 := by rw [hl3.out]; exact hl)
    | (at_builtin; refine wpl_append_bs rfl (.tmp 14) (.tmp 23) 22 rfl w.heap.size 5 infoU8 Try.underlying22 _ _ l3 rfl (hown3.alloc _) _ _ [b2, b1, b0] rfl (Bs.lit _ _ _ _ rfl rfl (by simp)) (by simp; omega) ((hb3.alloc hb3.size _).size) ?_; intro ao4 cap4 l4 w4 hl4 hown4 hg4; have hb4 := below_app (hb3.alloc hb3.size _) hg4 (hown3.alloc _) (Nat.le_refl _) (hb3.alloc hb3.size _).size))
  have hs : Crc.sealed l = l4 := by rw [Hfin.out, hl4.out, hl3.out]; rfl
  rw [hs]
  go_ret
  exact ⟨_, _, rfl, ⟨hown4, hb4⟩⟩

/-- what Open answers -/
def OpenIs (w : World) (l : List UInt8) (e : Ending) (w' : World) : Prop :=
  match Crc.opened l with
  | some l' => ∃ ao' cap', e = .returned (.tuple #[.slice ao' l'.length cap', .bool true]) ∧ Fresh w w' ao' cap' l'
  | none => e = .returned (.tuple #[.slice none 0 0, .bool false]) ∧ Below w.heap.size w w'
theorem OpenIs.yes {w w' : World} {l l' : List UInt8} {ao' cap'} (h : Crc.opened l = some l') (hf : Fresh w w' ao' cap' l') : OpenIs w l (.returned (.tuple #[.slice ao' l'.length cap', .bool true])) w' := by
  unfold OpenIs; rw [h]; exact ⟨_, _, rfl, hf⟩
theorem OpenIs.no {w w' : World} {l : List UInt8} (h : Crc.opened l = none) (hf : Below w.heap.size w w') : OpenIs w l (.returned (.tuple #[.slice none 0 0, .bool false])) w' := by
  unfold OpenIs; rw [h]; exact ⟨rfl, hf⟩

set_option maxHeartbeats 400000 in
theorem open_short (ao : Option Addr) (cap : Nat) (l : List UInt8) (w : World) (h : l.length < 3) :
    Calls Try.prog 106 #[.slice ao l.length cap] w (OpenIs w l) := by
  go_enter Try.func106, Try.ntmps106
  go_wp2
  go_ret2
  exact OpenIs.no (Crc.opened_short l h) (Below.refl _ _)

theorem be3 (a b c : Nat) (ha : a < 256) (hb : b < 256) (hc : c < 256) :
    bits BinOp.or IntKind.u32 (bits BinOp.or IntKind.u32 ((a : Int) % 4294967296 * 65536 % 4294967296) ((b : Int) % 4294967296 * 256 % 4294967296)) ((c : Int) % 4294967296) = ((a * 65536 + b * 256 + c : Nat) : Int) := by
  have e1 : ((a : Int) % 4294967296 * 65536 % 4294967296) = ((a * 65536 : Nat) : Int) := by omega
  have e2 : ((b : Int) % 4294967296 * 256 % 4294967296) = ((b * 256 : Nat) : Int) := by omega
  have e3 : ((c : Int) % 4294967296) = (c : Int) := by omega
  rw [e1, e2, e3, u32_or_nat _ _ (by omega) (by omega), nat_join 16 _ _ (by omega) (by omega), u32_or_nat _ _ (by omega) (by omega), nat_join 8 _ _ (by omega) (by omega)]

set_option maxHeartbeats 400000 in
theorem open_long (b off cap : Nat) (l : List UInt8) (w : World) (hl : l.length ≤ 70000000000000) (hb : Bs w (some ⟨b, off, none⟩) cap l) (h : 3 ≤ l.length) :
    Calls Try.prog 106 #[.slice (some ⟨b, off, none⟩) l.length cap] w (OpenIs w l) := by
  have c2 := hb.all (l.length - 3) (by omega)
  have c1 := hb.all (l.length - 3 + 1) (by omega)
  have c0 := hb.all (l.length - 3 + 2) (by omega)
  have hv := be3 l[l.length - 3].toNat l[l.length - 3 + 1].toNat l[l.length - 3 + 2].toNat (UInt8.toNat_lt _) (UInt8.toNat_lt _) (UInt8.toNat_lt _)
  have hx : Crc.num l[l.length - 3] l[l.length - 3 + 1] l[l.length - 3 + 2] = l[l.length - 3].toNat * 65536 + l[l.length - 3 + 1].toNat * 256 + l[l.length - 3 + 2].toNat := rfl
  have hy := Crc.opened_some l h
  have hn := Crc.opened_none l h
  rw [← hx] at hv
  generalize Crc.num l[l.length - 3] l[l.length - 3 + 1] l[l.length - 3 + 2] = x at *
  have Hy := Lib.hid hy
  have Hn := Lib.hid hn
  have Hv := Lib.hid hv
  clear hx hy hn hv
  obtain ⟨l1, hl1⟩ : ∃ l1, l1 = l.take (l.length - 3) := ⟨_, rfl⟩
  rw [← hl1] at Hy Hn
  have Hl1 := Lib.hid hl1
  clear hl1
  by_cases hs : Crc.sum l1 = x
  · have hsb : ((Crc.sum l1 : Int) == (x : Int)) = true := by simp; omega
    have Hsb := Lib.hid hsb
    have Hs := Lib.hid hs
    clear hsb hs
    go_enter Try.func106, Try.ntmps106
    go_wp2
    go_quiet (fail)
    rw [Hv.out]
    clear c2 c1 c0
    have hbN : ∀ n, Bs (w.drewN n) (some ⟨b, off, none⟩) cap l := fun n => hb.below (below_drewN (Below.refl _ _) _)
    have hBN : ∀ n, Below w.heap.size w (w.drewN n) := fun n => below_drewN (Below.refl _ _) _
    go_wp2_with (first
      | ((with_reducible show wpList _ _ _ (⟨_, Op.slice _ (.tmp 32) _ _ _, _, _, _, _⟩ :: _) _ _); go_loud (refine wpl_slice_bs rfl (.tmp 32) none (some (.tmp 33)) 22 5 rfl Try.underlying22 sizeU8 _ _ l rfl (hbN _) 0 (l.length - 3) (.inr ⟨rfl, rfl⟩) (.inl ⟨_, rfl, ?_⟩) ?_ ?_ ?_; omega; omega; omega; intro ao2 cap2 l2 hl2 hlen2 hb2; obtain rfl : l2 = l1 := hl2.out.trans Hl1.out.symm; have hle2 : l2.length ≤ 70000000000000 := (by omega); clear hlen2; clear hl2; have hb2' := hb2))
      | (go_at_call 116; go_loud (refine (fits_any _ _ l2 _ _ (by omega) hb2).mono ?_); rintro e w3 ⟨rfl, hbel3⟩; rw [Hsb.out])
      | ((with_reducible show wpList _ _ _ (⟨_, Op.slice _ (.tmp 38) _ _ _, _, _, _, _⟩ :: _) _ _); refine wpl_slice_bs rfl (.tmp 38) none (some (.tmp 39)) 22 5 rfl Try.underlying22 sizeU8 _ _ l rfl ((hb.below (below_on (hBN _) hbel3 (Nat.le_refl _)))) 0 (l.length - 3) (.inr ⟨rfl, rfl⟩) (.inl ⟨_, rfl, ?_⟩) ?_ ?_ ?_; omega; omega; omega; intro ao4 cap4 l4 hl4 hlen4 hb4; obtain rfl : l4 = l2 := hl4.out.trans Hl1.out.symm; clear hlen4 hl4)
      | (go_at_call 62; refine (clone_any _ _ l4 _ hle2 hb4).mono ?_; rintro e w5 ⟨ao5, cap5, rfl, hf5⟩))
    go_ret2
    exact OpenIs.yes (Hy.out Hs.out) ⟨own_base hf5.own ((below_on (hBN _) hbel3 (Nat.le_refl _)).size), below_on (below_on (hBN _) hbel3 (Nat.le_refl _)) hf5.bel (Nat.le_refl _)⟩
  · have hsb : ((Crc.sum l1 : Int) == (x : Int)) = false := by simp; omega
    have Hsb := Lib.hid hsb
    have Hs := Lib.hid hs
    clear hsb hs
    go_enter Try.func106, Try.ntmps106
    go_wp2
    go_quiet (fail)
    rw [Hv.out]
    clear c2 c1 c0
    have hbN : ∀ n, Bs (w.drewN n) (some ⟨b, off, none⟩) cap l := fun n => hb.below (below_drewN (Below.refl _ _) _)
    have hBN : ∀ n, Below w.heap.size w (w.drewN n) := fun n => below_drewN (Below.refl _ _) _
    go_wp2_with (first
      | ((with_reducible show wpList _ _ _ (⟨_, Op.slice _ (.tmp 32) _ _ _, _, _, _, _⟩ :: _) _ _); go_loud (refine wpl_slice_bs rfl (.tmp 32) none (some (.tmp 33)) 22 5 rfl Try.underlying22 sizeU8 _ _ l rfl (hbN _) 0 (l.length - 3) (.inr ⟨rfl, rfl⟩) (.inl ⟨_, rfl, ?_⟩) ?_ ?_ ?_; omega; omega; omega; intro ao2 cap2 l2 hl2 hlen2 hb2; obtain rfl : l2 = l1 := hl2.out.trans Hl1.out.symm; have hle2 : l2.length ≤ 70000000000000 := (by omega); clear hlen2; clear hl2; have hb2' := hb2))
      | (go_at_call 116; go_loud (refine (fits_any _ _ l2 _ _ (by omega) hb2).mono ?_); rintro e w3 ⟨rfl, hbel3⟩; rw [Hsb.out]))
    go_ret2
    exact OpenIs.no (Hn.out Hs.out) (below_on (hBN _) hbel3 (Nat.le_refl _))

theorem open_any (ao : Option Addr) (cap : Nat) (l : List UInt8) (w : World) (hl : l.length ≤ 70000000000000) (hb : Bs w ao cap l) :
    Calls Try.prog 106 #[.slice ao l.length cap] w (OpenIs w l) := by
  by_cases h : l.length < 3
  · exact open_short ao cap l w h
  · obtain ⟨b, off, rfl, _⟩ := hb.get 0 (by omega)
    exact open_long b off cap l w hl hb (by omega)
end Go.Proofs.Ytlphpjgiaflfkaa
