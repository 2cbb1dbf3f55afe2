/- slots: math/bits, Next. No statement of the seat is proved here. -/
import Derived.Test.YtadghaiengonoaaDoorVa
namespace Go.Proofs.YtadghaiengonoaaDoor
set_option linter.unusedVariables false
set_option linter.unusedSimpArgs false
set_option linter.unusedSectionVars false
open Go Go.RowKit Go.Maps

/-- the table of math/bits lies in block 0 -/
def Tab (W : World) : Prop := ∀ k (hk : k < tabL.length), W.cell? ⟨0, k, none⟩ = some (.int .u8 ((tabL[k] : Nat) : Int))
theorem Tab.cell {W : World} (h : Tab W) (t : Nat) (ht : t < 64) : W.cell? ⟨0, tabI t, none⟩ = some (.int .u8 (t : Nat)) := by
  obtain ⟨h1, h2⟩ := tab_ok t ht
  obtain ⟨h3, h4⟩ := List.getElem?_eq_some_iff.1 h2
  rw [h (tabI t) h3, h4]
theorem Tab.below {W W' : World} {B : Nat} (h : Tab W) (hb : Below B W W') (hB : 0 < B) : Tab W' := fun k hk => (hb.cell (p := ⟨0, k, none⟩) hB).trans (h k hk)
theorem neg_in (x : Nat) (h : x ≠ 0) (hx : x < 18446744073709551616) : IntKind.u64.wrap (-(x : Int)) = ((18446744073709551616 - x : Nat) : Int) := by
  simp [IntKind.wrap, IntKind.signed, IntKind.bits]; omega
theorem bits_and (x y : Nat) (hx : x < 18446744073709551616) (hy : y < 18446744073709551616) : bits .and .u64 (x : Nat) (y : Nat) = ((x &&& y : Nat) : Int) := by
  have h1 : bits .and .u64 (x : Nat) (y : Nat) = IntKind.u64.wrap (((BitVec.ofNat 64 x &&& BitVec.ofNat 64 y).toNat : Nat) : Int) := rfl
  have h64 : (18446744073709551616 : Nat) = 2 ^ 64 := by decide
  rw [h1, BitVec.toNat_and, BitVec.toNat_ofNat, BitVec.toNat_ofNat, ← h64, Nat.mod_eq_of_lt hx, Nat.mod_eq_of_lt hy]
  refine wrapU _ ?_
  exact Nat.lt_of_le_of_lt Nat.and_le_left hx
theorem tab_idx (t : Nat) (ht : t < 64) : IntKind.u64.wrap (2 ^ t * 285870213051353865) / 288230376151711744 = (tabI t : Int) := by
  have h4 : (2 : Int) ^ t = ((2 ^ t : Nat) : Int) := (Int.natCast_pow 2 t).symm
  rw [h4]
  unfold tabI
  generalize 2 ^ t = m
  simp [IntKind.wrap, IntKind.signed, IntKind.bits]
set_option maxRecDepth 100000 in
theorem trailing_any (W : World) (x t : Nat) (h0 : x ≠ 0) (hx : x < 18446744073709551616) (ht : Low x t) (hT : Tab W) :
    Calls Tryd.prog 33 #[.int .u64 (x : Nat)] W fun e W' => e = .returned (.int .i64 (t : Nat)) ∧ W' = W := by
  have y0 : ¬ (x : Int) = 0 := by omega
  have y1 : ((x : Int) == 0) = false := by simp [h0]
  have y2 := neg_in x h0 hx
  have y3 := bits_and x (18446744073709551616 - x) hx (by omega)
  rw [ht.and] at y3
  have hc := hT.cell t ht.lt
  have y4 := tab_idx t ht.lt
  have y5 : (tabI t : Int) < 64 := by have := (tab_ok t ht.lt).1; omega
  have y6 : wrap64 (t : Int) = (t : Int) := IntWalk.wrap64_in _ (by have := ht.lt; omega)
  rw [show ((2 : Int) ^ t) = ((2 ^ t : Nat) : Int) from (Int.natCast_pow 2 t).symm] at y4
  obtain ⟨nx, hnx⟩ : ∃ nx, nx = 18446744073709551616 - x := ⟨_, rfl⟩
  rw [← hnx] at y2 y3
  obtain ⟨P, hP⟩ : ∃ P, P = 2 ^ t := ⟨_, rfl⟩
  rw [← hP] at y3 y4
  obtain ⟨I, hI⟩ : ∃ I, I = tabI t := ⟨_, rfl⟩
  rw [← hI] at y4 y5 hc
  clear hT hnx hP hI ht hx
  go_enter Tryd.func33, Tryd.ntmps33
  go_wp2_with fail
  go_ret
  exact ⟨ret_int y6, rfl⟩
theorem neg_and (a : Nat) (ha : a < 64) : bits .and .u64 (IntKind.u64.wrap (-(a : Int))) 63 = (((64 - a) % 64 : Nat) : Int) := by
  have e : IntKind.u64.wrap (-(a : Int)) = (((18446744073709551616 - a) % 18446744073709551616 : Nat) : Int) := by
    simp [IntKind.wrap, IntKind.signed, IntKind.bits]; omega
  rw [e]
  have := bits_and ((18446744073709551616 - a) % 18446744073709551616) 63 (Nat.mod_lt _ (by decide)) (by decide)
  rw [show ((63 : Nat) : Int) = 63 from rfl] at this
  rw [this, show (63 : Nat) = 2 ^ 6 - 1 from rfl, Nat.and_two_pow_sub_one_eq_mod]
  congr 1
  omega
theorem rot_or (x s C : Nat) (hx : x < 18446744073709551616) (hC : C = 64 - s) : bits .or .u64 (IntKind.u64.wrap ((x : Int) * 2 ^ s)) ((x : Int) / 2 ^ C) = (rotl x s : Nat) := by
  have h4 : (2 : Int) ^ s = ((2 ^ s : Nat) : Int) := (Int.natCast_pow 2 s).symm
  have h5 : (2 : Int) ^ C = ((2 ^ C : Nat) : Int) := (Int.natCast_pow 2 C).symm
  have e1 : IntKind.u64.wrap ((x : Int) * 2 ^ s) = ((x * 2 ^ s % 18446744073709551616 : Nat) : Int) := by
    rw [h4]; simp [IntKind.wrap, IntKind.signed, IntKind.bits]
  have e2 : (x : Int) / 2 ^ C = ((x / 2 ^ C : Nat) : Int) := by rw [h5]; rfl
  rw [e1, e2, hC]
  have h1 : bits .or .u64 ((x * 2 ^ s % 18446744073709551616 : Nat) : Int) ((x / 2 ^ (64 - s) : Nat) : Int) = IntKind.u64.wrap ((rotl x s : Nat) : Int) := rfl
  rw [h1]
  exact wrapU _ (rotl_lt x s)
set_option maxRecDepth 100000 in
theorem rotate_left (W : World) (x a : Nat) (hx : x < 18446744073709551616) (ha : a < 64) :
    Calls Tryd.prog 34 #[.int .u64 (x : Nat), .int .i64 (-(a : Int))] W fun e W' => e = .returned (.int .u64 (rotl x ((64 - a) % 64) : Nat)) ∧ W' = W := by
  have r1 := neg_and a ha
  obtain ⟨s, hs⟩ : ∃ s, s = (64 - a) % 64 := ⟨_, rfl⟩
  rw [← hs] at r1 ⊢
  have hs64 : s < 64 := by omega
  obtain ⟨C, hC⟩ : ∃ C, C = 64 - s := ⟨_, rfl⟩
  have r2 : IntKind.u64.wrap (64 - (s : Int)) = (C : Int) := by simp [IntKind.wrap, IntKind.signed, IntKind.bits]; omega
  have r3 := rot_or x s C hx hC
  have r4 : (s : Int) < 64 := by omega
  have r5 : (C : Int) ≤ 64 := by omega
  have r6 : min s 64 = s := by omega
  have r7 : min C 64 = C := by omega
  clear hs hC
  go_enter Tryd.func34, Tryd.ntmps34
  go_wp2_with fail
  go_ret
  exact ⟨rfl, rfl⟩
/-- the next slot that has something -/
structure NextIs (L : RLs) (a st : Nat) : Prop where
  lt : st < 64
  yes : ∃ p ∈ L, p.2 = (a + st) % 64
  no : ∀ j, j < st → ∀ p ∈ L, p.2 ≠ (a + j) % 64
theorem NextIs.uniq {L : RLs} {a s t : Nat} (h : NextIs L a s) (h2 : NextIs L a t) : s = t := by
  obtain ⟨p, hp, e⟩ := h.yes
  obtain ⟨q, hq, e2⟩ := h2.yes
  rcases Nat.lt_trichotomy s t with h3 | h3 | h3
  · exact absurd e (h2.no s h3 p hp)
  · exact h3
  · exact absurd e2 (h.no t h3 q hq)
theorem used_zero {u : Nat} {L : RLs} (h : UsedIs u L) (hL : RLok L) : u = 0 ↔ L = [] := by
  constructor
  · intro h0
    cases L with
    | nil => rfl
    | cons p L =>
      have := (h.bit p.2 (hL.slot p (by simp))).2 ⟨p, by simp, rfl⟩
      rw [h0] at this; simp at this
  · intro h0
    subst h0
    exact h.uniq UsedIs.nil
theorem next_plain {u : Nat} {L : RLs} (h : UsedIs u L) (hL : RLok L) (a t : Nat) (ha : a < 64) (ht : Low (rotl u ((64 - a) % 64)) t) : NextIs L a t := by
  have hb : ∀ j, j < 64 → ((rotl u ((64 - a) % 64)).testBit j = true ↔ ∃ p ∈ L, p.2 = (a + j) % 64) := fun j hj => by
    rw [rotl_bit u a j h.lt ha hj, h.bit _ (Nat.mod_lt _ (by decide))]
  refine ⟨ht.lt, (hb t ht.lt).1 ht.yes, fun j hj p hp e => ?_⟩
  have h1 := (hb j (Nat.lt_trans hj ht.lt)).2 ⟨p, hp, e⟩
  rw [ht.no j hj] at h1
  cases h1
theorem rot_zero {u : Nat} {L : RLs} (h : UsedIs u L) (hL : RLok L) (a : Nat) (ha : a < 64) (hne : L ≠ []) : rotl u ((64 - a) % 64) ≠ 0 := by
  intro h0
  cases L with
  | nil => exact hne rfl
  | cons p L =>
    have hp := hL.slot p (by simp)
    have h1 := rotl_bit u a ((64 + p.2 - a) % 64) h.lt ha (Nat.mod_lt _ (by decide))
    rw [h0, show (a + (64 + p.2 - a) % 64) % 64 = p.2 from by omega, (h.bit p.2 hp).2 ⟨p, by simp, rfl⟩] at h1
    simp at h1
set_option maxRecDepth 100000 in
theorem next_empty (W : World) (F : Nat → Prop) (r n : Nat) (f : Int) (h : Rng W F r n []) :
    Calls Tryd.prog 22 #[.pointer (some ⟨r, 0, none⟩), .int .i64 f] W fun e W' => e = .returned (.tuple #[.int .i64 0, .int .i64 0, .bool false]) ∧ W' = W := by
  obtain ⟨mb, sv, u, hm, hu⟩ := h.mem
  have hu0 := (used_zero hu h.ok).2 rfl
  subst hu0
  have Hus := Lib.hid (used_ring W r mb 0 hm.cellM hm.cellU hm.lt.1)
  go_enter Tryd.func22, Tryd.ntmps22
  go_wp2_with fail
  refine (show Calls _ _ _ _ _ from Hus.out).mono ?_
  rintro e W2 ⟨rfl, rfl⟩
  go_wp2_with fail
  go_ret3
  exact ⟨rfl, rfl⟩
set_option maxRecDepth 100000 in
theorem next_ring (W : World) (F : Nat → Prop) (r n : Nat) (L : RLs) (f : Int) (h : Rng W F r n L) (hne : L ≠ []) (hT : Tab W) :
    Calls Tryd.prog 22 #[.pointer (some ⟨r, 0, none⟩), .int .i64 f] W fun e W' => (∃ st, NextIs L (atM f) st ∧ e = .returned (.tuple #[.int .i64 (((atM f + st) % 64 : Nat) : Int), .int .i64 (st : Nat), .bool true])) ∧ W' = W := by
  obtain ⟨mb, sv, u, hm, hu⟩ := h.mem
  have hu0 : u ≠ 0 := fun e => hne ((used_zero hu h.ok).1 e)
  have Hus := Lib.hid (used_ring W r mb u hm.cellM hm.cellU hm.lt.1)
  have ha := atM_lt f
  have y0 := atM_and f
  obtain ⟨a, haa⟩ : ∃ a, a = atM f := ⟨_, rfl⟩
  rw [← haa] at ha y0 ⊢
  have hrz := rot_zero hu h.ok a ha hne
  obtain ⟨t, ht⟩ := low_of _ hrz (rotl_lt _ _)
  have Hnx := Lib.hid (next_plain hu h.ok a t ha ht)
  have Hrl := Lib.hid (rotate_left W u a hu.lt ha)
  have Htr := Lib.hid (trailing_any W _ t hrz (rotl_lt _ _) ht hT)
  have hcu := hm.cellU
  have hrl := hm.lt.1
  have y1 : ((u : Int) == 0) = false := by simp [hu0]
  have y2 : ¬ (u : Int) = 0 := by omega
  have y3 : wrap64 (-(a : Int)) = -(a : Int) := IntWalk.wrap64_in _ (by omega)
  have htl := ht.lt
  have y4 : wrap64 ((a : Int) + (t : Int)) = ((a + t : Nat) : Int) := by rw [IntWalk.wrap64_in _ (by omega)]; simp
  obtain ⟨R, hR⟩ : ∃ R, R = rotl u ((64 - a) % 64) := ⟨_, rfl⟩
  rw [← hR] at Hrl Htr
  clear hm hu hrz ht hT haa hR h hu0
  go_enter Tryd.func22, Tryd.ntmps22
  go_wp2_with fail
  refine Hus.out.mono ?_
  rintro e W2 ⟨rfl, hW2⟩
  subst hW2
  go_wp2_with fail
  refine Hrl.out.mono ?_
  rintro e W3 ⟨rfl, hW3⟩
  subst hW3
  go_wp2_with fail
  refine Htr.out.mono ?_
  rintro e W4 ⟨rfl, hW4⟩
  subst hW4
  go_wp2_with fail
  go_ret3
  refine ⟨⟨t, Hnx.out, ?_⟩, rfl⟩
  rw [show (((a + t) % 64 : Nat) : Int) = ((a : Int) + (t : Int)) % 64 from by omega]
  rfl
end Go.Proofs.YtadghaiengonoaaDoor
