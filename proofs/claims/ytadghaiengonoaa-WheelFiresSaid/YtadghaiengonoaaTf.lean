/- slots: Look, Take. No statement of the seat is proved here. -/
import Derived.Test.YtadghaiengonoaaTe
namespace Go.Proofs.Ytadghaiengonoaa
set_option linter.unusedVariables false
set_option linter.unusedSimpArgs false
set_option linter.unusedSectionVars false
open Go Go.RowKit Go.Maps

/-- a row that a call handed over -/
def Handed (W W' : World) (v : Value) (l : List Th) : Prop := W'.ownsRow W.heap.size thT 3 v l.length (thFlat l) ∧ Below W.heap.size W W'
set_option maxRecDepth 100000 in
theorem look_none (W : World) (q : Option Addr) (s : Int) (hno : NoneIs W q) :
    Calls Try.prog 32 #[.pointer q, .int .i64 s] W fun e W' => e = .returned (.slice none 0 0) ∧ Below W.heap.size W W' := by
  have Hno := Lib.hid (hno W (Below.refl _ _))
  go_enter Try.func32, Try.ntmps32
  go_wp2_with fail
  refine Hno.out.mono ?_
  rintro e W2 ⟨rfl, rfl⟩
  go_wp2_with fail
  go_ret
  exact ⟨rfl, Below.refl _ _⟩
set_option maxRecDepth 100000 in
theorem look_range (W : World) (F : Nat → Prop) (r n : Nat) (L : RLs) (s : Int) (h : Rng W F r n L) (hs : s < 0 ∨ 64 ≤ s) :
    Calls Try.prog 32 #[.pointer (some ⟨r, 0, none⟩), .int .i64 s] W fun e W' => e = .returned (.slice none 0 0) ∧ Below W.heap.size W W' := by
  obtain ⟨mb, sv, u, hm, hu⟩ := h.mem
  have Hno := Lib.hid (none_no W r mb hm.cellM hm.lt.1)
  clear hm
  go_enter Try.func32, Try.ntmps32
  go_wp2_with fail
  refine Hno.out.mono ?_
  rintro e W2 ⟨rfl, rfl⟩
  rcases hs with hs | hs
  · go_wp2_with fail
    go_ret
    exact ⟨rfl, Below.refl _ _⟩
  · have k1 : ¬ s < 0 := by omega
    go_wp2_with fail
    go_ret
    exact ⟨rfl, Below.refl _ _⟩
set_option maxRecDepth 100000 in
theorem look_ok (W : World) (F : Nat → Prop) (r n k : Nat) (L : RLs) (h : Rng W F r n L) (hk : k < 64) (hn : n ≤ 1000000) :
    Calls Try.prog 32 #[.pointer (some ⟨r, 0, none⟩), .int .i64 (k : Nat)] W fun e W' => ∃ v, e = .returned v ∧ Handed W W' v (Sta.srt thLe (rowOf L k)) := by
  obtain ⟨mb, sv, u, hm, hu⟩ := h.mem
  have Hno := Lib.hid (none_no W r mb hm.cellM hm.lt.1)
  have hkl : k < sv.length := by rw [hm.len]; exact hk
  have hck := hm.cell k hkl
  have hrow := hm.rows k hkl
  have hlr : (rowOf L k).length ≤ 1000000 := by have := rowOf_len L k; have := h.few; omega
  have Hcl := Lib.hid (cloneTh_any W F sv[k] (rowOf L k) hrow hlr)
  obtain ⟨ao, cp, hsv⟩ := own_slice hrow.own
  rw [hsv] at hck Hcl
  have hrl := hm.lt.1
  have k1 : ¬ (k : Int) < 0 := by omega
  have k2 : ¬ (64 : Int) ≤ (k : Int) := by omega
  have k3 : (k : Int) < 64 := by omega
  clear hm hrow
  go_enter Try.func32, Try.ntmps32
  go_wp2_with fail
  refine Hno.out.mono ?_
  rintro e W2 ⟨rfl, hW2⟩
  subst hW2
  go_wp2_with fail
  refine Hcl.out.mono ?_
  rintro e W3 ⟨⟨v, rfl, ho⟩, hb3⟩
  have hst := sort_any W3 (fun i => W2.heap.size ≤ i) v (rowOf L k) ⟨own_base ho (Nat.zero_le _), fun g hg => (ho.lt g hg).1⟩ hlr
  have Hst := Lib.hid hst
  have hvb : ∀ g, v.ownBlock = some g → W2.heap.size ≤ g := fun g hg => (ho.lt g hg).1
  obtain ⟨a2, c2, rfl⟩ := own_slice ho
  clear hst ho
  go_wp2_with fail
  refine Hst.out.mono ?_
  rintro e W4 ⟨rfl, hr4, hg4⟩
  go_wp2_with fail
  go_ret
  refine ⟨_, rfl, ⟨hr4.own.1, ?_⟩, hb3.grown hg4 hb3.size (fun q hq => hvb q hq)⟩
  rcases hr4.own.2 with h1 | ⟨g, cap, cur, h1, _, rest⟩
  · exact .inl h1
  · exact .inr ⟨g, cap, cur, h1, hvb g (by rw [h1]; rfl), rest⟩
set_option maxRecDepth 100000 in
theorem take_none (W : World) (q : Option Addr) (s : Int) (hno : NoneIs W q) :
    Calls Try.prog 46 #[.pointer q, .int .i64 s] W fun e W' => e = .returned (.slice none 0 0) ∧ Below W.heap.size W W' := by
  have Hno := Lib.hid (hno W (Below.refl _ _))
  go_enter Try.func46, Try.ntmps46
  go_wp2_with fail
  refine Hno.out.mono ?_
  rintro e W2 ⟨rfl, rfl⟩
  go_wp2_with fail
  go_ret
  exact ⟨rfl, Below.refl _ _⟩
set_option maxRecDepth 100000 in
theorem take_range (W : World) (F : Nat → Prop) (r n : Nat) (L : RLs) (s : Int) (h : Rng W F r n L) (hs : s < 0 ∨ 64 ≤ s) :
    Calls Try.prog 46 #[.pointer (some ⟨r, 0, none⟩), .int .i64 s] W fun e W' => e = .returned (.slice none 0 0) ∧ Below W.heap.size W W' := by
  obtain ⟨mb, sv, u, hm, hu⟩ := h.mem
  have Hno := Lib.hid (none_no W r mb hm.cellM hm.lt.1)
  clear hm
  go_enter Try.func46, Try.ntmps46
  go_wp2_with fail
  refine Hno.out.mono ?_
  rintro e W2 ⟨rfl, rfl⟩
  rcases hs with hs | hs
  · go_wp2_with fail
    go_ret
    exact ⟨rfl, Below.refl _ _⟩
  · have k1 : ¬ s < 0 := by omega
    go_wp2_with fail
    go_ret
    exact ⟨rfl, Below.refl _ _⟩
end Go.Proofs.Ytadghaiengonoaa
