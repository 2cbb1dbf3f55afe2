/- Contracts of quill's Reader: number, Num. No statement of the seat is proved here. -/
import Derived.Test.YtlphpjgiaflfkaaQr
namespace Go.Proofs.Ytlphpjgiaflfkaa
set_option linter.unusedVariables false
set_option linter.unusedSimpArgs false
set_option linter.unusedSectionVars false
open Go Go.RowKit Go.Shelf

theorem readN_cons (most : Nat) (c : UInt8) (r : List UInt8) (bad : Bool) : readN most (c :: r) bad = if 8 < c.toNat ∨ r.length < c.toNat ∨ (0 < c.toNat ∧ r.head? = some 0) then (0, [], true) else if most < valN (r.take c.toNat) then (0, [], true) else (valN (r.take c.toNat), r.drop c.toNat, bad) := rfl
theorem readN_bad (most : Nat) (l : List UInt8) (bad : Bool) (h0 : 0 < l.length) (h : 8 < l[0].toNat ∨ l.length ≤ l[0].toNat ∨ (0 < l[0].toNat ∧ l[1]? = some 0)) : readN most l bad = (0, [], true) := by
  match l, h0 with
  | c :: r, _ =>
    simp only [List.getElem_cons_zero, List.length_cons, List.getElem?_cons_succ] at h
    rw [readN_cons, if_pos]
    rcases h with h | h | h
    · exact .inl h
    · exact .inr (.inl (by omega))
    · exact .inr (.inr ⟨h.1, by rw [List.head?_eq_getElem?]; exact h.2⟩)
theorem readN_big (most : Nat) (l : List UInt8) (bad : Bool) (h0 : 0 < l.length) (h : most < valN ((l.take (l[0].toNat + 1)).drop 1)) : readN most l bad = (0, [], true) := by
  match l, h0 with
  | c :: r, _ =>
    simp only [List.getElem_cons_zero, List.take_succ_cons, List.drop_succ_cons, List.drop_zero] at h
    rw [readN_cons]
    split
    · rfl
    · first | rfl | rw [if_pos h]
theorem readN_ok (most : Nat) (l : List UInt8) (bad : Bool) (h0 : 0 < l.length) (h1 : ¬ 8 < l[0].toNat) (h2 : ¬ l.length ≤ l[0].toNat) (h3 : ¬ (0 < l[0].toNat ∧ l[1]? = some 0)) (h : ¬ most < valN ((l.take (l[0].toNat + 1)).drop 1)) :
    readN most l bad = (valN ((l.take (l[0].toNat + 1)).drop 1), l.drop (l[0].toNat + 1), bad) := by
  match l, h0 with
  | c :: r, _ =>
    simp only [List.getElem_cons_zero, List.take_succ_cons, List.drop_succ_cons, List.drop_zero, List.length_cons, List.getElem?_cons_succ] at h h1 h2 h3 ⊢
    rw [readN_cons, if_neg, if_neg h]
    rintro (h4 | h4 | ⟨h4, h5⟩)
    · exact h1 h4
    · omega
    · exact h3 ⟨h4, by rw [← List.head?_eq_getElem?]; exact h5⟩
theorem readN_nil (most : Nat) (bad : Bool) : readN most [] bad = (0, [], true) := rfl
/-- what a reader's method tells -/
def RdTold (T : TypeId) (p : Nat) (ao : Option Addr) (mk : Int → Value) (r : Nat × List UInt8 × Bool) (W : World) (e : Ending) (W' : World) : Prop :=
  ∃ ao' cap', e = .returned (mk (r.1 : Int)) ∧ Rd T W' p ao' cap' r.2.1 r.2.2 ∧ W.grownBy W' (some p) ∧ SameBlk ao ao'
theorem valN_step (l : List UInt8) (i : Nat) (hi : i < l.length) : valN (l.take (i + 1)) = valN (l.take i) * 256 + l[i].toNat := by
  rw [List.take_succ_eq_append_getElem hi, valN_snoc]
theorem or_byte (x : Nat) (c : UInt8) (hx : x < 72057594037927936) : bits BinOp.or IntKind.u64 ((x : Int) * 256) (c.toNat : Int) = ((x * 256 + c.toNat : Nat) : Int) := by
  have hc := c.toNat_lt
  have h := bits_or_u64_nat (x * 256) c.toNat (by omega) (by omega)
  have e1 : ((x * 256 : Nat) : Int) = (x : Int) * 256 := by simp
  rw [e1] at h
  rw [h]
  congr 1
  have := Nat.two_pow_add_eq_or_of_lt (i := 8) (b := c.toNat) (by omega) x
  rw [show (2 : Nat) ^ 8 * x = x * 256 by omega] at this
  exact this.symm
theorem sizeUB : (Try.prog.info? 5).map (·.size) = some 1 := by kernel_rfl
set_option maxRecDepth 100000 in
set_option maxHeartbeats 4000000 in
theorem rnumber_any (most : Nat) (hm : most < 2 ^ 64) {W : World} {p : Nat} {ao : Option Addr} {cap : Nat} {l : List UInt8} {bad : Bool} (h : Rd 131 W p ao cap l bad) :
    Calls Try.prog 97 #[.pointer (some ⟨p, 0, none⟩), .int .u64 (most : Int), .bool false] W (RdTold 131 p ao (fun x => .tuple #[.int .u64 x, .bool false]) (readN most l bad) W) := by
  obtain ⟨c0, c1, f0, f1⟩ := h.cells
  have hpz := (Array.getElem?_eq_some_iff.1 h.blk).1
  have Hlf := Lib.hid (left_rd h)
  have Hfl := Lib.hid (fail_rd h)
  by_cases h0 : 0 < l.length
  · obtain ⟨b, off, rfl, hc0⟩ := h.bs.get 0 h0
    have hmax := h.bs.max
    have hle := h.bs.le
    have hc0' : W.cell? ⟨b, off, none⟩ = some (.int .u8 (l[0].toNat : Int)) := hc0
    have hbad := readN_bad most l bad h0
    have hbig := readN_big most l bad h0
    have hok := readN_ok most l bad h0
    obtain ⟨c, hc⟩ : ∃ c, c = l[0] := ⟨_, rfl⟩
    rw [← hc] at hc0' hbad hbig hok
    obtain ⟨s, hs⟩ : ∃ s, s = c.toNat := ⟨_, rfl⟩
    have hs256 : s < 256 := by rw [hs]; exact c.toNat_lt
    rw [← hs] at hc0' hbad hbig hok
    clear hc hs hc0
    have w8 : IntKind.i64.wrap (s : Int) = (s : Int) := IntWalk.i64_in _ (by omega)
    have l0 : ¬ ((l.length : Int) = 0) := by omega
    have l1 : (0 : Int) < (l.length : Int) := by omega
    by_cases hA : 8 < s
    · have HR := Lib.hid (hbad (.inl hA))
      clear hbad hbig hok
      have hA' : (8 : Int) < (s : Int) := by omega
      go_enter Try.func97, Try.ntmps97
      go_wp2_with fail
      refine Hlf.out.mono ?_
      rintro e W2 ⟨rfl, rfl⟩
      go_wp2_with fail
      refine Hfl.out.mono ?_
      rintro e W3 ⟨rfl, hr, hg⟩
      go_wp2_with fail
      go_ret2
      rw [HR.out]
      exact ⟨none, 0, rfl, hr, hg, SameBlk.none _⟩
    have hA' : ¬ (8 : Int) < (s : Int) := by omega
    by_cases hB : l.length ≤ s
    · have HR := Lib.hid (hbad (.inr (.inl hB)))
      clear hbad hbig hok
      have hB' : (l.length : Int) ≤ (s : Int) := by omega
      go_enter Try.func97, Try.ntmps97
      go_wp2_with fail
      refine Hlf.out.mono ?_
      rintro e W2 ⟨rfl, rfl⟩
      go_wp2_with fail
      refine Hfl.out.mono ?_
      rintro e W3 ⟨rfl, hr, hg⟩
      go_wp2_with fail
      go_ret2
      rw [HR.out]
      exact ⟨none, 0, rfl, hr, hg, SameBlk.none _⟩
    have hB' : ¬ (l.length : Int) ≤ (s : Int) := by omega
    have HS1 : 0 < s → ∃ d : UInt8, l[1]? = some d ∧ W.cell? ⟨b, off + 1, none⟩ = some (.int .u8 (d.toNat : Int)) := fun hs0 => by
      obtain ⟨b2, off2, e2, hc2⟩ := h.bs.get 1 (by omega)
      simp only [Option.some.injEq, Addr.mk.injEq] at e2
      obtain ⟨rfl, rfl, -⟩ := e2
      exact ⟨l[1], List.getElem?_eq_getElem (by omega), hc2⟩
    by_cases hC : 0 < s ∧ l[1]? = some 0
    · have HR := Lib.hid (hbad (.inr (.inr hC)))
      obtain ⟨hC1, hC2⟩ := hC
      obtain ⟨d, hd, hcd⟩ := HS1 hC1
      rw [hC2] at hd
      simp only [Option.some.injEq] at hd
      subst hd
      have l2 : (1 : Int) < (l.length : Int) := by omega
      have hC' : (0 : Int) < (s : Int) := by omega
      have hcd' : W.cell? ⟨b, off + 1, none⟩ = some (.int .u8 0) := hcd
      clear hbad hbig hok hC2 HS1 hcd
      go_enter Try.func97, Try.ntmps97
      go_wp2_with fail
      refine Hlf.out.mono ?_
      rintro e W2 ⟨rfl, rfl⟩
      go_wp2_with fail
      refine Hfl.out.mono ?_
      rintro e W3 ⟨rfl, hr, hg⟩
      go_wp2_with fail
      go_ret2
      rw [HR.out]
      exact ⟨none, 0, rfl, hr, hg, SameBlk.none _⟩
    have hok2 := hok hA hB hC
    have HS2 : (s = 0) ∨ ∃ d : UInt8, 0 < s ∧ d ≠ 0 ∧ W.cell? ⟨b, off + 1, none⟩ = some (.int .u8 (d.toNat : Int)) := by
      by_cases hs0 : s = 0
      · exact .inl hs0
      · obtain ⟨d, hd, hcd⟩ := HS1 (by omega)
        exact .inr ⟨d, by omega, fun e => hC ⟨by omega, by rw [hd, e]⟩, hcd⟩
    obtain ⟨X, hX⟩ : ∃ X, X = valN ((l.take (s + 1)).drop 1) := ⟨_, rfl⟩
    rw [← hX] at hbig hok2
    have HX := Lib.hid hX
    have Hbig := Lib.hid hbig
    have Hok := Lib.hid hok2
    clear hX hbig hok2 hok hbad HS1 hC
    have w0 : IntKind.i64.wrap ((s : Int) + 1) = (s : Int) + 1 := IntWalk.i64_in _ (by omega)
    have HS3 : (¬ (0 : Int) < (s : Int)) ∨ ∃ d : Int, (0 : Int) < (s : Int) ∧ ¬ d = 0 ∧ W.cell? ⟨b, off + 1, none⟩ = some (.int .u8 d) := by
      rcases HS2 with hs0 | ⟨d, hs0, hd0, hcd⟩
      · exact .inl (by omega)
      · refine .inr ⟨_, by omega, ?_, hcd⟩
        intro e
        exact hd0 (UInt8.toNat_inj.1 (by have : d.toNat = 0 := by omega
                                         rw [this]; rfl))
    clear HS2
    have l2 : (0 : Int) < (s : Int) → (1 : Int) < (l.length : Int) := fun _ => by omega
    rcases HS3 with hs0 | ⟨d, hs0, hd0, hcd⟩
    rotate_left
    have hd1 : (d == 0) = false := by simpa using hd0
    have l3 := l2 hs0
    rotate_left
    all_goals
      go_enter Try.func97, Try.ntmps97
      go_wp2_with fail
      refine Hlf.out.mono ?_
      rintro e W2 ⟨rfl, rfl⟩
      go_wp2_with ((with_reducible show wpList _ _ _ (⟨_, Op.slice _ (.tmp 57) _ _ _, _, _, _, _⟩ :: _) _ _); refine wpl_slice_bs rfl (.tmp 57) (some (.const (.int .i64 1))) (some (.tmp 59)) 22 5 rfl Try.underlying22 sizeUB _ _ l rfl h.bs 1 (s + 1) (.inl ⟨_, rfl, ?_⟩) (.inl ⟨_, rfl, ?_⟩) ?_ ?_ ?_; rfl; (simp); omega; omega; intro ao7 cap7 l7 hl7 hlen7 hb7; have h78 : l7.length ≤ 8 := (by omega); clear hlen7)
      have hX7 : Hid (X = valN l7) := by show X = _; rw [HX.out, hl7.out]
      go_loopw [6, 62] (fun a b wr => ∃ (i x : Nat), a = .int .u64 x ∧ b = .int .i64 i ∧ i ≤ l7.length ∧ Hid (x = valN (l7.take i)) ∧ W = wr) (fun _ b _ => l7.length - (intOf b).toNat)
      case atStart => exact ⟨0, 0, rfl, rfl, by omega, by show _ = _; simp [valN], rfl⟩
      case round =>
        obtain ⟨i, x, rfl, rfl, hi, hx, rfl⟩ := hrel
        by_cases hlt : i < l7.length
        · obtain ⟨b2, off2, rfl, hc2⟩ := hb7.get i hlt
          have hst := valN_step l7 i hlt
          have hxb : x < 72057594037927936 := by
            rw [hx.out]
            have h1 := valN_lt (l7.take i)
            have h2 : (l7.take i).length ≤ 7 := by simp; omega
            have h3 : 256 ^ (l7.take i).length ≤ 256 ^ 7 := Nat.pow_le_pow_right (by decide) h2
            have h4 : (256 : Nat) ^ 7 = 72057594037927936 := by decide
            omega
          rw [← hx.out] at hst
          obtain ⟨c, hc⟩ : ∃ c, c = l7[i] := ⟨_, rfl⟩
          rw [← hc] at hst hc2
          have w1 : IntKind.u64.wrap ((x : Int) * 256) = (x : Int) * 256 := IntWalk.u64_in _ (by omega)
          have hc256 := c.toNat_lt
          have w2 : IntKind.u64.wrap (c.toNat : Int) = (c.toNat : Int) := IntWalk.u64_in _ (by omega)
          have w3 := or_byte x c hxb
          obtain ⟨y, hy⟩ : ∃ y, y = x * 256 + c.toNat := ⟨_, rfl⟩
          rw [← hy] at w3 hst
          have Hst := Lib.hid hst.symm
          clear hst hy hc hx
          have i0 : (0 : Int) ≤ (i : Int) := by omega
          have i1 : (i : Int) < (l7.length : Int) := by omega
          go_wp2_with fail
          go_roundw
          case rel => exact ⟨i + 1, y, by simp, by simp, by omega, Hst, by first | rfl | trivial⟩
          case measure => simp [intOf]; omega
        · have hi' : i = l7.length := by omega
          subst hi'
          have hxX : x = X := by rw [hx.out, hX7.out, List.take_length]
          subst hxX
          clear hx
          by_cases hD : most < x
          · have HR := Lib.hid (Hbig.out hD)
            have hD' : (most : Int) < (x : Int) := by omega
            go_wp2_with fail
            refine Hfl.out.mono ?_
            rintro e W3 ⟨rfl, hr, hg⟩
            go_wp2_with fail
            go_ret2
            rw [HR.out]
            exact ⟨none, 0, rfl, hr, hg, SameBlk.none _⟩
          · have HR := Lib.hid (Hok.out hD)
            have hD' : ¬ (most : Int) < (x : Int) := by omega
            go_wp2_with ((with_reducible show wpList _ _ _ (⟨_, Op.slice _ (.tmp 81) _ _ _, _, _, _, _⟩ :: _) _ _); refine wpl_slice_bb rfl (.tmp 81) (some (.tmp 83)) none 22 5 rfl Try.underlying22 sizeUB _ _ l rfl h.bs (s + 1) l.length (.inl ⟨_, rfl, ?_⟩) (.inr ⟨rfl, rfl⟩) ?_ ?_ ?_; (simp); omega; omega; intro ao8 cap8 l8 hl8 hlen8 hb8 hsb8; clear hlen8)
            go_ret2
            have hl8' : l8 = l.drop (s + 1) := by rw [hl8.out, List.take_length]
            rw [HR.out]
            obtain ⟨hp1, hp2⟩ := h.put hb8
            subst hl8'
            exact ⟨ao8, cap8, rfl, hp1, hp2, hsb8⟩
  · obtain rfl : l = [] := List.eq_nil_of_length_eq_zero (by omega)
    have HR := Lib.hid (readN_nil most bad)
    go_enter Try.func97, Try.ntmps97
    go_wp2_with fail
    refine Hlf.out.mono ?_
    rintro e W2 ⟨rfl, rfl⟩
    go_wp2_with fail
    refine Hfl.out.mono ?_
    rintro e W3 ⟨rfl, hr, hg⟩
    go_wp2_with fail
    go_ret2
    rw [HR.out]
    exact ⟨none, 0, rfl, hr, hg, SameBlk.none _⟩
theorem rnum_any (most : Nat) (hm : most < 2 ^ 64) {W : World} {p : Nat} {ao : Option Addr} {cap : Nat} {l : List UInt8} {bad : Bool} (h : Rd 131 W p ao cap l bad) :
    Calls Try.prog 75 #[.pointer (some ⟨p, 0, none⟩), .int .u64 (most : Int)] W (RdTold 131 p ao (fun x => .int .u64 x) (readN most l bad) W) := by
  have Hn := Lib.hid (rnumber_any most hm h)
  clear hm
  go_enter Try.func75, Try.ntmps75
  go_wp2_with fail
  refine Hn.out.mono ?_
  rintro e W2 ⟨ao', cap', rfl, hr, hg, hsb⟩
  go_wp2_with fail
  go_ret
  exact ⟨ao', cap', rfl, hr, hg, hsb⟩
end Go.Proofs.Ytlphpjgiaflfkaa
