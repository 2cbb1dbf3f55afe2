/- Lemmas for DeadlineBytes (Qi). No statement of the seat is proved here. -/
import Derived.Test.YtedlplkomfiahaaT3
namespace Go.Proofs.Ytedlplkomfiahaa
set_option linter.unusedVariables false
set_option linter.unusedSimpArgs false
set_option linter.unusedSectionVars false
open Go Go.RowKit Go.Shelf
/-- what is read as a number with a sign: the number, whether it is below 0, what is left, whether it is bad -/
def readM (b : List UInt8) (bad : Bool) : (Nat × Bool) × List UInt8 × Bool :=
  match b with
  | [] => ((0, false), [], true)
  | c :: r => if 8 < c.toNat % 128 ∨ r.length < c.toNat % 128 ∨ (0 < c.toNat % 128 ∧ r.head? = some 0) then ((0, false), [], true) else if 9223372036854775807 < valN (r.take (c.toNat % 128)) then ((0, false), [], true) else ((valN (r.take (c.toNat % 128)), decide (128 ≤ c.toNat)), r.drop (c.toNat % 128), bad)
theorem readM_cons (c : UInt8) (r : List UInt8) (bad : Bool) : readM (c :: r) bad = if 8 < c.toNat % 128 ∨ r.length < c.toNat % 128 ∨ (0 < c.toNat % 128 ∧ r.head? = some 0) then ((0, false), [], true) else if 9223372036854775807 < valN (r.take (c.toNat % 128)) then ((0, false), [], true) else ((valN (r.take (c.toNat % 128)), decide (128 ≤ c.toNat)), r.drop (c.toNat % 128), bad) := rfl
theorem readM_nil (bad : Bool) : readM [] bad = ((0, false), [], true) := rfl
theorem readM_bad (l : List UInt8) (bad : Bool) (h0 : 0 < l.length) (h : 8 < l[0].toNat % 128 ∨ l.length ≤ l[0].toNat % 128 ∨ (0 < l[0].toNat % 128 ∧ l[1]? = some 0)) : readM l bad = ((0, false), [], true) := by
  match l, h0 with
  | c :: r, _ =>
    simp only [List.getElem_cons_zero, List.length_cons, List.getElem?_cons_succ] at h
    rw [readM_cons, if_pos]
    rcases h with h | h | h
    · exact .inl h
    · exact .inr (.inl (by omega))
    · exact .inr (.inr ⟨h.1, by rw [List.head?_eq_getElem?]; exact h.2⟩)
theorem readM_big (l : List UInt8) (bad : Bool) (h0 : 0 < l.length) (h : 9223372036854775807 < valN ((l.take (l[0].toNat % 128 + 1)).drop 1)) : readM l bad = ((0, false), [], true) := by
  match l, h0 with
  | c :: r, _ =>
    simp only [List.getElem_cons_zero, List.take_succ_cons, List.drop_succ_cons, List.drop_zero] at h
    rw [readM_cons]
    split
    · rfl
    · first | rfl | rw [if_pos h]
theorem readM_ok (l : List UInt8) (bad : Bool) (h0 : 0 < l.length) (h1 : ¬ 8 < l[0].toNat % 128) (h2 : ¬ l.length ≤ l[0].toNat % 128) (h3 : ¬ (0 < l[0].toNat % 128 ∧ l[1]? = some 0)) (h : ¬ 9223372036854775807 < valN ((l.take (l[0].toNat % 128 + 1)).drop 1)) :
    readM l bad = ((valN ((l.take (l[0].toNat % 128 + 1)).drop 1), decide (128 ≤ l[0].toNat)), l.drop (l[0].toNat % 128 + 1), bad) := by
  match l, h0 with
  | c :: r, _ =>
    simp only [List.getElem_cons_zero, List.take_succ_cons, List.drop_succ_cons, List.drop_zero, List.length_cons, List.getElem?_cons_succ] at h h1 h2 h3 ⊢
    rw [readM_cons, if_neg, if_neg h]
    rintro (h4 | h4 | ⟨h4, h5⟩)
    · exact h1 h4
    · omega
    · exact h3 ⟨h4, by rw [← List.head?_eq_getElem?]; exact h5⟩
theorem readM_le (l : List UInt8) (bad : Bool) : (readM l bad).1.1 ≤ 9223372036854775807 := by
  unfold readM
  split
  · simp
  · split
    · simp
    · split
      · simp
      · simp; omega
/-- the number read -/
def readI (l : List UInt8) (bad : Bool) : Int × List UInt8 × Bool := (if (readM l bad).1.2 = true then -1 - ((readM l bad).1.1 : Int) else ((readM l bad).1.1 : Int), (readM l bad).2)
theorem readI_numB (n : Nat) (rest : List UInt8) (bad : Bool) (h : n ≤ 9223372036854775807) : readI (numB n ++ rest) bad = ((n : Int), rest, bad) := by
  have h8 := digs_len8 n (by omega)
  have hc : (UInt8.ofNat (digs n).length).toNat = (digs n).length := by simp; omega
  have hm : readM (numB n ++ rest) bad = ((n, false), rest, bad) := by
    unfold numB
    simp only [List.cons_append, readM, hc]
    have e1 : (digs n).length % 128 = (digs n).length := Nat.mod_eq_of_lt (by omega)
    rw [e1]
    rw [if_neg, if_neg]
    · rw [List.take_left, List.drop_left, valN_digs]
      have : ¬ 128 ≤ (digs n).length := by omega
      simp [this]
    · rw [List.take_left, valN_digs]; omega
    · rintro (h1 | h1 | ⟨h1, h2⟩)
      · omega
      · simp at h1; omega
      · rw [List.head?_append] at h2
        have := digs_head n
        cases hd : (digs n).head? with
        | none => rw [List.head?_eq_none_iff] at hd; rw [hd] at h1; simp at h1
        | some c => rw [hd] at this h2; simp at h2 this; exact this h2
  unfold readI
  rw [hm]
  simp
/-- what a reader's method tells -/
def RdToldM (T : TypeId) (p : Nat) (ao : Option Addr) (mk : Nat × Bool → Value) (r : (Nat × Bool) × List UInt8 × Bool) (W : World) (e : Ending) (W' : World) : Prop :=
  ∃ ao' cap', e = .returned (mk r.1) ∧ Rd T W' p ao' cap' r.2.1 r.2.2 ∧ W.grownBy W' (some p) ∧ SameBlk ao ao'
def RdToldI (T : TypeId) (p : Nat) (ao : Option Addr) (r : Int × List UInt8 × Bool) (W : World) (e : Ending) (W' : World) : Prop :=
  ∃ ao' cap', e = .returned (.int .i64 r.1) ∧ Rd T W' p ao' cap' r.2.1 r.2.2 ∧ W.grownBy W' (some p) ∧ SameBlk ao ao'
set_option maxRecDepth 100000 in
set_option maxHeartbeats 4000000 in
theorem rnumberS_any {W : World} {p : Nat} {ao : Option Addr} {cap : Nat} {l : List UInt8} {bad : Bool} (h : Rd 106 W p ao cap l bad) :
    Calls Try.prog 82 #[.pointer (some ⟨p, 0, none⟩), .int .u64 9223372036854775807, .bool true] W (RdToldM 106 p ao (fun x => .tuple #[.int .u64 (x.1 : Int), .bool x.2]) (readM l bad) W) := by
  obtain ⟨c0, c1, f0, f1⟩ := h.cells
  have hpz := (Array.getElem?_eq_some_iff.1 h.blk).1
  have Hlf := Lib.hid (left_rd h)
  have Hfl := Lib.hid (fail_rd h)
  by_cases h0 : 0 < l.length
  · obtain ⟨b, off, rfl, hc0⟩ := h.bs.get 0 h0
    have hmax := h.bs.max
    have hle := h.bs.le
    have hc0' : W.cell? ⟨b, off, none⟩ = some (.int .u8 (l[0].toNat : Int)) := hc0
    have hbad := readM_bad l bad h0
    have hbig := readM_big l bad h0
    have hok := readM_ok l bad h0
    obtain ⟨c, hc⟩ : ∃ c, c = l[0] := ⟨_, rfl⟩
    rw [← hc] at hc0' hbad hbig hok
    obtain ⟨s0, hs0⟩ : ∃ s0, s0 = c.toNat := ⟨_, rfl⟩
    have hs0256 : s0 < 256 := by rw [hs0]; exact c.toNat_lt
    rw [← hs0] at hc0' hbad hbig hok
    obtain ⟨s, hs⟩ : ∃ s, s = s0 % 128 := ⟨_, rfl⟩
    have hs256 : s < 256 := by omega
    have hrm : (s0 : Int).tmod 128 = (s : Int) := by rw [Int.tmod_eq_emod_of_nonneg (by omega)]; omega
    rw [← hs] at hbad hbig hok
    have hdec : decide (128 ≤ s0) = decide ((128 : Int) ≤ (s0 : Int)) := decide_eq_decide.2 (by omega)
    rw [hdec] at hok
    clear hc hs hs0 hc0 hdec
    have w8 : IntKind.i64.wrap (s0 : Int) = (s0 : Int) := IntWalk.i64_in _ (by omega)
    have l0 : ¬ ((l.length : Int) = 0) := by omega
    have l1 : (0 : Int) < (l.length : Int) := by omega
    by_cases hA : 8 < s
    · have HR := Lib.hid (hbad (.inl hA))
      clear hbad hbig hok
      have hA' : (8 : Int) < (s : Int) := by omega
      go_enter Try.func82, Try.ntmps82
      go_wp2_with fail
      refine Hlf.out.mono ?_
      rintro e W2 ⟨rfl, rfl⟩
      go_wp2_with fail
      refine Hfl.out.mono ?_
      rintro e W3 ⟨rfl, hr, hg⟩
      go_wp2_with fail
      go_ret2
      rw [HR.out]
      exact ⟨none, 0, rfl, hr, hg, SameBlk.none _⟩
    have hA' : ¬ (8 : Int) < (s : Int) := by omega
    by_cases hB : l.length ≤ s
    · have HR := Lib.hid (hbad (.inr (.inl hB)))
      clear hbad hbig hok
      have hB' : (l.length : Int) ≤ (s : Int) := by omega
      go_enter Try.func82, Try.ntmps82
      go_wp2_with fail
      refine Hlf.out.mono ?_
      rintro e W2 ⟨rfl, rfl⟩
      go_wp2_with fail
      refine Hfl.out.mono ?_
      rintro e W3 ⟨rfl, hr, hg⟩
      go_wp2_with fail
      go_ret2
      rw [HR.out]
      exact ⟨none, 0, rfl, hr, hg, SameBlk.none _⟩
    have hB' : ¬ (l.length : Int) ≤ (s : Int) := by omega
    have HS1 : 0 < s → ∃ d : UInt8, l[1]? = some d ∧ W.cell? ⟨b, off + 1, none⟩ = some (.int .u8 (d.toNat : Int)) := fun hs0 => by
      obtain ⟨b2, off2, e2, hc2⟩ := h.bs.get 1 (by omega)
      simp only [Option.some.injEq, Addr.mk.injEq] at e2
      obtain ⟨rfl, rfl, -⟩ := e2
      exact ⟨l[1], List.getElem?_eq_getElem (by omega), hc2⟩
    by_cases hC : 0 < s ∧ l[1]? = some 0
    · have HR := Lib.hid (hbad (.inr (.inr hC)))
      obtain ⟨hC1, hC2⟩ := hC
      obtain ⟨d, hd, hcd⟩ := HS1 hC1
      rw [hC2] at hd
      simp only [Option.some.injEq] at hd
      subst hd
      have l2 : (1 : Int) < (l.length : Int) := by omega
      have hC' : (0 : Int) < (s : Int) := by omega
      have hcd' : W.cell? ⟨b, off + 1, none⟩ = some (.int .u8 0) := hcd
      clear hbad hbig hok hC2 HS1 hcd
      go_enter Try.func82, Try.ntmps82
      go_wp2_with fail
      refine Hlf.out.mono ?_
      rintro e W2 ⟨rfl, rfl⟩
      go_wp2_with fail
      refine Hfl.out.mono ?_
      rintro e W3 ⟨rfl, hr, hg⟩
      go_wp2_with fail
      go_ret2
      rw [HR.out]
      exact ⟨none, 0, rfl, hr, hg, SameBlk.none _⟩
    have hok2 := hok hA hB hC
    have HS2 : (s = 0) ∨ ∃ d : UInt8, 0 < s ∧ d ≠ 0 ∧ W.cell? ⟨b, off + 1, none⟩ = some (.int .u8 (d.toNat : Int)) := by
      by_cases hs0 : s = 0
      · exact .inl hs0
      · obtain ⟨d, hd, hcd⟩ := HS1 (by omega)
        exact .inr ⟨d, by omega, fun e => hC ⟨by omega, by rw [hd, e]⟩, hcd⟩
    obtain ⟨X, hX⟩ : ∃ X, X = valN ((l.take (s + 1)).drop 1) := ⟨_, rfl⟩
    rw [← hX] at hbig hok2
    have HX := Lib.hid hX
    have Hbig := Lib.hid hbig
    have Hok := Lib.hid hok2
    clear hX hbig hok2 hok hbad HS1 hC
    have w0 : IntKind.i64.wrap ((s : Int) + 1) = (s : Int) + 1 := IntWalk.i64_in _ (by omega)
    have HS3 : (¬ (0 : Int) < (s : Int)) ∨ ∃ d : Int, (0 : Int) < (s : Int) ∧ ¬ d = 0 ∧ W.cell? ⟨b, off + 1, none⟩ = some (.int .u8 d) := by
      rcases HS2 with hs0 | ⟨d, hs0, hd0, hcd⟩
      · exact .inl (by omega)
      · refine .inr ⟨_, by omega, ?_, hcd⟩
        intro e
        exact hd0 (UInt8.toNat_inj.1 (by have : d.toNat = 0 := by omega
                                         rw [this]; rfl))
    clear HS2
    have l2 : (0 : Int) < (s : Int) → (1 : Int) < (l.length : Int) := fun _ => by omega
    rcases HS3 with hs0 | ⟨d, hs0, hd0, hcd⟩
    rotate_left
    have hd1 : (d == 0) = false := by simpa using hd0
    have l3 := l2 hs0
    rotate_left
    all_goals
      go_enter Try.func82, Try.ntmps82
      go_wp2_with fail
      refine Hlf.out.mono ?_
      rintro e W2 ⟨rfl, rfl⟩
      go_wp2_with ((with_reducible show wpList _ _ _ (⟨_, Op.slice _ (.tmp 57) _ _ _, _, _, _, _⟩ :: _) _ _); refine wpl_slice_bs rfl (.tmp 57) (some (.const (.int .i64 1))) (some (.tmp 59)) 64 5 rfl Try.underlying64 sizeUB _ _ l rfl h.bs 1 (s + 1) (.inl ⟨_, rfl, ?_⟩) (.inl ⟨_, rfl, ?_⟩) ?_ ?_ ?_; rfl; (simp); omega; omega; intro ao7 cap7 l7 hl7 hlen7 hb7; have h78 : l7.length ≤ 8 := (by omega); clear hlen7)
      have hX7 : Hid (X = valN l7) := by show X = _; rw [HX.out, hl7.out]
      go_loopw [6, 62] (fun a b wr => ∃ (i x : Nat), a = .int .u64 x ∧ b = .int .i64 i ∧ i ≤ l7.length ∧ Hid (x = valN (l7.take i)) ∧ W = wr) (fun _ b _ => l7.length - (intOf b).toNat)
      case atStart => exact ⟨0, 0, rfl, rfl, by omega, by show _ = _; simp [valN], rfl⟩
      case round =>
        obtain ⟨i, x, rfl, rfl, hi, hx, rfl⟩ := hrel
        by_cases hlt : i < l7.length
        · obtain ⟨b2, off2, rfl, hc2⟩ := hb7.get i hlt
          have hst := valN_step l7 i hlt
          have hxb : x < 72057594037927936 := by
            rw [hx.out]
            have h1 := valN_lt (l7.take i)
            have h2 : (l7.take i).length ≤ 7 := by simp; omega
            have h3 : 256 ^ (l7.take i).length ≤ 256 ^ 7 := Nat.pow_le_pow_right (by decide) h2
            have h4 : (256 : Nat) ^ 7 = 72057594037927936 := by decide
            omega
          rw [← hx.out] at hst
          obtain ⟨c, hc⟩ : ∃ c, c = l7[i] := ⟨_, rfl⟩
          rw [← hc] at hst hc2
          have w1 : IntKind.u64.wrap ((x : Int) * 256) = (x : Int) * 256 := IntWalk.u64_in _ (by omega)
          have hc256 := c.toNat_lt
          have w2 : IntKind.u64.wrap (c.toNat : Int) = (c.toNat : Int) := IntWalk.u64_in _ (by omega)
          have w3 := or_byte x c hxb
          obtain ⟨y, hy⟩ : ∃ y, y = x * 256 + c.toNat := ⟨_, rfl⟩
          rw [← hy] at w3 hst
          have Hst := Lib.hid hst.symm
          clear hst hy hc hx
          have i0 : (0 : Int) ≤ (i : Int) := by omega
          have i1 : (i : Int) < (l7.length : Int) := by omega
          go_wp2_with fail
          go_roundw
          case rel => exact ⟨i + 1, y, by simp, by simp, by omega, Hst, by first | rfl | trivial⟩
          case measure => simp [intOf]; omega
        · have hi' : i = l7.length := by omega
          subst hi'
          have hxX : x = X := by rw [hx.out, hX7.out, List.take_length]
          subst hxX
          clear hx
          by_cases hD : 9223372036854775807 < x
          · have HR := Lib.hid (Hbig.out hD)
            have hD' : 9223372036854775807 < (x : Int) := by omega
            go_wp2_with fail
            refine Hfl.out.mono ?_
            rintro e W3 ⟨rfl, hr, hg⟩
            go_wp2_with fail
            go_ret2
            rw [HR.out]
            exact ⟨none, 0, rfl, hr, hg, SameBlk.none _⟩
          · have HR := Lib.hid (Hok.out hD)
            have hD' : ¬ 9223372036854775807 < (x : Int) := by omega
            go_wp2_with ((with_reducible show wpList _ _ _ (⟨_, Op.slice _ (.tmp 81) _ _ _, _, _, _, _⟩ :: _) _ _); refine wpl_slice_bb rfl (.tmp 81) (some (.tmp 83)) none 64 5 rfl Try.underlying64 sizeUB _ _ l rfl h.bs (s + 1) l.length (.inl ⟨_, rfl, ?_⟩) (.inr ⟨rfl, rfl⟩) ?_ ?_ ?_; (simp); omega; omega; intro ao8 cap8 l8 hl8 hlen8 hb8 hsb8; clear hlen8)
            go_ret2
            have hl8' : l8 = l.drop (s + 1) := by rw [hl8.out, List.take_length]
            rw [HR.out]
            obtain ⟨hp1, hp2⟩ := h.put hb8
            subst hl8'
            exact ⟨ao8, cap8, rfl, hp1, hp2, hsb8⟩
  · obtain rfl : l = [] := List.eq_nil_of_length_eq_zero (by omega)
    have HR := Lib.hid (readM_nil bad)
    go_enter Try.func82, Try.ntmps82
    go_wp2_with fail
    refine Hlf.out.mono ?_
    rintro e W2 ⟨rfl, rfl⟩
    go_wp2_with fail
    refine Hfl.out.mono ?_
    rintro e W3 ⟨rfl, hr, hg⟩
    go_wp2_with fail
    go_ret2
    rw [HR.out]
    exact ⟨none, 0, rfl, hr, hg, SameBlk.none _⟩
set_option maxHeartbeats 1000000 in
theorem rint_any {W : World} {p : Nat} {ao : Option Addr} {cap : Nat} {l : List UInt8} {bad : Bool} (h : Rd 106 W p ao cap l bad) :
    Calls Try.prog 55 #[.pointer (some ⟨p, 0, none⟩)] W (RdToldI 106 p ao (readI l bad) W) := by
  have hn := rnumberS_any h
  have hle := readM_le l bad
  have hI : Hid (readI l bad = (if (readM l bad).1.2 = true then -1 - ((readM l bad).1.1 : Int) else ((readM l bad).1.1 : Int), (readM l bad).2)) := rfl
  obtain ⟨⟨⟨x, n⟩, r⟩, hr⟩ : ∃ r, r = readM l bad := ⟨_, rfl⟩
  rw [← hr] at hn hI hle
  simp only at hle
  have Hn := Lib.hid hn
  clear hr hn
  have w1 : IntKind.i64.wrap (x : Int) = (x : Int) := IntWalk.i64_in _ (by omega)
  have w2 : IntKind.i64.wrap (-1 - (x : Int)) = -1 - (x : Int) := IntWalk.i64_in _ (by omega)
  cases n with
  | true =>
    go_enter Try.func55, Try.ntmps55
    go_wp2_with fail
    refine Hn.out.mono ?_
    rintro e W2 ⟨ao', cap', rfl, hr, hg, hsb⟩
    go_wp2_with fail
    go_ret
    rw [hI.out]
    exact ⟨ao', cap', by simp, hr, hg, hsb⟩
  | false =>
    go_enter Try.func55, Try.ntmps55
    go_wp2_with fail
    refine Hn.out.mono ?_
    rintro e W2 ⟨ao', cap', rfl, hr, hg, hsb⟩
    go_wp2_with fail
    go_ret
    rw [hI.out]
    exact ⟨ao', cap', by simp, hr, hg, hsb⟩
set_option maxRecDepth 100000 in
set_option maxHeartbeats 1000000 in
theorem refInt_rd {W : World} {p : Nat} {ao : Option Addr} {cap : Nat} {l : List UInt8} {bad : Bool} (h : Rd 78 W p ao cap l bad) :
    Calls Try.prog 61 #[.pointer (some ⟨p, 0, none⟩)] W (RdToldI 78 p ao (readI l bad) W) := by
  have hI : Hid (readI l bad = (if (readM l bad).1.2 = true then -1 - ((readM l bad).1.1 : Int) else ((readM l bad).1.1 : Int), (readM l bad).2)) := rfl
  have Hfl := Lib.hid (fun (W : World) (ao : Option Addr) (cap : Nat) (l : List UInt8) (bad : Bool) (h : Rd 78 W p ao cap l bad) => refFail_rd h)
  by_cases h0 : 0 < l.length
  · have Hfi := Lib.hid (refFirst_some h h0)
    have hbad := readM_bad l bad h0
    have hbig := readM_big l bad h0
    have hok := readM_ok l bad h0
    obtain ⟨s0, hs0⟩ : ∃ s0, s0 = l[0].toNat := ⟨_, rfl⟩
    have hs0256 : s0 < 256 := by rw [hs0]; exact l[0].toNat_lt
    rw [← hs0] at Hfi hbad hbig hok
    obtain ⟨s, hs⟩ : ∃ s, s = s0 % 128 := ⟨_, rfl⟩
    have hs256 : s < 256 := by omega
    have hrm : (s0 : Int).tmod 128 = (s : Int) := by rw [Int.tmod_eq_emod_of_nonneg (by omega)]; omega
    rw [← hs] at hbad hbig hok
    clear hs hs0
    have w1 : IntKind.i64.wrap (s : Int) = (s : Int) := IntWalk.i64_in _ (by omega)
    by_cases hB : 8 < s ∨ l.length ≤ s ∨ (0 < s ∧ l[1]? = some 0)
    · have HR := Lib.hid (hbad hB)
      have hB2 : 8 < s ∨ (l.drop 1).length < s ∨ (0 < s ∧ (l.drop 1)[0]? = some 0) := by
        rcases hB with h1 | h1 | h1
        · exact .inl h1
        · exact .inr (.inl (by simp; omega))
        · exact .inr (.inr ⟨h1.1, by simpa using h1.2⟩)
      have Hnb := Lib.hid (fun (W : World) (ao : Option Addr) (cap : Nat) (h : Rd 78 W p ao cap (l.drop 1) bad) => refNumber_bad s h hB2)
      clear hbad hbig hok hB hB2
      go_enter Try.func61, Try.ntmps61
      go_wp2_with fail
      refine Hfi.out.mono ?_
      rintro e W2 ⟨ao2, cap2, rfl, hr2, hg2, hs2⟩
      go_wp2_with fail
      refine (Hnb.out _ _ _ hr2).mono ?_
      rintro e W3 ⟨rfl, rfl⟩
      go_wp2_with fail
      refine (Hfl.out _ _ _ _ _ hr2).mono ?_
      rintro e W3 ⟨rfl, hr3, hg3⟩
      go_wp2_with fail
      go_ret
      rw [hI.out, HR.out]
      exact ⟨none, 0, rfl, hr3, grown_trans hg2 hg3, SameBlk.none _⟩
    · have hA : ¬ 8 < s := fun e => hB (.inl e)
      have hA2 : ¬ l.length ≤ s := fun e => hB (.inr (.inl e))
      have hA3 : ¬ (0 < s ∧ l[1]? = some 0) := fun e => hB (.inr (.inr e))
      have hok2 := hok hA hA2 hA3
      have hNo := fun (W : World) (ao : Option Addr) (cap : Nat) (h : Rd 78 W p ao cap (l.drop 1) bad) => refNumber_ok s h hA (by simp; omega) (by simpa using hA3)
      rw [drop1_take] at hok2 hbig
      have e2 : (l.drop 1).drop s = l.drop (s + 1) := by rw [List.drop_drop]; congr 1; omega
      simp only [e2] at hNo
      obtain ⟨X, hX⟩ : ∃ X, X = valN ((l.drop 1).take s) := ⟨_, rfl⟩
      simp only [← hX] at hNo hok2 hbig
      have HNo := Lib.hid hNo
      have Hbig := Lib.hid hbig
      have Hok := Lib.hid hok2
      clear hNo hX hbig hok2 hok hbad hB hA3 e2
      by_cases hD : 9223372036854775807 < X
      · have HR := Lib.hid (Hbig.out hD)
        have hD' : ¬ (X : Int) ≤ 9223372036854775807 := by omega
        go_enter Try.func61, Try.ntmps61
        go_wp2_with fail
        refine Hfi.out.mono ?_
        rintro e W2 ⟨ao2, cap2, rfl, hr2, hg2, hs2⟩
        go_wp2_with fail
        refine (HNo.out _ _ _ hr2).mono ?_
        rintro e W3 ⟨ao3, cap3, rfl, hr3, hg3, hs3⟩
        go_wp2_with fail
        refine (Hfl.out _ _ _ _ _ hr3).mono ?_
        rintro e W4 ⟨rfl, hr4, hg4⟩
        go_wp2_with fail
        go_ret
        rw [hI.out, HR.out]
        exact ⟨none, 0, rfl, hr4, grown_trans hg2 (grown_trans hg3 hg4), SameBlk.none _⟩
      · have HR := Lib.hid (Hok.out hD)
        have hD' : (X : Int) ≤ 9223372036854775807 := by omega
        have w2 : IntKind.i64.wrap (X : Int) = (X : Int) := IntWalk.i64_in _ (by omega)
        have w3 : IntKind.i64.wrap (-1 - (X : Int)) = -1 - (X : Int) := IntWalk.i64_in _ (by omega)
        by_cases hN : 128 ≤ s0
        · have hN' : (128 : Int) ≤ (s0 : Int) := by omega
          have HR2 : Hid (decide (128 ≤ s0) = true) := by show _ = _; simp [hN]
          clear hN
          go_enter Try.func61, Try.ntmps61
          go_wp2_with fail
          refine Hfi.out.mono ?_
          rintro e W2 ⟨ao2, cap2, rfl, hr2, hg2, hs2⟩
          go_wp2_with fail
          refine (HNo.out _ _ _ hr2).mono ?_
          rintro e W3 ⟨ao3, cap3, rfl, hr3, hg3, hs3⟩
          go_wp2_with fail
          go_ret
          rw [hI.out, HR.out, HR2.out]
          exact ⟨ao3, cap3, by simp, hr3, grown_trans hg2 hg3, hs2.trans hs3⟩
        · have hN' : ¬ (128 : Int) ≤ (s0 : Int) := by omega
          have HR2 : Hid (decide (128 ≤ s0) = false) := by show _ = _; simp [hN]
          clear hN
          go_enter Try.func61, Try.ntmps61
          go_wp2_with fail
          refine Hfi.out.mono ?_
          rintro e W2 ⟨ao2, cap2, rfl, hr2, hg2, hs2⟩
          go_wp2_with fail
          refine (HNo.out _ _ _ hr2).mono ?_
          rintro e W3 ⟨ao3, cap3, rfl, hr3, hg3, hs3⟩
          go_wp2_with fail
          go_ret
          rw [hI.out, HR.out, HR2.out]
          exact ⟨ao3, cap3, by simp, hr3, grown_trans hg2 hg3, hs2.trans hs3⟩
  · obtain rfl : l = [] := List.eq_nil_of_length_eq_zero (by omega)
    have HR := Lib.hid (readM_nil bad)
    have Hfi := Lib.hid (refFirst_nil h)
    go_enter Try.func61, Try.ntmps61
    go_wp2_with fail
    refine Hfi.out.mono ?_
    rintro e W2 ⟨rfl, rfl⟩
    go_wp2_with fail
    refine (Hfl.out _ _ _ _ _ h).mono ?_
    rintro e W3 ⟨rfl, hr3, hg3⟩
    go_wp2_with fail
    go_ret
    rw [hI.out, HR.out]
    exact ⟨none, 0, rfl, hr3, hg3, SameBlk.none _⟩
set_option maxHeartbeats 4000000 in
theorem wint_any (x : Nat) (hx : x ≤ 9223372036854775807) (ad : Addr) (cc : Nat) {W : World} {base p : Nat} {v : Value} {l : List UInt8} (h : Wr W base p v l) (hl : l.length ≤ 1000000000) (hc : W.cell? ad = some (.int .i64 (x : Int))) :
    Calls Try.prog 53 #[.pointer (some ⟨p, 0, none⟩), .slice (some ad) 1 cc] W (Wrote base p v (l ++ numB x) W) := by
  have had : ∀ a : Addr, a.add 0 = a := fun a => by unfold Addr.add; split <;> simp_all
  have w1 : IntKind.u64.wrap (x : Int) = (x : Int) := IntWalk.u64_in _ (by omega)
  have x0 : ¬ (x : Int) < 0 := by omega
  have hnum := number_any x (by omega) 0 (by omega) h (by omega)
  simp only [Int.natCast_zero, Nat.zero_add] at hnum
  have Hnum := Lib.hid hnum
  clear hnum hx
  go_enter Try.func53, Try.ntmps53
  go_wp2_with fail
  go_loopw [10] (fun a wr => (a = .int .i64 0 ∧ W = wr) ∨ (a = .int .i64 1 ∧ ∃ v', Wr wr base p v' (l ++ numB x) ∧ FrO W.heap.size p v W wr ∧ (∀ k, v'.ownBlock = some k → v.ownBlock = some k ∨ W.heap.size ≤ k))) (fun a _ => 1 - (intOf a).toNat)
  case atStart => exact .inl ⟨rfl, rfl⟩
  case round =>
    rcases hrel with ⟨rfl, rfl⟩ | ⟨rfl, v', hwr, hfr, hv⟩
    · have ha0 := had ad
      go_wp2_with fail
      refine Hnum.out.mono ?_
      rintro e W2 ⟨rfl, v2, hwr2, hfr2, hv2⟩
      go_wp2_with fail
      go_roundw
      case rel => exact .inr ⟨rfl, v2, hwr2, hfr2, hv2⟩
      case measure => simp [intOf]
    · go_wp2_with fail
      refine bodyPost_ret (v := .tuple #[]) (by simp [results, Try.results53, go_sem]) rfl ?_
      exact ⟨rfl, v', hwr, hfr, hv⟩
theorem refIntB_any (n : Nat) (hn : n ≤ 9223372036854775807) (W : World) :
    Calls Try.prog 59 #[.int .i64 (n : Int)] W fun e W' => ∃ ao cap, e = .returned (.slice ao (numB n).length cap) ∧ W'.ownsRow W.heap.size 5 1 (.slice ao (numB n).length cap) (numB n).length ((numB n).map u8) ∧ Below W.heap.size W W' := by
  have Hn := Lib.hid (refNumB_any n (by omega) W)
  have w1 : IntKind.u64.wrap (n : Int) = (n : Int) := IntWalk.u64_in _ (by omega)
  have x0 : (0 : Int) ≤ (n : Int) := by omega
  clear hn
  go_enter Try.func59, Try.ntmps59
  go_wp2_with fail
  refine Hn.out.mono ?_
  rintro e W2 ⟨ao, cap, rfl, ho, hb⟩
  go_wp2_with fail
  go_ret
  exact ⟨ao, cap, rfl, ho, hb⟩
end Go.Proofs.Ytedlplkomfiahaa
