/- Contracts of the reference's Reader (curfewref01): Fail, first, number, Num; of its Num. No statement of the seat is proved here. -/
import Derived.Test.YtlphpjgiaflfkaaQn
namespace Go.Proofs.Ytlphpjgiaflfkaa
set_option linter.unusedVariables false
set_option linter.unusedSimpArgs false
set_option linter.unusedSectionVars false
open Go Go.RowKit Go.Shelf

theorem refFail_rd {W : World} {p : Nat} {ao : Option Addr} {cap : Nat} {l : List UInt8} {bad : Bool} (h : Rd 78 W p ao cap l bad) :
    Calls Try.prog 85 #[.pointer (some ⟨p, 0, none⟩)] W (RdBad 78 p (.tuple #[]) W) := by
  obtain ⟨c0, c1, f0, f1⟩ := h.cells
  have hpz := (Array.getElem?_eq_some_iff.1 h.blk).1
  go_enter Try.func85, Try.ntmps85
  go_wp2_with fail
  refine bodyPost_ret (v := .tuple #[]) (by simp [results, Try.results85, go_sem]) rfl ?_
  exact ⟨rfl, h.fail⟩
theorem refFirst_nil {W : World} {p : Nat} {ao : Option Addr} {cap : Nat} {bad : Bool} (h : Rd 78 W p ao cap [] bad) :
    Calls Try.prog 83 #[.pointer (some ⟨p, 0, none⟩)] W fun e W' => e = .returned (.tuple #[.int .u8 0, .bool false]) ∧ W = W' := by
  obtain ⟨c0, c1, f0, f1⟩ := h.cells
  simp only [List.length_nil] at c0
  go_enter Try.func83, Try.ntmps83
  go_wp2_with fail
  go_ret2
  exact ⟨rfl, rfl⟩
set_option maxHeartbeats 1000000 in
theorem refFirst_some {W : World} {p : Nat} {ao : Option Addr} {cap : Nat} {l : List UInt8} {bad : Bool} (h : Rd 78 W p ao cap l bad) (h0 : 0 < l.length) :
    Calls Try.prog 83 #[.pointer (some ⟨p, 0, none⟩)] W fun e W' => ∃ ao' cap', e = .returned (.tuple #[.int .u8 (l[0].toNat : Int), .bool true]) ∧ Rd 78 W' p ao' cap' (l.drop 1) bad ∧ W.grownBy W' (some p) ∧ SameBlk ao ao' := by
  obtain ⟨c0, c1, f0, f1⟩ := h.cells
  have hpz := (Array.getElem?_eq_some_iff.1 h.blk).1
  obtain ⟨b, off, rfl, hc0⟩ := h.bs.get 0 h0
  have hc0' : W.cell? ⟨b, off, none⟩ = some (.int .u8 (l[0].toNat : Int)) := hc0
  obtain ⟨c, hc⟩ : ∃ c, c = l[0] := ⟨_, rfl⟩
  rw [← hc] at hc0' ⊢
  clear hc hc0
  have l0 : ¬ ((l.length : Int) = 0) := by omega
  have l1 : (0 : Int) < (l.length : Int) := by omega
  go_enter Try.func83, Try.ntmps83
  go_wp2_with ((with_reducible show wpList _ _ _ (⟨_, Op.slice _ (.tmp 21) _ _ _, _, _, _, _⟩ :: _) _ _); refine wpl_slice_bb rfl (.tmp 21) (some (.const (.int .i64 1))) none 22 5 rfl Try.underlying22 sizeUB _ _ l rfl h.bs 1 l.length (.inl ⟨_, rfl, ?_⟩) (.inr ⟨rfl, rfl⟩) ?_ ?_ ?_; rfl; omega; omega; intro ao8 cap8 l8 hl8 hlen8 hb8 hsb8; clear hlen8)
  go_ret2
  have hl8' : l8 = l.drop 1 := by rw [hl8.out, List.take_length]
  obtain ⟨hp1, hp2⟩ := h.put hb8
  subst hl8'
  exact ⟨ao8, cap8, rfl, hp1, hp2, hsb8⟩
set_option maxRecDepth 100000 in
set_option maxHeartbeats 4000000 in
theorem refNumber_bad (s : Nat) {W : World} {p : Nat} {ao : Option Addr} {cap : Nat} {l : List UInt8} {bad : Bool} (h : Rd 78 W p ao cap l bad) (hbad : 8 < s ∨ l.length < s ∨ (0 < s ∧ l[0]? = some 0)) :
    Calls Try.prog 84 #[.pointer (some ⟨p, 0, none⟩), .int .i64 (s : Int)] W fun e W' => e = .returned (.tuple #[.int .u64 0, .bool false]) ∧ W = W' := by
  obtain ⟨c0, c1, f0, f1⟩ := h.cells
  by_cases hA : 8 < s
  · have hA' : (8 : Int) < (s : Int) := by omega
    go_enter Try.func84, Try.ntmps84
    go_wp2_with fail
    go_ret2
    exact ⟨rfl, rfl⟩
  have hA' : ¬ (8 : Int) < (s : Int) := by omega
  by_cases hB : l.length < s
  · have hB' : (l.length : Int) < (s : Int) := by omega
    go_enter Try.func84, Try.ntmps84
    go_wp2_with fail
    go_ret2
    exact ⟨rfl, rfl⟩
  have hB' : ¬ (l.length : Int) < (s : Int) := by omega
  obtain ⟨hC1, hC2⟩ : 0 < s ∧ l[0]? = some 0 := by
    rcases hbad with h1 | h1 | h1
    · exact absurd h1 hA
    · exact absurd h1 hB
    · exact h1
  obtain ⟨b, off, rfl, hc0⟩ := h.bs.get 0 (by omega)
  have hz : l[0] = 0 := by rw [List.getElem?_eq_getElem (by omega)] at hC2; simpa using hC2
  rw [hz] at hc0
  have hc0' : W.cell? ⟨b, off, none⟩ = some (.int .u8 0) := hc0
  have l1 : (0 : Int) < (l.length : Int) := by omega
  have l2 : (0 : Int) < (s : Int) := by omega
  clear hz hC2 hbad hc0
  go_enter Try.func84, Try.ntmps84
  go_wp2_with fail
  go_ret2
  exact ⟨rfl, rfl⟩
set_option maxRecDepth 100000 in
set_option maxHeartbeats 4000000 in
theorem refNumber_ok (s : Nat) {W : World} {p : Nat} {ao : Option Addr} {cap : Nat} {l : List UInt8} {bad : Bool} (h : Rd 78 W p ao cap l bad) (hA : ¬ 8 < s) (hB : ¬ l.length < s) (hC : ¬ (0 < s ∧ l[0]? = some 0)) :
    Calls Try.prog 84 #[.pointer (some ⟨p, 0, none⟩), .int .i64 (s : Int)] W fun e W' => ∃ ao' cap', e = .returned (.tuple #[.int .u64 (valN (l.take s) : Nat), .bool true]) ∧ Rd 78 W' p ao' cap' (l.drop s) bad ∧ W.grownBy W' (some p) ∧ SameBlk ao ao' := by
  obtain ⟨c0, c1, f0, f1⟩ := h.cells
  have hpz := (Array.getElem?_eq_some_iff.1 h.blk).1
  have hA' : ¬ (8 : Int) < (s : Int) := by omega
  have hB' : ¬ (l.length : Int) < (s : Int) := by omega
  have hmax := h.bs.max
  have hle := h.bs.le
  have HS3 : (¬ (0 : Int) < (s : Int)) ∨ ∃ (b off : Nat) (d : Int), ao = some ⟨b, off, none⟩ ∧ (0 : Int) < (s : Int) ∧ ¬ d = 0 ∧ W.cell? ⟨b, off, none⟩ = some (.int .u8 d) := by
    by_cases hs0 : s = 0
    · exact .inl (by omega)
    · obtain ⟨b, off, e, hc0⟩ := h.bs.get 0 (by omega)
      refine .inr ⟨b, off, _, e, by omega, ?_, hc0⟩
      intro e2
      refine hC ⟨by omega, ?_⟩
      rw [List.getElem?_eq_getElem (by omega)]
      congr 1
      refine UInt8.toNat_inj.1 ?_
      have e3 : l[0].toNat = 0 := by omega
      rw [e3]; rfl
  rcases HS3 with hs0 | ⟨b, off, d, rfl, hs0, hd0, hcd⟩
  rotate_left
  have hd1 : (d == 0) = false := by simpa using hd0
  have l3 : (0 : Int) < (l.length : Int) := by omega
  rotate_left
  all_goals
    clear hmax hle
    go_enter Try.func84, Try.ntmps84
    go_wp2_with fail
    go_loopw [6, 7] (fun a b wr => ∃ (i x : Nat), a = .int .u64 x ∧ b = .int .i64 i ∧ i ≤ s ∧ Hid (x = valN (l.take i)) ∧ W = wr) (fun _ b _ => s - (intOf b).toNat)
    case atStart => exact ⟨0, 0, rfl, rfl, by omega, by show _ = _; simp [valN], rfl⟩
    case round =>
      obtain ⟨i, x, rfl, rfl, hi, hx, rfl⟩ := hrel
      by_cases hlt : i < s
      · first
          | (exfalso; omega)
          | (
            obtain ⟨b2, off2, e2, hc2⟩ := h.bs.get i (by omega)
            have hst := valN_step l i (by omega)
            have hxb : x < 72057594037927936 := by
              rw [hx.out]
              have h1 := valN_lt (l.take i)
              have h2 : (l.take i).length ≤ 7 := by simp; omega
              have h3 : 256 ^ (l.take i).length ≤ 256 ^ 7 := Nat.pow_le_pow_right (by decide) h2
              have h4 : (256 : Nat) ^ 7 = 72057594037927936 := by decide
              omega
            rw [← hx.out] at hst
            obtain ⟨c, hc⟩ : ∃ c, c = l[i] := ⟨_, rfl⟩
            rw [← hc] at hst hc2
            have hc256 := c.toNat_lt
            have w1 : IntKind.u64.wrap ((x : Int) * 256) = (x : Int) * 256 := IntWalk.u64_in _ (by omega)
            have w2 : IntKind.u64.wrap (c.toNat : Int) = (c.toNat : Int) := IntWalk.u64_in _ (by omega)
            obtain ⟨y, hy⟩ : ∃ y, y = x * 256 + c.toNat := ⟨_, rfl⟩
            have w3 : IntKind.u64.wrap ((x : Int) * 256 + (c.toNat : Int)) = (y : Int) := by rw [IntWalk.u64_in _ (by omega)]; omega
            rw [← hy] at hst
            have Hst := Lib.hid hst.symm
            clear hst hy hc hx hxb hc256
            have i0 : (0 : Int) ≤ (i : Int) := by omega
            have i1 : (i : Int) < (l.length : Int) := by omega
            have i2 : (i : Int) < (s : Int) := by omega
            try simp only [Option.some.injEq, Addr.mk.injEq] at e2
            first | subst e2 | (obtain ⟨rfl, rfl, -⟩ := e2)
            go_wp2_with fail
            go_roundw
            case rel => exact ⟨i + 1, y, by simp, by simp, by omega, Hst, by first | rfl | trivial⟩
            case measure => simp [intOf]; omega)
      · have hi' : i = s := by omega
        subst hi'
        go_wp2_with ((with_reducible show wpList _ _ _ (⟨_, Op.slice _ (.tmp 52) _ _ _, _, _, _, _⟩ :: _) _ _); refine wpl_slice_bb rfl (.tmp 52) (some (.tmp 53)) none 22 5 rfl Try.underlying22 sizeUB _ _ l rfl h.bs i l.length (.inl ⟨_, rfl, ?_⟩) (.inr ⟨rfl, rfl⟩) ?_ ?_ ?_; rfl; omega; omega; intro ao8 cap8 l8 hl8 hlen8 hb8 hsb8; clear hlen8)
        go_ret2
        have hl8' : l8 = l.drop i := by rw [hl8.out, List.take_length]
        rw [← hx.out]
        obtain ⟨hp1, hp2⟩ := h.put hb8
        subst hl8'
        exact ⟨ao8, cap8, rfl, hp1, hp2, hsb8⟩
theorem drop1_take (l : List UInt8) (s : Nat) : (l.take (s + 1)).drop 1 = (l.drop 1).take s := by rw [List.drop_take]; rfl
set_option maxHeartbeats 1000000 in
theorem refNum_rd (most : Nat) (hm : most < 2 ^ 64) {W : World} {p : Nat} {ao : Option Addr} {cap : Nat} {l : List UInt8} {bad : Bool} (h : Rd 78 W p ao cap l bad) :
    Calls Try.prog 43 #[.pointer (some ⟨p, 0, none⟩), .int .u64 (most : Int)] W (RdTold 78 p ao (fun x => .int .u64 x) (readN most l bad) W) := by
  clear hm
  have Hfl := Lib.hid (fun (W : World) (ao : Option Addr) (cap : Nat) (l : List UInt8) (bad : Bool) (h : Rd 78 W p ao cap l bad) => refFail_rd h)
  by_cases h0 : 0 < l.length
  · have Hfi := Lib.hid (refFirst_some h h0)
    have hbad := readN_bad most l bad h0
    have hbig := readN_big most l bad h0
    have hok := readN_ok most l bad h0
    obtain ⟨s, hs⟩ : ∃ s, s = l[0].toNat := ⟨_, rfl⟩
    have hs256 : s < 256 := by rw [hs]; exact l[0].toNat_lt
    rw [← hs] at Hfi hbad hbig hok
    clear hs
    have w1 : IntKind.i64.wrap (s : Int) = (s : Int) := IntWalk.i64_in _ (by omega)
    by_cases hB : 8 < s ∨ l.length ≤ s ∨ (0 < s ∧ l[1]? = some 0)
    · have HR := Lib.hid (hbad hB)
      have hB2 : 8 < s ∨ (l.drop 1).length < s ∨ (0 < s ∧ (l.drop 1)[0]? = some 0) := by
        rcases hB with h1 | h1 | h1
        · exact .inl h1
        · exact .inr (.inl (by simp; omega))
        · exact .inr (.inr ⟨h1.1, by simpa using h1.2⟩)
      have Hnb := Lib.hid (fun (W : World) (ao : Option Addr) (cap : Nat) (h : Rd 78 W p ao cap (l.drop 1) bad) => refNumber_bad s h hB2)
      clear hbad hbig hok hB hB2
      go_enter Try.func43, Try.ntmps43
      go_wp2_with fail
      refine Hfi.out.mono ?_
      rintro e W2 ⟨ao2, cap2, rfl, hr2, hg2, hs2⟩
      go_wp2_with fail
      refine (Hnb.out _ _ _ hr2).mono ?_
      rintro e W3 ⟨rfl, rfl⟩
      go_wp2_with fail
      refine (Hfl.out _ _ _ _ _ hr2).mono ?_
      rintro e W3 ⟨rfl, hr3, hg3⟩
      go_wp2_with fail
      go_ret
      rw [HR.out]
      exact ⟨none, 0, rfl, hr3, grown_trans hg2 hg3, SameBlk.none _⟩
    · have hA : ¬ 8 < s := fun e => hB (.inl e)
      have hA2 : ¬ l.length ≤ s := fun e => hB (.inr (.inl e))
      have hA3 : ¬ (0 < s ∧ l[1]? = some 0) := fun e => hB (.inr (.inr e))
      have hok2 := hok hA hA2 hA3
      have hNo := fun (W : World) (ao : Option Addr) (cap : Nat) (h : Rd 78 W p ao cap (l.drop 1) bad) => refNumber_ok s h hA (by simp; omega) (by simpa using hA3)
      rw [drop1_take] at hok2 hbig
      have e2 : (l.drop 1).drop s = l.drop (s + 1) := by rw [List.drop_drop]; congr 1; omega
      simp only [e2] at hNo
      obtain ⟨X, hX⟩ : ∃ X, X = valN ((l.drop 1).take s) := ⟨_, rfl⟩
      simp only [← hX] at hNo hok2 hbig
      have HNo := Lib.hid hNo
      have Hbig := Lib.hid hbig
      have Hok := Lib.hid hok2
      clear hNo hX hbig hok2 hok hbad hB hA3 e2
      by_cases hD : most < X
      · have HR := Lib.hid (Hbig.out hD)
        have hD' : ¬ (X : Int) ≤ (most : Int) := by omega
        go_enter Try.func43, Try.ntmps43
        go_wp2_with fail
        refine Hfi.out.mono ?_
        rintro e W2 ⟨ao2, cap2, rfl, hr2, hg2, hs2⟩
        go_wp2_with fail
        refine (HNo.out _ _ _ hr2).mono ?_
        rintro e W3 ⟨ao3, cap3, rfl, hr3, hg3, hs3⟩
        go_wp2_with fail
        refine (Hfl.out _ _ _ _ _ hr3).mono ?_
        rintro e W4 ⟨rfl, hr4, hg4⟩
        go_wp2_with fail
        go_ret
        rw [HR.out]
        exact ⟨none, 0, rfl, hr4, grown_trans hg2 (grown_trans hg3 hg4), SameBlk.none _⟩
      · have HR := Lib.hid (Hok.out hD)
        have hD' : (X : Int) ≤ (most : Int) := by omega
        go_enter Try.func43, Try.ntmps43
        go_wp2_with fail
        refine Hfi.out.mono ?_
        rintro e W2 ⟨ao2, cap2, rfl, hr2, hg2, hs2⟩
        go_wp2_with fail
        refine (HNo.out _ _ _ hr2).mono ?_
        rintro e W3 ⟨ao3, cap3, rfl, hr3, hg3, hs3⟩
        go_wp2_with fail
        go_ret
        rw [HR.out]
        exact ⟨ao3, cap3, rfl, hr3, grown_trans hg2 hg3, hs2.trans hs3⟩
  · obtain rfl : l = [] := List.eq_nil_of_length_eq_zero (by omega)
    have HR := Lib.hid (readN_nil most bad)
    have Hfi := Lib.hid (refFirst_nil h)
    go_enter Try.func43, Try.ntmps43
    go_wp2_with fail
    refine Hfi.out.mono ?_
    rintro e W2 ⟨rfl, rfl⟩
    go_wp2_with fail
    refine (Hfl.out _ _ _ _ _ h).mono ?_
    rintro e W3 ⟨rfl, hr3, hg3⟩
    go_wp2_with fail
    go_ret
    rw [HR.out]
    exact ⟨none, 0, rfl, hr3, hg3, SameBlk.none _⟩
theorem own_lit (w : World) (base e : Nat) (l : List UInt8) (cs : Array Value) (hb : base ≤ w.heap.size) (hcs : cs.toList = l.map u8) (hm : l.length ≤ 1000) :
    (w.alloc (.cells cs e)).ownsRow base e 1 (.slice (some ⟨w.heap.size, 0, none⟩) l.length l.length) l.length (l.map u8) :=
  ⟨by simp, .inr ⟨w.heap.size, l.length, cs, rfl, hb, heap_alloc_new w _, Nat.le_refl _, by unfold maxLen; omega, by rw [← Array.length_toList, hcs]; simp, by rw [hcs, ← List.length_map (f := u8), Nat.mul_one, List.take_length]⟩⟩
set_option maxHeartbeats 1000000 in
theorem refNumB_any (n : Nat) (hn : n < 2 ^ 64) (W : World) :
    Calls Try.prog 47 #[.int .u64 (n : Int)] W fun e W' => ∃ ao cap, e = .returned (.slice ao (numB n).length cap) ∧ W'.ownsRow W.heap.size 5 1 (.slice ao (numB n).length cap) (numB n).length ((numB n).map u8) ∧ Below W.heap.size W W' := by
  have h8 := digs_len8 n hn
  have HN : Hid (numB n = UInt8.ofNat (digs n).length :: digs n) := rfl
  go_enter Try.func47, Try.ntmps47
  go_wp2_with fail
  go_loopw [0, 3] (fun a b wr => ∃ (x : Nat) (ao : Option Addr) (cap : Nat) (t : List UInt8), a = .int .u64 x ∧ b = .slice ao t.length cap ∧ Hid (digs n = digs x ++ t) ∧ t.length ≤ 8 ∧ x ≤ n ∧ wr.ownsRow W.heap.size 5 1 (.slice ao t.length cap) t.length (t.map u8) ∧ Below W.heap.size W wr) (fun a _ _ => (intOf a).toNat)
  case atStart => exact ⟨n, none, 0, [], rfl, rfl, by show _ = _; simp, by simp, by omega, World.ownsRow_nil _ _ _ _, Below.refl _ _⟩
  case round =>
    obtain ⟨x, ao, cap, t, rfl, rfl, ht, ht8, hxn, hown, hB⟩ := hrel
    by_cases hx0 : 0 < x
    · have hx1 : (0 : Int) < (x : Int) := by omega
      have hq : (x : Int).tdiv 256 = ((x / 256 : Nat) : Int) := by rw [Int.tdiv_eq_ediv_of_nonneg (by omega)]; omega
      obtain ⟨c, hc⟩ : ∃ c : UInt8, c = UInt8.ofNat x := ⟨_, rfl⟩
      have hcn : c.toNat = x % 256 := by rw [hc]; simp
      have hr : (x : Int).tmod 256 = (c.toNat : Int) := by rw [Int.tmod_eq_emod_of_nonneg (by omega), hcn]; omega
      have hc256 := c.toNat_lt
      have w1 : IntKind.u8.wrap (c.toNat : Int) = (c.toNat : Int) := IntWalk.u8_in _ (by omega)
      have w2 : IntKind.u64.wrap (c.toNat : Int) = (c.toNat : Int) := IntWalk.u64_in _ (by omega)
      have hdx : digs x = digs (x / 256) ++ [c] := by rw [digs_pos (by omega), hc]
      have Hdx := Lib.hid hdx
      obtain ⟨y, hy⟩ : ∃ y, y = x / 256 := ⟨_, rfl⟩
      have hyx : y < x := by omega
      have w3 : IntKind.u64.wrap (y : Int) = (y : Int) := IntWalk.u64_in _ (by omega)
      rw [← hy] at hq Hdx
      have ht9 : t.length + 1 ≤ 8 := by
        have h1 := congrArg List.length ht.out
        rw [Hdx.out] at h1
        simp at h1; omega
      clear hc hcn hdx hy hc256
      go_wp2_with (at_builtin; refine wpl_append_bs rfl (.tmp 9) (.tmp 10) 22 rfl W.heap.size 5 infoUB Try.underlying22 (some ⟨wr.heap.size, 0, none⟩) _ [c] rfl (own_lit wr W.heap.size 5 [c] #[.int .u8 (c.toNat : Int)] hB.size rfl (by simp)) _ _ t rfl ((Bs.of_own hown).below (below_new _ _)) ?_ ?_ ?_; (simp; omega); (have := hB.size; simp; omega); intro ao2 cap2 l2 W2 hl2 hown2 hg2)
      have hB2 := below_app (hB.alloc hB.size _) hg2 (own_lit wr W.heap.size 5 [c] #[.int .u8 (c.toNat : Int)] hB.size rfl (by simp)) (Nat.le_refl _) (by have := hB.size; simp; omega)
      have hl2' : l2 = c :: t := by rw [hl2.out]; rfl
      subst hl2'
      go_roundw
      case rel => exact ⟨y, ao2, cap2, c :: t, rfl, rfl, by show _ = _; rw [ht.out, Hdx.out, List.append_assoc]; rfl, by simpa using ht9, by omega, hown2, hB2⟩
      case measure => simp [intOf]; omega
    · have hx0' : x = 0 := by omega
      subst hx0'
      have htd : digs n = t := by rw [ht.out, digs_zero]; rfl
      have HN2 := HN.out
      rw [htd] at HN2
      have HN3 := Lib.hid HN2
      obtain ⟨c, hc⟩ : ∃ c : UInt8, c = UInt8.ofNat t.length := ⟨_, rfl⟩
      have hcn : c.toNat = t.length := by rw [hc]; simp; omega
      have w1 : IntKind.u8.wrap (t.length : Int) = (c.toNat : Int) := by rw [hcn]; exact IntWalk.u8_in _ (by omega)
      have Hc := Lib.hid hc
      clear hc hcn HN2 htd HN
      go_wp2_with (at_builtin; refine wpl_append_bs rfl (.tmp 17) (.tmp 18) 22 rfl W.heap.size 5 infoUB Try.underlying22 (some ⟨wr.heap.size, 0, none⟩) _ [c] rfl (own_lit wr W.heap.size 5 [c] #[.int .u8 (c.toNat : Int)] hB.size rfl (by simp)) _ _ t rfl ((Bs.of_own hown).below (below_new _ _)) ?_ ?_ ?_; (simp; omega); (have := hB.size; simp; omega); intro ao2 cap2 l2 W2 hl2 hown2 hg2)
      go_ret
      have hB2 := below_app (hB.alloc hB.size _) hg2 (own_lit wr W.heap.size 5 [c] #[.int .u8 (c.toNat : Int)] hB.size rfl (by simp)) (Nat.le_refl _) (by have := hB.size; simp; omega)
      have hl2' : l2 = numB n := by rw [hl2.out, HN3.out, Hc.out]; rfl
      subst hl2'
      exact ⟨ao2, cap2, rfl, hown2, hB2⟩
end Go.Proofs.Ytlphpjgiaflfkaa
