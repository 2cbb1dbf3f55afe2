/- segment.Same. No statement of the seat is proved here. -/
import Derived.Test.YtlphpjgiaflfkaaSs
namespace Go.Proofs.Ytlphpjgiaflfkaa
set_option linter.unusedVariables false
set_option linter.unusedSimpArgs false
set_option linter.unusedSectionVars false
open Go Go.RowKit Go.Shelf

set_option maxRecDepth 100000 in
set_option maxHeartbeats 1000000 in
theorem bytesEqual_any (ao1 ao2 : Option Addr) (c1 c2 : Nat) (d1 d2 : List UInt8) (w : World) (h1 : Bs w ao1 c1 d1) (h2 : Bs w ao2 c2 d2) :
    Calls Try.prog 65 #[.slice ao1 d1.length c1, .slice ao2 d2.length c2] w fun e w' => e = .returned (.bool (d1 == d2)) ∧ w = w' := by
  have cv1 := conv_any h1
  have cv2 := conv_any h2
  go_enter Try.func65, Try.ntmps65
  go_wp2_with fail
  go_ret
  exact ⟨ret_bool (by simp), rfl⟩
set_option maxRecDepth 100000 in
set_option maxHeartbeats 2000000 in
theorem sameOne_any (x1 x2 y1 y2 : Int) (xa ya : Option Addr) (xc yc : Nat) (xd yd : List UInt8) (w : World) (h1 : Bs w xa xc xd) (h2 : Bs w ya yc yd) :
    Calls Try.prog 64 #[.agg #[.int .u64 x1, .int .i64 x2, .slice xa xd.length xc], .agg #[.int .u64 y1, .int .i64 y2, .slice ya yd.length yc]] w fun e w' => e = .returned (.bool (decide ((⟨x1, x2, xd⟩ : En) = ⟨y1, y2, yd⟩))) ∧ Below w.heap.size w w' := by
  obtain ⟨c, hc⟩ : ∃ c, c = decide ((⟨x1, x2, xd⟩ : En) = ⟨y1, y2, yd⟩) := ⟨_, rfl⟩
  rw [← hc]
  have Hc := Lib.hid hc
  clear hc
  have heq := fun W hW1 hW2 => bytesEqual_any xa ya xc yc xd yd W hW1 hW2
  have hB2 : Below w.heap.size w ((w.alloc (.cells #[.int .u64 x1, .int .i64 x2, .slice xa xd.length xc] 38)).alloc (.cells #[.int .u64 y1, .int .i64 y2, .slice ya yd.length yc] 38)) := (below_new w _).alloc (by simp) _
  have g1 := h1.below hB2
  have g2 := h2.below hB2
  by_cases e1 : x1 = y1
  · have e1b : (x1 == y1) = true := by simp [e1]
    by_cases e2 : x2 = y2
    · have e2b : (x2 == y2) = true := by simp [e2]
      have Hcc : Hid (c = (xd == yd)) := by
        show _ = _
        rw [Hc.out, e1, e2]
        by_cases e3 : xd = yd <;> simp [e3]
      have Heq := Lib.hid (heq _ g1 g2)
      clear e1 e2 heq
      go_enter Try.func64, Try.ntmps64
      go_wp2_with fail
      refine Heq.out.mono ?_
      rintro e w2 ⟨rfl, rfl⟩
      go_wp2_with fail
      go_ret
      exact ⟨by rw [Hcc.out]; rfl, hB2⟩
    · have e2b : (x2 == y2) = false := by simp [e2]
      have Hcc : Hid (c = false) := by
        show _ = _
        rw [Hc.out]
        simp [e2]
      clear e1 e2 heq
      go_enter Try.func64, Try.ntmps64
      go_wp2_with fail
      go_ret
      exact ⟨by rw [Hcc.out]; rfl, hB2⟩
  · have e1b : (x1 == y1) = false := by simp [e1]
    have Hcc : Hid (c = false) := by
      show _ = _
      rw [Hc.out]
      simp [e1]
    clear e1 heq
    go_enter Try.func64, Try.ntmps64
    go_wp2_with fail
    go_ret
    exact ⟨by rw [Hcc.out]; rfl, hB2⟩
set_option maxRecDepth 100000 in
set_option maxHeartbeats 4000000 in
theorem equalFunc_any (ao1 ao2 : Option Addr) (c1 c2 : Nat) (l1 l2 : List Ep) (w : World) (h1 : Ens w ao1 c1 l1) (h2 : Ens w ao2 c2 l2) (hl1 : l1.length ≤ 1000000) (hl2 : l2.length ≤ 1000000) :
    Calls Try.prog 63 #[.slice ao1 l1.length c1, .slice ao2 l2.length c2, .func (.func 64) #[] #[]] w fun e w' => e = .returned (.bool (decide (l1.map Ep.e = l2.map Ep.e))) ∧ Below w.heap.size w w' := by
  obtain ⟨c, hc⟩ : ∃ c, c = decide (l1.map Ep.e = l2.map Ep.e) := ⟨_, rfl⟩
  rw [← hc]
  have Hc := Lib.hid hc
  clear hc
  by_cases hlen : l1.length = l2.length
  · have hlb : ((l1.length : Int) != (l2.length : Int)) = false := by simp [hlen]
    have Hlen := Lib.hid hlen
    clear hlen
    go_enter Try.func63, Try.ntmps63
    go_wp2_with fail
    go_loopw [17] (fun u wr => ∃ i : Nat, u = .int .i64 (i : Nat) ∧ i ≤ l1.length ∧ Hid ((l1.map Ep.e).take i = (l2.map Ep.e).take i) ∧ Below w.heap.size w wr) (fun u _ => l1.length - (intOf u).toNat)
    case atStart => exact ⟨0, rfl, Nat.zero_le _, Lib.hid (by simp), Below.refl _ _⟩
    case round =>
      obtain ⟨i, rfl, hi, Hinv, hB⟩ := hrel
      by_cases hlt : i < l1.length
      · have hlt2 : i < l2.length := by have := Hlen.out; omega
        have g1 := h1.below hB
        have g2 := h2.below hB
        obtain ⟨b1, o1, rfl, p0, p1, p2⟩ := g1.get i hlt
        obtain ⟨b2, o2, rfl, q0, q1, q2⟩ := g2.get i hlt2
        have hd1 := g1.data _ (List.getElem_mem hlt)
        have hd2 := g2.data _ (List.getElem_mem hlt2)
        have hne : l1[i].e ≠ l2[i].e → c = false := fun h => by
          rw [Hc.out]
          simp only [decide_eq_false_iff_not]
          intro he
          apply h
          have e3 : (l1.map Ep.e)[i]'(by simpa using hlt) = (l2.map Ep.e)[i]'(by simpa using hlt2) := by simp only [he]
          simpa using e3
        have heq : l1[i].e = l2[i].e → (l1.map Ep.e).take (i + 1) = (l2.map Ep.e).take (i + 1) := fun h => take_next (by simpa using hlt) (by simpa using hlt2) Hinv.out (by simpa using h)
        obtain ⟨x, hx⟩ : ∃ x, x = l1[i] := ⟨_, rfl⟩
        obtain ⟨y, hy⟩ : ∃ y, y = l2[i] := ⟨_, rfl⟩
        rw [← hx] at p0 p1 p2 hd1 hne heq
        rw [← hy] at q0 q1 q2 hd2 hne heq
        clear hx hy
        obtain ⟨⟨x1, x2, xd⟩, xa, xc⟩ := x
        obtain ⟨⟨y1, y2, yd⟩, ya, yc⟩ := y
        simp only at p0 p1 p2 q0 q1 q2 hd1 hd2 hne heq
        have i0 : (0 : Int) ≤ (i : Int) := by omega
        have i1 : (i : Int) < (l1.length : Int) := by omega
        have i2 : (i : Int) < (l2.length : Int) := by omega
        have hz := hB.size
        have hB2 : Below wr.heap.size wr ((wr.alloc (.cells #[.int .u64 x1, .int .i64 x2, .slice xa xd.length xc] 38)).alloc (.cells #[.int .u64 y1, .int .i64 y2, .slice ya yd.length yc] 38)) := (below_new wr _).alloc (by simp) _
        have hba := below_new wr (.cells #[.int .u64 x1, .int .i64 x2, .slice xa xd.length xc] 38)
        have q0 := (hba.cell (p := ⟨b2, o2 + i * 3, none⟩) (cell?_lt q0)).trans q0
        have q1 := (hba.cell (p := ⟨b2, o2 + i * 3 + 1, none⟩) (cell?_lt q1)).trans q1
        have q2 := (hba.cell (p := ⟨b2, o2 + i * 3 + 2, none⟩) (cell?_lt q2)).trans q2
        have hsm := sameOne_any x1 x2 y1 y2 xa ya xc yc xd yd _ (hd1.below hB2) (hd2.below hB2)
        have hBB := below_on hB hB2 (Nat.le_refl _)
        by_cases he : (⟨x1, x2, xd⟩ : En) = ⟨y1, y2, yd⟩
        · have Hgo := Lib.hid (heq he)
          rw [decide_eq_true he] at hsm
          have Hsm := Lib.hid hsm
          clear hsm he hne heq hd1 hd2 g1 g2 hB2
          go_wp2_with fail
          refine Hsm.out.mono ?_
          rintro e w2 ⟨rfl, hB3⟩
          go_wp2_with fail
          go_roundw
          case rel => exact ⟨i + 1, by simp, by omega, Hgo, below_on hBB hB3 (Nat.le_refl _)⟩
          case measure => simp [intOf]; omega
        · have Hgo := Lib.hid (hne he)
          rw [decide_eq_false he] at hsm
          have Hsm := Lib.hid hsm
          clear hsm he hne heq hd1 hd2 g1 g2 hB2
          go_wp2_with fail
          refine Hsm.out.mono ?_
          rintro e w2 ⟨rfl, hB3⟩
          go_wp2_with fail
          go_ret
          exact ⟨by rw [Hgo.out]; rfl, below_on hBB hB3 (Nat.le_refl _)⟩
      · have hii : i = l1.length := by omega
        subst hii
        have hfin : Hid (c = true) := by
          show _ = _
          rw [Hc.out, decide_eq_true_eq]
          have h3 := Hinv.out
          rw [List.take_of_length_le (by simp), List.take_of_length_le (by rw [Hlen.out]; simp)] at h3
          exact h3
        go_wp2_with fail
        go_ret
        exact ⟨by rw [hfin.out]; rfl, hB⟩
  · have hlb : ((l1.length : Int) != (l2.length : Int)) = true := by simp; omega
    have hfin : Hid (c = false) := by
      show _ = _
      rw [Hc.out]
      simp only [decide_eq_false_iff_not]
      intro h3
      exact hlen (by simpa using congrArg List.length h3)
    clear hlen
    go_enter Try.func63, Try.ntmps63
    go_wp2_with fail
    go_ret
    exact ⟨by rw [hfin.out]; rfl, Below.refl _ _⟩
set_option maxRecDepth 100000 in
set_option maxHeartbeats 4000000 in
theorem segSame_any (ao1 ao2 : Option Addr) (c1 c2 : Nat) (l1 l2 : List Ep) (w : World) (h1 : Ens w ao1 c1 l1) (h2 : Ens w ao2 c2 l2) (hl1 : l1.length ≤ 1000000) (hl2 : l2.length ≤ 1000000) :
    Calls Try.prog 30 #[.slice ao1 l1.length c1, .slice ao2 l2.length c2] w fun e w' => e = .returned (.bool (decide (l1.map Ep.e = l2.map Ep.e))) ∧ Below w.heap.size w w' := by
  have H := Lib.hid (equalFunc_any ao1 ao2 c1 c2 l1 l2 w h1 h2 hl1 hl2)
  go_enter Try.func30, Try.ntmps30
  go_wp2_with fail
  refine H.out.mono ?_
  rintro e w1 ⟨rfl, hB⟩
  go_wp2_with fail
  go_ret
  exact ⟨rfl, hB⟩
end Go.Proofs.Ytlphpjgiaflfkaa
