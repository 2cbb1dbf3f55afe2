/- The reference's Same of entries. No statement of the seat is proved here. -/
import Derived.Test.YtlphpjgiaflfkaaSr
namespace Go.Proofs.Ytlphpjgiaflfkaa
set_option linter.unusedVariables false
set_option linter.unusedSimpArgs false
set_option linter.unusedSectionVars false
open Go Go.RowKit Go.Shelf

deriving instance DecidableEq for En
/-- entries that read -/
structure Ens (W : World) (ao : Option Addr) (cap : Nat) (l : List Ep) : Prop where
  sl : Sl W 3 ao l.length cap (l.map epCells).flatten
  data : ∀ x ∈ l, Bs W x.ao x.cap x.e.data
theorem Ens.below {W W' : World} {ao : Option Addr} {cap : Nat} {l : List Ep} (h : Ens W ao cap l) (hb : Below W.heap.size W W') : Ens W' ao cap l := ⟨h.sl.below hb, fun x hx => (h.data x hx).below hb⟩
theorem EnsO.ens {W : World} {base cap : Nat} {ao : Option Addr} {l : List Ep} (h : EnsO W base (.slice ao l.length cap) l) : Ens W ao cap l := ⟨Sl.of_own h.own, fun x hx => (h.data x hx).1⟩
theorem flat3_get (l : List Ep) (i : Nat) (hi : i < l.length) (j : Nat) (hj : j < 3) : (l.map epCells).flatten[i * 3 + j]? = some ((epCells l[i])[j]'hj) := by
  have := flatten_get (rows := l.map epCells) (k := 3) (ep_each l) i j (by simpa using hi) (by rw [List.getElem_map]; exact hj)
  rw [this]; simp only [List.getElem_map]; rfl
theorem Ens.get {W : World} {ao : Option Addr} {cap : Nat} {l : List Ep} (h : Ens W ao cap l) (i : Nat) (hi : i < l.length) :
    ∃ b off, ao = some ⟨b, off, none⟩ ∧ W.cell? ⟨b, off + i * 3, none⟩ = some (.int .u64 l[i].e.term) ∧ W.cell? ⟨b, off + i * 3 + 1, none⟩ = some (.int .i64 l[i].e.kind) ∧ W.cell? ⟨b, off + i * 3 + 2, none⟩ = some (.slice l[i].ao l[i].e.data.length l[i].cap) := by
  obtain ⟨b, off, e, c0⟩ := h.sl.cell _ _ (flat3_get l i hi 0 (by decide))
  have hc : ∀ j (hj : j < 3), W.cell? ⟨b, off + i * 3 + j, none⟩ = some ((epCells l[i])[j]'hj) := by
    intro j hj
    obtain ⟨b', off', e', hc⟩ := h.sl.cell _ _ (flat3_get l i hi j hj)
    rw [e] at e'
    simp only [Option.some.injEq, Addr.mk.injEq] at e'
    obtain ⟨rfl, rfl, -⟩ := e'
    rw [Nat.add_assoc]; exact hc
  exact ⟨b, off, e, hc 0 (by decide), hc 1 (by decide), hc 2 (by decide)⟩
theorem neq_str (d1 d2 : List UInt8) (w : World) : (binOp .neq 9 (.string ⟨d1.toArray⟩) (.string ⟨d2.toArray⟩)).run Try.prog w = .ok (.bool (decide (d1 ≠ d2))) w := by
  by_cases h : d1 = d2
  · subst h; simp [go_sem]
  · simp [go_sem, h]
theorem take_next {α : Type} {a b : List α} {i : Nat} (ha : i < a.length) (hb : i < b.length) (h : a.take i = b.take i) (he : a[i] = b[i]) : a.take (i + 1) = b.take (i + 1) := by
  rw [List.take_succ_eq_append_getElem ha, List.take_succ_eq_append_getElem hb, h, he]
set_option maxRecDepth 100000 in
set_option maxHeartbeats 4000000 in
theorem segRefSame_any (ao1 ao2 : Option Addr) (c1 c2 : Nat) (l1 l2 : List Ep) (w : World) (h1 : Ens w ao1 c1 l1) (h2 : Ens w ao2 c2 l2) (hl1 : l1.length ≤ 1000000) (hl2 : l2.length ≤ 1000000) :
    Calls Try.prog 14 #[.slice ao1 l1.length c1, .slice ao2 l2.length c2] w fun e w' => e = .returned (.bool (decide (l1.map Ep.e = l2.map Ep.e))) ∧ Below w.heap.size w w' := by
  obtain ⟨c, hc⟩ : ∃ c, c = decide (l1.map Ep.e = l2.map Ep.e) := ⟨_, rfl⟩
  rw [← hc]
  have Hc := Lib.hid hc
  clear hc
  by_cases hlen : l1.length = l2.length
  · have hlb : ((l1.length : Int) != (l2.length : Int)) = false := by simp [hlen]
    have Hlen := Lib.hid hlen
    clear hlen
    go_enter Try.func14, Try.ntmps14
    go_wp2_with fail
    go_loopw [5] (fun u wr => ∃ i : Nat, u = .int .i64 (i : Nat) ∧ i ≤ l1.length ∧ Hid ((l1.map Ep.e).take i = (l2.map Ep.e).take i) ∧ Below w.heap.size w wr) (fun u _ => l1.length - (intOf u).toNat)
    case atStart => exact ⟨0, rfl, Nat.zero_le _, Lib.hid (by simp), Below.refl _ _⟩
    case round =>
      obtain ⟨i, rfl, hi, Hinv, hB⟩ := hrel
      by_cases hlt : i < l1.length
      · have hlt2 : i < l2.length := by have := Hlen.out; omega
        have g1 := h1.below hB
        have g2 := h2.below hB
        obtain ⟨b1, o1, rfl, p0, p1, p2⟩ := g1.get i hlt
        obtain ⟨b2, o2, rfl, q0, q1, q2⟩ := g2.get i hlt2
        have hd1 := g1.data _ (List.getElem_mem hlt)
        have hd2 := g2.data _ (List.getElem_mem hlt2)
        have hne : l1[i].e ≠ l2[i].e → c = false := fun h => by
          rw [Hc.out]
          simp only [decide_eq_false_iff_not]
          intro he
          apply h
          have e3 : (l1.map Ep.e)[i]'(by simpa using hlt) = (l2.map Ep.e)[i]'(by simpa using hlt2) := by simp only [he]
          simpa using e3
        have heq : l1[i].e = l2[i].e → (l1.map Ep.e).take (i + 1) = (l2.map Ep.e).take (i + 1) := fun h => take_next (by simpa using hlt) (by simpa using hlt2) Hinv.out (by simpa using h)
        obtain ⟨x, hx⟩ : ∃ x, x = l1[i] := ⟨_, rfl⟩
        obtain ⟨y, hy⟩ : ∃ y, y = l2[i] := ⟨_, rfl⟩
        rw [← hx] at p0 p1 p2 hd1 hne heq
        rw [← hy] at q0 q1 q2 hd2 hne heq
        clear hx hy
        obtain ⟨⟨x1, x2, xd⟩, xa, xc⟩ := x
        obtain ⟨⟨y1, y2, yd⟩, ya, yc⟩ := y
        simp only at p0 p1 p2 q0 q1 q2 hd1 hd2 hne heq
        have cv1 := fun m => conv_any (hd1.below (below_drewN (Below.refl wr.heap.size wr) m))
        have cv2 := fun m => conv_any (hd2.below (below_drewN (Below.refl wr.heap.size wr) m))
        have hns := neq_str xd yd
        have i0 : (0 : Int) ≤ (i : Int) := by omega
        have i1 : (i : Int) < (l1.length : Int) := by omega
        have i2 : (i : Int) < (l2.length : Int) := by omega
        have Hne := Lib.hid hne
        have Heq := Lib.hid heq
        clear hne heq hd1 hd2 g1 g2
        by_cases e1 : x1 = y1
        · have e1b : (x1 != y1) = false := by simp [e1]
          by_cases e2 : x2 = y2
          · have e2b : (x2 != y2) = false := by simp [e2]
            by_cases e3 : xd = yd
            · have Hgo := Lib.hid (Heq.out (by rw [e1, e2, e3]))
              have e3b : (xd == yd) = true := by simp [e3]
              clear hns
              clear e1 e2 e3 Hne Heq
              go_wp2_with fail
              go_quiet (fail)
              go_wp2_with fail
              go_roundw
              case rel => exact ⟨i + 1, by simp, by omega, Hgo, below_drewN hB _⟩
              case measure => simp [intOf]; omega
            · have e3b : (xd == yd) = false := by simpa using e3
              clear hns
              have Hf := Lib.hid (Hne.out (fun h => e3 (by cases h; rfl)))
              clear e1 e2
              clear e3 Hne Heq
              go_wp2_with fail
              go_quiet (fail)
              go_wp2_with fail
              go_ret
              exact ⟨by rw [Hf.out]; rfl, below_drewN hB _⟩
          · have e2b : (x2 != y2) = true := by simpa using e2
            have Hf := Lib.hid (Hne.out (fun h => e2 (by cases h; rfl)))
            clear e1
            clear e2 Hne Heq
            go_wp2_with fail
            go_quiet (fail)
            go_wp2_with fail
            go_ret
            exact ⟨by rw [Hf.out]; rfl, below_drewN hB _⟩
        · have e1b : (x1 != y1) = true := by simpa using e1
          have Hf := Lib.hid (Hne.out (fun h => e1 (by cases h; rfl)))
          clear e1 Hne Heq
          go_wp2_with fail
          go_quiet (fail)
          go_wp2_with fail
          go_ret
          exact ⟨by rw [Hf.out]; rfl, below_drewN hB _⟩
      · have hi' : i = l1.length := by omega
        subst hi'
        have Ht : Hid (c = true) := Lib.hid (by
          rw [Hc.out]
          simp only [decide_eq_true_eq]
          have h := Hinv.out
          rw [List.take_of_length_le (by simp), List.take_of_length_le (by simp [Hlen.out])] at h
          exact h)
        go_wp2_with fail
        go_ret
        exact ⟨by rw [Ht.out]; rfl, hB⟩
  · have hlb : ((l1.length : Int) != (l2.length : Int)) = true := by simp; omega
    have Hf : Hid (c = false) := Lib.hid (by
      rw [Hc.out]
      simp only [decide_eq_false_iff_not]
      intro h
      have := congrArg List.length h
      simp at this
      exact hlen this)
    clear hlen
    go_enter Try.func14, Try.ntmps14
    go_wp2_with fail
    go_ret
    exact ⟨by rw [Hf.out]; rfl, Below.refl _ _⟩
end Go.Proofs.Ytlphpjgiaflfkaa
