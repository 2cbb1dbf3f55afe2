/- Contracts of span's Same, Add, Within, Len, Nth, Has and of the reference's Add. No statement of the seat is proved here. -/
import Derived.Test.YtdiahfebiafodaaAlmX
import Derived.Test.YtdiahfebiafodaaAlmY
namespace Go.Proofs.Ytdiahfebiafodaa
set_option linter.unusedVariables false
set_option linter.unusedSimpArgs false
set_option linter.unusedSectionVars false
open Go Go.RowKit Go.Shelf

theorem same1_any (x y x2 y2 : Int) (W : World) : Calls Try.prog 57 #[.agg #[.int .i64 x, .int .i64 y], .agg #[.int .i64 x2, .int .i64 y2]] W fun e W' => e = .returned (.bool (decide (x = x2) && decide (y = y2))) ∧ Below W.heap.size W W' := by
  have hq := eql_sp
  have hg := guard_sp
  go_enter Try.func57, Try.ntmps57
  go_wp2
  go_ret
  exact ⟨by first | rfl | simp, below_on (below_new _ _) (below_new _ _) (Nat.le_refl _)⟩

theorem drop_eq (l l2 : List Sp) (i : Nat) (h : i < l.length) (h2 : i < l2.length) : decide (l.drop i = l2.drop i) = (decide (l[i].a = l2[i].a) && decide (l[i].b = l2[i].b) && decide (l.drop (i + 1) = l2.drop (i + 1))) := by
  rw [List.drop_eq_getElem_cons h, List.drop_eq_getElem_cons h2]
  generalize l[i] = s1
  generalize l2[i] = s2
  obtain ⟨x, y⟩ := s1
  obtain ⟨x2, y2⟩ := s2
  simp [Bool.and_assoc]

set_option maxHeartbeats 1000000 in
theorem equal_any (ao ao2 : Option Addr) (cap cap2 : Nat) (l l2 : List Sp) (w : World) (hs : Sps w ao cap l) (hs2 : Sps w ao2 cap2 l2) :
    Calls Try.prog 56 #[.slice ao l.length cap, .slice ao2 l2.length cap2, .func (.func 57) #[] #[]] w fun e w' => e = .returned (.bool (decide (l = l2))) ∧ Below w.heap.size w w' := by
  obtain ⟨c, hc⟩ : ∃ c, c = decide (l = l2) := ⟨_, rfl⟩
  rw [← hc]
  have Hc := Lib.hid hc
  clear hc
  have hm := hs.max
  have hle := hs.le
  unfold maxLen at hm
  have eg : ∀ args w, (callFunc 57 args).run Try.prog w = .ok (.enter 57 args) w := enters_of Try.func57 (by kernel_rfl) rfl
  by_cases hll : l.length = l2.length
  · rw [← hll]
    have Hll := Lib.hid hll
    clear hll
    go_enter Try.func56, Try.ntmps56
    go_wp2_with fail
    go_loopw [17] (fun v wr => ∃ i : Nat, v = .int .i64 i ∧ i ≤ l.length ∧ Hid (c = decide (l.drop i = l2.drop i)) ∧ Below w.heap.size w wr) (fun v _ => l.length - (intOf v).toNat)
    case atStart => exact ⟨0, rfl, Nat.zero_le _, Hc, Below.refl _ _⟩
    case round =>
      obtain ⟨i, rfl, hi, hri, hb⟩ := hrel
      by_cases hlt : i < l.length
      · have hlt2 : i < l2.length := by have := Hll.out; omega
        obtain ⟨b, off, rfl, c0, c1⟩ := (hs.below hb).get i hlt
        obtain ⟨b2, off2, rfl, d0, d1⟩ := (hs2.below hb).get i hlt2
        have Hst := Lib.hid (drop_eq l l2 i hlt hlt2)
        obtain ⟨s, hsd⟩ : ∃ s, s = l[i] := ⟨_, rfl⟩
        obtain ⟨s2, hsd2⟩ : ∃ s, s = l2[i] := ⟨_, rfl⟩
        rw [← hsd] at c0 c1 Hst
        rw [← hsd2] at d0 d1 Hst
        clear hsd hsd2
        obtain ⟨x, y⟩ := s
        obtain ⟨x2, y2⟩ := s2
        simp only at c0 c1 d0 d1 Hst
        have hsm := fun W => same1_any x y x2 y2 W
        obtain ⟨z, hz⟩ : ∃ z, z = (decide (x = x2) && decide (y = y2)) := ⟨_, rfl⟩
        rw [← hz] at Hst hsm
        clear hz
        have d0' := ((below_new wr (.cells #[.int .i64 x, .int .i64 y] 30)).cell (cell?_lt d0)).trans d0
        have d1' := ((below_new wr (.cells #[.int .i64 x, .int .i64 y] 30)).cell (cell?_lt d1)).trans d1
        go_wp2_with fail
        refine (hsm _).mono ?_
        rintro e w2 ⟨rfl, hb2⟩
        have hB : Below w.heap.size w w2 := below_on (below_on (below_on hb (below_new _ _) (Nat.le_refl _)) (below_new _ _) (Nat.le_refl _)) hb2 (Nat.le_refl _)
        cases z with
        | false =>
          go_wp2_with fail
          go_ret
          exact ⟨by rw [hri.out, Hst.out]; simp, hB⟩
        | true =>
          go_wp2_with fail
          go_roundw
          case rel => exact ⟨i + 1, by simp, by omega, (by show c = _; rw [hri.out, Hst.out]; simp), hB⟩
          case measure => simp [intOf]; omega
      · have hi' : i = l.length := by omega
        subst hi'
        go_wp2_with fail
        go_ret
        refine ⟨?_, hb⟩
        rw [hri.out, List.drop_length, Hll.out, List.drop_length]; simp
  · go_enter Try.func56, Try.ntmps56
    have h2 : (l.length : Int) ≠ (l2.length : Int) := by omega
    have hne : l ≠ l2 := fun h => hll (by rw [h])
    go_wp2
    go_ret
    exact ⟨by rw [Hc.out]; simp [hne], Below.refl _ _⟩

theorem spSame_any (ao ao2 : Option Addr) (cap cap2 : Nat) (l l2 : List Sp) (w : World) (hs : Sps w ao cap l) (hs2 : Sps w ao2 cap2 l2) :
    Calls Try.prog 39 #[.slice ao l.length cap, .slice ao2 l2.length cap2] w fun e w' => e = .returned (.bool (decide (l = l2))) ∧ Below w.heap.size w w' := by
  have h := equal_any ao ao2 cap cap2 l l2 w hs hs2
  obtain ⟨c, hc⟩ : ∃ c, c = decide (l = l2) := ⟨_, rfl⟩
  rw [← hc] at h ⊢
  clear hc
  go_enter Try.func39, Try.ntmps39
  go_wp2_with fail
  refine h.mono ?_
  rintro e w2 ⟨rfl, hb2⟩
  go_wp2_with fail
  go_ret
  exact ⟨rfl, hb2⟩

/-- an instant and seconds: the sum and the error's number -/
def addS (t b : Int) : Int × Int := if t < 0 ∨ 1125899906842624 < t then (0, 2) else if 1125899906842624 - t < b ∨ b < -t then (0, 10) else (t + b, 0)

def addBody : Int × Int → Value := fun p => .tuple #[.int .i64 p.1, .int .i64 p.2]
theorem instant_any (t : Int) (w : World) : Calls Try.prog 55 #[.int .i64 t] w fun e w' => e = .returned (.bool (decide (0 ≤ t) && decide (t ≤ 1125899906842624))) ∧ Below w.heap.size w w' := by
  by_cases h : 0 ≤ t
  · go_enter Try.func55, Try.ntmps55
    go_wp2
    go_ret
    exact ⟨by simp [h], Below.refl _ _⟩
  · go_enter Try.func55, Try.ntmps55
    go_wp2
    go_ret
    exact ⟨by simp [h]; try omega, Below.refl _ _⟩

set_option maxHeartbeats 1000000 in
theorem add_any (t b : Int) (w : World) (t0 : -9223372036854775808 ≤ t) (t1 : t ≤ 9223372036854775807) (b0 : -9223372036854775808 ≤ b) (b1 : b ≤ 9223372036854775807) :
    Calls Try.prog 37 #[.int .i64 t, .int .i64 b] w fun e w' => e = .returned (addBody (addS t b)) ∧ Below w.heap.size w w' := by
  obtain ⟨p, hp⟩ : ∃ p, p = addS t b := ⟨_, rfl⟩
  rw [← hp]
  obtain ⟨x, y⟩ := p
  have Hp := Lib.hid hp
  clear hp
  have hi := instant_any t w
  by_cases h : 0 ≤ t ∧ t ≤ 1125899906842624
  · have e0 : (decide (0 ≤ t) && decide (t ≤ 1125899906842624)) = true := by simp [h.1, h.2]
    rw [e0] at hi
    have w1 : IntKind.i64.wrap (1125899906842624 - t) = 1125899906842624 - t := IntWalk.i64_in _ (by omega)
    have w2 : IntKind.i64.wrap (-t) = -t := IntWalk.i64_in _ (by omega)
    have hx := Hp.out
    unfold addS at hx
    rw [if_neg (by omega)] at hx
    by_cases g1 : 1125899906842624 - t < b
    · rw [if_pos (.inl g1)] at hx
      simp only [Prod.mk.injEq] at hx
      obtain ⟨rfl, rfl⟩ := hx
      go_enter Try.func37, Try.ntmps37
      go_wp2_with fail
      refine hi.mono ?_
      rintro e w2 ⟨rfl, hb2⟩
      go_wp2_with fail
      refine bodyPost_ret (v := .tuple #[.int .i64 0, .int .i64 10]) (by simp [results, Try.results37, go_sem]) rfl ?_
      exact ⟨rfl, hb2⟩
    · by_cases g2 : b < -t
      · rw [if_pos (.inr g2)] at hx
        simp only [Prod.mk.injEq] at hx
        obtain ⟨rfl, rfl⟩ := hx
        go_enter Try.func37, Try.ntmps37
        go_wp2_with fail
        refine hi.mono ?_
        rintro e w2 ⟨rfl, hb2⟩
        go_wp2_with fail
        refine bodyPost_ret (v := .tuple #[.int .i64 0, .int .i64 10]) (by simp [results, Try.results37, go_sem]) rfl ?_
        exact ⟨rfl, hb2⟩
      · rw [if_neg (by omega)] at hx
        simp only [Prod.mk.injEq] at hx
        obtain ⟨rfl, rfl⟩ := hx
        have w3 : IntKind.i64.wrap (t + b) = t + b := IntWalk.i64_in _ (by omega)
        go_enter Try.func37, Try.ntmps37
        go_wp2_with fail
        refine hi.mono ?_
        rintro e w2 ⟨rfl, hb2⟩
        go_wp2_with fail
        refine bodyPost_ret (v := .tuple #[.int .i64 (t + b), .int .i64 0]) (by simp [results, Try.results37, go_sem]) rfl ?_
        exact ⟨rfl, hb2⟩
  · have e0 : (decide (0 ≤ t) && decide (t ≤ 1125899906842624)) = false := by
      by_cases h2 : 0 ≤ t
      · have : ¬ t ≤ 1125899906842624 := fun h3 => h ⟨h2, h3⟩
        simp [this]
      · simp [h2]
    rw [e0] at hi
    have hx := Hp.out
    unfold addS at hx
    rw [if_pos (by omega)] at hx
    simp only [Prod.mk.injEq] at hx
    obtain ⟨rfl, rfl⟩ := hx
    go_enter Try.func37, Try.ntmps37
    go_wp2_with fail
    refine hi.mono ?_
    rintro e w2 ⟨rfl, hb2⟩
    go_wp2_with fail
    refine bodyPost_ret (v := .tuple #[.int .i64 0, .int .i64 2]) (by simp [results, Try.results37, go_sem]) rfl ?_
    exact ⟨rfl, hb2⟩

set_option maxHeartbeats 1000000 in
theorem refAdd_any (t b : Int) (w : World) (t0 : -9223372036854775808 ≤ t) (t1 : t ≤ 9223372036854775807) (b0 : -9223372036854775808 ≤ b) (b1 : b ≤ 9223372036854775807) :
    Calls Try.prog 38 #[.int .i64 t, .int .i64 b] w fun e w' => e = .returned (addBody (addS t b)) ∧ Below w.heap.size w w' := by
  obtain ⟨p, hp⟩ : ∃ p, p = addS t b := ⟨_, rfl⟩
  rw [← hp]
  obtain ⟨x, y⟩ := p
  have hx := hp
  unfold addS at hx
  clear hp
  by_cases h0 : t < 0
  · rw [if_pos (.inl h0)] at hx
    simp only [Prod.mk.injEq] at hx
    obtain ⟨rfl, rfl⟩ := hx
    go_enter Try.func38, Try.ntmps38
    go_wp2
    refine bodyPost_ret (v := .tuple #[.int .i64 0, .int .i64 2]) (by simp [results, Try.results38, go_sem]) rfl ?_
    exact ⟨rfl, Below.refl _ _⟩
  · by_cases h1 : 1125899906842624 < t
    · rw [if_pos (.inr h1)] at hx
      simp only [Prod.mk.injEq] at hx
      obtain ⟨rfl, rfl⟩ := hx
      go_enter Try.func38, Try.ntmps38
      go_wp2
      refine bodyPost_ret (v := .tuple #[.int .i64 0, .int .i64 2]) (by simp [results, Try.results38, go_sem]) rfl ?_
      exact ⟨rfl, Below.refl _ _⟩
    · rw [if_neg (by omega)] at hx
      have w1 : IntKind.i64.wrap (1125899906842624 - t) = 1125899906842624 - t := IntWalk.i64_in _ (by omega)
      have w2 : IntKind.i64.wrap (-t) = -t := IntWalk.i64_in _ (by omega)
      by_cases g1 : 1125899906842624 - t < b
      · rw [if_pos (.inl g1)] at hx
        simp only [Prod.mk.injEq] at hx
        obtain ⟨rfl, rfl⟩ := hx
        go_enter Try.func38, Try.ntmps38
        go_wp2
        refine bodyPost_ret (v := .tuple #[.int .i64 0, .int .i64 10]) (by simp [results, Try.results38, go_sem]) rfl ?_
        exact ⟨rfl, Below.refl _ _⟩
      · by_cases g2 : b < -t
        · rw [if_pos (.inr g2)] at hx
          simp only [Prod.mk.injEq] at hx
          obtain ⟨rfl, rfl⟩ := hx
          go_enter Try.func38, Try.ntmps38
          go_wp2
          refine bodyPost_ret (v := .tuple #[.int .i64 0, .int .i64 10]) (by simp [results, Try.results38, go_sem]) rfl ?_
          exact ⟨rfl, Below.refl _ _⟩
        · rw [if_neg (by omega)] at hx
          simp only [Prod.mk.injEq] at hx
          obtain ⟨rfl, rfl⟩ := hx
          have w3 : IntKind.i64.wrap (t + b) = t + b := IntWalk.i64_in _ (by omega)
          go_enter Try.func38, Try.ntmps38
          go_wp2
          refine bodyPost_ret (v := .tuple #[.int .i64 (t + b), .int .i64 0]) (by simp [results, Try.results38, go_sem]) rfl ?_
          exact ⟨rfl, Below.refl _ _⟩
end Go.Proofs.Ytdiahfebiafodaa
