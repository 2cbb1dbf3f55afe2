/- Contracts of slices.BinarySearchFunc (at spans, by their ends) and slices.BinarySearch (at int64). No statement of the seat is proved here. -/
import Derived.Test.YtndifinjdheceaaWeekL
import Derived.Test.YtndifinjdheceaaSpCon
namespace Go.Proofs.Ytndifinjdheceaa
set_option linter.unusedVariables false
set_option linter.unusedSimpArgs false
set_option linter.unusedSectionVars false
open Go Go.RowKit

theorem cmp_le (s : Sp) (t : Int) (h : s.b ≤ t) (w : World) : Calls Try.prog 43 #[spVal s, .int .i64 t] w fun e w' => e = .returned (.int .i64 (-1)) ∧ Below w.heap.size w w' := by
  obtain ⟨a, b⟩ := s
  unfold spVal
  simp only at h
  go_enter Try.func43, Try.ntmps43
  go_wp2
  go_ret
  exact ⟨rfl, below_new _ _⟩
theorem cmp_gt (s : Sp) (t : Int) (h : ¬ s.b ≤ t) (w : World) : Calls Try.prog 43 #[spVal s, .int .i64 t] w fun e w' => e = .returned (.int .i64 1) ∧ Below w.heap.size w w' := by
  obtain ⟨a, b⟩ := s
  unfold spVal
  simp only at h
  go_enter Try.func43, Try.ntmps43
  go_wp2
  go_ret
  exact ⟨rfl, below_new _ _⟩
theorem mid_lt {i j : Nat} (h : i < j) : i ≤ (i + j) / 2 ∧ (i + j) / 2 < j := by omega
set_option maxRecDepth 1000000 in
set_option maxHeartbeats 4000000 in
theorem bsf_any (ao : Option Addr) (cap : Nat) (l : List Sp) (t : Int) (w : World) (h0 : rowErr l = 0) (hs : Sps w ao cap l) :
    Calls Try.prog 42 #[.slice ao l.length cap, .int .i64 t, .func (.func 43) #[] #[]] w fun e w' => e = .returned (.tuple #[.int .i64 (nextI l t : Nat), .bool false]) ∧ Below w.heap.size w w' := by
  have hln := (row_chain h0).2
  have hnl := next_le l t
  have hix := fun i hi => next_iff h0 t i hi
  obtain ⟨r, hr⟩ : ∃ r, r = nextI l t := ⟨_, rfl⟩
  rw [← hr] at hnl ⊢
  simp only [← hr] at hix
  have Hix := Lib.hid hix
  clear hr hix h0
  go_enter Try.func42, Try.ntmps42
  go_wp2_with fail
  go_loopw [9, 10] (fun v u wr => ∃ i j : Nat, v = .int .i64 i ∧ u = .int .i64 j ∧ i ≤ r ∧ r ≤ j ∧ j ≤ l.length ∧ Below w.heap.size w wr) (fun v u _ => (intOf u).toNat - (intOf v).toNat)
  case atStart => exact ⟨0, l.length, rfl, rfl, Nat.zero_le _, hnl, Nat.le_refl _, Below.refl _ _⟩
  case round =>
    obtain ⟨i, j, rfl, rfl, hi, hj, hjl, hb⟩ := hrel
    by_cases hlt : i < j
    · obtain ⟨hm1, hm2⟩ := mid_lt hlt
      have hml : (i + j) / 2 < l.length := by omega
      obtain ⟨b, off, rfl, c0, c1⟩ := (hs.below hb).get ((i + j) / 2) hml
      have hx := Hix.out ((i + j) / 2) hml
      obtain ⟨s, hsd⟩ : ∃ s, s = l[(i + j) / 2] := ⟨_, rfl⟩
      rw [← hsd] at c0 c1 hx
      clear hsd
      have hle := cmp_le s t
      have hgt := cmp_gt s t
      obtain ⟨x, y⟩ := s
      unfold spVal at hle hgt
      simp only at c0 c1 hx hle hgt
      by_cases hyt : y ≤ t
      · have hlr := hx.1 hyt
        have H := Lib.hid (hle hyt)
        clear hle hgt hx
        go_wp2_with fail
        refine (H.out _).mono ?_
        rintro e w2 ⟨rfl, hb2⟩
        have hB := below_on hb hb2 (Nat.le_refl _)
        go_wp2_with fail
        go_roundw
        case rel => exact ⟨(i + j) / 2 + 1, j, by simp, rfl, by omega, hj, hjl, hB⟩
        case measure => simp [intOf]; omega
      · have hlr : ¬ (i + j) / 2 < r := fun h => hyt (hx.2 h)
        have H := Lib.hid (hgt hyt)
        clear hle hgt hx
        go_wp2_with fail
        refine (H.out _).mono ?_
        rintro e w2 ⟨rfl, hb2⟩
        have hB := below_on hb hb2 (Nat.le_refl _)
        go_wp2_with fail
        go_roundw
        case rel => exact ⟨i, (i + j) / 2, rfl, by simp, hi, by omega, by omega, hB⟩
        case measure => simp [intOf]; omega
    · have hir : i = r := by omega
      subst hir
      by_cases hn : i < l.length
      · obtain ⟨b, off, rfl, c0, c1⟩ := (hs.below hb).get i hn
        have hx := Hix.out i hn
        obtain ⟨s, hsd⟩ : ∃ s, s = l[i] := ⟨_, rfl⟩
        rw [← hsd] at c0 c1 hx
        clear hsd
        have hyt : ¬ s.b ≤ t := fun h => absurd (hx.1 h) (Nat.lt_irrefl _)
        have hgt := cmp_gt s t hyt
        obtain ⟨x, y⟩ := s
        unfold spVal at hgt
        simp only at c0 c1 hgt
        have H := Lib.hid hgt
        clear hgt hx hyt
        go_wp2_with fail
        refine (H.out _).mono ?_
        rintro e w2 ⟨rfl, hb2⟩
        have hB := below_on hb hb2 (Nat.le_refl _)
        go_wp2_with fail
        go_ret2
        exact ⟨rfl, hB⟩
      · go_wp2_with fail
        go_ret2
        exact ⟨rfl, hb⟩

theorem nan1 (x : Int) (w : World) : Calls Try.prog 45 #[.int .i64 x] w fun e w' => e = .returned (.bool false) ∧ w = w' := by
  go_enter Try.func45, Try.ntmps45
  go_wp2
  go_ret
  exact ⟨by simp, rfl⟩
theorem nan2 (x : Int) (w : World) : Calls Try.prog 38 #[.int .i64 x] w fun e w' => e = .returned (.bool false) ∧ w = w' := by
  go_enter Try.func38, Try.ntmps38
  go_wp2
  go_ret
  exact ⟨by simp, rfl⟩
theorem less_any (x y : Int) (w : World) : Calls Try.prog 37 #[.int .i64 x, .int .i64 y] w fun e w' => e = .returned (.bool (decide (x < y))) ∧ w = w' := by
  go_enter Try.func37, Try.ntmps37
  go_wp2_with fail
  refine (nan1 _ _).mono ?_
  rintro e w1 ⟨rfl, rfl⟩
  go_wp2_with fail
  go_ret
  exact ⟨by simp, rfl⟩

/-- the slice reads as the integers -/
def Is (w : World) (ao : Option Addr) (cap : Nat) (l : List Int) : Prop := Sl w 1 ao l.length cap (l.map (Value.int .i64))
theorem Is.below {w w' : World} {ao : Option Addr} {cap : Nat} {l : List Int} (h : Is w ao cap l) (hb : Below w.heap.size w w') : Is w' ao cap l := Sl.below h hb
theorem Is.get {w : World} {ao : Option Addr} {cap : Nat} {l : List Int} (h : Is w ao cap l) (i : Nat) (hi : i < l.length) : ∃ b off, ao = some ⟨b, off, .none⟩ ∧ w.cell? ⟨b, off + i, .none⟩ = some (.int .i64 l[i]) :=
  h.cell i _ (by simp [hi])
def Found (r : Nat) (w : World) (e : Ending) (w' : World) : Prop := (∃ c, e = .returned (.tuple #[.int .i64 (r : Nat), .bool c])) ∧ w = w'
theorem found_mk (r : Nat) (w : World) (c : Bool) : Found r w (.returned (.tuple #[.int .i64 (r : Nat), .bool c])) w := ⟨⟨c, rfl⟩, rfl⟩
set_option maxRecDepth 1000000 in
set_option maxHeartbeats 4000000 in
/-- r: the first place that is not below the target -/
theorem bs_any (ao : Option Addr) (cap : Nat) (l : List Int) (t : Int) (r : Nat) (w : World) (hs : Is w ao cap l) (hn : l.length ≤ 1000) (hr : r < l.length) (hix : ∀ i (hi : i < l.length), l[i] < t ↔ i < r) :
    Calls Try.prog 29 #[.slice ao l.length cap, .int .i64 t] w (Found r w) := by
  have Hix := Lib.hid hix
  clear hix
  go_enter Try.func29, Try.ntmps29
  go_wp2_with fail
  go_loop [7, 8] (fun v u => ∃ i j : Nat, v = .int .i64 i ∧ u = .int .i64 j ∧ i ≤ r ∧ r ≤ j ∧ j ≤ l.length) (fun v u => (intOf u).toNat - (intOf v).toNat)
  case atStart => exact ⟨0, l.length, rfl, rfl, Nat.zero_le _, by omega, Nat.le_refl _⟩
  case round =>
    obtain ⟨i, j, rfl, rfl, hi, hj, hjl⟩ := hrel
    by_cases hlt : i < j
    · obtain ⟨hm1, hm2⟩ := mid_lt hlt
      have hml : (i + j) / 2 < l.length := by omega
      obtain ⟨b, off, rfl, c0⟩ := hs.get ((i + j) / 2) hml
      have hx := Hix.out ((i + j) / 2) hml
      obtain ⟨x, hsd⟩ : ∃ s, s = l[(i + j) / 2] := ⟨_, rfl⟩
      rw [← hsd] at c0 hx
      clear hsd
      by_cases hyt : x < t
      · have hlr := hx.1 hyt
        clear hx
        have e1 : decide (x < t) = true := by simpa using hyt
        have H := less_any x t
        rw [e1] at H
        have H2 := Lib.hid H
        clear H e1
        go_wp2_with fail
        refine (H2.out _).mono ?_
        rintro e w2 ⟨rfl, rfl⟩
        go_wp2_with fail
        go_round
        case rel => exact ⟨(i + j) / 2 + 1, j, by simp, rfl, by omega, hj, hjl⟩
        case measure => simp [intOf]; omega
      · have hlr : ¬ (i + j) / 2 < r := fun h => hyt (hx.2 h)
        clear hx
        have e1 : decide (x < t) = false := by simpa using hyt
        have H := less_any x t
        rw [e1] at H
        have H2 := Lib.hid H
        clear H e1
        go_wp2_with fail
        refine (H2.out _).mono ?_
        rintro e w2 ⟨rfl, rfl⟩
        go_wp2_with fail
        go_round
        case rel => exact ⟨i, (i + j) / 2, rfl, by simp, hi, by omega, by omega⟩
        case measure => simp [intOf]; omega
    · have hir : i = r := by omega
      subst hir
      obtain ⟨b, off, rfl, c0⟩ := hs.get i hr
      obtain ⟨x, hsd⟩ : ∃ s, s = l[i] := ⟨_, rfl⟩
      rw [← hsd] at c0
      clear hsd
      by_cases hxt : x = t
      · subst hxt
        go_wp2_with fail
        go_ret2
        exact found_mk _ _ _
      · go_wp2_with fail
        refine (nan2 _ _).mono ?_
        rintro e w1 ⟨rfl, rfl⟩
        go_wp2_with fail
        go_ret2
        exact found_mk _ _ _
end Go.Proofs.Ytndifinjdheceaa
