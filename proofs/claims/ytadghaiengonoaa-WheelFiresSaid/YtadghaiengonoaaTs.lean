/- slots: ranges that change places (slices.swapRangeCmpFunc, rotateCmpFunc). No statement of the seat is proved here. -/
import Derived.Test.YtadghaiengonoaaTo
namespace Go.Proofs.Ytadghaiengonoaa
set_option linter.unusedVariables false
set_option linter.unusedSimpArgs false
set_option linter.unusedSectionVars false
open Go Go.RowKit

theorem w_add (a k i n : Nat) (hi : i = a + k) (h : i ≤ n) (hn : n ≤ 4611686018427387904) : wrap64 ((a : Int) + (k : Int)) = (i : Int) := by
  subst hi
  rw [IntWalk.wrap64_in ((a : Int) + (k : Int)) (by omega)]; omega
theorem w_sub (a k i n : Nat) (hi : a = i + k) (h : a ≤ n) (hn : n ≤ 4611686018427387904) : wrap64 ((a : Int) - (k : Int)) = (i : Int) := by
  subst hi
  rw [IntWalk.wrap64_in (((i + k : Nat) : Int) - (k : Int)) (by omega)]; omega
theorem w_one (k n : Nat) (h : k < n) (hn : n ≤ 4611686018427387904) : wrap64 ((k : Int) + 1) = ((k + 1 : Nat) : Int) := by
  rw [IntWalk.wrap64_in ((k : Int) + 1) (by omega)]; omega
theorem i_lt {i n m : Nat} (h : i < m) (e : m = n) : (0 : Int) ≤ (i : Int) ∧ (i : Int) < (n : Int) := by omega
theorem th_apart (i j : Nat) (h : i ≠ j) : ¬ i = j ∧ ¬ j = i ∧ ¬ i * 3 = j * 3 ∧ ¬ j * 3 = i * 3 ∧ ¬ i * 3 + 1 = j * 3 ∧ ¬ j * 3 = i * 3 + 1 ∧ ¬ i * 3 + 2 = j * 3 ∧ ¬ j * 3 = i * 3 + 2 ∧ ¬ i * 3 = j * 3 + 1 ∧ ¬ j * 3 + 1 = i * 3 ∧ ¬ i * 3 = j * 3 + 2 ∧ ¬ j * 3 + 2 = i * 3 := by omega
theorem swr_nums (p x m y q n a b N k i j : Nat) (hlen : p + (x + (m + (y + q))) = n) (xy : x = y) (ha : a = p) (hb : b = p + x + m) (hN : N = x) (hk : k < N) (hi : i = a + k) (hj : j = b + k) :
    i < p + x + m + y + q ∧ j < p + x + m + y + q ∧ i ≠ j ∧ k < x ∧ i = p + k ∧ j = p + x + m + k ∧ k < n := by omega
abbrev thT : TypeId := 30
theorem SR.sw {E : TypeId} {W0 W : World} {base g n cap : Nat} {D : List Th} (h : SR E W0 W base g n cap D) (i j : Nat) (hi : i < D.length) (hj : j < D.length) :
    SR E W0 ((((((W.setCell ⟨g, i * 3, none⟩ (.int .u64 D[j].id)).setCell ⟨g, i * 3 + 1, none⟩ (.int .u64 D[j].gen)).setCell ⟨g, i * 3 + 2, none⟩ (.int .i64 D[j].due)).setCell ⟨g, j * 3, none⟩ (.int .u64 D[i].id)).setCell ⟨g, j * 3 + 1, none⟩ (.int .u64 D[i].gen)).setCell ⟨g, j * 3 + 2, none⟩ (.int .i64 D[i].due)) base g n cap (Sta.sw D i j hi hj) := by
  have h1 := h.put i hi D[j]
  have h2 := h1.put j (by simpa using hj) D[i]
  exact h2
theorem SR.drew {E : TypeId} {W0 W : World} {base g n cap : Nat} {D : List Th} (h : SR E W0 W base g n cap D) : SR E W0 W.drew base g n cap D := ⟨h.own.drew, h.gr.trans ⟨rfl, rfl, rfl, Nat.le_refl _, fun _ _ _ => rfl⟩, h.len⟩
set_option maxRecDepth 100000 in
set_option maxHeartbeats 4000000 in
theorem swapRange_any (P X M Y Q : List Th) (a b N : Nat) (fv : Value) (W0 W : World) (base g n cap : Nat) (hXY : X.length = Y.length) (hn : n ≤ 4611686018427387904) (ha : a = P.length) (hb : b = P.length + X.length + M.length) (hN : N = X.length)
    (h : SR thT W0 W base g n cap (P ++ (X ++ (M ++ (Y ++ Q))))) :
    Calls Try.prog 65 #[.slice (some ⟨g, 0, none⟩) n cap, .int .i64 (a : Nat), .int .i64 (b : Nat), .int .i64 (N : Nat), fv] W fun e W' => e = .returned (.tuple #[]) ∧ SR thT W0 W' base g n cap (P ++ (Y ++ (M ++ (X ++ Q)))) := by
  have hlen := h.len
  have hz := Sta.swr_zero P X M Y Q
  have hal := Sta.swr_all P X M Y Q hXY
  simp only [List.length_append] at hlen
  have Hxy := Lib.hid hXY
  have Ha := Lib.hid ha
  have Hb := Lib.hid hb
  have HN := Lib.hid hN
  have Hlen := Lib.hid hlen
  have Hz := Lib.hid hz
  have Hal := Lib.hid hal
  have H := Lib.hid h
  clear hXY ha hb hN hlen hz hal h
  go_enter Try.func65, Try.ntmps65
  go_wp2_with fail
  go_loopw [10] (fun u wr => ∃ k : Nat, u = .int .i64 (k : Nat) ∧ k ≤ N ∧ SR thT W0 wr base g n cap (Sta.swr P X M Y Q k)) (fun u _ => N - (intOf u).toNat)
  case atStart => exact ⟨0, rfl, by omega, by rw [Hz.out]; exact H.out⟩
  case round =>
    obtain ⟨k, rfl, hk, hr⟩ := hrel
    by_cases hlt : k < N
    · obtain ⟨i, hi⟩ : ∃ i, i = a + k := ⟨_, rfl⟩
      obtain ⟨j, hj⟩ : ∃ j, j = b + k := ⟨_, rfl⟩
      have hL := Sta.swr_len P X M Y Q k
      obtain ⟨m1, m2, hij, m3, m4, m5, m6⟩ := swr_nums _ _ _ _ _ n a b N k i j Hlen.out Hxy.out Ha.out Hb.out HN.out hlt hi hj
      obtain ⟨D, hD⟩ : ∃ D, D = Sta.swr P X M Y Q k := ⟨_, rfl⟩
      rw [← hL] at m1 m2
      have hst := Sta.swr_step P X M Y Q k Hxy.out m3 i j m4 m5 m1 m2
      have hi1 : i < D.length := by rw [hD]; exact m1
      have hj1 : j < D.length := by rw [hD]; exact m2
      simp only [← hD] at hr hst
      have hDn := hr.len
      obtain ⟨i0, i1, i2⟩ := hr.cells i hi1
      obtain ⟨j0, j1, j2⟩ := hr.cells j hj1
      have hsw := (hr.sw i j hi1 hj1).drew
      rw [hst] at hsw
      have fi0 := hr.free (i * 3)
      have fi1 := hr.free (i * 3 + 1)
      have fi2 := hr.free (i * 3 + 2)
      have fj0 := hr.free (j * 3)
      have fj1 := hr.free (j * 3 + 1)
      have fj2 := hr.free (j * 3 + 2)
      obtain ⟨x, hx⟩ : ∃ x, x = D[i] := ⟨_, rfl⟩
      obtain ⟨y, hy⟩ : ∃ y, y = D[j] := ⟨_, rfl⟩
      rw [← hx] at i0 i1 i2 hsw
      rw [← hy] at j0 j1 j2 hsw
      have w1 := w_add a k i n hi (by rw [← hDn]; exact Nat.le_of_lt hi1) hn
      have w2 := w_add b k j n hj (by rw [← hDn]; exact Nat.le_of_lt hj1) hn
      obtain ⟨c1, c2⟩ := i_lt hi1 hDn
      obtain ⟨c3, c4⟩ := i_lt hj1 hDn
      have zg := hr.lt
      obtain ⟨n1, n2, n3, n4, n5, n6, n7, n8, n9, n10, n11, n12⟩ := th_apart i j hij
      have Hsw := Lib.hid hsw
      have Hw := Lib.hid (w_one k n m6 hn)
      clear hst hD hL hDn hi hj hx hy hr hsw hi1 hj1 hij m1 m2 m3 m4 m5 m6
      go_wp2_with fail
      go_region
      go_wp2_with fail
      go_roundw
      case rel => exact ⟨k + 1, by rw [Hw.out], by omega, Hsw.out⟩
      case measure => rw [Hw.out]; simp only [intOf, Int.toNat_natCast]; omega
    · have hkk : k = N := by omega
      subst hkk
      have e := Hal.out
      rw [← HN.out] at e
      rw [e] at hr
      go_wp2_with fail
      refine bodyPost_end (results_none rfl _ _ _) rfl ?_
      exact ⟨rfl, hr⟩
end Go.Proofs.Ytadghaiengonoaa
