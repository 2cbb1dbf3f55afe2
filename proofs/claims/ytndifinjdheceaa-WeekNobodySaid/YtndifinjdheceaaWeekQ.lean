/- Contracts of week's Open, Until, Between, Nth, New. No statement of the seat is proved here. -/
import Derived.Test.YtndifinjdheceaaWeekP
namespace Go.Proofs.Ytndifinjdheceaa
set_option linter.unusedVariables false
set_option linter.unusedSimpArgs false
set_option linter.unusedSectionVars false
open Go Go.RowKit

theorem _root_.Go.World.grownBy.trans' {w w1 w2 w3 : World} {g : Option Nat} (h : w.grownBy w1 g) (h2 : w1.grownBy w2 g) (h3 : w2.grownBy w3 g) : w.grownBy w3 g := grown_trans h (grown_trans h2 h3)
theorem getD_at {l : List Sp} {i : Nat} (hi : i < l.length) : l.getD i ⟨0, 0⟩ = l[i] := by
  rw [List.getD_eq_getElem?_getD, List.getElem?_eq_getElem hi]; rfl
set_option maxHeartbeats 1000000 in
theorem open_pl {p b cap : Nat} {ao : Option Addr} {l : List Sp} (t : Int) (W : World) (h : PL p b ao cap l W) :
    Calls Try.prog 17 #[.pointer (some ⟨p, 0, none⟩), .int .i64 t] W fun e W' => e = .returned (.bool (openL l t)) ∧ Below W.heap.size W W' := by
  obtain ⟨c, hc⟩ : ∃ c, c = openL l t := ⟨_, rfl⟩
  rw [← hc]
  have hl := (row_chain (week_row h.err).1).2
  by_cases h0 : t < 0
  · have hcf : c = false := by rw [hc]; unfold openL; have : ¬ 0 ≤ t := by omega
                               simp [this]
    subst hcf
    clear hc
    go_enter Try.func17, Try.ntmps17
    go_wp2_with fail
    refine (none_pl W h).mono ?_
    rintro e W2 ⟨rfl, rfl⟩
    go_wp2_with fail
    go_ret
    exact ⟨rfl, Below.refl _ _⟩
  by_cases h1 : 2251799813685248 < t
  · have hcf : c = false := by rw [hc]; unfold openL; have : ¬ t ≤ 2251799813685248 := by omega
                               simp [this]
    subst hcf
    clear hc
    go_enter Try.func17, Try.ntmps17
    go_wp2_with fail
    refine (none_pl W h).mono ?_
    rintro e W2 ⟨rfl, rfl⟩
    go_wp2_with fail
    go_ret
    exact ⟨rfl, Below.refl _ _⟩
  have hcx : c = (decide (nextI l (t % 604800) < l.length) && decide ((l.getD (nextI l (t % 604800)) ⟨0, 0⟩).a ≤ t % 604800)) := by
    rw [hc, ← has_next l _ 0 (row_chain (week_row h.err).1).1]
    unfold openL
    have e1 : decide (0 ≤ t) = true := by simp; omega
    have e2 : decide (t ≤ 2251799813685248) = true := by simp; omega
    rw [e1, e2]; rfl
  clear hc
  have hnl := next_le l (t % 604800)
  have hat := fun W h => at_pl (p := p) (b := b) (cap := cap) (ao := ao) (l := l) (t % 604800) W h
  obtain ⟨r, hr⟩ : ∃ r, r = t % 604800 := ⟨_, rfl⟩
  simp only [← hr] at hcx hnl hat
  obtain ⟨i, hi⟩ : ∃ i, i = nextI l r := ⟨_, rfl⟩
  rw [← hi] at hcx hnl
  simp only [← hi] at hat
  have t0 : 0 ≤ t := by omega
  have Hcx := Lib.hid hcx
  have Hr := Lib.hid hr
  have Hat := Lib.hid hat
  clear hi hcx hr hat
  obtain ⟨c0, c1⟩ := h.cells
  go_enter Try.func17, Try.ntmps17
  go_wp2_with fail
  refine (none_pl W h).mono ?_
  rintro e W2 ⟨rfl, rfl⟩
  go_wp2_with fail
  rw [← Hr.out]
  refine (Hat.out W h).mono ?_
  rintro e W2 ⟨rfl, hb⟩
  obtain ⟨d0, d1⟩ := (h.below hb).cells
  by_cases hlt : i < l.length
  · obtain ⟨g, off, rfl, g0, g1⟩ := sp_in (h.below hb).row i hlt
    have e1 := getD_at hlt
    obtain ⟨s, hs⟩ : ∃ s, s = l[i] := ⟨_, rfl⟩
    rw [e1, ← hs] at Hcx
    rw [← hs] at g0 g1
    obtain ⟨x, y⟩ := s
    simp only at g0 g1 Hcx
    clear hs e1
    have i0 : (0 : Int) ≤ (i : Int) := by omega
    have i1 : (i : Int) < (l.length : Int) := by omega
    go_wp2_with fail
    go_ret
    exact ⟨by rw [Hcx.out]; simp [hlt], hb⟩
  · have i1 : ¬ (i : Int) < (l.length : Int) := by omega
    go_wp2_with fail
    go_ret
    exact ⟨by rw [Hcx.out]; simp [hlt], hb⟩
set_option maxHeartbeats 4000000 in
theorem until_pl {p b cap : Nat} {ao : Option Addr} {l : List Sp} (t : Int) (W : World) (h : PL p b ao cap l W) :
    Calls Try.prog 13 #[.pointer (some ⟨p, 0, none⟩), .int .i64 t] W fun e W' => e = .returned (.int .i64 (untilL l t)) ∧ Kept p b ao cap l W W' := by
  obtain ⟨c, hc⟩ : ∃ c, c = untilL l t := ⟨_, rfl⟩
  rw [← hc]
  obtain ⟨u, hu⟩ : ∃ u, u = clampT t := ⟨_, rfl⟩
  unfold untilL at hc
  rw [← hu] at hc
  have hcl := clamp_le t
  rw [← hu] at hcl
  obtain ⟨u0, u1⟩ := hcl
  have hpn := parts_next l (u % 604800) 0 (Int.le_refl _) (row_chain (week_row h.err).1).1
  have hpw := parts_week h.err 0 (u % 604800)
  have hT := total_week h.err
  have hml := mul_le (q := u / 604800) (T := lenL l) (by omega) (by omega) hT.1 hT.2
  have hnl := next_le l (u % 604800)
  have hat := fun W h => at_pl (p := p) (b := b) (cap := cap) (ao := ao) (l := l) (u % 604800) W h
  have htot := fun W h => total_pl (p := p) (b := b) (cap := cap) (ao := ao) (l := l) W h
  have hln := (row_chain (week_row h.err).1).2
  obtain ⟨q, hq⟩ : ∃ q, q = u / 604800 := ⟨_, rfl⟩
  obtain ⟨r, hr⟩ : ∃ r, r = u % 604800 := ⟨_, rfl⟩
  obtain ⟨i, hi⟩ : ∃ i, i = nextI l r := ⟨_, rfl⟩
  obtain ⟨T, hTe⟩ : ∃ T, T = lenL l := ⟨_, rfl⟩
  have hZm := lenL_mono (rights_row (week_row h.err).1) i l.length (by rw [hi, hr]; exact hnl)
  have hZp := lenL_pos (rights_take (rights_row (week_row h.err).1) i)
  rw [List.take_length] at hZm
  have hZm2 := hT.2
  obtain ⟨Z, hZ⟩ : ∃ Z, Z = lenL (l.take i) := ⟨_, rfl⟩
  have hr0 : 0 ≤ r ∧ r < 604800 := by omega
  rw [← hr, ← hi, ← hZ] at hpn
  rw [← hr, hpn, ← hq, ← hTe] at hc
  rw [← hr, ← hi] at hnl
  simp only [← hr, ← hi] at hat
  rw [← hq, ← hTe] at hml
  simp only [← hTe] at htot
  rw [← hr, hpn] at hpw
  rw [← hTe] at hpw hT hZm hZm2
  rw [← hZ] at hZm hZp
  obtain ⟨c0, c1⟩ := h.cells
  have Hu := Lib.hid hu
  have Hc := Lib.hid hc
  have Hq := Lib.hid hq
  have Hr := Lib.hid hr
  have HZ := Lib.hid hZ
  have Hat := Lib.hid hat
  have Htot := Lib.hid htot
  have Hpw := Lib.hid hpw
  clear hu hc hq hr hi hTe hZ hat htot hpn hpw
  have i0 : (0 : Int) ≤ (i : Int) := by omega
  have i1 : (i : Int) < (l.length : Int) + 1 := by omega
  obtain ⟨m0, m1⟩ := hml
  obtain ⟨r0, r1⟩ := hr0
  obtain ⟨T0, T1⟩ := hT
  have hM := Lib.hid (rfl : q * T = q * T)
  obtain ⟨M, hM⟩ : ∃ M, M = q * T := ⟨_, rfl⟩
  rw [← hM] at m0 m1
  have wM : IntKind.i64.wrap (q * T) = M := by rw [← hM]; exact IntWalk.i64_in _ (by omega)
  have HM := Lib.hid hM
  clear hM
  go_enter Try.func13, Try.ntmps13
  go_wp2_with fail
  refine (none_pl W h).mono ?_
  rintro e W2 ⟨rfl, rfl⟩
  go_upto_region 3 with fail
  go_cut [1] (fun v wx => v = .int .i64 u ∧ wx = W)
  case first =>
    go_wp2_with fail
    all_goals
      go_meet
      refine ⟨?_, rfl⟩
      rw [Hu.out]
      unfold clampT
      congr 1
      split <;> split at * <;> omega
  case rest =>
    obtain ⟨rfl, hwc⟩ := hcut
    have hwc2 := hwc.symm
    clear hwc
    subst hwc2
    go_wp2_with fail
    rw [← Hr.out, ← Hq.out]
    refine (Hat.out _ h).mono ?_
    rintro e W2 ⟨rfl, hb⟩
    have h2 := h.below hb
    obtain ⟨d0, d1⟩ := h2.cells
    have wN : IntKind.i64.wrap (M + Z) = M + Z := IntWalk.i64_in _ (by omega)
    go_wp2_with fail
    go_cut [8] (fun v wx => v = .int .i64 (M + Z) ∧ PL p b ao cap l wx ∧ W2.grownBy wx (some b))
    case first =>
      go_region_law (first
        | (go_simp; go_at_call 18; refine (Htot.out _ ?_).mono ?_; (first | exact hPg | exact h2.drew); rintro e W3 ⟨rfl, hPt, hgt⟩; obtain ⟨x0, x1⟩ := hPt.cells)
        | (go_simp; go_at_call 30; refine (get_pl (p := p) (ao := ao) (cap := cap) (l := l) _ ?_).mono ?_; (first | exact hPt | exact h2.drew); rintro e W4 ⟨⟨so, sc, rfl, hI⟩, hPg, hgg⟩; obtain ⟨g, goff, rfl, dd⟩ := is_in hI i hnl; rw [← HZ.out] at dd; obtain ⟨y0, y1⟩ := hPg.cells))
      all_goals
        go_wp2_with fail
        go_meet
        exact ⟨rfl, hPg, (grown_below (below_drew (Below.refl _ _))).trans' hgt hgg⟩
    case rest =>
      obtain ⟨rfl, h3, hg3⟩ := hcut
      obtain ⟨e0, e1⟩ := h3.cells
      have hfin : W.grownBy wc (some b) := grown_trans (grown_below hb) hg3
      clear hg3 hb d0 d1 c0 c1 h2 Hat Htot wN wM hM h
      obtain ⟨N, hN⟩ : ∃ N, N = M + Z := ⟨_, rfl⟩
      have n0 : 0 ≤ N ∧ N ≤ 2251799813894400 := by omega
      by_cases hlt : i < l.length
      · obtain ⟨g, off, rfl, g0, g1⟩ := sp_in h3.row i hlt
        have hx := (rights_row (week_row h3.err).1) _ (List.getElem_mem hlt)
        have ed := getD_at hlt
        obtain ⟨s, hs⟩ : ∃ s, s = l[i] := ⟨_, rfl⟩
        rw [ed, ← hs, if_pos hlt] at Hc
        rw [← hs] at g0 g1 hx
        clear hs ed Hpw
        obtain ⟨x, y⟩ := s
        simp only at g0 g1 Hc hx
        have i2 : (i : Int) < (l.length : Int) := by omega
        have w1 : IntKind.i64.wrap (r - x) = r - x := IntWalk.i64_in _ (by omega)
        by_cases hneg : r - x < 0
        · have hcN : c = N := by rw [Hc.out, if_pos hneg, hN, HM.out]; omega
          have w2 : IntKind.i64.wrap N = N := IntWalk.i64_in _ (by omega)
          have HcN := Lib.hid hcN
          rw [← hN]
          clear Hc hcN HM hN Hr Hq Hu HZ
          go_wp2_with fail
          go_ret
          exact ⟨ret_int HcN.out.symm, h3, hfin⟩
        · have hcN : c = N + (r - x) := by rw [Hc.out, if_neg hneg, hN, HM.out]; omega
          have w2 : IntKind.i64.wrap (N + (r - x)) = N + (r - x) := IntWalk.i64_in _ (by omega)
          have HcN := Lib.hid hcN
          rw [← hN]
          clear Hc hcN HM hN Hr Hq Hu HZ
          go_wp2_with fail
          go_ret
          exact ⟨ret_int HcN.out.symm, h3, hfin⟩
      · have hcN : c = N := by rw [Hc.out, if_neg hlt, hN, HM.out]; omega
        have i2 : ¬ (i : Int) < (l.length : Int) := by omega
        have HcN := Lib.hid hcN
        rw [← hN]
        clear Hc hcN HM hN Hr Hq Hu HZ Hpw
        go_wp2_with fail
        go_ret
        exact ⟨ret_int HcN.out.symm, h3, hfin⟩
set_option maxHeartbeats 1000000 in
theorem between_pl {p b cap : Nat} {ao : Option Addr} {l : List Sp} (f t : Int) (W : World) (h : PL p b ao cap l W) :
    Calls Try.prog 15 #[.pointer (some ⟨p, 0, none⟩), .int .i64 f, .int .i64 t] W fun e W' => e = .returned (.int .i64 (betweenL l f t)) ∧ Kept p b ao cap l W W' := by
  obtain ⟨c, hc⟩ : ∃ c, c = betweenL l f t := ⟨_, rfl⟩
  rw [← hc]
  unfold betweenL at hc
  have hf := until_le h.err f
  have ht := until_le h.err t
  have huf := fun W h => until_pl (p := p) (b := b) (cap := cap) (ao := ao) (l := l) f W h
  have hut := fun W h => until_pl (p := p) (b := b) (cap := cap) (ao := ao) (l := l) t W h
  obtain ⟨F, hF⟩ : ∃ F, F = untilL l f := ⟨_, rfl⟩
  obtain ⟨T, hT⟩ : ∃ T, T = untilL l t := ⟨_, rfl⟩
  simp only [← hF, ← hT] at hc hf ht huf hut
  have w1 : IntKind.i64.wrap (T - F) = T - F := IntWalk.i64_in _ (by omega)
  have Hc := Lib.hid hc
  have Huf := Lib.hid huf
  have Hut := Lib.hid hut
  clear hc huf hut hF hT
  go_enter Try.func15, Try.ntmps15
  go_wp2_with fail
  refine (Hut.out W h).mono ?_
  rintro e W2 ⟨rfl, h2, hg2⟩
  go_wp2_with fail
  refine (Huf.out W2 h2).mono ?_
  rintro e W3 ⟨rfl, h3, hg3⟩
  by_cases hneg : T - F < 0
  · have HcN : Hid (c = 0) := by show c = 0; rw [Hc.out, if_pos hneg]
    go_wp2_with fail
    go_ret
    exact ⟨ret_int HcN.out.symm, h3, grown_trans hg2 hg3⟩
  · have HcN : Hid (c = T - F) := by show c = _; rw [Hc.out, if_neg hneg]
    go_wp2_with fail
    go_ret
    exact ⟨ret_int HcN.out.symm, h3, grown_trans hg2 hg3⟩

theorem nth_place {l : List Sp} (hr : Rights l) (n : Int) (h0 : 0 ≤ n) (h1 : n < lenL l) :
    ∃ j, j < l.length ∧ lenL (l.take j) ≤ n ∧ n < lenL (l.take (j + 1)) ∧ (∀ k (hk : k < (sumsL l).length), (sumsL l)[k] < n + 1 ↔ k < j + 1) := by
  have key : ∀ m, m ≤ l.length → n < lenL (l.take m) → ∃ j, j < m ∧ lenL (l.take j) ≤ n ∧ n < lenL (l.take (j + 1)) := by
    intro m
    induction m with
    | zero => intro _ h; simp [lenL] at h; omega
    | succ m ih =>
      intro hm h
      by_cases g : n < lenL (l.take m)
      · obtain ⟨j, a, b, c⟩ := ih (by omega) g
        exact ⟨j, by omega, b, c⟩
      · exact ⟨m, by omega, by omega, h⟩
  obtain ⟨j, a, b, c⟩ := key l.length (Nat.le_refl _) (by rw [List.take_length]; exact h1)
  refine ⟨j, a, b, c, fun k hk => ?_⟩
  rw [sumsL_len] at hk
  rw [sumsL_at l k hk]
  constructor
  · intro h
    apply Classical.byContradiction
    intro hn
    have := lenL_mono hr (j + 1) k (by omega)
    omega
  · intro h
    have := lenL_mono hr k j (by omega)
    omega
set_option maxHeartbeats 4000000 in
theorem nth_pl {p b cap : Nat} {ao : Option Addr} {l : List Sp} (n : Int) (n1 : n ≤ 9223372036854775807) (W : World) (h : PL p b ao cap l W) :
    Calls Try.prog 11 #[.pointer (some ⟨p, 0, none⟩), .int .i64 n] W fun e W' => e = .returned (.tuple #[.int .i64 (nthW l n).1, .int .i64 (nthW l n).2]) ∧ Kept p b ao cap l W W' := by
  obtain ⟨V, hV⟩ : ∃ V, V = nthW l n := ⟨_, rfl⟩
  rw [← hV]
  unfold nthW at hV
  have htot := total_pl W h
  have hT := total_week h.err
  by_cases hn : n < 0
  · rw [if_pos hn] at hV
    subst hV
    generalize lenL l = T at htot hT
    go_enter Try.func11, Try.ntmps11
    go_wp2_with fail
    refine htot.mono ?_
    rintro e W2 ⟨rfl, h2, hg2⟩
    go_wp2_with fail
    refine (none_pl W2 h2).mono ?_
    rintro e W3 ⟨rfl, rfl⟩
    go_wp2_with fail
    refine bodyPost_ret (v := .tuple #[.int .i64 0, .int .i64 2]) (by simp [results, Try.results11, go_sem]) rfl ?_
    exact ⟨rfl, h2, hg2⟩
  rw [if_neg hn] at hV
  by_cases hT0 : lenL l = 0
  · rw [if_pos hT0] at hV
    subst hV
    rw [hT0] at htot
    clear hT0 hT
    go_enter Try.func11, Try.ntmps11
    go_wp2_with fail
    refine htot.mono ?_
    rintro e W2 ⟨rfl, h2, hg2⟩
    go_wp2_with fail
    refine (none_pl W2 h2).mono ?_
    rintro e W3 ⟨rfl, rfl⟩
    go_wp2_with fail
    refine bodyPost_ret (v := .tuple #[.int .i64 0, .int .i64 40]) (by simp [results, Try.results11, go_sem]) rfl ?_
    exact ⟨rfl, h2, hg2⟩
  rw [if_neg hT0] at hV
  have h0 : 0 ≤ n := by omega
  obtain ⟨T, hTe⟩ : ∃ T, T = lenL l := ⟨_, rfl⟩
  have hdv := fun h => Int.tdiv_eq_ediv_of_nonneg (a := n) (b := T) h
  have hmd := fun h => Int.tmod_eq_emod_of_nonneg (a := n) (b := T) h
  have hTp : 0 < T := by omega
  have hq0 : 0 ≤ n / T := Int.ediv_nonneg h0 (by omega)
  have hq1 : n / T ≤ n := Int.ediv_le_self _ h0
  by_cases hb : 3723213977 < n / lenL l
  · rw [if_pos hb] at hV
    subst hV
    rw [← hTe] at hb htot hT hT0
    have w1 : IntKind.i64.wrap (n / T) = n / T := IntWalk.i64_in _ (by omega)
    have hdv' := hdv h0
    clear hTe hmd hdv hT0
    go_enter Try.func11, Try.ntmps11
    go_wp2_with fail
    refine htot.mono ?_
    rintro e W2 ⟨rfl, h2, hg2⟩
    go_wp2_with fail
    refine (none_pl W2 h2).mono ?_
    rintro e W3 ⟨rfl, rfl⟩
    go_wp2_with fail
    refine bodyPost_ret (v := .tuple #[.int .i64 0, .int .i64 10]) (by simp [results, Try.results11, go_sem]) rfl ?_
    exact ⟨rfl, h2, hg2⟩
  rw [if_neg hb] at hV
  have hr := rights_row (week_row h.err).1
  have hln := (row_chain (week_row h.err).1).2
  have hR0 : 0 ≤ n % lenL l := Int.emod_nonneg _ hT0
  have hR1 : n % lenL l < lenL l := Int.emod_lt_of_pos _ (by omega)
  obtain ⟨j, hj, hj1, hj2, hj3⟩ := nth_place hr _ hR0 hR1
  have hns := nth_sums l hr j hj _ hj1 hj2
  rw [hns] at hV
  have hmono := lenL_mono hr j l.length (by omega)
  rw [List.take_length] at hmono
  have hZ0 := lenL_pos (rights_take hr j)
  rw [← hTe] at hV hb htot hT hT0 hR0 hR1 hj1 hj2 hj3 hmono
  obtain ⟨R, hR⟩ : ∃ R, R = n % T := ⟨_, rfl⟩
  obtain ⟨q, hq⟩ : ∃ q, q = n / T := ⟨_, rfl⟩
  obtain ⟨Z, hZ⟩ : ∃ Z, Z = lenL (l.take j) := ⟨_, rfl⟩
  have hx := hr _ (List.getElem_mem hj)
  have hxw := (week_row h.err).2 _ (List.getElem_mem hj)
  obtain ⟨s, hs⟩ : ∃ s, s = l[j] := ⟨_, rfl⟩
  have hcell := fun W' (h' : PL p b ao cap l W') => sp_in h'.row j hj
  simp only [← hs] at hcell
  have Hcell := Lib.hid hcell
  rw [← hs] at hV hx hxw
  rw [← hR] at hV hR0 hR1 hj1 hj2 hj3
  rw [← hq] at hV hb hq0 hq1
  rw [← hZ] at hV hmono hZ0 hj1
  obtain ⟨x, y⟩ := s
  simp only at hx hxw hV
  have hRT : n.tmod T = R := by rw [hR, hmd h0]
  have hQT : n.tdiv T = q := by rw [hq, hdv h0]
  obtain ⟨t, ht⟩ : ∃ t, t = q * 604800 + x + R - Z := ⟨_, rfl⟩
  have hV2 : V = if 2251799813685248 < t then (0, 10) else (t, 0) := by
    have : x + (R - Z) + q * 604800 = t := by omega
    rw [hV, this]
  have w0 : IntKind.i64.wrap q = q := IntWalk.i64_in _ (by omega)
  have w1 : IntKind.i64.wrap (q * 604800) = q * 604800 := IntWalk.i64_in _ (by omega)
  have w2 : IntKind.i64.wrap (q * 604800 + x) = q * 604800 + x := IntWalk.i64_in _ (by omega)
  have w3 : IntKind.i64.wrap (q * 604800 + x + R) = q * 604800 + x + R := IntWalk.i64_in _ (by omega)
  have w4 : IntKind.i64.wrap (q * 604800 + x + R - Z) = t := by rw [← ht]; exact IntWalk.i64_in _ (by omega)
  have w5 : IntKind.i64.wrap (R + 1) = R + 1 := IntWalk.i64_in _ (by omega)
  have s1 : IntKind.i64.wrap (j : Int) = (j : Int) := IntWalk.i64_in _ (by omega)
  have s2 : IntKind.i64.wrap ((j : Int) + 1 - 1) = (j : Int) := by rw [show (j : Int) + 1 - 1 = (j : Int) from by omega]; exact s1
  have i0 : (0 : Int) ≤ (j : Int) := by omega
  have i1 : (j : Int) < (l.length : Int) := by omega
  have i2 : (j : Int) < (l.length : Int) + 1 := by omega
  have hTn : T ≠ 0 := by omega
  have HV := Lib.hid hV2
  have HZ := Lib.hid hZ
  have Hj3 := Lib.hid hj3
  have Ht := Lib.hid ht
  have Hq := Lib.hid hq
  have HR := Lib.hid hR
  clear hV hV2 hcell hns hTe hZ hj3 ht hq hR hs hdv hmd hT0
  go_enter Try.func11, Try.ntmps11
  go_wp2_with fail
  refine htot.mono ?_
  rintro e W2 ⟨rfl, h2, hg2⟩
  go_wp2_with fail
  refine (none_pl W2 h2).mono ?_
  rintro e W3 ⟨rfl, rfl⟩
  obtain ⟨c0, c1⟩ := h2.cells
  go_wp2_with fail
  refine (get_pl (p := p) (ao := ao) (cap := cap) (l := l) _ h2).mono ?_
  rintro e W4 ⟨⟨so, sc, rfl, hI⟩, h4, hg4⟩
  have hbs := bs_any so sc (sumsL l) (R + 1) (j + 1) W4 hI (by rw [sumsL_len]; omega) (by rw [sumsL_len]; omega) Hj3.out
  rw [sumsL_len] at hbs
  go_wp2_with fail
  refine hbs.mono ?_
  rintro e W5 ⟨⟨c, rfl⟩, rfl⟩
  clear hbs c0 c1 hI
  obtain ⟨c0, c1⟩ := h4.cells
  obtain ⟨g, goff, hao, g0, g1⟩ := Hcell.out W4 h4
  subst hao
  go_wp2_with fail
  go_cut [10] (fun v wx => v = .int .i64 t ∧ PL p b (some ⟨g, goff, none⟩) cap l wx ∧ W4.grownBy wx (some b))
  case first =>
    have sj : ((j + 1 : Nat) : Int) = (j : Int) + 1 := by omega
    try rw [sj]
    go_region_law ((go_simp; go_at_call 30; refine (get_pl (p := p) (ao := some ⟨g, goff, none⟩) (cap := cap) (l := l) _ h4.drew).mono ?_; rintro e W6 ⟨⟨so6, sc6, rfl, hI6⟩, h6, hg6⟩; obtain ⟨g6, go6, rfl, dd⟩ := is_in hI6 j (by omega); rw [← HZ.out] at dd; obtain ⟨y0, y1⟩ := h6.cells; obtain ⟨gx, gxo, hax, gx0, gx1⟩ := Hcell.out W6 h6; cases hax))
    all_goals
      go_wp2_with fail
      go_meet
      exact ⟨rfl, h6, grown_trans (grown_below (below_drew (Below.refl _ _))) hg6⟩
  case rest =>
    obtain ⟨rfl, h6, hg6⟩ := hcut
    have hfin : W.grownBy wc (some b) := grown_trans hg2 (grown_trans hg4 hg6)
    clear hg2 hg4 hg6 htot
    by_cases hbig : 2251799813685248 < t
    · have HVv : Hid (V = (0, 10)) := by show V = _; rw [HV.out, if_pos hbig]
      go_wp2_with fail
      refine bodyPost_ret (v := .tuple #[.int .i64 0, .int .i64 10]) (by simp [results, Try.results11, go_sem]) rfl ?_
      exact ⟨by rw [HVv.out]; rfl, h6, hfin⟩
    · have HVv : Hid (V = (t, 0)) := by show V = _; rw [HV.out, if_neg hbig]
      go_wp2_with fail
      refine bodyPost_ret (v := .tuple #[.int .i64 t, .int .i64 0]) (by simp [results, Try.results11, go_sem]) rfl ?_
      exact ⟨by rw [HVv.out]; rfl, h6, hfin⟩
end Go.Proofs.Ytndifinjdheceaa
