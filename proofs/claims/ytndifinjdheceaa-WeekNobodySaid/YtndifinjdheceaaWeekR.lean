/- Contracts of the reference's week: Wrong, Open, Until, Between, Nth. No statement of the seat is proved here. -/
import Derived.Test.YtndifinjdheceaaWeekN
namespace Go.Proofs.Ytndifinjdheceaa
set_option linter.unusedVariables false
set_option linter.unusedSimpArgs false
set_option linter.unusedSectionVars false
open Go Go.RowKit

theorem refLen_any (ao : Option Addr) (cap : Nat) (l : List Sp) (w : World) (h0 : rowErr l = 0) (hs : Sps w ao cap l) :
    Calls Try.prog 19 #[.slice ao l.length cap] w fun e w' => e = .returned (.int .i64 (lenL l)) ∧ Below w.heap.size w w' := by
  have hl := (row_chain h0).2
  have h := refWithin_any ao cap l 0 1125899906842624 w (by omega) hs
  rw [withinK_whole h0] at h
  generalize lenL l = r at h ⊢
  go_enter Try.func19, Try.ntmps19
  go_wp2_with fail
  refine h.mono ?_
  rintro e w2 ⟨rfl, hb2⟩
  go_wp2_with fail
  go_ret
  exact ⟨rfl, hb2⟩
theorem any_drop (l : List Sp) (i : Nat) (hi : i < l.length) : (l.drop i).any (fun s => decide (604800 < s.b)) = (decide (604800 < l[i].b) || (l.drop (i + 1)).any (fun s => decide (604800 < s.b))) := by
  rw [List.drop_eq_getElem_cons hi]; rfl
set_option maxHeartbeats 1000000 in
theorem wrong_any (ao : Option Addr) (cap : Nat) (l : List Sp) (w : World) (hs : Sps w ao cap l) :
    Calls Try.prog 8 #[.slice ao l.length cap] w fun e w' => e = .returned (.int .i64 (weekErr l : Nat)) ∧ Below w.heap.size w w' := by
  have hrow := refRow_any ao cap l w hs
  by_cases h0 : rowErr l = 0
  · have hE : weekErr l = if l.any (fun s => decide (604800 < s.b)) then 2 else 0 := by unfold weekErr; rw [if_pos h0]
    obtain ⟨E, hEe⟩ : ∃ E, E = weekErr l := ⟨_, rfl⟩
    rw [← hEe] at hE ⊢
    rw [h0] at hrow
    have HE := Lib.hid hE
    have hln := (row_chain h0).2
    clear hE hEe h0
    go_enter Try.func8, Try.ntmps8
    go_wp2_with fail
    refine hrow.mono ?_
    rintro e w1 ⟨rfl, hb1⟩
    have hs1 := hs.below hb1
    go_wp2_with fail
    go_loop [4] (fun v => ∃ i : Nat, v = .int .i64 i ∧ i ≤ l.length ∧ Hid (l.any (fun s => decide (604800 < s.b)) = (l.drop i).any (fun s => decide (604800 < s.b)))) (fun v => l.length - (intOf v).toNat)
    case atStart => exact ⟨0, rfl, Nat.zero_le _, rfl⟩
    case round =>
      obtain ⟨i, rfl, hi, hri⟩ := hrel
      by_cases hlt : i < l.length
      · obtain ⟨b, off, rfl, c0, c1⟩ := hs1.get i hlt
        have Hst := Lib.hid (any_drop l i hlt)
        obtain ⟨s, hsd⟩ : ∃ s, s = l[i] := ⟨_, rfl⟩
        rw [← hsd] at c0 c1 Hst
        clear hsd
        obtain ⟨x, y⟩ := s
        simp only at c0 c1 Hst
        by_cases hy : 604800 < y
        · have he : Hid (E = 2) := by show E = 2; rw [HE.out, hri.out, Hst.out]; simp [hy]
          clear HE Hst hri
          go_wp2_with fail
          go_ret
          exact ⟨by rw [he.out]; rfl, hb1⟩
        · have hn : Hid (l.any (fun s => decide (604800 < s.b)) = (l.drop (i + 1)).any (fun s => decide (604800 < s.b))) := by show _ = _; rw [hri.out, Hst.out]; simp [hy]
          clear Hst hri
          go_wp2_with fail
          go_round
          case rel => exact ⟨i + 1, by simp, by omega, hn⟩
          case measure => simp [intOf]; omega
      · have hi' : i = l.length := by omega
        subst hi'
        have he : Hid (E = 0) := by show E = 0; rw [HE.out, hri.out, List.drop_length]; rfl
        clear HE hri
        go_wp2_with fail
        go_ret
        exact ⟨by rw [he.out]; rfl, hb1⟩
  · have hE : weekErr l = rowErr l := by unfold weekErr; rw [if_neg h0]
    rw [hE]
    have h1 : ((rowErr l : Nat) : Int) ≠ 0 := by omega
    generalize rowErr l = r at *
    go_enter Try.func8, Try.ntmps8
    go_wp2_with fail
    refine hrow.mono ?_
    rintro e w1 ⟨rfl, hb1⟩
    go_wp2_with fail
    go_ret
    exact ⟨rfl, hb1⟩
theorem refOpen_any (ao : Option Addr) (cap : Nat) (l : List Sp) (t : Int) (w : World) (h0 : rowErr l = 0) (hs : Sps w ao cap l) :
    Calls Try.prog 20 #[.slice ao l.length cap, .int .i64 t] w fun e w' => e = .returned (.bool (openL l t)) ∧ Below w.heap.size w w' := by
  by_cases ht0 : 0 ≤ t
  · by_cases ht1 : t ≤ 2251799813685248
    · have hc : openL l t = hasL l (t % 604800) := by unfold openL; simp [ht0, ht1]
      have hh := refHas_any ao cap l (t % 604800) w h0 hs
      rw [hc]
      obtain ⟨c, hce⟩ : ∃ c, c = hasL l (t % 604800) := ⟨_, rfl⟩
      rw [← hce] at hh ⊢
      clear hce hc
      go_enter Try.func20, Try.ntmps20
      go_wp2_with fail
      refine hh.mono ?_
      rintro e w2 ⟨rfl, hb2⟩
      go_wp2_with fail
      go_ret
      exact ⟨by simp, hb2⟩
    · have hc : openL l t = false := by unfold openL; simp [ht1]
      rw [hc]
      clear hc
      go_enter Try.func20, Try.ntmps20
      go_wp2_with fail
      go_ret
      exact ⟨by simp, Below.refl _ _⟩
  · have hc : openL l t = false := by unfold openL; simp [ht0]
    rw [hc]
    clear hc
    go_enter Try.func20, Try.ntmps20
    go_wp2_with fail
    go_ret
    exact ⟨by simp, Below.refl _ _⟩
theorem withinR (ao : Option Addr) (cap : Nat) (l : List Sp) (f t : Int) (w : World) (h0 : rowErr l = 0) (hs : Sps w ao cap l) :
    Calls Try.prog 33 #[.slice ao l.length cap, .int .i64 f, .int .i64 t] w fun e w' => e = .returned (.int .i64 (lenL (parts l f t))) ∧ Below w.heap.size w w' := by
  have hl := (row_chain h0).2
  have h := refWithin_any ao cap l f t w (by omega) hs
  rw [withinK_row h0] at h
  exact h
/-- Until behind the clamp -/
theorem refUntil_at (ao : Option Addr) (cap : Nat) (l : List Sp) (t : Int) (w : World) (hE : weekErr l = 0) (hs : Sps w ao cap l) :
    Calls Try.prog 14 #[.slice ao l.length cap, .int .i64 t] w fun e w' => e = .returned (.int .i64 (untilL l t)) ∧ Below w.heap.size w w' := by
  obtain ⟨h0, hw⟩ := week_row hE
  obtain ⟨c, hc⟩ : ∃ c, c = untilL l t := ⟨_, rfl⟩
  rw [← hc]
  obtain ⟨u, hu⟩ : ∃ u, u = clampT t := ⟨_, rfl⟩
  unfold untilL at hc
  rw [← hu] at hc
  have hcl := clamp_le t
  rw [← hu] at hcl
  obtain ⟨u0, u1⟩ := hcl
  have hT := total_week hE
  have hpw := parts_week hE 0 (u % 604800)
  have hml := mul_le (q := u / 604800) (T := lenL l) (by omega) (by omega) hT.1 hT.2
  have hlen := fun w' h' => refLen_any ao cap l w' h0 h'
  have hwi := fun w' h' => withinR ao cap l 0 (u % 604800) w' h0 h'
  obtain ⟨Z, hZ⟩ : ∃ Z, Z = lenL (parts l 0 (u % 604800)) := ⟨_, rfl⟩
  obtain ⟨T, hTe⟩ : ∃ T, T = lenL l := ⟨_, rfl⟩
  rw [← hZ, ← hTe] at hc hpw
  rw [← hTe] at hml hT
  simp only [← hTe] at hlen
  simp only [← hZ] at hwi
  obtain ⟨q, hq⟩ : ∃ q, q = u / 604800 := ⟨_, rfl⟩
  obtain ⟨r, hr⟩ : ∃ r, r = u % 604800 := ⟨_, rfl⟩
  simp only [← hr] at hwi
  rw [← hq] at hc hml
  obtain ⟨M, hM⟩ : ∃ M, M = q * T := ⟨_, rfl⟩
  rw [← hM] at hml hc
  obtain ⟨m0, m1⟩ := hml
  have wM : IntKind.i64.wrap (q * T) = M := by rw [← hM]; exact IntWalk.i64_in _ (by omega)
  have wN : IntKind.i64.wrap (M + Z) = M + Z := IntWalk.i64_in _ (by omega)
  obtain ⟨p0, p1⟩ := hpw
  have Hc := Lib.hid hc
  have Hu := Lib.hid hu
  have Hq := Lib.hid hq
  have Hr := Lib.hid hr
  have Hlen := Lib.hid hlen
  have Hwi := Lib.hid hwi
  clear hc hu hq hr hlen hwi hTe hZ hM
  go_enter Try.func14, Try.ntmps14
  by_cases h1 : t < 0
  · have e0 : u = 0 := by rw [Hu.out]; unfold clampT; rw [if_pos h1]; rfl
    have e1 : q = 0 := by rw [Hq.out, e0]; rfl
    have e2 : r = 0 := by rw [Hr.out, e0]; rfl
    have e3 : M = 0 := by rw [← wM, e1, Int.zero_mul]; rfl
    subst e1
    subst e2
    subst e3
    clear e0
    have HlenX := Hlen
    clear wM
    go_wp2_with fail
    refine (Hlen.out _ hs).mono ?_
    rintro e w2 ⟨rfl, hb2⟩
    go_wp2_with fail
    refine (Hwi.out _ (hs.below hb2)).mono ?_
    rintro e w3 ⟨rfl, hb3⟩
    go_wp2_with fail
    go_ret
    exact ⟨ret_int (by rw [Hc.out]; omega), below_on hb2 hb3 (Nat.le_refl _)⟩
  by_cases h2 : 2251799813685248 < t
  · have e0 : u = 2251799813685248 := by rw [Hu.out]; unfold clampT; rw [if_neg h1, if_pos (by omega)]
    have e1 : q = 3723213977 := by rw [Hq.out, e0]; rfl
    have e2 : r = 395648 := by rw [Hr.out, e0]; rfl
    subst e1
    subst e2
    clear e0
    go_wp2_with fail
    refine (Hlen.out _ hs).mono ?_
    rintro e w2 ⟨rfl, hb2⟩
    go_wp2_with fail
    refine (Hwi.out _ (hs.below hb2)).mono ?_
    rintro e w3 ⟨rfl, hb3⟩
    go_wp2_with fail
    go_ret
    exact ⟨ret_int Hc.out.symm, below_on hb2 hb3 (Nat.le_refl _)⟩
  · have e0 : u = t := by rw [Hu.out]; exact clamp_in t (by omega) (by omega)
    subst e0
    go_wp2_with fail
    rw [← Hq.out]
    refine (Hlen.out _ hs).mono ?_
    rintro e w2 ⟨rfl, hb2⟩
    go_wp2_with fail
    rw [← Hr.out]
    refine (Hwi.out _ (hs.below hb2)).mono ?_
    rintro e w3 ⟨rfl, hb3⟩
    go_wp2_with fail
    go_ret
    exact ⟨ret_int Hc.out.symm, below_on hb2 hb3 (Nat.le_refl _)⟩
theorem refBetween_any (ao : Option Addr) (cap : Nat) (l : List Sp) (f t : Int) (w : World) (hE : weekErr l = 0) (hs : Sps w ao cap l) :
    Calls Try.prog 16 #[.slice ao l.length cap, .int .i64 f, .int .i64 t] w fun e w' => e = .returned (.int .i64 (betweenL l f t)) ∧ Below w.heap.size w w' := by
  obtain ⟨c, hc⟩ : ∃ c, c = betweenL l f t := ⟨_, rfl⟩
  rw [← hc]
  unfold betweenL at hc
  have hf := until_le hE f
  have ht := until_le hE t
  have huf := fun W h => refUntil_at ao cap l f W hE h
  have hut := fun W h => refUntil_at ao cap l t W hE h
  obtain ⟨F, hF⟩ : ∃ F, F = untilL l f := ⟨_, rfl⟩
  obtain ⟨T, hT⟩ : ∃ T, T = untilL l t := ⟨_, rfl⟩
  simp only [← hF, ← hT] at hc hf ht huf hut
  have w1 : IntKind.i64.wrap (T - F) = T - F := IntWalk.i64_in _ (by omega)
  have Hc := Lib.hid hc
  have Huf := Lib.hid huf
  have Hut := Lib.hid hut
  clear hc huf hut hF hT
  go_enter Try.func16, Try.ntmps16
  go_wp2_with fail
  refine (Hut.out _ hs).mono ?_
  rintro e w2 ⟨rfl, hb2⟩
  go_wp2_with fail
  refine (Huf.out _ (hs.below hb2)).mono ?_
  rintro e w3 ⟨rfl, hb3⟩
  by_cases hneg : T - F < 0
  · have HcN : Hid (c = 0) := by show c = 0; rw [Hc.out, if_pos hneg]
    go_wp2_with fail
    go_ret
    exact ⟨ret_int HcN.out.symm, below_on hb2 hb3 (Nat.le_refl _)⟩
  · have HcN : Hid (c = T - F) := by show c = _; rw [Hc.out, if_neg hneg]
    go_wp2_with fail
    go_ret
    exact ⟨ret_int HcN.out.symm, below_on hb2 hb3 (Nat.le_refl _)⟩
set_option maxHeartbeats 2000000 in
theorem refNth7_any (ao : Option Addr) (cap : Nat) (l : List Sp) (n : Int) (w : World) (h0 : rowErr l = 0) (n0 : 0 ≤ n) (n1 : n ≤ 9223372036854775807) (hs : Sps w ao cap l) :
    Calls Try.prog 31 #[.slice ao l.length cap, .int .i64 n] w fun e w' => e = .returned (.tuple #[.int .i64 (nthL l n).1, .bool (nthL l n).2]) ∧ Below w.heap.size w w' := by
  have hrow := refRow_any ao cap l w hs
  rw [h0] at hrow
  obtain ⟨R, hR⟩ : ∃ R, R = nthL l n := ⟨_, rfl⟩
  rw [← hR]
  obtain ⟨r, c⟩ := R
  have HR := Lib.hid hR
  clear hR
  have hrt := fun i hi => row_right h0 i hi
  obtain ⟨-, hlen⟩ := row_chain h0
  clear h0
  go_enter Try.func31, Try.ntmps31
  go_wp2_with fail
  refine hrow.mono ?_
  rintro e w1 ⟨rfl, hb1⟩
  go_wp2_with fail
  go_loopw [1, 6] (fun v u wr => ∃ (i : Nat) (k : Int), v = .int .i64 k ∧ u = .int .i64 i ∧ i ≤ l.length ∧ 0 ≤ k ∧ k ≤ 9223372036854775807 ∧ Hid ((r, c) = nthL (l.drop i) k) ∧ Below w.heap.size w wr) (fun v u _ => l.length - (intOf u).toNat)
  case atStart => exact ⟨0, n, rfl, rfl, Nat.zero_le _, n0, n1, HR, hb1⟩
  case round =>
    obtain ⟨i, k, rfl, rfl, hi, hk0, hk1, hri, hb⟩ := hrel
    by_cases hlt : i < l.length
    · have hbd := hrt i hlt
      obtain ⟨b, off, rfl, c0, c1⟩ := (hs.below hb).get i hlt
      have Hst := Lib.hid (nthL_at l i hlt k)
      obtain ⟨s, hsd⟩ : ∃ s, s = l[i] := ⟨_, rfl⟩
      rw [← hsd] at c0 c1 Hst hbd
      clear hsd hrt
      obtain ⟨x, y⟩ := s
      simp only at c0 c1 Hst hbd
      obtain ⟨b1, b2, b3⟩ := hbd
      have i0 : (0 : Int) ≤ (i : Int) := by omega
      have i1 : (i : Int) < (l.length : Int) := by omega
      have e1 : IntKind.i64.wrap (y - x) = y - x := IntWalk.i64_in _ (by omega)
      have e2 : IntKind.i64.wrap (k - (y - x)) = k - (y - x) := IntWalk.i64_in _ (by omega)
      by_cases hlt2 : k < y - x
      · have e3 : IntKind.i64.wrap (x + k) = x + k := IntWalk.i64_in _ (by omega)
        have he := hri.out.trans (Hst.out.trans (if_pos hlt2))
        simp only [Prod.mk.injEq] at he
        obtain ⟨rfl, rfl⟩ := he
        have hd : decide (k < y - x) = true := by simpa using hlt2
        clear Hst hri HR
        go_wp2_with fail
        go_quiet (fail)
        have hbq : Below w.heap.size w (wr.drewN nq) := below_on hb ⟨rfl, rfl, rfl, by simp [World.drewN], fun k hk => rfl⟩ (Nat.le_refl _)
        go_wp2_with fail
        refine bodyPost_ret (v := .tuple #[.int .i64 (x + k), .bool true]) (by simp [results, Try.results31, go_sem]) rfl ?_
        exact ⟨rfl, hbq⟩
      · have He : Hid ((r, c) = nthL (l.drop (i + 1)) (k - (y - x))) := hri.out.trans (Hst.out.trans (if_neg hlt2))
        have hd : decide (k < y - x) = false := by simpa using hlt2
        clear Hst hri HR
        go_wp2_with fail
        go_quiet (fail)
        have hbq : Below w.heap.size w (wr.drewN nq) := below_on hb ⟨rfl, rfl, rfl, by simp [World.drewN], fun k hk => rfl⟩ (Nat.le_refl _)
        have c0' : (wr.drewN nq).cell? ⟨b, off + i * 2, none⟩ = some (.int .i64 x) := c0
        have c1' : (wr.drewN nq).cell? ⟨b, off + i * 2 + 1, none⟩ = some (.int .i64 y) := c1
        obtain ⟨wq, hwq⟩ : ∃ wq, wq = wr.drewN nq := ⟨_, rfl⟩
        rw [← hwq] at hbq c0' c1'
        rw [← hwq]
        clear hwq c0 c1
        go_wp2_with fail
        go_quiet (fail)
        have hbq2 : Below w.heap.size w (wq.drewN nq) := below_on hbq ⟨rfl, rfl, rfl, by simp [World.drewN], fun k hk => rfl⟩ (Nat.le_refl _)
        go_wp2_with fail
        go_roundw
        case rel => exact ⟨i + 1, k - (y - x), rfl, by simp, by omega, by omega, by omega, He, hbq2⟩
        case measure => simp [intOf]; omega
    · have hi' : i = l.length := by omega
      subst hi'
      have he := hri.out
      rw [List.drop_length] at he
      simp only [nthL, Prod.mk.injEq] at he
      obtain ⟨rfl, rfl⟩ := he
      go_wp2_with fail
      refine bodyPost_ret (v := .tuple #[.int .i64 0, .bool false]) (by simp [results, Try.results31, go_sem]) rfl ?_
      exact ⟨rfl, hb⟩
set_option maxHeartbeats 2000000 in
theorem refNth8_any (ao : Option Addr) (cap : Nat) (l : List Sp) (n : Int) (w : World) (hE : weekErr l = 0) (n1 : n ≤ 9223372036854775807) (hs : Sps w ao cap l) :
    Calls Try.prog 12 #[.slice ao l.length cap, .int .i64 n] w fun e w' => e = .returned (.tuple #[.int .i64 (nthW l n).1, .int .i64 (nthW l n).2]) ∧ Below w.heap.size w w' := by
  obtain ⟨h0, hw⟩ := week_row hE
  obtain ⟨V, hV⟩ : ∃ V, V = nthW l n := ⟨_, rfl⟩
  rw [← hV]
  unfold nthW at hV
  have hT := total_week hE
  have hlen := refLen_any ao cap l w h0 hs
  by_cases hn : n < 0
  · rw [if_pos hn] at hV
    subst hV
    go_enter Try.func12, Try.ntmps12
    go_wp2_with fail
    refine bodyPost_ret (v := .tuple #[.int .i64 0, .int .i64 2]) (by simp [results, Try.results12, go_sem]) rfl ?_
    exact ⟨rfl, Below.refl _ _⟩
  rw [if_neg hn] at hV
  by_cases hT0 : lenL l = 0
  · rw [if_pos hT0] at hV
    subst hV
    rw [hT0] at hlen
    clear hT0 hT
    go_enter Try.func12, Try.ntmps12
    go_wp2_with fail
    refine hlen.mono ?_
    rintro e w2 ⟨rfl, hb2⟩
    go_wp2_with fail
    refine bodyPost_ret (v := .tuple #[.int .i64 0, .int .i64 40]) (by simp [results, Try.results12, go_sem]) rfl ?_
    exact ⟨rfl, hb2⟩
  rw [if_neg hT0] at hV
  have h0n : 0 ≤ n := by omega
  have hR0 : 0 ≤ n % lenL l := Int.emod_nonneg _ hT0
  have hR1 : n % lenL l < lenL l := Int.emod_lt_of_pos _ (by omega)
  have hf := nth_facts hE n h0n hT0
  obtain ⟨-, -, -, -, -, g1, g2, -⟩ := hf
  have hnth := fun w' h' => refNth7_any ao cap l (n % lenL l) w' h0 hR0 (by omega) h'
  obtain ⟨T, hTe⟩ : ∃ T, T = lenL l := ⟨_, rfl⟩
  rw [← hTe] at hV hT hlen hT0 hR0 hR1 g1 g2
  simp only [← hTe] at hnth
  have hTp : 0 < T := by omega
  have hq0 : 0 ≤ n / T := Int.ediv_nonneg h0n (by omega)
  have hq1 : n / T ≤ n := Int.ediv_le_self _ h0n
  have hRT : n.tmod T = n % T := Int.tmod_eq_emod_of_nonneg h0n
  have hQT : n.tdiv T = n / T := Int.tdiv_eq_ediv_of_nonneg h0n
  obtain ⟨R, hR⟩ : ∃ R, R = n % T := ⟨_, rfl⟩
  obtain ⟨q, hq⟩ : ∃ q, q = n / T := ⟨_, rfl⟩
  rw [← hR] at hRT hR0 hR1 hV g1 g2
  rw [← hq] at hQT hq0 hq1 hV
  simp only [← hR] at hnth
  obtain ⟨x, hx⟩ : ∃ x, x = nthL l R := ⟨_, rfl⟩
  rw [← hx] at hV g1 g2
  simp only [← hx] at hnth
  obtain ⟨x, ok⟩ := x
  simp only at hnth hV g1 g2
  have w0 : IntKind.i64.wrap q = q := IntWalk.i64_in _ (by omega)
  have hTn : T ≠ 0 := by omega
  have HV := Lib.hid hV
  have Hq := Lib.hid hq
  have HR := Lib.hid hR
  have Hnth := Lib.hid hnth
  clear hV hq hR hnth hx hTe hT0
  by_cases hb : 3723213977 < q
  · have HVv : Hid (V = (0, 10)) := by show V = _; rw [HV.out, if_pos hb]
    go_enter Try.func12, Try.ntmps12
    go_wp2_with fail
    refine hlen.mono ?_
    rintro e w2 ⟨rfl, hb2⟩
    go_wp2_with fail
    refine bodyPost_ret (v := .tuple #[.int .i64 0, .int .i64 10]) (by simp [results, Try.results12, go_sem]) rfl ?_
    exact ⟨by rw [HVv.out]; rfl, hb2⟩
  have hV2 := HV.out
  rw [if_neg hb] at hV2
  have w1 : IntKind.i64.wrap (q * 604800) = q * 604800 := IntWalk.i64_in _ (by omega)
  have w2 : IntKind.i64.wrap (x + q * 604800) = x + q * 604800 := IntWalk.i64_in _ (by omega)
  have HV2 := Lib.hid hV2
  clear hV2
  by_cases hbig : 2251799813685248 < x + q * 604800
  · have HVv : Hid (V = (0, 10)) := by show V = _; rw [HV2.out, if_pos hbig]
    go_enter Try.func12, Try.ntmps12
    go_wp2_with fail
    refine hlen.mono ?_
    rintro e w2 ⟨rfl, hb2⟩
    go_wp2_with fail
    refine (Hnth.out _ (hs.below hb2)).mono ?_
    rintro e w3 ⟨rfl, hb3⟩
    go_wp2_with fail
    refine bodyPost_ret (v := .tuple #[.int .i64 0, .int .i64 10]) (by simp [results, Try.results12, go_sem]) rfl ?_
    exact ⟨by rw [HVv.out]; rfl, below_on hb2 hb3 (Nat.le_refl _)⟩
  · have HVv : Hid (V = (x + q * 604800, 0)) := by show V = _; rw [HV2.out, if_neg hbig]
    go_enter Try.func12, Try.ntmps12
    go_wp2_with fail
    refine hlen.mono ?_
    rintro e w2 ⟨rfl, hb2⟩
    go_wp2_with fail
    refine (Hnth.out _ (hs.below hb2)).mono ?_
    rintro e w3 ⟨rfl, hb3⟩
    go_wp2_with fail
    refine bodyPost_ret (v := .tuple #[.int .i64 (x + q * 604800), .int .i64 0]) (by simp [results, Try.results12, go_sem]) rfl ?_
    exact ⟨by rw [HVv.out]; rfl, below_on hb2 hb3 (Nat.le_refl _)⟩
/-- what lives starts from -/
def lv : List Sp := [⟨10, 20⟩]
theorem lv_err : weekErr lv = 0 := by decide
theorem lv_nth : nthW lv 15 = (604815, 0) := by decide
theorem lv_until : untilL lv 604815 = 15 := by decide
set_option maxHeartbeats 1000000 in
theorem lives8_any (w : World) : Calls Try.prog 9 #[] w fun e w' => e = .returned (.bool true) ∧ Below w.heap.size w w' := by
  have hsl : Sps (w.alloc (.cells #[.int .i64 10, .int .i64 20] 50)) (some ⟨w.heap.size, 0, .none⟩) 1 lv := Sps.lit lv _ _ rfl (by decide)
  have hnew := new_ok _ _ lv _ hsl lv_err
  have hne := lv_nth
  have hue := lv_until
  have Hne := Lib.hid hne
  have Hue := Lib.hid hue
  clear hne hue
  obtain ⟨W0, hW0⟩ : ∃ W0, W0 = w.alloc (.cells #[.int .i64 10, .int .i64 20] 50) := ⟨_, rfl⟩
  have hb0 : Below w.heap.size w W0 := by rw [hW0]; exact below_new _ _
  rw [← hW0] at hnew
  have Hnew := Lib.hid hnew
  clear hnew hsl
  go_enter Try.func9, Try.ntmps9
  go_wp2_with fail
  rw [← hW0]
  clear hW0
  refine Hnew.out.mono ?_
  rintro e w1 ⟨p, b, ao, cap, rfl, hP1, hbb, hb1⟩
  have hb1' := below_on hb0 hb1 (Nat.le_refl _)
  have hwb : w.heap.size ≤ b := Nat.le_trans hb0.size hbb
  go_wp2_with fail
  refine (nth_pl 15 (by omega) w1 hP1).mono ?_
  rw [Hne.out]
  rintro e w2 ⟨rfl, hP2, hg2⟩
  have hb2 := below_grown hb1' hg2 hwb hb1'.size
  go_wp2_with fail
  refine (until_pl 604815 w2 hP2).mono ?_
  rw [Hue.out]
  rintro e w3 ⟨rfl, hP3, hg3⟩
  have hb3 := below_grown hb2 hg3 hwb hb2.size
  go_wp2_with fail
  go_ret
  exact ⟨rfl, hb3⟩
end Go.Proofs.Ytndifinjdheceaa
