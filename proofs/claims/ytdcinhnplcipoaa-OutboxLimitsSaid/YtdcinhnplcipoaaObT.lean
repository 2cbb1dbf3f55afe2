/- Equality of notices; contracts of slices.Equal, outbox.Same, and of the reference's Row, Same, Find, Count. No statement of the seat is proved here. -/
import Derived.Test.YtdcinhnplcipoaaObS
namespace Go.Proofs.Ytdcinhnplcipoaa
set_option linter.unusedVariables false
set_option linter.unusedSimpArgs false
set_option linter.unusedSectionVars false
open Go Go.RowKit Go.Shelf

set_option maxHeartbeats 2000000 in
theorem eqin_no (id tk lv pt st tr rt wt nx id' tk' lv' pt' st' tr' rt' wt' nx' : Int) (w : World) : (Op.equalIn 10000 24 (.agg #[.int .u64 id, .int .u64 tk, .int .i64 lv, .int .i64 pt, .int .i64 st, .int .i64 tr, .int .i64 rt, .int .i64 wt, .int .i64 nx]) (.agg #[.int .u64 id', .int .u64 tk', .int .i64 lv', .int .i64 pt', .int .i64 st', .int .i64 tr', .int .i64 rt', .int .i64 wt', .int .i64 nx'])).run Try.prog w = .ok (decide ((⟨id, tk, lv, pt, st, tr, rt, wt, nx⟩ : No) = ⟨id', tk', lv', pt', st', tr', rt', wt', nx'⟩)) w := by
  rw [run_equalIn_agg _ _ _ _ _ (by kernel_rfl) (by kernel_rfl)]
  by_cases h0 : id = id'
  · by_cases h1 : tk = tk'
    · by_cases h2 : lv = lv'
      · by_cases h3 : pt = pt'
        · by_cases h4 : st = st'
          · by_cases h5 : tr = tr'
            · by_cases h6 : rt = rt'
              · by_cases h7 : wt = wt'
                · by_cases h8 : nx = nx'
                  · simp [Program.fieldsOf, Try.underlying24, Op.eqFields, go_sem, No.mk.injEq, h0, h1, h2, h3, h4, h5, h6, h7, h8]
                  · simp [Program.fieldsOf, Try.underlying24, Op.eqFields, go_sem, No.mk.injEq, h0, h1, h2, h3, h4, h5, h6, h7, h8]
                · simp [Program.fieldsOf, Try.underlying24, Op.eqFields, go_sem, No.mk.injEq, h0, h1, h2, h3, h4, h5, h6, h7]
              · simp [Program.fieldsOf, Try.underlying24, Op.eqFields, go_sem, No.mk.injEq, h0, h1, h2, h3, h4, h5, h6]
            · simp [Program.fieldsOf, Try.underlying24, Op.eqFields, go_sem, No.mk.injEq, h0, h1, h2, h3, h4, h5]
          · simp [Program.fieldsOf, Try.underlying24, Op.eqFields, go_sem, No.mk.injEq, h0, h1, h2, h3, h4]
        · simp [Program.fieldsOf, Try.underlying24, Op.eqFields, go_sem, No.mk.injEq, h0, h1, h2, h3]
      · simp [Program.fieldsOf, Try.underlying24, Op.eqFields, go_sem, No.mk.injEq, h0, h1, h2]
    · simp [Program.fieldsOf, Try.underlying24, Op.eqFields, go_sem, No.mk.injEq, h0, h1]
  · simp [Program.fieldsOf, Try.underlying24, Op.eqFields, go_sem, No.mk.injEq, h0]
theorem neq_no (id tk lv pt st tr rt wt nx id' tk' lv' pt' st' tr' rt' wt' nx' : Int) (w : World) : (binOp .neq 24 (.agg #[.int .u64 id, .int .u64 tk, .int .i64 lv, .int .i64 pt, .int .i64 st, .int .i64 tr, .int .i64 rt, .int .i64 wt, .int .i64 nx]) (.agg #[.int .u64 id', .int .u64 tk', .int .i64 lv', .int .i64 pt', .int .i64 st', .int .i64 tr', .int .i64 rt', .int .i64 wt', .int .i64 nx'])).run Try.prog w = .ok (.bool (!decide ((⟨id, tk, lv, pt, st, tr, rt, wt, nx⟩ : No) = ⟨id', tk', lv', pt', st', tr', rt', wt', nx'⟩))) w := by
  rw [run_neq_struct, eqin_no]; rfl
theorem eql_no (id tk lv pt st tr rt wt nx id' tk' lv' pt' st' tr' rt' wt' nx' : Int) (w : World) : (binOp .eql 24 (.agg #[.int .u64 id, .int .u64 tk, .int .i64 lv, .int .i64 pt, .int .i64 st, .int .i64 tr, .int .i64 rt, .int .i64 wt, .int .i64 nx]) (.agg #[.int .u64 id', .int .u64 tk', .int .i64 lv', .int .i64 pt', .int .i64 st', .int .i64 tr', .int .i64 rt', .int .i64 wt', .int .i64 nx'])).run Try.prog w = .ok (.bool (decide ((⟨id, tk, lv, pt, st, tr, rt, wt, nx⟩ : No) = ⟨id', tk', lv', pt', st', tr', rt', wt', nx'⟩))) w := by
  rw [run_eql_struct, eqin_no]; rfl
theorem guard_no (op : BinOp) (p q : Operand) (xs ys : Array Value) (w : World) : (eqGuard op 24 p q (.agg xs) (.agg ys)).run Try.prog w = .ok () w := run_eqGuard_agg w op _ p q xs ys (by kernel_rfl)
set_option maxRecDepth 100000 in
set_option maxHeartbeats 4000000 in
theorem equalN_any (ao ao2 : Option Addr) (cap cap2 : Nat) (l l2 : List No) (w : World) (hs : Ns w ao cap l) (hs2 : Ns w ao2 cap2 l2) (hl : l.length ≤ 1000000) (hl2 : l2.length ≤ 1000000) :
    Calls Try.prog 46 #[.slice ao l.length cap, .slice ao2 l2.length cap2] w fun e w' => e = .returned (.bool (decide (l = l2))) ∧ Below w.heap.size w w' := by
  obtain ⟨c, hc⟩ : ∃ c, c = decide (l = l2) := ⟨_, rfl⟩
  rw [← hc]
  have Hc := Lib.hid hc
  clear hc
  by_cases hll : l.length = l2.length
  · go_enter Try.func46, Try.ntmps46
    go_wp2_with fail
    go_loopw [13] (fun v wr => ∃ i : Nat, v = .int .i64 i ∧ i ≤ l.length ∧ Hid (c = decide (l.drop i = l2.drop i)) ∧ Below w.heap.size w wr) (fun v _ => l.length - (intOf v).toNat)
    case atStart => exact ⟨0, rfl, Nat.zero_le _, Hc, Below.refl _ _⟩
    case round =>
      obtain ⟨i, rfl, hi, hri, hb⟩ := hrel
      by_cases hlt : i < l.length
      · have hlt2 : i < l2.length := by omega
        obtain ⟨b, off, rfl, c0, c1, c2, c3, c4, c5, c6, c7, c8⟩ := (hs.below hb).get i hlt
        obtain ⟨b2, off2, rfl, d0, d1, d2, d3, d4, d5, d6, d7, d8⟩ := (hs2.below hb).get i hlt2
        have hst : decide (l.drop i = l2.drop i) = (decide (l[i] = l2[i]) && decide (l.drop (i + 1) = l2.drop (i + 1))) := by
          rw [List.drop_eq_getElem_cons hlt, List.drop_eq_getElem_cons hlt2, Bool.eq_iff_iff]
          simp only [decide_eq_true_eq, Bool.and_eq_true, List.cons.injEq]
        have Hst := Lib.hid hst
        clear hst
        obtain ⟨s, hsd⟩ : ∃ s, s = l[i] := ⟨_, rfl⟩
        obtain ⟨s2, hsd2⟩ : ∃ s, s = l2[i] := ⟨_, rfl⟩
        rw [← hsd] at c0 c1 c2 c3 c4 c5 c6 c7 c8 Hst
        rw [← hsd2] at d0 d1 d2 d3 d4 d5 d6 d7 d8 Hst
        clear hsd hsd2
        obtain ⟨id, tk, lv, pt, st, tr, rt, wt, nx⟩ := s
        obtain ⟨id', tk', lv', pt', st', tr', rt', wt', nx'⟩ := s2
        simp only at c0 c1 c2 c3 c4 c5 c6 c7 c8 d0 d1 d2 d3 d4 d5 d6 d7 d8
        have nse := neq_no id tk lv pt st tr rt wt nx id' tk' lv' pt' st' tr' rt' wt' nx'
        have ng := guard_no
        obtain ⟨z, hz⟩ : ∃ z, z = decide ((⟨id, tk, lv, pt, st, tr, rt, wt, nx⟩ : No) = ⟨id', tk', lv', pt', st', tr', rt', wt', nx'⟩) := ⟨_, rfl⟩
        rw [← hz] at Hst
        simp only [← hz] at nse
        have Hc2 : Hid (c = (z && decide (l.drop (i + 1) = l2.drop (i + 1)))) := by show c = _; rw [hri.out, Hst.out]
        clear hz Hst hri
        have i0 : (0 : Int) ≤ (i : Int) := by omega
        have i1 : (i : Int) < (l.length : Int) := by omega
        have i2 : (i : Int) < (l2.length : Int) := by omega
        go_wp2_with fail
        go_quiet (fail)
        have hbq : Below w.heap.size w (wr.drewN nq) := below_on hb ⟨rfl, rfl, rfl, by simp [World.drewN], fun k hk => rfl⟩ (Nat.le_refl _)
        clear nse ng
        cases z with
        | false =>
          go_wp2_with fail
          go_ret
          exact ⟨ret_bool (by rw [Hc2.out]; rfl), hbq⟩
        | true =>
          go_wp2_with fail
          go_roundw
          case rel => exact ⟨i + 1, by simp, by omega, (by show c = _; rw [Hc2.out]; simp), hbq⟩
          case measure => simp [intOf]; omega
      · have hi' : i = l.length := by omega
        subst hi'
        go_wp2_with fail
        go_ret
        refine ⟨ret_bool ?_, hb⟩
        rw [hri.out, List.drop_length, hll, List.drop_length]; simp
  · have h2 : (l.length : Int) ≠ (l2.length : Int) := by omega
    have hne : l ≠ l2 := fun h => hll (by rw [h])
    have HcF : Hid (c = false) := by show c = false; rw [Hc.out]; simp [hne]
    clear hne Hc
    go_enter Try.func46, Try.ntmps46
    go_wp2
    go_ret
    exact ⟨ret_bool HcF.out.symm, Below.refl _ _⟩
set_option maxRecDepth 100000 in
set_option maxHeartbeats 4000000 in
theorem refRow_any (ao ao2 : Option Addr) (cap cap2 : Nat) (l l2 : List No) (w : World) (hs : Ns w ao cap l) (hs2 : Ns w ao2 cap2 l2) (hl : l.length ≤ 1000000) (hl2 : l2.length ≤ 1000000) :
    Calls Try.prog 53 #[.slice ao l.length cap, .slice ao2 l2.length cap2] w fun e w' => e = .returned (.bool (decide (l = l2))) ∧ Below w.heap.size w w' := by
  obtain ⟨c, hc⟩ : ∃ c, c = decide (l = l2) := ⟨_, rfl⟩
  rw [← hc]
  have Hc := Lib.hid hc
  clear hc
  by_cases hll : l.length = l2.length
  · go_enter Try.func53, Try.ntmps53
    go_wp2_with fail
    go_loopw [5] (fun v wr => ∃ i : Nat, v = .int .i64 i ∧ i ≤ l.length ∧ Hid (c = decide (l.drop i = l2.drop i)) ∧ Below w.heap.size w wr) (fun v _ => l.length - (intOf v).toNat)
    case atStart => exact ⟨0, rfl, Nat.zero_le _, Hc, Below.refl _ _⟩
    case round =>
      obtain ⟨i, rfl, hi, hri, hb⟩ := hrel
      by_cases hlt : i < l.length
      · have hlt2 : i < l2.length := by omega
        obtain ⟨b, off, rfl, c0, c1, c2, c3, c4, c5, c6, c7, c8⟩ := (hs.below hb).get i hlt
        obtain ⟨b2, off2, rfl, d0, d1, d2, d3, d4, d5, d6, d7, d8⟩ := (hs2.below hb).get i hlt2
        have hst : decide (l.drop i = l2.drop i) = (decide (l[i] = l2[i]) && decide (l.drop (i + 1) = l2.drop (i + 1))) := by
          rw [List.drop_eq_getElem_cons hlt, List.drop_eq_getElem_cons hlt2, Bool.eq_iff_iff]
          simp only [decide_eq_true_eq, Bool.and_eq_true, List.cons.injEq]
        have Hst := Lib.hid hst
        clear hst
        obtain ⟨s, hsd⟩ : ∃ s, s = l[i] := ⟨_, rfl⟩
        obtain ⟨s2, hsd2⟩ : ∃ s, s = l2[i] := ⟨_, rfl⟩
        rw [← hsd] at c0 c1 c2 c3 c4 c5 c6 c7 c8 Hst
        rw [← hsd2] at d0 d1 d2 d3 d4 d5 d6 d7 d8 Hst
        clear hsd hsd2
        obtain ⟨id, tk, lv, pt, st, tr, rt, wt, nx⟩ := s
        obtain ⟨id', tk', lv', pt', st', tr', rt', wt', nx'⟩ := s2
        simp only at c0 c1 c2 c3 c4 c5 c6 c7 c8 d0 d1 d2 d3 d4 d5 d6 d7 d8
        have nse := neq_no id tk lv pt st tr rt wt nx id' tk' lv' pt' st' tr' rt' wt' nx'
        have ng := guard_no
        obtain ⟨z, hz⟩ : ∃ z, z = decide ((⟨id, tk, lv, pt, st, tr, rt, wt, nx⟩ : No) = ⟨id', tk', lv', pt', st', tr', rt', wt', nx'⟩) := ⟨_, rfl⟩
        rw [← hz] at Hst
        simp only [← hz] at nse
        have Hc2 : Hid (c = (z && decide (l.drop (i + 1) = l2.drop (i + 1)))) := by show c = _; rw [hri.out, Hst.out]
        clear hz Hst hri
        have i0 : (0 : Int) ≤ (i : Int) := by omega
        have i1 : (i : Int) < (l.length : Int) := by omega
        have i2 : (i : Int) < (l2.length : Int) := by omega
        go_wp2_with fail
        go_quiet (fail)
        have hbq : Below w.heap.size w (wr.drewN nq) := below_on hb ⟨rfl, rfl, rfl, by simp [World.drewN], fun k hk => rfl⟩ (Nat.le_refl _)
        clear nse ng
        cases z with
        | false =>
          go_wp2_with fail
          go_ret
          exact ⟨ret_bool (by rw [Hc2.out]; rfl), hbq⟩
        | true =>
          go_wp2_with fail
          go_roundw
          case rel => exact ⟨i + 1, by simp, by omega, (by show c = _; rw [Hc2.out]; simp), hbq⟩
          case measure => simp [intOf]; omega
      · have hi' : i = l.length := by omega
        subst hi'
        go_wp2_with fail
        go_ret
        refine ⟨ret_bool ?_, hb⟩
        rw [hri.out, List.drop_length, hll, List.drop_length]; simp
  · have h2 : (l.length : Int) ≠ (l2.length : Int) := by omega
    have hne : l ≠ l2 := fun h => hll (by rw [h])
    have HcF : Hid (c = false) := by show c = false; rw [Hc.out]; simp [hne]
    clear hne Hc
    go_enter Try.func53, Try.ntmps53
    go_wp2
    go_ret
    exact ⟨ret_bool HcF.out.symm, Below.refl _ _⟩
def stVal (last : Int) (v : Value) : Value := .agg #[.int .u64 last, v]
theorem sameS_any (a b : Int) (ao ao2 : Option Addr) (cap cap2 : Nat) (l l2 : List No) (w : World) (hs : Ns w ao cap l) (hs2 : Ns w ao2 cap2 l2) (hl : l.length ≤ 1000000) (hl2 : l2.length ≤ 1000000) :
    Calls Try.prog 16 #[.agg #[.int .u64 a, .slice ao l.length cap], .agg #[.int .u64 b, .slice ao2 l2.length cap2]] w fun e w' => e = .returned (.bool (decide (a = b) && decide (l = l2))) ∧ Below w.heap.size w w' := by
  by_cases hab : a = b
  · have H := fun W h1 h2 => equalN_any ao ao2 cap cap2 l l2 W h1 h2 hl hl2
    obtain ⟨c, hc⟩ : ∃ c, c = decide (l = l2) := ⟨_, rfl⟩
    simp only [← hc] at H ⊢
    have HH := Lib.hid H
    clear H hc
    subst hab
    go_enter Try.func16, Try.ntmps16
    go_wp2_with fail
    refine (HH.out _ (hs.below ((below_new _ _).alloc (by simp) _)) (hs2.below ((below_new _ _).alloc (by simp) _))).mono ?_
    rintro e w2 ⟨rfl, hb2⟩
    go_wp2_with fail
    go_ret
    exact ⟨by simp, below_on ((below_new _ _).alloc (by simp) _) hb2 (Nat.le_refl _)⟩
  · have h2 : (a == b) = false := by simpa using hab
    have e1 : (decide (a = b) && decide (l = l2)) = false := by simp [hab]
    rw [e1]
    clear e1
    go_enter Try.func16, Try.ntmps16
    go_wp2_with fail
    go_ret
    exact ⟨by simp [h2], (below_new _ _).alloc (by simp) _⟩
theorem refSame_any (a b : Int) (ao ao2 : Option Addr) (cap cap2 : Nat) (l l2 : List No) (w : World) (hs : Ns w ao cap l) (hs2 : Ns w ao2 cap2 l2) (hl : l.length ≤ 1000000) (hl2 : l2.length ≤ 1000000) :
    Calls Try.prog 24 #[.agg #[.int .u64 a, .slice ao l.length cap], .agg #[.int .u64 b, .slice ao2 l2.length cap2]] w fun e w' => e = .returned (.bool (decide (a = b) && decide (l = l2))) ∧ Below w.heap.size w w' := by
  by_cases hab : a = b
  · have H := fun W h1 h2 => refRow_any ao ao2 cap cap2 l l2 W h1 h2 hl hl2
    obtain ⟨c, hc⟩ : ∃ c, c = decide (l = l2) := ⟨_, rfl⟩
    simp only [← hc] at H ⊢
    have HH := Lib.hid H
    clear H hc
    subst hab
    go_enter Try.func24, Try.ntmps24
    go_wp2_with fail
    refine (HH.out _ (hs.below ((below_new _ _).alloc (by simp) _)) (hs2.below ((below_new _ _).alloc (by simp) _))).mono ?_
    rintro e w2 ⟨rfl, hb2⟩
    go_wp2_with fail
    go_ret
    exact ⟨by simp, below_on ((below_new _ _).alloc (by simp) _) hb2 (Nat.le_refl _)⟩
  · have h2 : (a == b) = false := by simpa using hab
    have e1 : (decide (a = b) && decide (l = l2)) = false := by simp [hab]
    rw [e1]
    clear e1
    go_enter Try.func24, Try.ntmps24
    go_wp2_with fail
    go_ret
    exact ⟨by simp [h2], (below_new _ _).alloc (by simp) _⟩
end Go.Proofs.Ytdcinhnplcipoaa
