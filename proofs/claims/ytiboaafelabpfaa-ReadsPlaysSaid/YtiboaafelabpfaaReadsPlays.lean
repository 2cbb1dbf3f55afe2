/- The walk of the law ReadsPlays. -/
import Derived.Test.YtiboaafelabpfaaReadsP
import Derived.Test.YtiboaafelabpfaaReadsH
namespace Go.Proofs.Ytiboaafelabpfaa
set_option linter.unusedVariables false
set_option linter.unusedSimpArgs false
set_option linter.unusedSectionVars false
open Go Go.RowKit
attribute [local go_sem ↓] Go.wp_at_zero Go.wp_at_succ

set_option maxHeartbeats 4000000 in
set_option maxRecDepth 100000 in
theorem readsPlays_far (ao : Option Addr) (cap : Nat) (l : List I3) (w : World) (hs : I3s w .i64 .u64 .u64 ao cap l) (h : 200 < l.length) :
    Calls Try.prog 3 #[.slice ao l.length cap] w fun e w' => e = .returned (.bool true) ∧ Below w.heap.size w w' := by
  go_enter Try.func3, Try.ntmps3
  go_wp2_with fail
  refine (lives_true _).mono ?_
  rintro e w1 ⟨rfl, hB⟩
  go_wp2_with fail
  go_ret
  exact ⟨rfl, hB⟩

set_option maxHeartbeats 4000000 in
set_option maxRecDepth 100000 in
theorem readsPlays_near (ao : Option Addr) (cap : Nat) (l : List I3) (w : World) (hs : I3s w .i64 .u64 .u64 ao cap l) (hok : I3ok .i64 .u64 .u64 l) (h : ¬ 200 < l.length) :
    Calls Try.prog 3 #[.slice ao l.length cap] w fun e w' => e = .returned (.bool true) ∧ Below w.heap.size w w' := by
  go_enter Try.func3, Try.ntmps3
  go_wp2_with fail
  refine (new_any _).mono ?_
  rintro e w1 ⟨rfl, hq, hB⟩
  go_wp2_with fail
  go_loopw [24] (fun i wx => ∃ k : Nat, k ≤ l.length ∧ i = .int .i64 k ∧ Both wx w.heap.size w1.heap.size ∧ Below w.heap.size w wx ∧ w1.heap.size < wx.heap.size) (fun i _ => l.length - (intOf i).toNat)
  case atStart =>
    have hbz : w.heap.size < w1.heap.size := (Array.getElem?_eq_some_iff.1 hq).1
    exact ⟨0, Nat.zero_le _, rfl, ⟨0, 0, [], none, 0, none, 0, by omega, by omega, by simp, (heap_alloc_old _ _ hbz).trans hq, Rw.nil _ _ _, heap_alloc_new _ _, Rw.nil _ _ _⟩, below_on hB (below_new _ _) (Nat.le_refl _), by simp⟩
  case round =>
    obtain ⟨k, hk, rfl, hBo, hB2, hlt⟩ := hrel
    obtain ⟨begun, sure, lr, aq, cq, ar, cr, g0, g1, gl, hQ, hW, hM, hR⟩ := hBo
    by_cases hkl : k < l.length
    · obtain ⟨b', off, rfl, d0, d1, d2⟩ := I3s.get (I3s.below hs hB2) k hkl
      have hw0 := hok _ (List.getElem_mem hkl)
      obtain ⟨o, ho⟩ : ∃ o, o = l[k] := ⟨_, rfl⟩
      rw [← ho] at d0 d1 d2 hw0
      clear ho
      obtain ⟨n, x, y⟩ := o
      simp only at d0 d1 d2 hw0
      have z1 := cell?_lt d0
      have m0 := block_cell hM 0
      have m1 := block_cell hM 1
      have m2 := block_cell hM 2
      simp at m0 m1 m2
      go_upto_block 2 with fail
      go_cut [3, 4, 6, 7] (fun v3 v4 v6 v7 wx => v3 = .pointer (some ⟨w.heap.size, 0, none⟩) ∧ v4 = .pointer (some ⟨w1.heap.size, 0, none⟩) ∧ v7 = .bool true ∧ St w w1 wx)
      case first =>
        have hbm : w.heap.size < w1.heap.size := (Array.getElem?_eq_some_iff.1 hq).1
        have hblt : w.heap.size < wr.heap.size := (Array.getElem?_eq_some_iff.1 hQ).1
        rcases (show n = 1 ∨ n = 2 ∨ n = 3 ∨ n = 4 ∨ (n ≠ 1 ∧ n ≠ 2 ∧ n ≠ 3 ∧ n ≠ 4) by omega) with rfl | rfl | rfl | rfl | ⟨n1, n2, n3, n4⟩
        · go_wp2_with fail
          refine (rbegin_at _ begun sure ar lr.length cr g0 g1).mono ?_
          rintro e w2 ⟨rfl, hB3⟩
          unfold RQ
          obtain ⟨begun', hbe⟩ : ∃ x, x = min (begun + 1) 1152921504606846976 := ⟨_, rfl⟩
          rw [← hbe]
          obtain ⟨W, hWd⟩ : ∃ W, W = w2.alloc (.cells #[.int .u64 begun', .int .u64 sure, .slice ar lr.length cr] 29) := ⟨_, rfl⟩
          have hB4 : Below wr.heap.size wr W := by rw [hWd]; exact below_on (below_on (below_new _ _) hB3 (by simp)) (below_new _ _) (Nat.le_refl _)
          have hQ4 : Q W w.heap.size true begun sure aq lr.length cq := (hB4.block _ hblt).trans hQ
          have hM4 := (hB4.block _ hlt).trans hM
          have p0 : W.cell? ⟨w2.heap.size, 0, none⟩ = some (.int .u64 begun') := by rw [hWd]; exact cell?_new _ _ _ _ 0
          have p1 : W.cell? ⟨w2.heap.size, 1, none⟩ = some (.int .u64 sure) := by rw [hWd]; exact cell?_new _ _ _ _ 1
          have p2 : W.cell? ⟨w2.heap.size, 2, none⟩ = some (.slice ar lr.length cr) := by rw [hWd]; exact cell?_new _ _ _ _ 2
          have Hbe := Lib.hid hbe
          clear hbe
          go_wp2_with fail
          rw [← hWd]
          have s0 := block_free hM4 0
          have s1 := block_free hM4 1
          have s2 := block_free hM4 2
          have k0 := block_cell hM4 0
          have k1 := block_cell hM4 1
          have k2 := block_cell hM4 2
          simp at k0 k1 k2
          have hb2 : w.heap.size < w2.heap.size := Nat.lt_of_lt_of_le hblt (Nat.le_trans (by simp) hB3.size)
          have hm2 : w1.heap.size < w2.heap.size := Nat.lt_of_lt_of_le hlt (Nat.le_trans (by simp) hB3.size)
          clear hWd
          have hs := block_set hQ4 1 (.int .u64 begun')
          have hn : w1.heap.size ≠ w.heap.size := by omega
          have fin := st_store (w := w) (w1 := w1) hbm (by have := Hbe.out; omega) (by have := Hbe.out; omega) gl hs (Rw.grown (Rw.below hW hB4) (grown_set _ _ _ _) (elem?_of hQ4) (by decide)) (Rw.grown (Rw.below hR hB4) (grown_set _ _ _ _) (elem?_of hQ4) (by decide)) ((heap_setCell_other W ⟨w.heap.size, 1, none⟩ _ _ hn).trans hM4) (below_set_new (below_on hB2 hB4 (Nat.le_refl _)) (Nat.le_refl _))
          have Fin := Lib.hid fin
          clear fin hs
          go_region_law (first
            | (go_simp; go_at_call 9; refine (begin_at W.drew w.heap.size begun sure aq lr.length cq hQ4 g0 g1).mono ?_; rintro e w' ⟨rfl, rfl⟩))
          all_goals
            go_wp2_with fail
            go_meet
            refine ⟨rfl, rfl, ?_, ?_⟩
            · rw [Hbe.out]; simp
            · rw [← Hbe.out]
              first | exact Fin.out | exact Fin.out.drew
        · go_wp2_with fail
          refine (rconfirm_at _ begun sure x ar lr.length cr).mono ?_
          rintro e w2 ⟨rfl, hB3⟩
          unfold RQ
          obtain ⟨sure', hsu⟩ : ∃ s, s = max sure (min x begun) := ⟨_, rfl⟩
          rw [← hsu]
          have hB4 : Below wr.heap.size wr w2 := below_on (below_new _ _) hB3 (by simp)
          have hQ4 : Q w2 w.heap.size true begun sure aq lr.length cq := (hB4.block _ hblt).trans hQ
          have hM4 := (hB4.block _ hlt).trans hM
          have o1 : w2.cell? ⟨wr.heap.size, 1, none⟩ = some (.int .u64 x) := (hB3.cell (p := ⟨wr.heap.size, 1, none⟩) (by simp)).trans (cell?_new _ _ _ _ 1)
          have s0 := block_free hM4 0
          have s1 := block_free hM4 1
          have s2 := block_free hM4 2
          have k0 := block_cell hM4 0
          have k1 := block_cell hM4 1
          have k2 := block_cell hM4 2
          simp at k0 k1 k2
          have hQ5 : Q (((w2.setCell ⟨w1.heap.size, 0, none⟩ (.int .u64 begun)).setCell ⟨w1.heap.size, 1, none⟩ (.int .u64 sure')).setCell ⟨w1.heap.size, 2, none⟩ (.slice ar lr.length cr)) w.heap.size true begun sure aq lr.length cq :=
            ((grown_sets0 w2 w1.heap.size (.int .u64 begun) (.int .u64 sure') (.slice ar lr.length cr)).block _ (Nat.lt_of_lt_of_le hblt hB4.size) (by simp; omega)).trans hQ4
          have HQ5 := Lib.hid hQ5
          have Hsu := Lib.hid hsu
          have hB5 := below_store (u0 := .int .u64 begun) (u1 := .int .u64 sure') (u2 := .slice ar lr.length cr) (below_on hB2 hB4 (Nat.le_refl _)) (Nat.le_of_lt hbm)
          clear hQ5 hsu
          go_wp2_with fail
          refine (confirm_at _ w.heap.size begun sure x aq _ cq HQ5.out).mono ?_
          rintro e w3 ⟨rfl, hQ6, hg6⟩
          go_wp2_with fail
          go_meet
          refine ⟨rfl, rfl, rfl, ?_⟩
          rw [← Hsu.out] at hQ6
          exact st_confirm hbm g0 g1 gl hQ4 (Rw.below hW hB4) (Rw.below hR hB4) hM4 (below_on hB2 hB4 (Nat.le_refl _)) hQ6 hg6
        · go_wp2_with fail
          refine (rtake_at _ begun sure x ar cr lr (Rw.below hR (below_new _ _)) (by omega)).mono ?_
          intro e w2 hp
          obtain ⟨a1, c1, a2, c2, rfl, r1, r2, hB3⟩ := hp
          unfold RQ
          obtain ⟨W, hWd⟩ : ∃ W, W = w2.alloc (.cells #[.int .u64 begun, .int .u64 sure, .slice a2 (lr.filter (fun r => !ripe sure x r)).length c2] 29) := ⟨_, rfl⟩
          have hB3' : Below wr.heap.size wr w2 := below_on (below_new _ _) hB3 (by simp)
          have hz3 := hB3.size
          simp at hz3
          have hB5 : Below w2.heap.size w2 W := by rw [hWd]; exact below_new _ _
          have hB4 : Below wr.heap.size wr W := below_on hB3' hB5 (Nat.le_refl _)
          have hS : Sa w w1 w2.heap.size wr.heap.size begun sure x lr a1 c1 a2 c2 W #[.int .u64 begun, .int .u64 sure, .slice ar lr.length cr] :=
            ⟨⟨aq, cq, q_below hQ hB4, Rw.below hW hB4⟩, by rw [hWd]; exact heap_alloc_new _ _, (hB5.cell (p := ⟨wr.heap.size, 1, none⟩) (by simp; omega)).trans ((hB3.cell (p := ⟨wr.heap.size, 1, none⟩) (by simp)).trans (cell?_new _ _ _ _ 1)), Rw.below r1 hB5, Rw.below r2 hB5, (hB4.block _ hlt).trans hM, below_on hB2 hB4 (Nat.le_refl _), hbm, by omega, by omega, rfl⟩
          go_wp2_with fail
          rw [← hWd]
          clear hWd
          obtain ⟨e0, e1, e2, e3⟩ := hS.2.cells
          obtain ⟨⟨v0, t0⟩, ⟨v1, t1⟩, ⟨v2, t2⟩, s0, s1, s2⟩ := hS.2.tell
          go_region_held3 (fun W' => (W'.cell? ⟨w2.heap.size, 0, none⟩ = some (.int .u64 begun) ∧ W'.cell? ⟨w2.heap.size, 1, none⟩ = some (.int .u64 sure) ∧ W'.cell? ⟨w2.heap.size, 2, none⟩ = some (.slice a2 (lr.filter (fun r => !ripe sure x r)).length c2) ∧ W'.cell? ⟨wr.heap.size, 1, none⟩ = some (.int .u64 x)))
            (first | exact hS.2.cells | exact hS.2.2.cells | exact hS.2.store.cells | exact hS.2.2.store.cells)
            (first
              | (go_at_call 15; refine (take_s (M := ?_) (w := w) (w1 := w1) (p := w2.heap.size) (o := wr.heap.size) (begun := begun) (sure := sure) (lr := lr) (a1 := a1) (c1 := c1) (a2 := a2) (c2 := c2) ?_ ?_).mono ?_; rotate_left; omega; (repeat (first | exact hS | with_reducible refine Sa.drew ?_ | with_reducible refine Sa.store ?_)); rintro e W' ⟨a, c, rfl, hS⟩; obtain ⟨⟨v0, t0⟩, ⟨v1, t1⟩, ⟨v2, t2⟩, s0, s1, s2⟩ := hS.2.2.tell)
              | (go_at_call 14; refine (plain_s (M := ?_) (w := w) (w1 := w1) (p := w2.heap.size) (o := wr.heap.size) (begun := begun) (sure := sure) (lr := lr) (a1 := a1) (c1 := c1) (a2 := a2) (c2 := c2) ?_ ?_).mono ?_; rotate_left; omega; (repeat (first | exact hS | with_reducible refine Sb.drew ?_ | with_reducible refine Sb.store ?_)); rintro e W' ⟨a, c, rfl, hS⟩; obtain ⟨⟨v0, t0⟩, ⟨v1, t1⟩, ⟨v2, t2⟩, s0, s1, s2⟩ := hS.2.2.tell)
              | (go_at_call 13; refine (same_s (M := ?_) (w := w) (w1 := w1) (p := w2.heap.size) (o := wr.heap.size) (begun := begun) (sure := sure) (lr := lr) (a1 := a1) (c1 := c1) (a2 := a2) (c2 := c2) ?_ ?_).mono ?_; rotate_left; omega; (repeat (first | exact hS | with_reducible refine Sc.drew ?_ | with_reducible refine Sc.store ?_)); rintro e W' ⟨rfl, hS⟩; obtain ⟨⟨v0, t0⟩, ⟨v1, t1⟩, ⟨v2, t2⟩, s0, s1, s2⟩ := hS.2.2.tell))
          all_goals
            go_wp2_with fail
            go_meet
            refine ⟨rfl, rfl, ?_, ?_⟩
            · simp
            · first | exact hS.fin g0 g1 gl | exact hS.store.fin g0 g1 gl | exact hS.drew.fin g0 g1 gl | exact hS.drew.store.fin g0 g1 gl | exact hS.store.drew.fin g0 g1 gl
        · have hB4 : Below wr.heap.size wr (wr.alloc (.cells #[.int .i64 4, .int .u64 x, .int .u64 y] 31)) := below_new _ _
          have hS : Sd w w1 begun sure lr ar cr (wr.alloc (.cells #[.int .i64 4, .int .u64 x, .int .u64 y] 31)) := ⟨⟨aq, cq, q_below hQ hB4, Rw.below hW hB4⟩, (hB4.block _ hlt).trans hM, Rw.below hR hB4, below_on hB2 hB4 (Nat.le_refl _), hbm⟩
          have e2 := hS.2.cell
          go_wp2_with fail
          go_region_held3 (fun W' => (W'.cell? ⟨w1.heap.size, 2, none⟩ = some (.slice ar lr.length cr)))
            (first | exact hS.2.cell | exact hS.2.2.cell)
            (first
              | (go_at_call 16; refine (drop_s (w := w) (w1 := w1) (begun := begun) (sure := sure) (lr := lr) (ar := ar) (cr := cr) ?_ ?_).mono ?_; omega; (repeat (first | exact hS | with_reducible refine Sd.drew ?_)); rintro e W' ⟨a, c, rfl, hS⟩)
              | (go_at_call 14; refine (plain_s4 (w := w) (w1 := w1) (begun := begun) (sure := sure) (lr := lr) (ar := ar) (cr := cr) ?_ ?_).mono ?_; omega; (repeat (first | exact hS | with_reducible refine Se.drew ?_)); rintro e W' ⟨a, c, rfl, hS⟩)
              | (go_at_call 13; refine (same_s4 (w := w) (w1 := w1) (begun := begun) (sure := sure) (lr := lr) (ar := ar) (cr := cr) ?_ ?_).mono ?_; omega; (repeat (first | exact hS | with_reducible refine Sf.drew ?_)); rintro e W' ⟨rfl, hS⟩))
          all_goals
            have t2 := hS.2.2.cell
            have s2 := block_free hS.2.2.1 2
            go_wp2_with fail
            go_meet
            refine ⟨rfl, rfl, ?_, ?_⟩
            · simp
            · first | exact hS.fin g0 g1 | exact hS.drew.fin g0 g1
        · have hB0 : Below wr.heap.size wr (wr.alloc (.cells #[.int .i64 n, .int .u64 x, .int .u64 y] 31)) := below_new _ _
          have o1 : ∀ W, Below (wr.alloc (.cells #[.int .i64 n, .int .u64 x, .int .u64 y] 31)).heap.size (wr.alloc (.cells #[.int .i64 n, .int .u64 x, .int .u64 y] 31)) W → W.cell? ⟨wr.heap.size, 1, none⟩ = some (.int .u64 x) ∧ W.cell? ⟨wr.heap.size, 2, none⟩ = some (.int .u64 y) :=
            fun W h => ⟨(h.cell (p := ⟨wr.heap.size, 1, none⟩) (by simp)).trans (cell?_new _ _ _ _ 1), (h.cell (p := ⟨wr.heap.size, 2, none⟩) (by simp)).trans (cell?_new _ _ _ _ 2)⟩
          have O1 := Lib.hid o1
          clear o1
          rcases (show 32 ≤ lr.length ∨ (lr.length < 32 ∧ 1152921504606846976 ≤ begun) ∨ (lr.length < 32 ∧ begun < 1152921504606846976) by omega) with hf | ⟨hf, hg⟩ | ⟨hf, hg⟩
          · go_wp2_with fail
            refine (rask_full _ begun sure x y ar _ cr hf).mono ?_
            rintro e w2 ⟨rfl, hB3⟩
            unfold RQ
            have hB4 := below_on hB3 (below_new w2 (.cells #[.int .u64 begun, .int .u64 sure, .slice ar lr.length cr] 29)) (Nat.le_refl _)
            have hB5 := below_on hB0 hB4 (by simp)
            obtain ⟨o1, o2⟩ := O1.out _ hB4
            have hQ4 := q_below hQ hB5
            have hM4 := (hB5.block _ hlt).trans hM
            have s0 := block_free hM4 0
            have s1 := block_free hM4 1
            have s2 := block_free hM4 2
            have k0 := block_cell hM4 0
            have k1 := block_cell hM4 1
            have k2 := block_cell hM4 2
            simp at k0 k1 k2
            go_wp2_with fail
            refine (ask_full _ w.heap.size begun sure x y aq _ cq hQ4 hf).mono ?_
            rintro e w3 ⟨rfl, rfl⟩
            go_wp2_with fail
            go_meet
            refine ⟨rfl, rfl, ?_, ?_⟩
            · simp
            · exact st_store hbm g0 g1 gl hQ4 (Rw.below hW hB5) (Rw.below hR hB5) hM4 (below_on hB2 hB5 (Nat.le_refl _))
          · go_wp2_with fail
            refine (rask_big _ begun sure x y ar _ cr hf hg).mono ?_
            rintro e w2 ⟨rfl, hB3⟩
            unfold RQ
            have hB4 := below_on hB3 (below_new w2 (.cells #[.int .u64 begun, .int .u64 sure, .slice ar lr.length cr] 29)) (Nat.le_refl _)
            have hB5 := below_on hB0 hB4 (by simp)
            obtain ⟨o1, o2⟩ := O1.out _ hB4
            have hQ4 := q_below hQ hB5
            have hM4 := (hB5.block _ hlt).trans hM
            have s0 := block_free hM4 0
            have s1 := block_free hM4 1
            have s2 := block_free hM4 2
            have k0 := block_cell hM4 0
            have k1 := block_cell hM4 1
            have k2 := block_cell hM4 2
            simp at k0 k1 k2
            go_wp2_with fail
            refine (ask_big _ w.heap.size begun sure x y aq _ cq hQ4 hf hg).mono ?_
            rintro e w3 ⟨rfl, rfl⟩
            go_wp2_with fail
            go_meet
            refine ⟨rfl, rfl, ?_, ?_⟩
            · simp
            · exact st_store hbm g0 g1 gl hQ4 (Rw.below hW hB5) (Rw.below hR hB5) hM4 (below_on hB2 hB5 (Nat.le_refl _))
          · go_wp2_with fail
            refine (rask_ok _ begun sure x y ar cr lr (Rw.below hR hB0) hf g0 hg).mono ?_
            intro e w2 hp
            obtain ⟨a', c', rfl, r1, hB3⟩ := hp
            unfold RQ
            obtain ⟨W, hWd⟩ : ∃ W, W = w2.alloc (.cells #[.int .u64 (begun + 1), .int .u64 sure, .slice a' (lr.length + 1) c'] 29) := ⟨_, rfl⟩
            have hB6 : Below w2.heap.size w2 W := by rw [hWd]; exact below_new _ _
            have hB4 := below_on hB3 hB6 (Nat.le_refl _)
            have hB5 := below_on hB0 hB4 (by simp)
            obtain ⟨o1, o2⟩ := O1.out _ (below_on hB3 (below_new w2 (.cells #[.int .u64 (begun + 1), .int .u64 sure, .slice a' (lr.length + 1) c'] 29)) (Nat.le_refl _))
            have hQ4 := q_below hQ hB5
            have hM4 := (hB5.block _ hlt).trans hM
            have hP4 : W.heap[w2.heap.size]? = some (.cells #[.int .u64 (begun + 1), .int .u64 sure, .slice a' (lr.length + 1) c'] 29 (0, 0)) := by rw [hWd]; exact heap_alloc_new _ _
            have hzz : w1.heap.size < w2.heap.size := Nat.lt_of_lt_of_le hlt (Nat.le_trans (by simp) hB3.size)
            go_wp2_with fail
            rw [← hWd]
            clear hWd
            refine (ask_ok _ w.heap.size begun sure x y aq cq lr hQ4 (Rw.below hW hB5) hf g0 hg).mono ?_
            intro e w3 hp
            obtain ⟨rfl, aq', cq', q1, q2, q3⟩ := hp
            have hM5 := (q3.block _ (Array.getElem?_eq_some_iff.1 hM4).1 (by simp; omega)).trans hM4
            have hP5 := (q3.block _ (Array.getElem?_eq_some_iff.1 hP4).1 (by simp; omega)).trans hP4
            have s0 := block_free hM5 0
            have s1 := block_free hM5 1
            have s2 := block_free hM5 2
            have k0 := block_cell hM5 0
            have k1 := block_cell hM5 1
            have k2 := block_cell hM5 2
            have p0 := block_cell hP5 0
            have p1 := block_cell hP5 1
            have p2 := block_cell hP5 2
            simp at k0 k1 k2 p0 p1 p2
            have e1 : (lr ++ [(⟨x, y, begun + 1⟩ : Rd)]).length = lr.length + 1 := by simp
            have hr3 : RW w3 a' c' (lr ++ [⟨x, y, begun + 1⟩]) := Rw.grown (Rw.below r1 hB6) q3 (elem?_of hQ4) (by decide)
            have fin := st_store (w := w) (w1 := w1) (W := w3) (begun := begun + 1) (sure := sure) (l := lr ++ [⟨x, y, begun + 1⟩]) (aq := aq') (cq := cq') (ar := a') (cr := c') hbm (by omega) (by omega) (by omega) (by rw [e1]; exact q1) q2 hr3 hM5
              (below_grown (below_on hB2 hB5 (Nat.le_refl _)) q3 (Nat.le_refl _) (Nat.le_of_lt (Array.getElem?_eq_some_iff.1 hQ4).1))
            rw [e1] at fin
            have Fin := Lib.hid fin
            clear fin e1
            go_wp2_with fail
            go_meet
            refine ⟨rfl, rfl, ?_, Fin.out⟩
            simp
      case rest =>
        obtain ⟨rfl, rfl, rfl, hSt⟩ := hcut
        obtain ⟨⟨begun5, sure5, l5, aq5, cq5, ar5, cr5, g50, g51, g5l, hQ5, hW5, hM5, hR5⟩, hB5, hlt5⟩ := hSt
        have k0 := block_cell hM5 0
        have k2 := block_cell hM5 2
        simp at k0 k2
        have R5 := fun n => (round_at (World.drewN _ n) w.heap.size true begun5 sure5 aq5 l5.length cq5 hQ5).mono fun e w' (h : e = _ ∧ _ = w') => And.intro h.1 h.2.symm
        have L5 := fun n => (len_at (World.drewN _ n) w.heap.size true begun5 sure5 aq5 l5.length cq5 hQ5).mono fun e w' (h : e = _ ∧ _ = w') => And.intro h.1 h.2.symm
        simp only [cond_true] at R5 L5
        have HR5 := Lib.hid R5
        have HL5 := Lib.hid L5
        have HQ5 := Lib.hid hQ5
        clear R5 L5 hQ5
        go_wp2_with fail
        go_quiet (first
          | (go_at_call 19; exact Calls.quiet_of_same (HR5.out _))
          | (go_at_call 20; exact Calls.quiet_of_same (HL5.out _)))
        go_wp2_with fail
        go_roundw
        case rel => exact ⟨k + 1, by omega, by go_num, ⟨begun5, sure5, l5, aq5, cq5, ar5, cr5, g50, g51, g5l, q_below HQ5.out (below_drewN (Below.refl _ _) _), Rw.below hW5 (below_drewN (Below.refl _ _) _), hM5, Rw.below hR5 (below_drewN (Below.refl _ _) _)⟩, below_drewN hB5 _, hlt5⟩
        case measure => simp [intOf]; omega
    · obtain rfl : k = l.length := by omega
      go_wp2_with fail
      refine (lives_true _).mono ?_
      rintro e w2 ⟨rfl, hB3⟩
      go_wp2_with fail
      go_ret
      exact ⟨rfl, below_on hB2 hB3 (Nat.le_refl _)⟩

theorem readsPlays_walk (ao : Option Addr) (cap : Nat) (l : List I3) (w : World) (hs : I3s w .i64 .u64 .u64 ao cap l) (hok : I3ok .i64 .u64 .u64 l) :
    Calls Try.prog 3 #[.slice ao l.length cap] w fun e w' => e = .returned (.bool true) ∧ Below w.heap.size w w' := by
  by_cases h : 200 < l.length
  · exact readsPlays_far ao cap l w hs h
  · exact readsPlays_near ao cap l w hs hok h
end Go.Proofs.Ytiboaafelabpfaa
