/- Contracts of the box's Ack, Get, Waiting, State, Clone, Due, Tick. No statement of the seat is proved here. -/
import Derived.Test.YtdcinhnplcipoaaObB
namespace Go.Proofs.Ytdcinhnplcipoaa
set_option linter.unusedVariables false
set_option linter.unusedSimpArgs false
set_option linter.unusedSectionVars false
open Go Go.RowKit Go.Shelf

def setSt (n : No) (x : Int) : No := ⟨n.id, n.tk, n.lv, n.pt, x, n.tr, n.rt, n.wt, n.nx⟩
/-- the state alone stored -/
theorem Bx.storedSt {W : World} {base b : Nat} {last : Int} {v : Value} {l : List No} (h : Bx W base b last v l) (i : Nat) (hi : i < l.length) (x : Int) {g cap : Nat} (hv : v = .slice (some ⟨g, 0, none⟩) l.length cap) :
    Bx (W.setCell ⟨g, i * 9 + 4, none⟩ (.int .i64 x)) base b last v (l.set i (setSt l[i] x)) ∧ W.grownBy (W.setCell ⟨g, i * 9 + 4, none⟩ (.int .i64 x)) (some g) := by
  subst hv
  have hgb : g ≠ b := fun e => h.ne (by rw [e]; rfl)
  obtain ⟨a1, hg⟩ := h.own.stored (i * 9 + 4) (.int .i64 x)
  refine ⟨⟨(hg.block b (Array.getElem?_eq_some_iff.1 h.blk).1 (by simpa using hgb.symm)).trans h.blk, ?_, h.le, h.ne, Nat.le_trans h.sz hg.size⟩, hg⟩
  rw [List.length_set]
  have key : ((l.set i (setSt l[i] x)).map noCells).flatten = (l.map noCells).flatten.set (i * 9 + 4) (.int .i64 x) := by
    conv => rhs; rw [rows_self l i hi]
    rw [rows_set l i hi _ rfl 4 (by decide), List.map_set]
    rfl
  rw [key]
  exact a1
def ackBad (n : No) : Bool := !waitsB n || decide (n.tr = 0)
set_option maxHeartbeats 2000000 in
theorem ack_ok {W : World} {base b : Nat} {last : Int} {v : Value} {l : List No} (id : Int) (hn : l.length ≤ 1000000) (h : Bx W base b last v l) (hp : placeN l id < l.length) (he : ackBad l[placeN l id] = false) :
    Calls Try.prog 12 #[.pointer (some ⟨b, 0, none⟩), .int .u64 id] W fun e W' => e = .returned (.tuple #[noVal (setSt l[placeN l id] 2), .int .i64 0]) ∧ Bx W' base b last v (l.set (placeN l id) (setSt l[placeN l id] 2)) ∧ Fr2 W.heap.size b v W W' := by
  obtain ⟨i, hi⟩ : ∃ i, i = placeN l id := ⟨_, rfl⟩
  have hat := fun W h => at_bx (W := W) (base := base) (b := b) (last := last) (v := v) (l := l) id hn h
  simp only [if_pos hp] at hat
  simp only [← hi] at hat hp he ⊢
  have hget := fun W' (h' : Bx W' base b last v l) => h'.at_ i hp
  have hsto := fun W' (h' : Bx W' base b last v l) {g cap : Nat} => h'.storedSt i hp 2 (g := g) (cap := cap)
  obtain ⟨s, hsd⟩ : ∃ s, s = l[i] := ⟨_, rfl⟩
  simp only [← hsd] at he hget hsto ⊢
  have hwt := fun W => waits_any s W
  unfold ackBad at he
  simp only [Bool.or_eq_false_iff, Bool.not_eq_false', decide_eq_false_iff_not] at he
  obtain ⟨hw, htr⟩ := he
  rw [hw] at hwt
  have Hget := Lib.hid hget
  have Hat := Lib.hid hat
  have Hsto := Lib.hid @hsto
  clear hi hsd hget hat hw hsto
  obtain ⟨sid, tk, lv, pt, st, tr, rt, wt, nx⟩ := s
  unfold noVal at hwt
  simp only at hwt htr
  have Hwt := Lib.hid hwt
  clear hwt
  have htr2 : (tr == 0) = false := by simpa using htr
  have i0 : (0 : Int) ≤ (i : Int) := by omega
  have i1 : (i : Int) < (l.length : Int) := by omega
  go_enter Try.func12, Try.ntmps12
  go_wp2_with fail
  refine (Hat.out _ (h.below (below_new _ _))).mono ?_
  rintro e W2 ⟨rfl, hb2⟩
  have hr := alloc_after hb2
  have hB2 := below_on (below_new W _) hb2 (Nat.le_refl _)
  have h2 := h.below hB2
  obtain ⟨x0, x1, x2⟩ := h2.cells
  obtain ⟨g, cap, hv, ⟨c0, c1, c2, c3, c4, c5, c6, c7, c8⟩, -, -, -⟩ := Hget.out W2 h2
  subst hv
  simp only at c0 c1 c2 c3 c4 c5 c6 c7 c8
  go_wp2_with fail
  refine (Hwt.out _).mono ?_
  rintro e W3 ⟨rfl, hb3⟩
  have hB3 := below_on hB2 hb3 (Nat.le_refl _)
  have h3 := h2.below hb3
  have hr3 : W3.heap[W.heap.size]? = _ := (hb3.block W.heap.size (Array.getElem?_eq_some_iff.1 hr).1).trans hr
  clear c0 c1 c2 c3 c4 c5 c6 c7 c8 x0 x1 x2 hb2 hr
  obtain ⟨x0, x1, x2⟩ := h3.cells
  obtain ⟨g2, cap2, hv, ⟨c0, c1, c2, c3, c4, c5, c6, c7, c8⟩, hfz, hgb, hbg⟩ := Hget.out W3 h3
  cases hv
  simp only at c0 c1 c2 c3 c4 c5 c6 c7 c8
  have y4 := hfz (i * 9 + 4)
  have hglt := (h.own.lt g rfl).2
  obtain ⟨h4, hg4⟩ := Hsto.out W3 h3 rfl
  have hr4 : (W3.setCell ⟨g, i * 9 + 4, none⟩ (.int .i64 2)).heap[W.heap.size]? = _ := (hg4.block W.heap.size (Array.getElem?_eq_some_iff.1 hr3).1 (by simp; omega)).trans hr3
  go_upto_region 7 with fail
  obtain ⟨W4, hW4⟩ : ∃ W4, W4 = W3.setCell ⟨g, i * 9 + 4, none⟩ (.int .i64 2) := ⟨_, rfl⟩
  rw [← hW4] at h4 hg4 hr4
  rw [← hW4]
  have k4 : W4.cell? ⟨g, i * 9 + 4, none⟩ = some (.int .i64 2) := by rw [hW4]; exact World.cell?_setCell_same W3 _ _ c4
  have kk : ∀ j, j ≠ i * 9 + 4 → W4.cell? ⟨g, j, none⟩ = W3.cell? ⟨g, j, none⟩ := fun j hj => by rw [hW4]; exact World.cell?_setCell_other _ _ _ _ (by simp; try omega)
  have k0 := (kk (i * 9) (by omega)).trans c0
  have k1 := (kk (i * 9 + 1) (by omega)).trans c1
  have k2 := (kk (i * 9 + 2) (by omega)).trans c2
  have k3 := (kk (i * 9 + 3) (by omega)).trans c3
  have k5 := (kk (i * 9 + 5) (by omega)).trans c5
  have k6 := (kk (i * 9 + 6) (by omega)).trans c6
  have k7 := (kk (i * 9 + 7) (by omega)).trans c7
  have k8 := (kk (i * 9 + 8) (by omega)).trans c8
  clear hW4 kk hfz c0 c1 c2 c3 c4 c5 c6 c7 c8 x0 x1 x2 y4
  obtain ⟨x0, x1, x2⟩ := h4.cells
  obtain ⟨q0, q1, q2, q3, q4, q5, q6, q7, q8⟩ := blk9 hr4
  obtain ⟨z0, z1, z2, z3, z4, z5, z6, z7, z8⟩ := blk9z hr4
  go_wp2_with fail
  refine bodyPost_ret (v := .tuple #[.agg #[.int .u64 sid, .int .u64 tk, .int .i64 lv, .int .i64 pt, .int .i64 2, .int .i64 tr, .int .i64 rt, .int .i64 wt, .int .i64 nx], .int .i64 0]) (by simp [results, Try.results12, go_sem, q0, q1, q2, q3, q4, q5, q6, q7, q8, z0, z1, z2, z3, z4, z5, z6, z7, z8]) rfl ?_
  have hg9 := grown9 W4 W.heap.size 0 (.int .u64 sid) (.int .u64 tk) (.int .i64 lv) (.int .i64 pt) (.int .i64 2) (.int .i64 tr) (.int .i64 rt) (.int .i64 wt) (.int .i64 nx)
  have hz34 := hg4.size
  have hz3 := hB3.size
  have hbW := (Array.getElem?_eq_some_iff.1 h.blk).1
  refine ⟨rfl, h4.grown hg9 (by omega) (by simp [Value.ownBlock]; omega), ?_⟩
  exact (Fr2.below hB3 (Nat.le_refl _)).trans ((Fr2.row hg4 rfl hz3).trans (Fr2.new hg9 (Nat.le_refl _) (by omega)))
set_option maxHeartbeats 1000000 in
theorem ack_none {W : World} {base b : Nat} {last : Int} {v : Value} {l : List No} (id : Int) (hn : l.length ≤ 1000000) (h : Bx W base b last v l) (hp : ¬ placeN l id < l.length) :
    Calls Try.prog 12 #[.pointer (some ⟨b, 0, none⟩), .int .u64 id] W fun e W' => e = .returned (.tuple #[noVal noZ, .int .i64 31]) ∧ Below W.heap.size W W' := by
  have hat := fun W h => at_bx (W := W) (base := base) (b := b) (last := last) (v := v) (l := l) id hn h
  simp only [if_neg hp] at hat
  clear hp
  go_enter Try.func12, Try.ntmps12
  go_wp2_with fail
  refine (hat _ (h.below (below_new _ _))).mono ?_
  rintro e W2 ⟨rfl, hb2⟩
  have hr := alloc_after hb2
  have hB := below_on (below_new W _) hb2 (Nat.le_refl _)
  obtain ⟨q0, q1, q2, q3, q4, q5, q6, q7, q8⟩ := blk9 hr
  obtain ⟨z0, z1, z2, z3, z4, z5, z6, z7, z8⟩ := blk9z hr
  go_wp2_with fail
  refine bodyPost_ret (v := .tuple #[.agg #[.int .u64 0, .int .u64 0, .int .i64 0, .int .i64 0, .int .i64 0, .int .i64 0, .int .i64 0, .int .i64 0, .int .i64 0], .int .i64 31]) (by simp [results, Try.results12, go_sem, q0, q1, q2, q3, q4, q5, q6, q7, q8, z0, z1, z2, z3, z4, z5, z6, z7, z8]) rfl ?_
  exact ⟨rfl, below_grown hB (grown9 W2 W.heap.size 0 _ _ _ _ _ _ _ _ _) (Nat.le_refl _) hB.size⟩
set_option maxHeartbeats 2000000 in
theorem ack_bad {W : World} {base b : Nat} {last : Int} {v : Value} {l : List No} (id : Int) (hn : l.length ≤ 1000000) (h : Bx W base b last v l) (hp : placeN l id < l.length) (he : ackBad l[placeN l id] = true) :
    Calls Try.prog 12 #[.pointer (some ⟨b, 0, none⟩), .int .u64 id] W fun e W' => e = .returned (.tuple #[noVal noZ, .int .i64 33]) ∧ Below W.heap.size W W' := by
  obtain ⟨i, hi⟩ : ∃ i, i = placeN l id := ⟨_, rfl⟩
  have hat := fun W h => at_bx (W := W) (base := base) (b := b) (last := last) (v := v) (l := l) id hn h
  simp only [if_pos hp] at hat
  simp only [← hi] at hat hp he ⊢
  have hget := fun W' (h' : Bx W' base b last v l) => h'.at_ i hp
  obtain ⟨s, hsd⟩ : ∃ s, s = l[i] := ⟨_, rfl⟩
  simp only [← hsd] at he hget
  have hwt := fun W => waits_any s W
  unfold ackBad at he
  obtain ⟨q, hq⟩ : ∃ q, q = waitsB s := ⟨_, rfl⟩
  simp only [← hq] at hwt he
  have Hget := Lib.hid hget
  have Hat := Lib.hid hat
  clear hi hsd hget hat hq
  obtain ⟨sid, tk, lv, pt, st, tr, rt, wt, nx⟩ := s
  unfold noVal at hwt
  simp only at hwt he
  have Hwt := Lib.hid hwt
  clear hwt
  have i0 : (0 : Int) ≤ (i : Int) := by omega
  have i1 : (i : Int) < (l.length : Int) := by omega
  have hcases : q = false ∨ (q = true ∧ tr = 0) := by
    cases q
    · exact .inl rfl
    · exact .inr ⟨rfl, by simpa using he⟩
  clear he
  rcases hcases with rfl | ⟨rfl, rfl⟩
  all_goals
    go_enter Try.func12, Try.ntmps12
    go_wp2_with fail
    refine (Hat.out _ (h.below (below_new _ _))).mono ?_
    rintro e W2 ⟨rfl, hb2⟩
    have hr := alloc_after hb2
    have hB2 := below_on (below_new W _) hb2 (Nat.le_refl _)
    have h2 := h.below hB2
    obtain ⟨x0, x1, x2⟩ := h2.cells
    obtain ⟨g, cap, hv, ⟨c0, c1, c2, c3, c4, c5, c6, c7, c8⟩, -, -, -⟩ := Hget.out W2 h2
    subst hv
    simp only at c0 c1 c2 c3 c4 c5 c6 c7 c8
    go_wp2_with fail
    refine (Hwt.out _).mono ?_
    rintro e W3 ⟨rfl, hb3⟩
    have hB3 := below_on hB2 hb3 (Nat.le_refl _)
    have hr3 : W3.heap[W.heap.size]? = _ := (hb3.block W.heap.size (Array.getElem?_eq_some_iff.1 hr).1).trans hr
    have h3 := h2.below hb3
    clear c0 c1 c2 c3 c4 c5 c6 c7 c8 x0 x1 x2 hb2 hr
    obtain ⟨x0, x1, x2⟩ := h3.cells
    obtain ⟨g2, cap2, hv, ⟨c0, c1, c2, c3, c4, c5, c6, c7, c8⟩, -, -, -⟩ := Hget.out W3 h3
    cases hv
    simp only at c0 c1 c2 c3 c4 c5 c6 c7 c8
    obtain ⟨q0, q1, q2, q3, q4, q5, q6, q7, q8⟩ := blk9 hr3
    obtain ⟨z0, z1, z2, z3, z4, z5, z6, z7, z8⟩ := blk9z hr3
    go_wp2_with fail
    refine bodyPost_ret (v := .tuple #[.agg #[.int .u64 0, .int .u64 0, .int .i64 0, .int .i64 0, .int .i64 0, .int .i64 0, .int .i64 0, .int .i64 0, .int .i64 0], .int .i64 33]) (by simp [results, Try.results12, go_sem, q0, q1, q2, q3, q4, q5, q6, q7, q8, z0, z1, z2, z3, z4, z5, z6, z7, z8]) rfl ?_
    exact ⟨rfl, below_grown hB3 (grown9 W3 W.heap.size 0 _ _ _ _ _ _ _ _ _) (Nat.le_refl _) hB3.size⟩
set_option maxHeartbeats 1000000 in
theorem get_no {W : World} {base b : Nat} {last : Int} {v : Value} {l : List No} (id : Int) (hn : l.length ≤ 1000000) (h : Bx W base b last v l) (hp : ¬ placeN l id < l.length) :
    Calls Try.prog 13 #[.pointer (some ⟨b, 0, none⟩), .int .u64 id] W fun e W' => e = .returned (.tuple #[noVal noZ, .bool false]) ∧ Below W.heap.size W W' := by
  have hat := fun W h => at_bx (W := W) (base := base) (b := b) (last := last) (v := v) (l := l) id hn h
  simp only [if_neg hp] at hat
  clear hp
  go_enter Try.func13, Try.ntmps13
  go_wp2_with fail
  refine (hat _ (h.below (below_new _ _))).mono ?_
  rintro e W2 ⟨rfl, hb2⟩
  have hr := alloc_after hb2
  have hB := below_on (below_new W _) hb2 (Nat.le_refl _)
  obtain ⟨q0, q1, q2, q3, q4, q5, q6, q7, q8⟩ := blk9 hr
  obtain ⟨z0, z1, z2, z3, z4, z5, z6, z7, z8⟩ := blk9z hr
  go_wp2_with fail
  refine bodyPost_ret (v := .tuple #[.agg #[.int .u64 0, .int .u64 0, .int .i64 0, .int .i64 0, .int .i64 0, .int .i64 0, .int .i64 0, .int .i64 0, .int .i64 0], .bool false]) (by simp [results, Try.results13, go_sem, q0, q1, q2, q3, q4, q5, q6, q7, q8, z0, z1, z2, z3, z4, z5, z6, z7, z8]) rfl ?_
  exact ⟨rfl, below_grown hB (grown9 W2 W.heap.size 0 _ _ _ _ _ _ _ _ _) (Nat.le_refl _) hB.size⟩
set_option maxHeartbeats 1000000 in
theorem get_yes {W : World} {base b : Nat} {last : Int} {v : Value} {l : List No} (id : Int) (hn : l.length ≤ 1000000) (h : Bx W base b last v l) (hp : placeN l id < l.length) :
    Calls Try.prog 13 #[.pointer (some ⟨b, 0, none⟩), .int .u64 id] W fun e W' => e = .returned (.tuple #[noVal l[placeN l id], .bool true]) ∧ Below W.heap.size W W' := by
  obtain ⟨i, hi⟩ : ∃ i, i = placeN l id := ⟨_, rfl⟩
  have hat := fun W h => at_bx (W := W) (base := base) (b := b) (last := last) (v := v) (l := l) id hn h
  simp only [if_pos hp] at hat
  simp only [← hi] at hat hp ⊢
  have hget := fun W' (h' : Bx W' base b last v l) => h'.at_ i hp
  obtain ⟨s, hsd⟩ : ∃ s, s = l[i] := ⟨_, rfl⟩
  simp only [← hsd] at hget ⊢
  have Hget := Lib.hid hget
  have Hat := Lib.hid hat
  clear hi hsd hget hat
  obtain ⟨sid, tk, lv, pt, st, tr, rt, wt, nx⟩ := s
  have i0 : (0 : Int) ≤ (i : Int) := by omega
  have i1 : (i : Int) < (l.length : Int) := by omega
  go_enter Try.func13, Try.ntmps13
  go_wp2_with fail
  refine (Hat.out _ (h.below (below_new _ _))).mono ?_
  rintro e W2 ⟨rfl, hb2⟩
  have hr := alloc_after hb2
  have hB2 := below_on (below_new W _) hb2 (Nat.le_refl _)
  have h2 := h.below hB2
  obtain ⟨x0, x1, x2⟩ := h2.cells
  obtain ⟨g, cap, hv, ⟨c0, c1, c2, c3, c4, c5, c6, c7, c8⟩, -, -, -⟩ := Hget.out W2 h2
  subst hv
  simp only at c0 c1 c2 c3 c4 c5 c6 c7 c8
  obtain ⟨q0, q1, q2, q3, q4, q5, q6, q7, q8⟩ := blk9 hr
  obtain ⟨z0, z1, z2, z3, z4, z5, z6, z7, z8⟩ := blk9z hr
  go_wp2_with fail
  refine bodyPost_ret (v := .tuple #[.agg #[.int .u64 sid, .int .u64 tk, .int .i64 lv, .int .i64 pt, .int .i64 st, .int .i64 tr, .int .i64 rt, .int .i64 wt, .int .i64 nx], .bool true]) (by simp [results, Try.results13, go_sem, q0, q1, q2, q3, q4, q5, q6, q7, q8, z0, z1, z2, z3, z4, z5, z6, z7, z8]) rfl ?_
  exact ⟨rfl, below_grown hB2 (grown9 W2 W.heap.size 0 _ _ _ _ _ _ _ _ _) (Nat.le_refl _) hB2.size⟩
theorem waiting_bx {W : World} {base b : Nat} {last : Int} {v : Value} {l : List No} (hn : l.length ≤ 1000000) (h : Bx W base b last v l) :
    Calls Try.prog 14 #[.pointer (some ⟨b, 0, none⟩)] W fun e W' => e = .returned (.int .i64 ((l.filter waitsB).length : Nat)) ∧ Below W.heap.size W W' := by
  obtain ⟨x0, x1, x2⟩ := h.cells
  obtain ⟨ao, cap, rfl, hs⟩ := h.ns
  have hpk := pickU_any 41 #[] waitsB (enters_of Try.func41 (by kernel_rfl) rfl) ao cap l W hs hn (fun W2 n _ => waits_any n W2)
  generalize l.filter waitsB = F at hpk ⊢
  go_enter Try.func14, Try.ntmps14
  go_wp2_with fail
  refine (none_bx h).mono ?_
  rintro e W2 ⟨rfl, rfl⟩
  go_wp2_with fail
  refine hpk.mono ?_
  rintro e W2 ⟨⟨so, sc, rfl, -⟩, hb2⟩
  go_wp2_with fail
  go_ret
  exact ⟨rfl, hb2⟩
end Go.Proofs.Ytdcinhnplcipoaa
