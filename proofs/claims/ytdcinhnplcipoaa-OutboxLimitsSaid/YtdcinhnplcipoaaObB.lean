/- Contracts of the box's Get, Try, Ack. No statement of the seat is proved here. -/
import Derived.Test.YtdcinhnplcipoaaObA
namespace Go.Proofs.Ytdcinhnplcipoaa
set_option linter.unusedVariables false
set_option linter.unusedSimpArgs false
set_option linter.unusedSectionVars false
open Go Go.RowKit Go.Shelf

theorem alloc_after {w w' : World} {o : Obj} (hb : Below (w.alloc o).heap.size (w.alloc o) w') : w'.heap[w.heap.size]? = some o := (hb.block _ (by simp)).trans (heap_alloc_new _ _)
theorem blk9 {w : World} {b : Nat} {v0 v1 v2 v3 v4 v5 v6 v7 v8 : Value} {T : TypeId} (h : w.heap[b]? = some (.cells #[v0, v1, v2, v3, v4, v5, v6, v7, v8] T (0, 0))) :
    w.cell? ⟨b, 0, none⟩ = some v0 ∧ w.cell? ⟨b, 1, none⟩ = some v1 ∧ w.cell? ⟨b, 2, none⟩ = some v2 ∧ w.cell? ⟨b, 3, none⟩ = some v3 ∧ w.cell? ⟨b, 4, none⟩ = some v4 ∧ w.cell? ⟨b, 5, none⟩ = some v5 ∧ w.cell? ⟨b, 6, none⟩ = some v6 ∧ w.cell? ⟨b, 7, none⟩ = some v7 ∧ w.cell? ⟨b, 8, none⟩ = some v8 :=
  ⟨block_cell h 0, block_cell h 1, block_cell h 2, block_cell h 3, block_cell h 4, block_cell h 5, block_cell h 6, block_cell h 7, block_cell h 8⟩
def noZ : No := ⟨0, 0, 0, 0, 0, 0, 0, 0, 0⟩
theorem place_le (l : List No) (id : Int) : placeN l id ≤ l.length := List.findIdx_le_length
/-- tried once more -/
def tryN (n : No) (now : Int) : No := ⟨n.id, n.tk, n.lv, n.pt, n.st, n.tr + 1, n.rt, if 1048576 < 2 * n.wt then 1048576 else 2 * n.wt, if now < 1125899906842624 - n.wt then now + n.wt else 1125899906842624⟩
def tryErr (n : No) (now : Int) : Nat := if (!waitsB n || decide (n.rt ≤ n.tr)) = true then 33 else if now < n.nx then 52 else 0
set_option maxHeartbeats 2000000 in
theorem try_ok {W : World} {base b : Nat} {last : Int} {v : Value} {l : List No} (id now : Int) (hn : l.length ≤ 1000000) (h : Bx W base b last v l) (hp : placeN l id < l.length) (he : tryErr l[placeN l id] now = 0) (hf : fitsN l[placeN l id] = true) (ht : 0 ≤ l[placeN l id].tr) (hx : 0 ≤ l[placeN l id].nx) :
    Calls Try.prog 11 #[.pointer (some ⟨b, 0, none⟩), .int .u64 id, .int .i64 now] W fun e W' => e = .returned (.tuple #[noVal (tryN l[placeN l id] now), .int .i64 0]) ∧ Bx W' base b last v (l.set (placeN l id) (tryN l[placeN l id] now)) ∧ Fr2 W.heap.size b v W W' := by
  obtain ⟨i, hi⟩ : ∃ i, i = placeN l id := ⟨_, rfl⟩
  have hat := fun W h => at_bx (W := W) (base := base) (b := b) (last := last) (v := v) (l := l) id hn h
  simp only [if_pos hp] at hat
  simp only [← hi] at hat hp he hf ht hx ⊢
  have hget := fun W' (h' : Bx W' base b last v l) => h'.at_ i hp
  obtain ⟨s, hsd⟩ : ∃ s, s = l[i] := ⟨_, rfl⟩
  simp only [← hsd] at he hf ht hx hget ⊢
  have hwt := fun W => waits_any s W
  have hw : waitsB s = true := by
    unfold tryErr at he
    by_cases g : (!waitsB s || decide (s.rt ≤ s.tr)) = true
    · rw [if_pos g] at he; cases he
    · simp at g; exact g.1
  have hlt : s.tr < s.rt := by
    unfold tryErr at he
    by_cases g : (!waitsB s || decide (s.rt ≤ s.tr)) = true
    · rw [if_pos g] at he; cases he
    · simp at g; omega
  have hnx : ¬ now < s.nx := by
    unfold tryErr at he
    rw [if_neg (by simp [hw]; omega)] at he
    intro g
    rw [if_pos g] at he; cases he
  rw [hw] at hwt
  unfold fitsN at hf
  simp only [Bool.and_eq_true, decide_eq_true_eq] at hf
  obtain ⟨⟨⟨⟨⟨⟨⟨f1, f2⟩, f3⟩, f4⟩, f5⟩, f6⟩, f7⟩, f8⟩ := hf
  obtain ⟨T, hT⟩ : ∃ T, T = tryN s now := ⟨_, rfl⟩
  rw [← hT]
  have HT := Lib.hid hT
  have Hget := Lib.hid hget
  have Hat := Lib.hid hat
  clear hw he hi hsd hget hT hat
  obtain ⟨sid, tk, lv, pt, st, tr, rt, wt, nx⟩ := s
  unfold noVal at hwt
  simp only at hwt f1 f2 f3 f4 f5 f6 f7 f8 hlt hnx ht hx
  have Hwt := Lib.hid hwt
  clear hwt
  have i0 : (0 : Int) ≤ (i : Int) := by omega
  have i1 : (i : Int) < (l.length : Int) := by omega
  go_enter Try.func11, Try.ntmps11
  go_wp2_with fail
  refine (Hat.out _ (h.below (below_new _ _))).mono ?_
  rintro e W2 ⟨rfl, hb2⟩
  have hB2 := below_on (below_new W (.cells #[.int .u64 0, .int .u64 0, .int .i64 0, .int .i64 0, .int .i64 0, .int .i64 0, .int .i64 0, .int .i64 0, .int .i64 0] 24)) hb2 (Nat.le_refl _)
  have hr0 : W2.heap[W.heap.size]? = some (.cells #[.int .u64 0, .int .u64 0, .int .i64 0, .int .i64 0, .int .i64 0, .int .i64 0, .int .i64 0, .int .i64 0, .int .i64 0] 24 (0, 0)) := (hb2.block _ (by simp)).trans (heap_alloc_new _ _)
  have h2 := h.below hB2
  obtain ⟨x0, x1, x2⟩ := h2.cells
  obtain ⟨g, cap, hv, ⟨c0, c1, c2, c3, c4, c5, c6, c7, c8⟩, -, -, -⟩ := Hget.out W2 h2
  subst hv
  simp only at c0 c1 c2 c3 c4 c5 c6 c7 c8
  go_wp2_with fail
  refine (Hwt.out _).mono ?_
  rintro e W3 ⟨rfl, hb3⟩
  have hblk := alloc_after hb3
  have hB3 := below_on hB2 (below_on (below_new W2 _) hb3 (Nat.le_refl _)) (Nat.le_refl _)
  have hr3 := (below_on (below_new W2 _) hb3 (Nat.le_refl _) : Below W2.heap.size W2 W3).block W.heap.size (Array.getElem?_eq_some_iff.1 hr0).1 |>.trans hr0
  have hgB : W2.heap.size < W3.heap.size := (Array.getElem?_eq_some_iff.1 hblk).1
  have hgR : W.heap.size < W2.heap.size := (Array.getElem?_eq_some_iff.1 hr0).1
  clear c0 c1 c2 c3 c4 c5 c6 c7 c8 x0 x1 x2 hb2 hr0
  obtain ⟨d0, d1, d2, d3, d4, d5, d6, d7, d8⟩ := blk9 hblk
  have z5 := block_free hblk 5
  have e1 : IntKind.i64.wrap (tr + 1) = tr + 1 := IntWalk.i64_in _ (by omega)
  have hblk1 := block_set hblk 5 (.int .i64 (tr + 1))
  simp only [List.setIfInBounds_toArray, List.set_cons_zero, List.set_cons_succ] at hblk1
  have hg1 := grown_set W3 W2.heap.size 5 (.int .i64 (tr + 1))
  go_upto_region 10 with fail
  obtain ⟨W4, hW4⟩ : ∃ W4, W4 = W3.setCell ⟨W2.heap.size, 5, none⟩ (.int .i64 (tr + 1)) := ⟨_, rfl⟩
  rw [← hW4] at hblk1 hg1
  rw [← hW4]
  clear hW4 d0 d1 d2 d3 d4 d5 d6 d7 d8 z5 hblk
  obtain ⟨d0, d1, d2, d3, d4, d5, d6, d7, d8⟩ := blk9 hblk1
  have z8 := block_free hblk1 8
  obtain ⟨nx', hnx'⟩ : ∃ n, n = (if now < 1125899906842624 - wt then now + wt else 1125899906842624) := ⟨_, rfl⟩
  have Hnx := Lib.hid hnx'
  clear hnx'
  have n0 : 0 ≤ now := by omega
  go_cut [8] (fun vv wx => vv = .int .i64 i ∧ wx.heap[W2.heap.size]? = some (.cells #[.int .u64 sid, .int .u64 tk, .int .i64 lv, .int .i64 pt, .int .i64 st, .int .i64 (tr + 1), .int .i64 rt, .int .i64 wt, .int .i64 nx'] 24 (0, 0)) ∧ W3.grownBy wx (some W2.heap.size))
  case first =>
    go_wp2_with fail
    all_goals
      go_meet
      refine ⟨rfl, ?_, grown_trans hg1 (grown_set _ _ _ _)⟩
      have hb8 := block_set hblk1 8 (.int .i64 nx')
      simp only [List.setIfInBounds_toArray, List.set_cons_zero, List.set_cons_succ] at hb8
      refine Eq.trans (congrArg (fun z : Int => (W4.setCell ⟨W2.heap.size, 8, none⟩ (.int .i64 z)).heap[W2.heap.size]?) ?_) hb8
      rw [Hnx.out]
      split <;> omega
  case rest =>
    obtain ⟨rfl, hblk2, hg2⟩ := hcut
    obtain ⟨W5, hW5⟩ : ∃ W5, W5 = wc := ⟨_, rfl⟩
    rw [← hW5] at hblk2 hg2 ⊢
    clear hW5 d0 d1 d2 d3 d4 d5 d6 d7 d8 z8 hblk1 hg1
    obtain ⟨d0, d1, d2, d3, d4, d5, d6, d7, d8⟩ := blk9 hblk2
    have z7 := block_free hblk2 7
    obtain ⟨wt', hwt'⟩ : ∃ n, n = (if 1048576 < 2 * wt then 1048576 else 2 * wt) := ⟨_, rfl⟩
    have Hwt' := Lib.hid hwt'
    clear hwt'
    go_upto_region 11 with fail
    go_cut [8] (fun vv wx => vv = .int .i64 i ∧ wx.heap[W2.heap.size]? = some (.cells #[.int .u64 sid, .int .u64 tk, .int .i64 lv, .int .i64 pt, .int .i64 st, .int .i64 (tr + 1), .int .i64 rt, .int .i64 wt', .int .i64 nx'] 24 (0, 0)) ∧ W3.grownBy wx (some W2.heap.size))
    case first =>
      go_wp2_with fail
      all_goals
        go_meet
        refine ⟨rfl, ?_, grown_trans hg2 (grown_set _ _ _ _)⟩
        have hb8 := block_set hblk2 7 (.int .i64 wt')
        simp only [List.setIfInBounds_toArray, List.set_cons_zero, List.set_cons_succ] at hb8
        refine Eq.trans (congrArg (fun z : Int => (W5.setCell ⟨W2.heap.size, 7, none⟩ (.int .i64 z)).heap[W2.heap.size]?) ?_) hb8
        rw [Hwt'.out]
        split <;> omega
    case rest =>
      obtain ⟨rfl, hblk3, hg3⟩ := hcut
      obtain ⟨W6, hW6⟩ : ∃ W6, W6 = wc := ⟨_, rfl⟩
      rw [← hW6] at hblk3 hg3 ⊢
      clear hW6 d0 d1 d2 d3 d4 d5 d6 d7 d8 z7 hblk2 hg2
      obtain ⟨d0, d1, d2, d3, d4, d5, d6, d7, d8⟩ := blk9 hblk3
      have hB6 : Below W.heap.size W W6 := below_grown hB3 hg3 (by omega) (by omega)
      have h6 := h.below hB6
      have hr6 : W6.heap[W.heap.size]? = _ := (hg3.block _ (by omega) (by simp; omega)).trans hr3
      obtain ⟨x0, x1, x2⟩ := h6.cells
      obtain ⟨g2, cap2, hv, ⟨c0, c1, c2, c3, c4, c5, c6, c7, c8⟩, hfz, hgb, hbg⟩ := Hget.out W6 h6
      cases hv
      have y0 := hfz (i * 9)
      have y1 := hfz (i * 9 + 1)
      have y2 := hfz (i * 9 + 2)
      have y3 := hfz (i * 9 + 3)
      have y4 := hfz (i * 9 + 4)
      have y5 := hfz (i * 9 + 5)
      have y6 := hfz (i * 9 + 6)
      have y7 := hfz (i * 9 + 7)
      have y8 := hfz (i * 9 + 8)
      clear hfz
      have hTe : T = ⟨sid, tk, lv, pt, st, tr + 1, rt, wt', nx'⟩ := by rw [HT.out, Hwt'.out, Hnx.out]; rfl
      go_upto_region 12 with fail
      have hglt := (h.own.lt g rfl).2
      have hz36 := hg3.size
      obtain ⟨h7, hg7⟩ := h6.stored i hp ⟨sid, tk, lv, pt, st, tr + 1, rt, wt', nx'⟩ rfl
      simp only at h7 hg7
      obtain ⟨W7, hW7, h7, hg7⟩ : ∃ W7, W7 = _ ∧ Bx W7 base b last _ _ ∧ W6.grownBy W7 (some g) := ⟨_, rfl, h7, hg7⟩
      have hblk7 := (hg7.block _ (by omega) (by simp; omega)).trans hblk3
      have hr7 := (hg7.block _ (by omega) (by simp; omega)).trans hr6
      go_region
      rw [← hW7]
      clear hW7 d0 d1 d2 d3 d4 d5 d6 d7 d8 c0 c1 c2 c3 c4 c5 c6 c7 c8 y0 y1 y2 y3 y4 y5 y6 y7 y8
      have hblk7d : W7.drew.heap[W2.heap.size]? = _ := hblk7
      have hr7d : W7.drew.heap[W.heap.size]? = _ := hr7
      obtain ⟨W8, hW8⟩ : ∃ W8, W8 = W7.drew := ⟨_, rfl⟩
      have hB78 : Below W7.heap.size W7 W8 := by rw [hW8]; exact (Below.refl _ _).drew
      rw [← hW8] at hblk7d hr7d ⊢
      clear hW8
      obtain ⟨d0, d1, d2, d3, d4, d5, d6, d7, d8⟩ := blk9 hblk7d
      obtain ⟨q0, q1, q2, q3, q4, q5, q6, q7, q8⟩ := blk9 hr7d
      have z0 := block_free hr7d 0
      have z1 := block_free hr7d 1
      have z2 := block_free hr7d 2
      have z3 := block_free hr7d 3
      have z4 := block_free hr7d 4
      have z5 := block_free hr7d 5
      have z6 := block_free hr7d 6
      have z7 := block_free hr7d 7
      have z8 := block_free hr7d 8
      go_wp2_with fail
      refine bodyPost_ret (v := .tuple #[.agg #[.int .u64 sid, .int .u64 tk, .int .i64 lv, .int .i64 pt, .int .i64 st, .int .i64 (tr + 1), .int .i64 rt, .int .i64 wt', .int .i64 nx'], .int .i64 0]) (by simp [results, Try.results11, go_sem, q0, q1, q2, q3, q4, q5, q6, q7, q8, z0, z1, z2, z3, z4, z5, z6, z7, z8]) rfl ?_
      subst hTe
      have hg9 := grown9 W8 W.heap.size 0 (.int .u64 sid) (.int .u64 tk) (.int .i64 lv) (.int .i64 pt) (.int .i64 st) (.int .i64 (tr + 1)) (.int .i64 rt) (.int .i64 wt') (.int .i64 nx')
      have hz67 := hg7.size
      have hz78 := hB78.size
      have hbW := (Array.getElem?_eq_some_iff.1 h.blk).1
      refine ⟨rfl, (h7.below hB78).grown hg9 (by omega) (by simp [Value.ownBlock]; omega), ?_⟩
      exact (Fr2.below hB6 (Nat.le_refl _)).trans ((Fr2.row hg7 rfl hB6.size).trans ((Fr2.below hB78 (by omega)).trans (Fr2.new hg9 (Nat.le_refl _) (by omega))))
theorem blk9z {w : World} {b : Nat} {u0 u1 u2 u3 u4 u5 u6 u7 u8 : Value} {T : TypeId} (h : w.heap[b]? = some (.cells #[u0, u1, u2, u3, u4, u5, u6, u7, u8] T (0, 0))) :
    w.frozen? ⟨b, 0, none⟩ = false ∧ w.frozen? ⟨b, 1, none⟩ = false ∧ w.frozen? ⟨b, 2, none⟩ = false ∧ w.frozen? ⟨b, 3, none⟩ = false ∧ w.frozen? ⟨b, 4, none⟩ = false ∧ w.frozen? ⟨b, 5, none⟩ = false ∧ w.frozen? ⟨b, 6, none⟩ = false ∧ w.frozen? ⟨b, 7, none⟩ = false ∧ w.frozen? ⟨b, 8, none⟩ = false :=
  ⟨block_free h 0, block_free h 1, block_free h 2, block_free h 3, block_free h 4, block_free h 5, block_free h 6, block_free h 7, block_free h 8⟩
set_option maxHeartbeats 1000000 in
theorem try_none {W : World} {base b : Nat} {last : Int} {v : Value} {l : List No} (id now : Int) (hn : l.length ≤ 1000000) (h : Bx W base b last v l) (hp : ¬ placeN l id < l.length) :
    Calls Try.prog 11 #[.pointer (some ⟨b, 0, none⟩), .int .u64 id, .int .i64 now] W fun e W' => e = .returned (.tuple #[noVal noZ, .int .i64 31]) ∧ Below W.heap.size W W' := by
  have hat := fun W h => at_bx (W := W) (base := base) (b := b) (last := last) (v := v) (l := l) id hn h
  simp only [if_neg hp] at hat
  clear hp
  go_enter Try.func11, Try.ntmps11
  go_wp2_with fail
  refine (hat _ (h.below (below_new _ _))).mono ?_
  rintro e W2 ⟨rfl, hb2⟩
  have hr := alloc_after hb2
  have hB := below_on (below_new W _) hb2 (Nat.le_refl _)
  obtain ⟨q0, q1, q2, q3, q4, q5, q6, q7, q8⟩ := blk9 hr
  obtain ⟨z0, z1, z2, z3, z4, z5, z6, z7, z8⟩ := blk9z hr
  go_wp2_with fail
  refine bodyPost_ret (v := .tuple #[.agg #[.int .u64 0, .int .u64 0, .int .i64 0, .int .i64 0, .int .i64 0, .int .i64 0, .int .i64 0, .int .i64 0, .int .i64 0], .int .i64 31]) (by simp [results, Try.results11, go_sem, q0, q1, q2, q3, q4, q5, q6, q7, q8, z0, z1, z2, z3, z4, z5, z6, z7, z8]) rfl ?_
  exact ⟨rfl, below_grown hB (grown9 W2 W.heap.size 0 _ _ _ _ _ _ _ _ _) (Nat.le_refl _) hB.size⟩
set_option maxHeartbeats 2000000 in
theorem try_bad {W : World} {base b : Nat} {last : Int} {v : Value} {l : List No} (id now : Int) (hn : l.length ≤ 1000000) (h : Bx W base b last v l) (hp : placeN l id < l.length) (he : tryErr l[placeN l id] now ≠ 0) :
    Calls Try.prog 11 #[.pointer (some ⟨b, 0, none⟩), .int .u64 id, .int .i64 now] W fun e W' => e = .returned (.tuple #[noVal noZ, .int .i64 (tryErr l[placeN l id] now : Nat)]) ∧ Below W.heap.size W W' := by
  obtain ⟨i, hi⟩ : ∃ i, i = placeN l id := ⟨_, rfl⟩
  have hat := fun W h => at_bx (W := W) (base := base) (b := b) (last := last) (v := v) (l := l) id hn h
  simp only [if_pos hp] at hat
  simp only [← hi] at hat hp he ⊢
  have hget := fun W' (h' : Bx W' base b last v l) => h'.at_ i hp
  obtain ⟨s, hsd⟩ : ∃ s, s = l[i] := ⟨_, rfl⟩
  simp only [← hsd] at he hget ⊢
  have hwt := fun W => waits_any s W
  obtain ⟨E, hE⟩ : ∃ E, E = tryErr s now := ⟨_, rfl⟩
  rw [← hE] at he ⊢
  unfold tryErr at hE
  obtain ⟨q, hq⟩ : ∃ q, q = waitsB s := ⟨_, rfl⟩
  simp only [← hq] at hwt hE
  have Hget := Lib.hid hget
  have Hat := Lib.hid hat
  clear hi hsd hget hat hq
  obtain ⟨sid, tk, lv, pt, st, tr, rt, wt, nx⟩ := s
  unfold noVal at hwt
  simp only at hwt hE
  have Hwt := Lib.hid hwt
  clear hwt
  have i0 : (0 : Int) ≤ (i : Int) := by omega
  have i1 : (i : Int) < (l.length : Int) := by omega
  have hcases : (q = false ∧ E = 33) ∨ (q = true ∧ rt ≤ tr ∧ E = 33) ∨ (q = true ∧ ¬ rt ≤ tr ∧ now < nx ∧ E = 52) := by
    cases q
    · exact .inl ⟨rfl, by rw [hE]; rfl⟩
    · by_cases g : rt ≤ tr
      · exact .inr (.inl ⟨rfl, g, by rw [hE, if_pos (by simp [g])]⟩)
      · rw [if_neg (by simp; omega)] at hE
        by_cases g2 : now < nx
        · rw [if_pos g2] at hE; exact .inr (.inr ⟨rfl, g, g2, hE⟩)
        · rw [if_neg g2] at hE; exact absurd hE he
  clear hE he
  rcases hcases with ⟨rfl, rfl⟩ | ⟨rfl, g1, rfl⟩ | ⟨rfl, g1, g2, rfl⟩
  all_goals
    go_enter Try.func11, Try.ntmps11
    go_wp2_with fail
    refine (Hat.out _ (h.below (below_new _ _))).mono ?_
    rintro e W2 ⟨rfl, hb2⟩
    have hr := alloc_after hb2
    have hB2 := below_on (below_new W _) hb2 (Nat.le_refl _)
    have h2 := h.below hB2
    obtain ⟨x0, x1, x2⟩ := h2.cells
    obtain ⟨g, cap, hv, ⟨c0, c1, c2, c3, c4, c5, c6, c7, c8⟩, -, -, -⟩ := Hget.out W2 h2
    subst hv
    simp only at c0 c1 c2 c3 c4 c5 c6 c7 c8
    go_wp2_with fail
    refine (Hwt.out _).mono ?_
    rintro e W3 ⟨rfl, hb3⟩
    have hblk := alloc_after hb3
    have hB3 := below_on hB2 (below_on (below_new W2 _) hb3 (Nat.le_refl _)) (Nat.le_refl _)
    have hr3 : W3.heap[W.heap.size]? = _ := ((below_on (below_new W2 _) hb3 (Nat.le_refl _) : Below W2.heap.size W2 W3).block W.heap.size (Array.getElem?_eq_some_iff.1 hr).1).trans hr
    clear c0 c1 c2 c3 c4 c5 c6 c7 c8 x0 x1 x2 hb2 hr hb3
    obtain ⟨d0, d1, d2, d3, d4, d5, d6, d7, d8⟩ := blk9 hblk
    obtain ⟨q0, q1, q2, q3, q4, q5, q6, q7, q8⟩ := blk9 hr3
    obtain ⟨z0, z1, z2, z3, z4, z5, z6, z7, z8⟩ := blk9z hr3
    go_wp2_with fail
  · refine bodyPost_ret (v := .tuple #[.agg #[.int .u64 0, .int .u64 0, .int .i64 0, .int .i64 0, .int .i64 0, .int .i64 0, .int .i64 0, .int .i64 0, .int .i64 0], .int .i64 33]) (by simp [results, Try.results11, go_sem, q0, q1, q2, q3, q4, q5, q6, q7, q8, z0, z1, z2, z3, z4, z5, z6, z7, z8]) rfl ?_
    exact ⟨rfl, below_grown hB3 (grown9 W3 W.heap.size 0 _ _ _ _ _ _ _ _ _) (Nat.le_refl _) hB3.size⟩
  · refine bodyPost_ret (v := .tuple #[.agg #[.int .u64 0, .int .u64 0, .int .i64 0, .int .i64 0, .int .i64 0, .int .i64 0, .int .i64 0, .int .i64 0, .int .i64 0], .int .i64 33]) (by simp [results, Try.results11, go_sem, q0, q1, q2, q3, q4, q5, q6, q7, q8, z0, z1, z2, z3, z4, z5, z6, z7, z8]) rfl ?_
    exact ⟨rfl, below_grown hB3 (grown9 W3 W.heap.size 0 _ _ _ _ _ _ _ _ _) (Nat.le_refl _) hB3.size⟩
  · refine bodyPost_ret (v := .tuple #[.agg #[.int .u64 0, .int .u64 0, .int .i64 0, .int .i64 0, .int .i64 0, .int .i64 0, .int .i64 0, .int .i64 0, .int .i64 0], .int .i64 52]) (by simp [results, Try.results11, go_sem, q0, q1, q2, q3, q4, q5, q6, q7, q8, z0, z1, z2, z3, z4, z5, z6, z7, z8]) rfl ?_
    exact ⟨rfl, below_grown hB3 (grown9 W3 W.heap.size 0 _ _ _ _ _ _ _ _ _) (Nat.le_refl _) hB3.size⟩
end Go.Proofs.Ytdcinhnplcipoaa
