/- Contract of the reference's Try where it tries. No statement of the seat is proved here. -/
import Derived.Test.YtdcinhnplcipoaaObW
namespace Go.Proofs.Ytdcinhnplcipoaa
set_option linter.unusedVariables false
set_option linter.unusedSimpArgs false
set_option linter.unusedSectionVars false
open Go Go.RowKit Go.Shelf

/-- what the reference's Try and Ack tell where they change a notice -/
def RChg (last : Int) (l : List No) (T : No) (W : World) (e : Ending) (W' : World) : Prop :=
  ∃ ao cap, e = .returned (.tuple #[.agg #[.int .u64 last, .slice ao l.length cap], noVal T, .int .i64 0]) ∧ W'.ownsRow W.heap.size 24 9 (.slice ao l.length cap) l.length (l.map noCells).flatten ∧ Below W.heap.size W W'
theorem own_under2 {W : World} {B e size n b : Nat} {v : Value} {xs : List Value} (h : W.ownsRow B e size v n xs) (hb : b < B) (x y : Value) : ((W.setCell ⟨b, 0, none⟩ x).setCell ⟨b, 1, none⟩ y).ownsRow B e size v n xs :=
  ownsRow_setCell_below (ownsRow_setCell_below h (a := ⟨b, 0, none⟩) hb _) (a := ⟨b, 1, none⟩) hb _
theorem own_under9 {W : World} {B e size n b : Nat} {v : Value} {xs : List Value} (h : W.ownsRow B e size v n xs) (hb : b < B) (x0 x1 x2 x3 x4 x5 x6 x7 x8 : Value) : (((((((((W.setCell ⟨b, 0, none⟩ x0).setCell ⟨b, 1, none⟩ x1).setCell ⟨b, 2, none⟩ x2).setCell ⟨b, 3, none⟩ x3).setCell ⟨b, 4, none⟩ x4).setCell ⟨b, 5, none⟩ x5).setCell ⟨b, 6, none⟩ x6).setCell ⟨b, 7, none⟩ x7).setCell ⟨b, 8, none⟩ x8).ownsRow B e size v n xs :=
  ownsRow_setCell_below (a := ⟨b, 8, none⟩) (ownsRow_setCell_below (a := ⟨b, 7, none⟩) (ownsRow_setCell_below (a := ⟨b, 6, none⟩) (ownsRow_setCell_below (a := ⟨b, 5, none⟩) (ownsRow_setCell_below (a := ⟨b, 4, none⟩) (ownsRow_setCell_below (a := ⟨b, 3, none⟩) (ownsRow_setCell_below (a := ⟨b, 2, none⟩) (ownsRow_setCell_below (a := ⟨b, 1, none⟩) (ownsRow_setCell_below (a := ⟨b, 0, none⟩) h hb _) hb _) hb _) hb _) hb _) hb _) hb _) hb _) hb _
theorem own_drew {W : World} {B e size n : Nat} {v : Value} {xs : List Value} (h : W.ownsRow B e size v n xs) : W.drew.ownsRow B e size v n xs := h
theorem grown_set2 (W : World) (b : Nat) (x y : Value) : W.grownBy ((W.setCell ⟨b, 0, none⟩ x).setCell ⟨b, 1, none⟩ y) (some b) := grown_trans (grown_set W b 0 x) (grown_set _ b 1 y)
set_option maxHeartbeats 8000000 in
theorem refTry_ok (last id now : Int) (ao : Option Addr) (cap : Nat) (l : List No) (w : World) (hs : Ns w ao cap l) (hl : l.length ≤ 1000000) (hp : placeN l id < l.length) (he : tryErr l[placeN l id] now = 0) (hf : fitsN l[placeN l id] = true) (ht : 0 ≤ l[placeN l id].tr) (hx : 0 ≤ l[placeN l id].nx) :
    Calls Try.prog 50 #[.agg #[.int .u64 last, .slice ao l.length cap], .int .u64 id, .int .i64 now] w (RChg last (l.set (placeN l id) (tryN l[placeN l id] now)) (tryN l[placeN l id] now) w) := by
  obtain ⟨W1, hW1⟩ : ∃ W1, W1 = ((w.alloc (.cells #[.int .u64 last, .slice ao l.length cap] 53)).alloc (.cells #[.int .u64 0, .slice none 0 0] 53)).alloc (.cells #[.int .u64 0, .int .u64 0, .int .i64 0, .int .i64 0, .int .i64 0, .int .i64 0, .int .i64 0, .int .i64 0, .int .i64 0] 24) := ⟨_, rfl⟩
  obtain ⟨k0, k1, k2, hz, hB1⟩ := three_new hW1
  have hfi := find_any last id ao cap l W1 (hs.below hB1) hl
  rw [find_some' hp] at hfi
  obtain ⟨i, hi⟩ : ∃ i, i = placeN l id := ⟨_, rfl⟩
  simp only [← hi] at hfi hp he hf ht hx ⊢
  obtain ⟨s, hsd⟩ : ∃ s, s = l[i] := ⟨_, rfl⟩
  have hget := fun W' (h' : Ns W' ao cap l) => h'.get i hp
  simp only [← hsd] at he hget hf ht hx ⊢
  have hw : (s.st == 1) = true := by
    unfold tryErr at he
    by_cases g : (!waitsB s || decide (s.rt ≤ s.tr)) = true
    · rw [if_pos g] at he; cases he
    · simp at g; exact g.1
  have hlt : s.tr < s.rt := by
    unfold tryErr at he
    by_cases g : (!waitsB s || decide (s.rt ≤ s.tr)) = true
    · rw [if_pos g] at he; cases he
    · simp at g; omega
  have hnx : ¬ now < s.nx := by
    unfold tryErr at he
    rw [if_neg (by simp [waitsB, hw]; omega)] at he
    intro g
    rw [if_pos g] at he; cases he
  have hw2 := waits_eq hw
  unfold fitsN at hf
  simp only [Bool.and_eq_true, decide_eq_true_eq] at hf
  obtain ⟨⟨⟨⟨⟨⟨⟨f1, f2⟩, f3⟩, f4⟩, f5⟩, f6⟩, f7⟩, f8⟩ := hf
  obtain ⟨T, hT⟩ : ∃ T, T = tryN s now := ⟨_, rfl⟩
  rw [← hT]
  have HT := Lib.hid hT
  have Hget := Lib.hid hget
  have Hfi := Lib.hid hfi
  clear he hi hsd hget hT hfi
  obtain ⟨sid, tk, lv, pt, st, tr, rt, wt, nx⟩ := s
  simp only at f1 f2 f3 f4 f5 f6 f7 f8 hlt hnx ht hx hw hw2
  have p0 := block_cell k0 0
  have p1 := block_cell k0 1
  simp at p0 p1
  have Hz := Lib.hid hz
  have hlt0 : w.heap.size < W1.heap.size := by omega
  have hlt1 : w.heap.size + 1 < W1.heap.size := by omega
  have hlt2 : w.heap.size + 1 + 1 < W1.heap.size := by omega
  have i0 : (0 : Int) ≤ (i : Int) := by omega
  have i1 : (i : Int) < (l.length : Int) := by omega
  clear hz
  go_enter Try.func50, Try.ntmps50
  go_wp2_with fail
  rw [← hW1]
  refine Hfi.out.mono ?_
  rintro e W2 ⟨rfl, hb2⟩
  clear hW1 p0 p1
  have j0 := (hb2.block _ hlt0).trans k0
  have j1 := (hb2.block _ hlt1).trans k1
  have j2 := (hb2.block _ hlt2).trans k2
  have B2 := below_on hB1 hb2 (Nat.le_refl _)
  have hz12 := hb2.size
  have p1 := block_cell j0 1
  simp at p1
  obtain ⟨g, off, hao, c0, c1, c2, c3, c4, c5, c6, c7, c8⟩ := Hget.out W2 (hs.below B2)
  subst hao
  simp only at c0 c1 c2 c3 c4 c5 c6 c7 c8
  go_upto_region 5 with fail
  obtain ⟨W3, hW3⟩ : ∃ W3, W3 = W2.alloc (.cells #[.int .u64 sid, .int .u64 tk, .int .i64 lv, .int .i64 pt, .int .i64 st, .int .i64 tr, .int .i64 rt, .int .i64 wt, .int .i64 nx] 24) := ⟨_, rfl⟩
  have B3' : Below W2.heap.size W2 W3 := by rw [hW3]; exact below_new _ _
  have jn : W3.heap[W2.heap.size]? = _ := (congrArg (fun z : World => z.heap[W2.heap.size]?) hW3).trans (heap_alloc_new _ _)
  rw [← hW3]
  clear hW3 p1 c0 c1 c2 c3 c4 c5 c6 c7 c8
  have B3 := below_on B2 B3' (Nat.le_refl _)
  have m0 := (B3'.block _ (Array.getElem?_eq_some_iff.1 j0).1).trans j0
  have m1 := (B3'.block _ (Array.getElem?_eq_some_iff.1 j1).1).trans j1
  have m2 := (B3'.block _ (Array.getElem?_eq_some_iff.1 j2).1).trans j2
  have hz23 : W2.heap.size < W3.heap.size := (Array.getElem?_eq_some_iff.1 jn).1
  clear j0 j1 j2 hb2 B3'
  obtain ⟨d0, d1, d2, d3, d4, d5, d6, d7, d8⟩ := blk9 jn
  have z5 := block_free jn 5
  have z8 := block_free jn 8
  have e1 : IntKind.i64.wrap (tr + 1) = tr + 1 := IntWalk.i64_in _ (by omega)
  obtain ⟨nx', hnx'⟩ : ∃ n, n = (if now < 1125899906842624 - wt then now + wt else 1125899906842624) := ⟨_, rfl⟩
  have Hnx := Lib.hid hnx'
  clear hnx'
  have n0 : 0 ≤ now := by omega
  have hb8 := block_set (block_set jn 5 (.int .i64 (tr + 1))) 8 (.int .i64 1125899906842624)
  simp only [List.setIfInBounds_toArray, List.set_cons_zero, List.set_cons_succ] at hb8
  have g8 := grown_trans (grown_set W3 W2.heap.size 5 (.int .i64 (tr + 1))) (grown_set _ W2.heap.size 8 (.int .i64 1125899906842624))
  go_upto_if 50 with fail
  obtain ⟨W4, hW4⟩ : ∃ W4, W4 = (W3.setCell ⟨W2.heap.size, 5, none⟩ (.int .i64 (tr + 1))).setCell ⟨W2.heap.size, 8, none⟩ (.int .i64 1125899906842624) := ⟨_, rfl⟩
  rw [← hW4] at hb8 g8
  rw [← hW4]
  clear hW4 d0 d1 d2 d3 d4 d5 d6 d7 d8 z5 z8
  obtain ⟨d0, d1, d2, d3, d4, d5, d6, d7, d8⟩ := blk9 hb8
  have z8 := block_free hb8 8
  go_cut [9] (fun vv wx => vv = .int .i64 i ∧ wx.heap[W2.heap.size]? = some (.cells #[.int .u64 sid, .int .u64 tk, .int .i64 lv, .int .i64 pt, .int .i64 st, .int .i64 (tr + 1), .int .i64 rt, .int .i64 wt, .int .i64 nx'] 24 (0, 0)) ∧ W3.grownBy wx (some W2.heap.size))
  case first =>
    by_cases hA : now < 1125899906842624 - wt
    · have Hn := Lib.hid (show nx' = now + wt by rw [Hnx.out, if_pos hA])
      have hb9 := block_set hb8 8 (.int .i64 (now + wt))
      simp only [List.setIfInBounds_toArray, List.set_cons_zero, List.set_cons_succ] at hb9
      have e3 : IntKind.i64.wrap (now + wt) = now + wt := IntWalk.i64_in _ (by omega)
      go_wp2_with fail
      go_meet
      rw [Hn.out]
      exact ⟨rfl, hb9, grown_trans g8 (grown_set _ _ _ _)⟩
    · have Hn := Lib.hid (show nx' = 1125899906842624 by rw [Hnx.out, if_neg hA])
      go_wp2_with fail
      go_meet
      rw [Hn.out]
      exact ⟨rfl, hb8, g8⟩
  case rest =>
    obtain ⟨rfl, hb9, g9⟩ := hcut
    obtain ⟨W5, hW5⟩ : ∃ W5, W5 = wc := ⟨_, rfl⟩
    rw [← hW5] at hb9 g9 ⊢
    clear hW5 d0 d1 d2 d3 d4 d5 d6 d7 d8 z8 hb8 g8
    obtain ⟨d0, d1, d2, d3, d4, d5, d6, d7, d8⟩ := blk9 hb9
    have z7 := block_free hb9 7
    have e2 : IntKind.i64.wrap (wt * 2) = wt * 2 := IntWalk.i64_in _ (by omega)
    have hb7 := block_set hb9 7 (.int .i64 (wt * 2))
    simp only [List.setIfInBounds_toArray, List.set_cons_zero, List.set_cons_succ] at hb7
    have g7 := grown_trans g9 (grown_set W5 W2.heap.size 7 (.int .i64 (wt * 2)))
    go_upto_if 62 with fail
    obtain ⟨W6, hW6⟩ : ∃ W6, W6 = W5.setCell ⟨W2.heap.size, 7, none⟩ (.int .i64 (wt * 2)) := ⟨_, rfl⟩
    rw [← hW6] at hb7 g7
    rw [← hW6]
    clear hW6 d0 d1 d2 d3 d4 d5 d6 d7 d8 z7
    obtain ⟨d0, d1, d2, d3, d4, d5, d6, d7, d8⟩ := blk9 hb7
    have z7 := block_free hb7 7
    obtain ⟨wt', hwt'⟩ : ∃ n, n = (if 1048576 < 2 * wt then 1048576 else 2 * wt) := ⟨_, rfl⟩
    have Hwt' := Lib.hid hwt'
    clear hwt'
    go_cut [9] (fun vv wx => vv = .int .i64 i ∧ wx.heap[W2.heap.size]? = some (.cells #[.int .u64 sid, .int .u64 tk, .int .i64 lv, .int .i64 pt, .int .i64 st, .int .i64 (tr + 1), .int .i64 rt, .int .i64 wt', .int .i64 nx'] 24 (0, 0)) ∧ W3.grownBy wx (some W2.heap.size))
    case first =>
      by_cases hB : 1048576 < wt * 2
      · have Hn := Lib.hid (show wt' = 1048576 by rw [Hwt'.out, if_pos (by omega)])
        have hb6 := block_set hb7 7 (.int .i64 1048576)
        simp only [List.setIfInBounds_toArray, List.set_cons_zero, List.set_cons_succ] at hb6
        go_wp2_with fail
        go_meet
        rw [Hn.out]
        exact ⟨rfl, hb6, grown_trans g7 (grown_set _ _ _ _)⟩
      · have Hn := Lib.hid (show wt' = wt * 2 by rw [Hwt'.out, if_neg (by omega)]; omega)
        go_wp2_with fail
        go_meet
        rw [Hn.out]
        exact ⟨rfl, hb7, g7⟩
    case rest =>
      obtain ⟨rfl, hb6, g6⟩ := hcut
      obtain ⟨W7, hW7⟩ : ∃ W7, W7 = wc := ⟨_, rfl⟩
      rw [← hW7] at hb6 g6 ⊢
      clear hW7 d0 d1 d2 d3 d4 d5 d6 d7 d8 z7 hb7 g7 hb9 g9
      obtain ⟨d0, d1, d2, d3, d4, d5, d6, d7, d8⟩ := blk9 hb6
      have hTe : T = ⟨sid, tk, lv, pt, st, tr + 1, rt, wt', nx'⟩ := by rw [HT.out, Hwt'.out, Hnx.out]; rfl
      have hz37 := g6.size
      have n0' := (g6.block _ (by omega) (by simp; omega)).trans m0
      have n1' := (g6.block _ (by omega) (by simp; omega)).trans m1
      have n2' := (g6.block _ (by omega) (by simp; omega)).trans m2
      have B7 := below_grown B3 g6 (by have := B2.size; omega) B3.size
      have hwi := with_any last (some ⟨g, off, none⟩) cap l i T W7.drew ((hs.below B7).below (Below.refl _ _).drew) hl hp
      rw [hTe] at hwi
      unfold noVal at hwi
      simp only at hwi
      have Hwi := Lib.hid hwi
      clear hwi
      have p0 := block_cell n0' 0
      have p1 := block_cell n0' 1
      simp at p0 p1
      go_upto_region 16 with fail
      go_region_law ((go_simp; go_at_call 69; refine Hwi.out.mono ?_; rintro e W8 ⟨ao8, cap8, rfl, how8, hb8⟩; have B78 := below_on (Below.refl W7.heap.size W7).drew hb8 (Nat.le_refl _); have u0 := (B78.block _ (Array.getElem?_eq_some_iff.1 n0').1).trans n0'; have u1 := (B78.block _ (Array.getElem?_eq_some_iff.1 n1').1).trans n1'; have u2 := (B78.block _ (Array.getElem?_eq_some_iff.1 n2').1).trans n2'; have un := (B78.block _ (Array.getElem?_eq_some_iff.1 hb6).1).trans hb6; obtain ⟨dd0, dd1, dd2, dd3, dd4, dd5, dd6, dd7, dd8⟩ := blk9 un; obtain ⟨q0, q1, q2, q3, q4, q5, q6, q7, q8⟩ := blk9 u2; obtain ⟨y0, y1, y2, y3, y4, y5, y6, y7, y8⟩ := blk9z u2; have r0 := block_cell u1 0; have r1 := block_cell u1 1; have z0 := block_free u1 0; have z1 := block_free u1 1; simp at r0 r1))
      all_goals
        go_wp2_with fail
        refine bodyPost_ret (v := .tuple #[.agg #[.int .u64 last, .slice ao8 l.length cap8], .agg #[.int .u64 sid, .int .u64 tk, .int .i64 lv, .int .i64 pt, .int .i64 st, .int .i64 (tr + 1), .int .i64 rt, .int .i64 wt', .int .i64 nx'], .int .i64 0]) (by simp [results, Try.results50, go_sem, r0, r1, z0, z1, q0, q1, q2, q3, q4, q5, q6, q7, q8, y0, y1, y2, y3, y4, y5, y6, y7, y8]) rfl ?_
        have B8 : Below w.heap.size w W8 := below_on B7 B78 (Nat.le_refl _)
        rw [List.length_set] at how8
        refine ⟨ao8, cap8, by rw [hTe, List.length_set]; rfl, ?_, ?_⟩
        · rw [List.length_set, hTe]
          refine own_base (base := W7.drew.heap.size) ?_ (by show _ ≤ W7.heap.size; have := B7.size; omega)
          refine own_under9 (own_under2 ?_ ?_ _ _) ?_ _ _ _ _ _ _ _ _ _
          first | exact how8 | exact own_drew how8
          · show _ < W7.heap.size; omega
          · show _ < W7.heap.size; omega
        · refine below_grown (below_grown ?_ (grown_set2 _ _ _ _) (by omega) (by first | exact B8.size | (simp; exact B8.size))) (grown9 _ (w.heap.size + 1 + 1) 0 _ _ _ _ _ _ _ _ _) (by omega) (by first | exact B8.size | (simp; exact B8.size))
          first | exact B8 | exact B8.drew
end Go.Proofs.Ytdcinhnplcipoaa
