/- Contracts of the reference's Ack. No statement of the seat is proved here. -/
import Derived.Test.YtdcinhnplcipoaaObX
namespace Go.Proofs.Ytdcinhnplcipoaa
set_option linter.unusedVariables false
set_option linter.unusedSimpArgs false
set_option linter.unusedSectionVars false
open Go Go.RowKit Go.Shelf

set_option maxHeartbeats 2000000 in
theorem refAck_none (last id : Int) (ao : Option Addr) (cap : Nat) (l : List No) (w : World) (hs : Ns w ao cap l) (hl : l.length ≤ 1000000) (hp : ¬ placeN l id < l.length) :
    Calls Try.prog 51 #[.agg #[.int .u64 last, .slice ao l.length cap], .int .u64 id] w fun e w' => e = .returned (.tuple #[.agg #[.int .u64 last, .slice ao l.length cap], noVal noZ, .int .i64 31]) ∧ Below w.heap.size w w' := by
  obtain ⟨W1, hW1⟩ : ∃ W1, W1 = ((w.alloc (.cells #[.int .u64 last, .slice ao l.length cap] 53)).alloc (.cells #[.int .u64 0, .slice none 0 0] 53)).alloc (.cells #[.int .u64 0, .int .u64 0, .int .i64 0, .int .i64 0, .int .i64 0, .int .i64 0, .int .i64 0, .int .i64 0, .int .i64 0] 24) := ⟨_, rfl⟩
  obtain ⟨k0, k1, k2, hz, hB1⟩ := three_new hW1
  have hfi := find_any last id ao cap l W1 (hs.below hB1) hl
  rw [find_none' hp] at hfi
  have Hfi := Lib.hid hfi
  have p0 := block_cell k0 0
  have p1 := block_cell k0 1
  simp at p0 p1
  have Hz := Lib.hid hz
  have hlt0 : w.heap.size < W1.heap.size := by omega
  have hlt1 : w.heap.size + 1 < W1.heap.size := by omega
  have hlt2 : w.heap.size + 1 + 1 < W1.heap.size := by omega
  clear hz hfi hp
  go_enter Try.func51, Try.ntmps51
  go_wp2_with fail
  rw [← hW1]
  refine Hfi.out.mono ?_
  rintro e W2 ⟨rfl, hb2⟩
  clear hW1 p0 p1
  have j0 := (hb2.block _ hlt0).trans k0
  have j1 := (hb2.block _ hlt1).trans k1
  have j2 := (hb2.block _ hlt2).trans k2
  have B2 := below_on hB1 hb2 (Nat.le_refl _)
  have p0 := block_cell j0 0
  have p1 := block_cell j0 1
  have r0 := block_cell j1 0
  have r1 := block_cell j1 1
  have z0 := block_free j1 0
  have z1 := block_free j1 1
  simp at p0 p1 r0 r1
  obtain ⟨q0, q1, q2, q3, q4, q5, q6, q7, q8⟩ := blk9 j2
  obtain ⟨y0, y1, y2, y3, y4, y5, y6, y7, y8⟩ := blk9z j2
  go_wp2_with fail
  refine bodyPost_ret (v := .tuple #[.agg #[.int .u64 last, .slice ao l.length cap], .agg #[.int .u64 0, .int .u64 0, .int .i64 0, .int .i64 0, .int .i64 0, .int .i64 0, .int .i64 0, .int .i64 0, .int .i64 0], .int .i64 31]) (by simp [results, Try.results51, go_sem, r0, r1, z0, z1, q0, q1, q2, q3, q4, q5, q6, q7, q8, y0, y1, y2, y3, y4, y5, y6, y7, y8]) rfl ?_
  refine ⟨rfl, ?_⟩
  have hg1 := grown_trans (grown_set W2 (w.heap.size + 1) 0 (.int .u64 last)) (grown_set _ (w.heap.size + 1) 1 (.slice ao l.length cap))
  have B3 := below_grown B2 hg1 (by omega) B2.size
  exact below_grown B3 (grown9 _ (w.heap.size + 1 + 1) 0 _ _ _ _ _ _ _ _ _) (by omega) B3.size
set_option maxHeartbeats 4000000 in
theorem refAck_bad (last id : Int) (ao : Option Addr) (cap : Nat) (l : List No) (w : World) (hs : Ns w ao cap l) (hl : l.length ≤ 1000000) (hp : placeN l id < l.length) (he : ackBad l[placeN l id] = true) :
    Calls Try.prog 51 #[.agg #[.int .u64 last, .slice ao l.length cap], .int .u64 id] w fun e w' => e = .returned (.tuple #[.agg #[.int .u64 last, .slice ao l.length cap], noVal noZ, .int .i64 33]) ∧ Below w.heap.size w w' := by
  obtain ⟨W1, hW1⟩ : ∃ W1, W1 = ((w.alloc (.cells #[.int .u64 last, .slice ao l.length cap] 53)).alloc (.cells #[.int .u64 0, .slice none 0 0] 53)).alloc (.cells #[.int .u64 0, .int .u64 0, .int .i64 0, .int .i64 0, .int .i64 0, .int .i64 0, .int .i64 0, .int .i64 0, .int .i64 0] 24) := ⟨_, rfl⟩
  obtain ⟨k0, k1, k2, hz, hB1⟩ := three_new hW1
  have hfi := find_any last id ao cap l W1 (hs.below hB1) hl
  rw [find_some' hp] at hfi
  obtain ⟨i, hi⟩ : ∃ i, i = placeN l id := ⟨_, rfl⟩
  simp only [← hi] at hfi hp he ⊢
  obtain ⟨s, hsd⟩ : ∃ s, s = l[i] := ⟨_, rfl⟩
  have hget := fun W' (h' : Ns W' ao cap l) => h'.get i hp
  simp only [← hsd] at he hget ⊢
  have Hget := Lib.hid hget
  clear hi hsd hget
  obtain ⟨sid, tk, lv, pt, st, tr, rt, wt, nx⟩ := s
  have hcases : (st == 1) = false ∨ ((st == 1) = true ∧ (tr == 0) = true) := by
    unfold ackBad waitsB at he
    by_cases g0 : st = 1
    · exact .inr ⟨by simpa using g0, by simp [g0] at he; simpa using he⟩
    · exact .inl (by simpa using g0)
  have Hfi := Lib.hid hfi
  have p0 := block_cell k0 0
  have p1 := block_cell k0 1
  simp at p0 p1
  have Hz := Lib.hid hz
  have hlt0 : w.heap.size < W1.heap.size := by omega
  have hlt1 : w.heap.size + 1 < W1.heap.size := by omega
  have hlt2 : w.heap.size + 1 + 1 < W1.heap.size := by omega
  have i0 : (0 : Int) ≤ (i : Int) := by omega
  have i1 : (i : Int) < (l.length : Int) := by omega
  clear hz hfi he
  rcases hcases with g0 | ⟨g0, g1⟩
  all_goals
    first | (have g0' := waits_ne g0) | (have g0' := waits_eq g0)
    go_enter Try.func51, Try.ntmps51
    go_wp2_with fail
    rw [← hW1]
    refine Hfi.out.mono ?_
    rintro e W2 ⟨rfl, hb2⟩
    clear hW1 p0 p1
    have j0 := (hb2.block _ hlt0).trans k0
    have j1 := (hb2.block _ hlt1).trans k1
    have j2 := (hb2.block _ hlt2).trans k2
    have B2 := below_on hB1 hb2 (Nat.le_refl _)
    have p1 := block_cell j0 1
    simp at p1
    obtain ⟨g, off, hao, c0, c1, c2, c3, c4, c5, c6, c7, c8⟩ := Hget.out W2 (hs.below B2)
    subst hao
    simp only at c0 c1 c2 c3 c4 c5 c6 c7 c8
    go_upto_region 5 with fail
    obtain ⟨W3, hW3⟩ : ∃ W3, W3 = W2.alloc (.cells #[.int .u64 sid, .int .u64 tk, .int .i64 lv, .int .i64 pt, .int .i64 st, .int .i64 tr, .int .i64 rt, .int .i64 wt, .int .i64 nx] 24) := ⟨_, rfl⟩
    have B3' : Below W2.heap.size W2 W3 := by rw [hW3]; exact below_new _ _
    have jn : W3.heap[W2.heap.size]? = _ := (congrArg (fun z : World => z.heap[W2.heap.size]?) hW3).trans (heap_alloc_new _ _)
    rw [← hW3]
    clear hW3 p1 c0 c1 c2 c3 c4 c5 c6 c7 c8
    have B3 := below_on B2 B3' (Nat.le_refl _)
    have m0 := (B3'.block _ (Array.getElem?_eq_some_iff.1 j0).1).trans j0
    have m1 := (B3'.block _ (Array.getElem?_eq_some_iff.1 j1).1).trans j1
    have m2 := (B3'.block _ (Array.getElem?_eq_some_iff.1 j2).1).trans j2
    have p0 := block_cell m0 0
    have p1 := block_cell m0 1
    have r0 := block_cell m1 0
    have r1 := block_cell m1 1
    have z0 := block_free m1 0
    have z1 := block_free m1 1
    simp at p0 p1 r0 r1
    obtain ⟨q0, q1, q2, q3, q4, q5, q6, q7, q8⟩ := blk9 m2
    obtain ⟨y0, y1, y2, y3, y4, y5, y6, y7, y8⟩ := blk9z m2
    obtain ⟨d0, d1, d2, d3, d4, d5, d6, d7, d8⟩ := blk9 jn
    clear j0 j1 j2 hb2 B3'
    go_wp2_with fail
  · refine bodyPost_ret (v := .tuple #[.agg #[.int .u64 last, .slice (some ⟨g, off, none⟩) l.length cap], .agg #[.int .u64 0, .int .u64 0, .int .i64 0, .int .i64 0, .int .i64 0, .int .i64 0, .int .i64 0, .int .i64 0, .int .i64 0], .int .i64 33]) (by simp [results, Try.results51, go_sem, r0, r1, z0, z1, q0, q1, q2, q3, q4, q5, q6, q7, q8, y0, y1, y2, y3, y4, y5, y6, y7, y8]) rfl ?_
    refine ⟨rfl, ?_⟩
    have B4 := below_grown B3 (grown_trans (grown_set _ (w.heap.size + 1) 0 (.int .u64 last)) (grown_set _ (w.heap.size + 1) 1 (.slice (some ⟨g, off, none⟩) l.length cap))) (by omega) B3.size
    exact below_grown B4 (grown9 _ (w.heap.size + 1 + 1) 0 _ _ _ _ _ _ _ _ _) (by omega) B4.size
  · refine bodyPost_ret (v := .tuple #[.agg #[.int .u64 last, .slice (some ⟨g, off, none⟩) l.length cap], .agg #[.int .u64 0, .int .u64 0, .int .i64 0, .int .i64 0, .int .i64 0, .int .i64 0, .int .i64 0, .int .i64 0, .int .i64 0], .int .i64 33]) (by simp [results, Try.results51, go_sem, r0, r1, z0, z1, q0, q1, q2, q3, q4, q5, q6, q7, q8, y0, y1, y2, y3, y4, y5, y6, y7, y8]) rfl ?_
    refine ⟨rfl, ?_⟩
    have B4 := below_grown B3 (grown_trans (grown_set _ (w.heap.size + 1) 0 (.int .u64 last)) (grown_set _ (w.heap.size + 1) 1 (.slice (some ⟨g, off, none⟩) l.length cap))) (by omega) B3.size
    exact below_grown B4 (grown9 _ (w.heap.size + 1 + 1) 0 _ _ _ _ _ _ _ _ _) (by omega) B4.size
set_option maxHeartbeats 8000000 in
theorem refAck_ok (last id : Int) (ao : Option Addr) (cap : Nat) (l : List No) (w : World) (hs : Ns w ao cap l) (hl : l.length ≤ 1000000) (hp : placeN l id < l.length) (he : ackBad l[placeN l id] = false) :
    Calls Try.prog 51 #[.agg #[.int .u64 last, .slice ao l.length cap], .int .u64 id] w (RChg last (l.set (placeN l id) (setSt l[placeN l id] 2)) (setSt l[placeN l id] 2) w) := by
  obtain ⟨W1, hW1⟩ : ∃ W1, W1 = ((w.alloc (.cells #[.int .u64 last, .slice ao l.length cap] 53)).alloc (.cells #[.int .u64 0, .slice none 0 0] 53)).alloc (.cells #[.int .u64 0, .int .u64 0, .int .i64 0, .int .i64 0, .int .i64 0, .int .i64 0, .int .i64 0, .int .i64 0, .int .i64 0] 24) := ⟨_, rfl⟩
  obtain ⟨k0, k1, k2, hz, hB1⟩ := three_new hW1
  have hfi := find_any last id ao cap l W1 (hs.below hB1) hl
  rw [find_some' hp] at hfi
  obtain ⟨i, hi⟩ : ∃ i, i = placeN l id := ⟨_, rfl⟩
  simp only [← hi] at hfi hp he ⊢
  obtain ⟨s, hsd⟩ : ∃ s, s = l[i] := ⟨_, rfl⟩
  have hget := fun W' (h' : Ns W' ao cap l) => h'.get i hp
  simp only [← hsd] at he hget ⊢
  have hw : (s.st == 1) = true := by
    unfold ackBad waitsB at he; simp at he; simpa using he.1
  have hlt : (s.tr == 0) = false := by
    unfold ackBad waitsB at he; simp at he; simpa using he.2
  have hw2 := waits_eq hw
  obtain ⟨T, hT⟩ : ∃ T, T = setSt s 2 := ⟨_, rfl⟩
  rw [← hT]
  have HT := Lib.hid hT
  have Hget := Lib.hid hget
  have Hfi := Lib.hid hfi
  clear he hi hsd hget hT hfi
  obtain ⟨sid, tk, lv, pt, st, tr, rt, wt, nx⟩ := s
  simp only at hlt hw hw2
  have p0 := block_cell k0 0
  have p1 := block_cell k0 1
  simp at p0 p1
  have Hz := Lib.hid hz
  have hlt0 : w.heap.size < W1.heap.size := by omega
  have hlt1 : w.heap.size + 1 < W1.heap.size := by omega
  have hlt2 : w.heap.size + 1 + 1 < W1.heap.size := by omega
  have i0 : (0 : Int) ≤ (i : Int) := by omega
  have i1 : (i : Int) < (l.length : Int) := by omega
  clear hz
  go_enter Try.func51, Try.ntmps51
  go_wp2_with fail
  rw [← hW1]
  refine Hfi.out.mono ?_
  rintro e W2 ⟨rfl, hb2⟩
  clear hW1 p0 p1
  have j0 := (hb2.block _ hlt0).trans k0
  have j1 := (hb2.block _ hlt1).trans k1
  have j2 := (hb2.block _ hlt2).trans k2
  have B2 := below_on hB1 hb2 (Nat.le_refl _)
  have hz12 := hb2.size
  have p1 := block_cell j0 1
  simp at p1
  obtain ⟨g, off, hao, c0, c1, c2, c3, c4, c5, c6, c7, c8⟩ := Hget.out W2 (hs.below B2)
  subst hao
  simp only at c0 c1 c2 c3 c4 c5 c6 c7 c8
  go_upto_region 5 with fail
  obtain ⟨W3, hW3⟩ : ∃ W3, W3 = W2.alloc (.cells #[.int .u64 sid, .int .u64 tk, .int .i64 lv, .int .i64 pt, .int .i64 st, .int .i64 tr, .int .i64 rt, .int .i64 wt, .int .i64 nx] 24) := ⟨_, rfl⟩
  have B3' : Below W2.heap.size W2 W3 := by rw [hW3]; exact below_new _ _
  have jn : W3.heap[W2.heap.size]? = _ := (congrArg (fun z : World => z.heap[W2.heap.size]?) hW3).trans (heap_alloc_new _ _)
  rw [← hW3]
  clear hW3 p1 c0 c1 c2 c3 c4 c5 c6 c7 c8
  have B3 := below_on B2 B3' (Nat.le_refl _)
  have m0 := (B3'.block _ (Array.getElem?_eq_some_iff.1 j0).1).trans j0
  have m1 := (B3'.block _ (Array.getElem?_eq_some_iff.1 j1).1).trans j1
  have m2 := (B3'.block _ (Array.getElem?_eq_some_iff.1 j2).1).trans j2
  have hz23 : W2.heap.size < W3.heap.size := (Array.getElem?_eq_some_iff.1 jn).1
  clear j0 j1 j2 hb2 B3'
  obtain ⟨d0, d1, d2, d3, d4, d5, d6, d7, d8⟩ := blk9 jn
  have z4 := block_free jn 4
  have hb6 := block_set jn 4 (.int .i64 2)
  simp only [List.setIfInBounds_toArray, List.set_cons_zero, List.set_cons_succ] at hb6
  have g6 := grown_set W3 W2.heap.size 4 (.int .i64 2)
  go_upto_region 8 with fail
  obtain ⟨W7, hW7⟩ : ∃ W7, W7 = W3.setCell ⟨W2.heap.size, 4, none⟩ (.int .i64 2) := ⟨_, rfl⟩
  rw [← hW7] at hb6 g6
  rw [← hW7]
  clear hW7 d0 d1 d2 d3 d4 d5 d6 d7 d8 z4
  obtain ⟨d0, d1, d2, d3, d4, d5, d6, d7, d8⟩ := blk9 hb6
  have hTe : T = ⟨sid, tk, lv, pt, 2, tr, rt, wt, nx⟩ := by rw [HT.out]; rfl
  have hz37 := g6.size
  have n0' := (g6.block _ (by omega) (by simp; omega)).trans m0
  have n1' := (g6.block _ (by omega) (by simp; omega)).trans m1
  have n2' := (g6.block _ (by omega) (by simp; omega)).trans m2
  have B7 := below_grown B3 g6 (by have := B2.size; omega) B3.size
  have hwi := with_any last (some ⟨g, off, none⟩) cap l i T W7.drew ((hs.below B7).below (Below.refl _ _).drew) hl hp
  rw [hTe] at hwi
  unfold noVal at hwi
  simp only at hwi
  have Hwi := Lib.hid hwi
  clear hwi
  have p0 := block_cell n0' 0
  have p1 := block_cell n0' 1
  simp at p0 p1
  go_region_law ((go_simp; go_at_call 69; refine Hwi.out.mono ?_; rintro e W8 ⟨ao8, cap8, rfl, how8, hb8⟩; have B78 := below_on (Below.refl W7.heap.size W7).drew hb8 (Nat.le_refl _); have u0 := (B78.block _ (Array.getElem?_eq_some_iff.1 n0').1).trans n0'; have u1 := (B78.block _ (Array.getElem?_eq_some_iff.1 n1').1).trans n1'; have u2 := (B78.block _ (Array.getElem?_eq_some_iff.1 n2').1).trans n2'; have un := (B78.block _ (Array.getElem?_eq_some_iff.1 hb6).1).trans hb6; obtain ⟨dd0, dd1, dd2, dd3, dd4, dd5, dd6, dd7, dd8⟩ := blk9 un; obtain ⟨q0, q1, q2, q3, q4, q5, q6, q7, q8⟩ := blk9 u2; obtain ⟨y0, y1, y2, y3, y4, y5, y6, y7, y8⟩ := blk9z u2; have r0 := block_cell u1 0; have r1 := block_cell u1 1; have z0 := block_free u1 0; have z1 := block_free u1 1; simp at r0 r1))
  all_goals
    go_wp2_with fail
    refine bodyPost_ret (v := .tuple #[.agg #[.int .u64 last, .slice ao8 l.length cap8], .agg #[.int .u64 sid, .int .u64 tk, .int .i64 lv, .int .i64 pt, .int .i64 2, .int .i64 tr, .int .i64 rt, .int .i64 wt, .int .i64 nx], .int .i64 0]) (by simp [results, Try.results51, go_sem, r0, r1, z0, z1, q0, q1, q2, q3, q4, q5, q6, q7, q8, y0, y1, y2, y3, y4, y5, y6, y7, y8]) rfl ?_
    have B8 : Below w.heap.size w W8 := below_on B7 B78 (Nat.le_refl _)
    rw [List.length_set] at how8
    refine ⟨ao8, cap8, by rw [hTe, List.length_set]; rfl, ?_, ?_⟩
    · rw [List.length_set, hTe]
      refine own_base (base := W7.drew.heap.size) ?_ (by show _ ≤ W7.heap.size; have := B7.size; omega)
      refine own_under9 (own_under2 ?_ ?_ _ _) ?_ _ _ _ _ _ _ _ _ _
      first | exact how8 | exact own_drew how8
      · show _ < W7.heap.size; omega
      · show _ < W7.heap.size; omega
    · refine below_grown (below_grown ?_ (grown_set2 _ _ _ _) (by omega) (by first | exact B8.size | (simp; exact B8.size))) (grown9 _ (w.heap.size + 1 + 1) 0 _ _ _ _ _ _ _ _ _) (by omega) (by first | exact B8.size | (simp; exact B8.size))
      first | exact B8 | exact B8.drew
end Go.Proofs.Ytdcinhnplcipoaa
