/- Contracts of the reference's Try and Ack. No statement of the seat is proved here. -/
import Derived.Test.YtdcinhnplcipoaaObV
namespace Go.Proofs.Ytdcinhnplcipoaa
set_option linter.unusedVariables false
set_option linter.unusedSimpArgs false
set_option linter.unusedSectionVars false
open Go Go.RowKit Go.Shelf

/-- the three blocks with which the reference's Try and Ack begin -/
theorem three_new {w W : World} {last : Int} {v : Value} (hW : W = ((w.alloc (.cells #[.int .u64 last, v] 53)).alloc (.cells #[.int .u64 0, .slice none 0 0] 53)).alloc (.cells #[.int .u64 0, .int .u64 0, .int .i64 0, .int .i64 0, .int .i64 0, .int .i64 0, .int .i64 0, .int .i64 0, .int .i64 0] 24)) :
    W.heap[w.heap.size]? = some (.cells #[.int .u64 last, v] 53 (0, 0)) ∧ W.heap[w.heap.size + 1]? = some (.cells #[.int .u64 0, .slice none 0 0] 53 (0, 0)) ∧ W.heap[w.heap.size + 1 + 1]? = some (.cells #[.int .u64 0, .int .u64 0, .int .i64 0, .int .i64 0, .int .i64 0, .int .i64 0, .int .i64 0, .int .i64 0, .int .i64 0] 24 (0, 0)) ∧ W.heap.size = w.heap.size + 3 ∧ Below w.heap.size w W := by
  subst hW
  have e1 : (w.alloc (.cells #[.int .u64 last, v] 53)).heap.size = w.heap.size + 1 := by simp
  have e2 : ((w.alloc (.cells #[.int .u64 last, v] 53)).alloc (.cells #[.int .u64 0, .slice none 0 0] 53)).heap.size = w.heap.size + 1 + 1 := by simp
  refine ⟨(heap_alloc_old _ _ (by simp; try omega)).trans ((heap_alloc_old _ _ (by simp; try omega)).trans (heap_alloc_new _ _)), ?_, ?_, by simp, ((below_new _ _).alloc (by simp) _).alloc (by simp; try omega) _⟩
  · refine (heap_alloc_old _ _ (by simp; try omega)).trans ?_
    have := heap_alloc_new (w.alloc (.cells #[.int .u64 last, v] 53)) (.cells #[.int .u64 0, .slice none 0 0] 53)
    rw [e1] at this
    exact this
  · have := heap_alloc_new ((w.alloc (.cells #[.int .u64 last, v] 53)).alloc (.cells #[.int .u64 0, .slice none 0 0] 53)) (.cells #[.int .u64 0, .int .u64 0, .int .i64 0, .int .i64 0, .int .i64 0, .int .i64 0, .int .i64 0, .int .i64 0, .int .i64 0] 24)
    rw [e2] at this
    exact this
/-- what a call that changes nothing tells -/
theorem find_none' {l : List No} {id : Int} (h : ¬ placeN l id < l.length) : findV l id = -1 := by unfold findV; rw [if_neg h]
theorem find_some' {l : List No} {id : Int} (h : placeN l id < l.length) : findV l id = (placeN l id : Nat) := by unfold findV; rw [if_pos h]
set_option maxHeartbeats 2000000 in
theorem refTry_none (last id now : Int) (ao : Option Addr) (cap : Nat) (l : List No) (w : World) (hs : Ns w ao cap l) (hl : l.length ≤ 1000000) (hp : ¬ placeN l id < l.length) :
    Calls Try.prog 50 #[.agg #[.int .u64 last, .slice ao l.length cap], .int .u64 id, .int .i64 now] w fun e w' => e = .returned (.tuple #[.agg #[.int .u64 last, .slice ao l.length cap], noVal noZ, .int .i64 31]) ∧ Below w.heap.size w w' := by
  obtain ⟨W1, hW1⟩ : ∃ W1, W1 = ((w.alloc (.cells #[.int .u64 last, .slice ao l.length cap] 53)).alloc (.cells #[.int .u64 0, .slice none 0 0] 53)).alloc (.cells #[.int .u64 0, .int .u64 0, .int .i64 0, .int .i64 0, .int .i64 0, .int .i64 0, .int .i64 0, .int .i64 0, .int .i64 0] 24) := ⟨_, rfl⟩
  obtain ⟨k0, k1, k2, hz, hB1⟩ := three_new hW1
  have hfi := find_any last id ao cap l W1 (hs.below hB1) hl
  rw [find_none' hp] at hfi
  have Hfi := Lib.hid hfi
  have p0 := block_cell k0 0
  have p1 := block_cell k0 1
  simp at p0 p1
  have Hz := Lib.hid hz
  have hlt0 : w.heap.size < W1.heap.size := by omega
  have hlt1 : w.heap.size + 1 < W1.heap.size := by omega
  have hlt2 : w.heap.size + 1 + 1 < W1.heap.size := by omega
  clear hz hfi hp
  go_enter Try.func50, Try.ntmps50
  go_wp2_with fail
  rw [← hW1]
  refine Hfi.out.mono ?_
  rintro e W2 ⟨rfl, hb2⟩
  clear hW1 p0 p1
  have j0 := (hb2.block _ hlt0).trans k0
  have j1 := (hb2.block _ hlt1).trans k1
  have j2 := (hb2.block _ hlt2).trans k2
  have B2 := below_on hB1 hb2 (Nat.le_refl _)
  have p0 := block_cell j0 0
  have p1 := block_cell j0 1
  have r0 := block_cell j1 0
  have r1 := block_cell j1 1
  have z0 := block_free j1 0
  have z1 := block_free j1 1
  simp at p0 p1 r0 r1
  obtain ⟨q0, q1, q2, q3, q4, q5, q6, q7, q8⟩ := blk9 j2
  obtain ⟨y0, y1, y2, y3, y4, y5, y6, y7, y8⟩ := blk9z j2
  go_wp2_with fail
  refine bodyPost_ret (v := .tuple #[.agg #[.int .u64 last, .slice ao l.length cap], .agg #[.int .u64 0, .int .u64 0, .int .i64 0, .int .i64 0, .int .i64 0, .int .i64 0, .int .i64 0, .int .i64 0, .int .i64 0], .int .i64 31]) (by simp [results, Try.results50, go_sem, r0, r1, z0, z1, q0, q1, q2, q3, q4, q5, q6, q7, q8, y0, y1, y2, y3, y4, y5, y6, y7, y8]) rfl ?_
  refine ⟨rfl, ?_⟩
  have hg1 := grown_trans (grown_set W2 (w.heap.size + 1) 0 (.int .u64 last)) (grown_set _ (w.heap.size + 1) 1 (.slice ao l.length cap))
  have B3 := below_grown B2 hg1 (by omega) B2.size
  exact below_grown B3 (grown9 _ (w.heap.size + 1 + 1) 0 _ _ _ _ _ _ _ _ _) (by omega) B3.size
theorem waits_eq {x : Int} (h : (x == 1) = true) : (x != 1) = false := by simpa using h
theorem waits_ne {x : Int} (h : (x == 1) = false) : (x != 1) = true := by simpa using h
set_option maxHeartbeats 4000000 in
theorem refTry_bad (last id now : Int) (ao : Option Addr) (cap : Nat) (l : List No) (w : World) (hs : Ns w ao cap l) (hl : l.length ≤ 1000000) (hp : placeN l id < l.length) (he : tryErr l[placeN l id] now ≠ 0) :
    Calls Try.prog 50 #[.agg #[.int .u64 last, .slice ao l.length cap], .int .u64 id, .int .i64 now] w fun e w' => e = .returned (.tuple #[.agg #[.int .u64 last, .slice ao l.length cap], noVal noZ, .int .i64 (tryErr l[placeN l id] now : Nat)]) ∧ Below w.heap.size w w' := by
  obtain ⟨W1, hW1⟩ : ∃ W1, W1 = ((w.alloc (.cells #[.int .u64 last, .slice ao l.length cap] 53)).alloc (.cells #[.int .u64 0, .slice none 0 0] 53)).alloc (.cells #[.int .u64 0, .int .u64 0, .int .i64 0, .int .i64 0, .int .i64 0, .int .i64 0, .int .i64 0, .int .i64 0, .int .i64 0] 24) := ⟨_, rfl⟩
  obtain ⟨k0, k1, k2, hz, hB1⟩ := three_new hW1
  have hfi := find_any last id ao cap l W1 (hs.below hB1) hl
  rw [find_some' hp] at hfi
  obtain ⟨i, hi⟩ : ∃ i, i = placeN l id := ⟨_, rfl⟩
  simp only [← hi] at hfi hp he ⊢
  obtain ⟨s, hsd⟩ : ∃ s, s = l[i] := ⟨_, rfl⟩
  have hget := fun W' (h' : Ns W' ao cap l) => h'.get i hp
  simp only [← hsd] at he hget ⊢
  obtain ⟨E, hE⟩ : ∃ E, E = tryErr s now := ⟨_, rfl⟩
  rw [← hE] at he ⊢
  unfold tryErr waitsB at hE
  have Hget := Lib.hid hget
  clear hi hsd hget
  obtain ⟨sid, tk, lv, pt, st, tr, rt, wt, nx⟩ := s
  simp only at hE
  have hcases : ((st == 1) = false ∧ E = 33) ∨ ((st == 1) = true ∧ rt ≤ tr ∧ E = 33) ∨ ((st == 1) = true ∧ ¬ rt ≤ tr ∧ now < nx ∧ E = 52) := by
    by_cases g0 : st = 1
    · by_cases g : rt ≤ tr
      · exact .inr (.inl ⟨by simpa using g0, g, by rw [hE, if_pos (by simp [g])]⟩)
      · rw [if_neg (by simp [g0]; omega)] at hE
        by_cases g2 : now < nx
        · rw [if_pos g2] at hE; exact .inr (.inr ⟨by simpa using g0, g, g2, hE⟩)
        · rw [if_neg g2] at hE; exact absurd hE he
    · exact .inl ⟨by simpa using g0, by rw [hE, if_pos (by simp [g0])]⟩
  have Hfi := Lib.hid hfi
  have p0 := block_cell k0 0
  have p1 := block_cell k0 1
  simp at p0 p1
  have Hz := Lib.hid hz
  have hlt0 : w.heap.size < W1.heap.size := by omega
  have hlt1 : w.heap.size + 1 < W1.heap.size := by omega
  have hlt2 : w.heap.size + 1 + 1 < W1.heap.size := by omega
  have i0 : (0 : Int) ≤ (i : Int) := by omega
  have i1 : (i : Int) < (l.length : Int) := by omega
  clear hz hfi hE he
  rcases hcases with ⟨g0, rfl⟩ | ⟨g0, g1, rfl⟩ | ⟨g0, g1, g2, rfl⟩
  all_goals
    first | (have g0' := waits_ne g0) | (have g0' := waits_eq g0)
    go_enter Try.func50, Try.ntmps50
    go_wp2_with fail
    rw [← hW1]
    refine Hfi.out.mono ?_
    rintro e W2 ⟨rfl, hb2⟩
    clear hW1 p0 p1
    have j0 := (hb2.block _ hlt0).trans k0
    have j1 := (hb2.block _ hlt1).trans k1
    have j2 := (hb2.block _ hlt2).trans k2
    have B2 := below_on hB1 hb2 (Nat.le_refl _)
    have p1 := block_cell j0 1
    simp at p1
    obtain ⟨g, off, hao, c0, c1, c2, c3, c4, c5, c6, c7, c8⟩ := Hget.out W2 (hs.below B2)
    subst hao
    simp only at c0 c1 c2 c3 c4 c5 c6 c7 c8
    go_upto_region 5 with fail
    obtain ⟨W3, hW3⟩ : ∃ W3, W3 = W2.alloc (.cells #[.int .u64 sid, .int .u64 tk, .int .i64 lv, .int .i64 pt, .int .i64 st, .int .i64 tr, .int .i64 rt, .int .i64 wt, .int .i64 nx] 24) := ⟨_, rfl⟩
    have B3' : Below W2.heap.size W2 W3 := by rw [hW3]; exact below_new _ _
    have jn : W3.heap[W2.heap.size]? = _ := (congrArg (fun z : World => z.heap[W2.heap.size]?) hW3).trans (heap_alloc_new _ _)
    rw [← hW3]
    clear hW3 p1 c0 c1 c2 c3 c4 c5 c6 c7 c8
    have B3 := below_on B2 B3' (Nat.le_refl _)
    have m0 := (B3'.block _ (Array.getElem?_eq_some_iff.1 j0).1).trans j0
    have m1 := (B3'.block _ (Array.getElem?_eq_some_iff.1 j1).1).trans j1
    have m2 := (B3'.block _ (Array.getElem?_eq_some_iff.1 j2).1).trans j2
    have p0 := block_cell m0 0
    have p1 := block_cell m0 1
    have r0 := block_cell m1 0
    have r1 := block_cell m1 1
    have z0 := block_free m1 0
    have z1 := block_free m1 1
    simp at p0 p1 r0 r1
    obtain ⟨q0, q1, q2, q3, q4, q5, q6, q7, q8⟩ := blk9 m2
    obtain ⟨y0, y1, y2, y3, y4, y5, y6, y7, y8⟩ := blk9z m2
    obtain ⟨d0, d1, d2, d3, d4, d5, d6, d7, d8⟩ := blk9 jn
    clear j0 j1 j2 hb2 B3'
    go_wp2_with fail
  · refine bodyPost_ret (v := .tuple #[.agg #[.int .u64 last, .slice (some ⟨g, off, none⟩) l.length cap], .agg #[.int .u64 0, .int .u64 0, .int .i64 0, .int .i64 0, .int .i64 0, .int .i64 0, .int .i64 0, .int .i64 0, .int .i64 0], .int .i64 33]) (by simp [results, Try.results50, go_sem, r0, r1, z0, z1, q0, q1, q2, q3, q4, q5, q6, q7, q8, y0, y1, y2, y3, y4, y5, y6, y7, y8]) rfl ?_
    refine ⟨rfl, ?_⟩
    have B4 := below_grown B3 (grown_trans (grown_set _ (w.heap.size + 1) 0 (.int .u64 last)) (grown_set _ (w.heap.size + 1) 1 (.slice (some ⟨g, off, none⟩) l.length cap))) (by omega) B3.size
    exact below_grown B4 (grown9 _ (w.heap.size + 1 + 1) 0 _ _ _ _ _ _ _ _ _) (by omega) B4.size
  · refine bodyPost_ret (v := .tuple #[.agg #[.int .u64 last, .slice (some ⟨g, off, none⟩) l.length cap], .agg #[.int .u64 0, .int .u64 0, .int .i64 0, .int .i64 0, .int .i64 0, .int .i64 0, .int .i64 0, .int .i64 0, .int .i64 0], .int .i64 33]) (by simp [results, Try.results50, go_sem, r0, r1, z0, z1, q0, q1, q2, q3, q4, q5, q6, q7, q8, y0, y1, y2, y3, y4, y5, y6, y7, y8]) rfl ?_
    refine ⟨rfl, ?_⟩
    have B4 := below_grown B3 (grown_trans (grown_set _ (w.heap.size + 1) 0 (.int .u64 last)) (grown_set _ (w.heap.size + 1) 1 (.slice (some ⟨g, off, none⟩) l.length cap))) (by omega) B3.size
    exact below_grown B4 (grown9 _ (w.heap.size + 1 + 1) 0 _ _ _ _ _ _ _ _ _) (by omega) B4.size
  · refine bodyPost_ret (v := .tuple #[.agg #[.int .u64 last, .slice (some ⟨g, off, none⟩) l.length cap], .agg #[.int .u64 0, .int .u64 0, .int .i64 0, .int .i64 0, .int .i64 0, .int .i64 0, .int .i64 0, .int .i64 0, .int .i64 0], .int .i64 52]) (by simp [results, Try.results50, go_sem, r0, r1, z0, z1, q0, q1, q2, q3, q4, q5, q6, q7, q8, y0, y1, y2, y3, y4, y5, y6, y7, y8]) rfl ?_
    refine ⟨rfl, ?_⟩
    have B4 := below_grown B3 (grown_trans (grown_set _ (w.heap.size + 1) 0 (.int .u64 last)) (grown_set _ (w.heap.size + 1) 1 (.slice (some ⟨g, off, none⟩) l.length cap))) (by omega) B3.size
    exact below_grown B4 (grown9 _ (w.heap.size + 1 + 1) 0 _ _ _ _ _ _ _ _ _) (by omega) B4.size
end Go.Proofs.Ytdcinhnplcipoaa
