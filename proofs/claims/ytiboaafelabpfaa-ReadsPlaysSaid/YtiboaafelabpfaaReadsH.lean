/- The reference of reads: Ask of an empty queue. No statement of the seat is proved here. -/
import Derived.Test.YtiboaafelabpfaaReadsG
namespace Go.Proofs.Ytiboaafelabpfaa
set_option linter.unusedVariables false
set_option linter.unusedSimpArgs false
set_option linter.unusedSectionVars false
open Go Go.RowKit

theorem own_first {w : World} {base e k n : Nat} {v : Value} {xs : List Value} (h : w.ownsRow base e k v n xs) (hne : n ≠ 0) : ∃ g cap, v = .slice (some ⟨g, 0, none⟩) n cap := by
  rcases h.2 with ⟨_, hx⟩ | ⟨g, cap', cur, hv, _⟩
  · exact absurd hx hne
  · exact ⟨_, _, hv⟩

set_option maxHeartbeats 2000000 in
theorem rask_nil0 (w : World) (begun sure x y : Int) (cap : Nat) (h0 : 0 ≤ begun) (hg : begun < 1152921504606846976) :
    Calls Try.prog 17 #[RQ begun sure none 0 cap, .int .u64 x, .int .u64 y] w (RAsked w begun sure x y []) := by
  unfold RQ
  obtain ⟨i0, hi, hz0, hz1, hz2⟩ := info_parts infoRR
  obtain ⟨W0, hW0⟩ : ∃ W0, W0 = (w.alloc (.cells #[.int .u64 (begun + 1), .int .u64 sure, .slice none 0 cap] 29)).alloc (.cells #[.int .u64 0, .int .u64 0, .slice none 0 0] 29) := ⟨_, rfl⟩
  have hB0 : Below w.heap.size w W0 := by rw [hW0]; exact below_two _ _ _ 0
  have hz0 : W0.heap.size = w.heap.size + 2 := by rw [hW0]; simp
  have hq0 : W0.heap[w.heap.size]? = some (.cells #[.int .u64 (begun + 1), .int .u64 sure, .slice none 0 cap] 29 (0, 0)) := by
    rw [hW0]; exact (heap_alloc_old _ _ (by simp)).trans (heap_alloc_new _ _)
  have hq1 : W0.heap[w.heap.size + 1]? = some (.cells #[.int .u64 0, .int .u64 0, .slice none 0 0] 29 (0, 0)) := by
    have := heap_alloc_new (w.alloc (.cells #[.int .u64 (begun + 1), .int .u64 sure, .slice none 0 cap] 29)) (.cells #[.int .u64 0, .int .u64 0, .slice none 0 0] 29)
    rw [hW0]; simpa using this
  have c2 := block_cell hq0 2
  have c0 := block_cell hq0 0
  have f2 := block_free hq0 2
  have hlt0 : w.heap.size < W0.heap.size := by omega
  have hlt1 : w.heap.size + 1 < W0.heap.size := by omega
  simp at c0 c2
  go_enter Try.func17, Try.ntmps17
  go_wp2
  rw [← hW0]
  have Hz0 := Lib.hid hz0
  clear hW0 hz0
  go_cut [3, 6] (fun v3 v6 wx => v3 = .pointer (some ⟨w.heap.size, 0, none⟩) ∧ v6 = .pointer (some ⟨w.heap.size + 1, 0, none⟩) ∧ RMid w begun sure x y [] wx)
  case first =>
    go_region_law (first
      | (refine step_append_grows rfl (.tmp 25) (.tmp 31) 27 rfl 59 i0 (.agg #[.int .u64 0, .int .u64 0, .int .u64 0]) 3 24 Try.underlying27 hi hz0 hz1 hz2 rfl (by decide) _ 0 0 [] rfl ?_ rfl ?_ _ 1 1 (rdCells ⟨x, y, begun + 1⟩) rfl rfl ?_ (rd_one _) ?_ ?_ ?_ ?_; (intro e; cases e); (intro b _ j u hu; simp at hu); (intro j u hu; first | (have := news_any (W := W0.alloc (.cells #[] 59)) (T := 59) (rdCells ⟨x, y, begun + 1⟩) rfl (by (repeat (first | with_reducible exact Below.refl _ _ | with_reducible assumption | with_reducible refine below_dr ?_ | (with_reducible refine below_al ?_ (by first | exact Nat.le_refl _ | omega))))) (Below.refl _ _) j u hu; simpa using this) | (have := news_any (W := W0) (T := 59) (rdCells ⟨x, y, begun + 1⟩) rfl (by (repeat (first | with_reducible exact Below.refl _ _ | with_reducible assumption | with_reducible refine below_dr ?_ | (with_reducible refine below_al ?_ (by first | exact Nat.le_refl _ | omega))))) (Below.refl _ _) j u hu; simpa using this) | exact news_any (W := W0) (T := 59) (rdCells ⟨x, y, begun + 1⟩) rfl (by (repeat (first | with_reducible exact Below.refl _ _ | with_reducible assumption | with_reducible refine below_dr ?_ | (with_reducible refine below_al ?_ (by first | exact Nat.le_refl _ | omega))))) (Below.refl _ _) j u hu); omega; (unfold maxLen; omega); omega; intro v1 w1 hown1 hgr1; (obtain ⟨g, c3, rfl⟩ := own_first hown1 (by omega)); simp only [Nat.zero_add, List.nil_append] at hown1 ⊢; have hB3 : Below W0.heap.size W0 w1 := (below_grown_none (by (repeat (first | with_reducible exact Below.refl _ _ | with_reducible assumption | with_reducible refine below_dr ?_ | (with_reducible refine below_al ?_ (by first | exact Nat.le_refl _ | omega))))) hgr1 (Nat.le_refl _)); clear hgr1; have hq3 := (hB3.block _ hlt0).trans hq0; have hq4 := (hB3.block _ hlt1).trans hq1; have e2 := block_cell hq3 2; have ef2 := block_free hq3 2; simp at e2))
    all_goals
      go_wp2_with fail
      go_meet
      exact ⟨rfl, rfl, rmid_mk (l := []) hB0 hB3 hq3 hq4 (by simpa using hown1)⟩
  case rest =>
    obtain ⟨rfl, rfl, g, c3, m1, m2, m3, m4⟩ := hcut
    have k0 := block_cell m1 0
    have k1 := block_cell m1 1
    have k2 := block_cell m1 2
    have r0 := block_cell m2 0
    have r1 := block_cell m2 1
    have r2 := block_cell m2 2
    have s0 := block_free m2 0
    have s1 := block_free m2 1
    have s2 := block_free m2 2
    simp at k0 k1 k2 r0 r1 r2
    go_wp2
    go_region
    all_goals
      go_wp2
      refine bodyPost_ret (v := .tuple #[RQ (begun + 1) sure (some ⟨g, 0, none⟩) 1 c3, .int .u64 (begun + 1), .int .i64 0]) ?_ rfl ?_
      · simp [results, Try.results17, go_sem, RQ, r0, r1, r2]
      · exact ⟨_, _, rfl, Rw.grown m3 (grown_sets _ _ _ _ _) (elem?_of m2) (by decide), below_grown m4 (grown_sets _ _ _ _ _) (by omega) m4.size⟩

set_option maxHeartbeats 2000000 in
theorem rask_nil1 (w : World) (begun sure x y : Int) (ad : Addr) (cap : Nat) (h0 : 0 ≤ begun) (hg : begun < 1152921504606846976) :
    Calls Try.prog 17 #[RQ begun sure (some ad) 0 cap, .int .u64 x, .int .u64 y] w (RAsked w begun sure x y []) := by
  unfold RQ
  obtain ⟨i0, hi, hz0, hz1, hz2⟩ := info_parts infoRR
  obtain ⟨W0, hW0⟩ : ∃ W0, W0 = (w.alloc (.cells #[.int .u64 (begun + 1), .int .u64 sure, .slice (some ad) 0 cap] 29)).alloc (.cells #[.int .u64 0, .int .u64 0, .slice none 0 0] 29) := ⟨_, rfl⟩
  have hB0 : Below w.heap.size w W0 := by rw [hW0]; exact below_two _ _ _ 0
  have hz0 : W0.heap.size = w.heap.size + 2 := by rw [hW0]; simp
  have hq0 : W0.heap[w.heap.size]? = some (.cells #[.int .u64 (begun + 1), .int .u64 sure, .slice (some ad) 0 cap] 29 (0, 0)) := by
    rw [hW0]; exact (heap_alloc_old _ _ (by simp)).trans (heap_alloc_new _ _)
  have hq1 : W0.heap[w.heap.size + 1]? = some (.cells #[.int .u64 0, .int .u64 0, .slice none 0 0] 29 (0, 0)) := by
    have := heap_alloc_new (w.alloc (.cells #[.int .u64 (begun + 1), .int .u64 sure, .slice (some ad) 0 cap] 29)) (.cells #[.int .u64 0, .int .u64 0, .slice none 0 0] 29)
    rw [hW0]; simpa using this
  have c2 := block_cell hq0 2
  have c0 := block_cell hq0 0
  have f2 := block_free hq0 2
  have hlt0 : w.heap.size < W0.heap.size := by omega
  have hlt1 : w.heap.size + 1 < W0.heap.size := by omega
  simp at c0 c2
  go_enter Try.func17, Try.ntmps17
  go_wp2
  rw [← hW0]
  have Hz0 := Lib.hid hz0
  clear hW0 hz0
  go_cut [3, 6] (fun v3 v6 wx => v3 = .pointer (some ⟨w.heap.size, 0, none⟩) ∧ v6 = .pointer (some ⟨w.heap.size + 1, 0, none⟩) ∧ RMid w begun sure x y [] wx)
  case first =>
    go_region_law (first
      | (refine step_append_grows rfl (.tmp 25) (.tmp 31) 27 rfl 59 i0 (.agg #[.int .u64 0, .int .u64 0, .int .u64 0]) 3 24 Try.underlying27 hi hz0 hz1 hz2 rfl (by decide) _ 0 0 [] rfl ?_ rfl ?_ _ 1 1 (rdCells ⟨x, y, begun + 1⟩) rfl rfl ?_ (rd_one _) ?_ ?_ ?_ ?_; (intro e; cases e); (intro b _ j u hu; simp at hu); (intro j u hu; first | (have := news_any (W := W0.alloc (.cells #[] 59)) (T := 59) (rdCells ⟨x, y, begun + 1⟩) rfl (by (repeat (first | with_reducible exact Below.refl _ _ | with_reducible assumption | with_reducible refine below_dr ?_ | (with_reducible refine below_al ?_ (by first | exact Nat.le_refl _ | omega))))) (Below.refl _ _) j u hu; simpa using this) | (have := news_any (W := W0) (T := 59) (rdCells ⟨x, y, begun + 1⟩) rfl (by (repeat (first | with_reducible exact Below.refl _ _ | with_reducible assumption | with_reducible refine below_dr ?_ | (with_reducible refine below_al ?_ (by first | exact Nat.le_refl _ | omega))))) (Below.refl _ _) j u hu; simpa using this) | exact news_any (W := W0) (T := 59) (rdCells ⟨x, y, begun + 1⟩) rfl (by (repeat (first | with_reducible exact Below.refl _ _ | with_reducible assumption | with_reducible refine below_dr ?_ | (with_reducible refine below_al ?_ (by first | exact Nat.le_refl _ | omega))))) (Below.refl _ _) j u hu); omega; (unfold maxLen; omega); omega; intro v1 w1 hown1 hgr1; (obtain ⟨g, c3, rfl⟩ := own_first hown1 (by omega)); simp only [Nat.zero_add, List.nil_append] at hown1 ⊢; have hB3 : Below W0.heap.size W0 w1 := (below_grown_none (by (repeat (first | with_reducible exact Below.refl _ _ | with_reducible assumption | with_reducible refine below_dr ?_ | (with_reducible refine below_al ?_ (by first | exact Nat.le_refl _ | omega))))) hgr1 (Nat.le_refl _)); clear hgr1; have hq3 := (hB3.block _ hlt0).trans hq0; have hq4 := (hB3.block _ hlt1).trans hq1; have e2 := block_cell hq3 2; have ef2 := block_free hq3 2; simp at e2))
    all_goals
      go_wp2_with fail
      go_meet
      exact ⟨rfl, rfl, rmid_mk (l := []) hB0 hB3 hq3 hq4 (by simpa using hown1)⟩
  case rest =>
    obtain ⟨rfl, rfl, g, c3, m1, m2, m3, m4⟩ := hcut
    have k0 := block_cell m1 0
    have k1 := block_cell m1 1
    have k2 := block_cell m1 2
    have r0 := block_cell m2 0
    have r1 := block_cell m2 1
    have r2 := block_cell m2 2
    have s0 := block_free m2 0
    have s1 := block_free m2 1
    have s2 := block_free m2 2
    simp at k0 k1 k2 r0 r1 r2
    go_wp2
    go_region
    all_goals
      go_wp2
      refine bodyPost_ret (v := .tuple #[RQ (begun + 1) sure (some ⟨g, 0, none⟩) 1 c3, .int .u64 (begun + 1), .int .i64 0]) ?_ rfl ?_
      · simp [results, Try.results17, go_sem, RQ, r0, r1, r2]
      · exact ⟨_, _, rfl, Rw.grown m3 (grown_sets _ _ _ _ _) (elem?_of m2) (by decide), below_grown m4 (grown_sets _ _ _ _ _) (by omega) m4.size⟩
end Go.Proofs.Ytiboaafelabpfaa
