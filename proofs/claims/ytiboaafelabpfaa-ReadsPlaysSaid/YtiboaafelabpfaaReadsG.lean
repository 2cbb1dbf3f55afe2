/- The reference of reads: Ask. No statement of the seat is proved here. -/
import Derived.Test.YtiboaafelabpfaaReadsF
namespace Go.Proofs.Ytiboaafelabpfaa
set_option linter.unusedVariables false
set_option linter.unusedSimpArgs false
set_option linter.unusedSectionVars false
open Go Go.RowKit

/-- what the reference's Ask answers -/
def RAsked (w : World) (begun sure x y : Int) (l : List Rd) (e : Ending) (w' : World) : Prop :=
  ∃ a' c', e = .returned (.tuple #[RQ (begun + 1) sure a' (l.length + 1) c', .int .u64 (begun + 1), .int .i64 0]) ∧ RW w' a' c' (l ++ [⟨x, y, begun + 1⟩]) ∧ Below w.heap.size w w'

theorem infoRR : (Try.prog.info? 59).map (fun i => (i.zero, i.size, i.bytes)) = some (some (.agg #[.int .u64 0, .int .u64 0, .int .u64 0]), 3, 24) := by kernel_rfl

theorem below_al {B : Nat} {w W : World} {o : Obj} (h : Below B w W) (hB : B ≤ w.heap.size) : Below B w (W.alloc o) := below_on h (below_new W o) hB
theorem below_dr {B : Nat} {w W : World} (h : Below B w W) : Below B w W.drew := h.drew

theorem rd_news {w : World} {ao : Option Addr} {cap : Nat} {l : List Rd} (h : RW w ao cap l) (hl : l ≠ []) : ∃ ad, ao = some ad ∧ ∀ W, Below w.heap.size w W → ∀ j u, (l.map rdCells).flatten[j]? = some u → W.cell? (ad.add j) = some u := by
  obtain ⟨b, off, e, _⟩ := h.get 0 (List.length_pos_iff.2 hl)
  exact ⟨_, e, fun W hW => rw_olds (Rw.below h hW) _ e⟩
theorem rds_one (l : List Rd) : ∀ u ∈ (l.map rdCells).flatten, u.oneCell' = true := by
  intro u hu
  obtain ⟨r, hr, hu⟩ := List.mem_flatten.1 hu
  obtain ⟨x, _, rfl⟩ := List.mem_map.1 hr
  exact rd_one x u hu

theorem below_grown_none {B : Nat} {w W W' : World} (h : Below B w W) (hg : W.grownBy W' none) (hB : B ≤ w.heap.size) : Below B w W' :=
  h.grown hg (Nat.le_trans hB h.size) (fun k hk => by cases hk)

theorem news_any {W X w1 : World} {cs : Array Value} {T : TypeId} (row : List Value) (h : cs.toList = row) (hb1 : Below (W.alloc (.cells cs T)).heap.size (W.alloc (.cells cs T)) X) (hb : Below X.heap.size X w1) : ∀ j u, row[j]? = some u → w1.cell? ((⟨W.heap.size, 0, none⟩ : Addr).add j) = some u := by
  intro j u hu
  have := news_at (w := W) (T := T) row h j u hu
  rw [Addr.add_none] at this ⊢
  exact ((below_on hb1 hb (Nat.le_refl _)).cell (p := ⟨W.heap.size, 0 + j, none⟩) (by simp)).trans this

/-- an append into what is the call's own -/
theorem below_app3 {W0 w1 w3 : World} {o : Obj} {E k n m c' g : Nat} {a' : Option Addr} {cs : List Value} {base : Nat} (h : Below W0.heap.size W0 w1) (hg : (w1.alloc o).grownBy w3 (Value.slice a' n c').ownBlock) (_ : (Value.slice a' n c').ownBlock = some g ∨ g = (w1.alloc o).heap.size)
    (hown : w1.ownsRow base E k (.slice a' n c') m cs) (hb : W0.heap.size ≤ base) : Below W0.heap.size W0 w3 :=
  (below_on h (below_new _ _) (Nat.le_refl _)).grown hg (by have := h.size; simp; omega) (fun q hq => Nat.le_trans hb (hown.lt q hq).1)

theorem grown_sets (w : World) (b : Nat) (u0 u1 u2 : Value) : w.grownBy (((w.setCell ⟨b, 0, none⟩ u0).setCell ⟨b, 1, none⟩ u1).setCell ⟨b, 2, none⟩ u2).drew (some b) :=
  grown_drew (grown_trans (grown_trans (grown_set _ _ _ _) (grown_set _ _ _ _)) (grown_set _ _ _ _))

/-- after the region of the appends -/
def RMid (w : World) (begun sure x y : Int) (l : List Rd) (wx : World) : Prop :=
  ∃ g c3, wx.heap[w.heap.size]? = some (.cells #[.int .u64 (begun + 1), .int .u64 sure, .slice (some ⟨g, 0, none⟩) (l.length + 1) c3] 29 (0, 0)) ∧ wx.heap[w.heap.size + 1]? = some (.cells #[.int .u64 0, .int .u64 0, .slice none 0 0] 29 (0, 0)) ∧
    RW wx (some ⟨g, 0, none⟩) c3 (l ++ [⟨x, y, begun + 1⟩]) ∧ Below w.heap.size w wx
theorem rmid_mk {w W0 w3 : World} {begun sure x y : Int} {l : List Rd} {ao : Option Addr} {n cap g c3 base : Nat} (hB0 : Below w.heap.size w W0) (hB3 : Below W0.heap.size W0 w3)
    (hq3 : w3.heap[w.heap.size]? = some (.cells #[.int .u64 (begun + 1), .int .u64 sure, .slice ao n cap] 29 (0, 0))) (hq4 : w3.heap[w.heap.size + 1]? = some (.cells #[.int .u64 0, .int .u64 0, .slice none 0 0] 29 (0, 0)))
    (hown : w3.ownsRow base 59 3 (.slice (some ⟨g, 0, none⟩) (l.length + 1) c3) (l.length + 1) (l.map rdCells ++ [rdCells ⟨x, y, begun + 1⟩]).flatten) :
    RMid w begun sure x y l (w3.setCell ⟨w.heap.size, 2, none⟩ (.slice (some ⟨g, 0, none⟩) (l.length + 1) c3)) := by
  refine ⟨g, c3, block_set hq3 2 _, (heap_setCell_other w3 ⟨w.heap.size, 2, none⟩ _ _ (by simp)).trans hq4, ?_, below_set_new (below_on hB0 hB3 (Nat.le_refl _)) (Nat.le_refl _)⟩
  rw [show l.map rdCells ++ [rdCells ⟨x, y, begun + 1⟩] = (l ++ [(⟨x, y, begun + 1⟩ : Rd)]).map rdCells from by simp] at hown
  have := Rw.of_own hown (by simp) (rd_each _)
  unfold RW
  rw [show (l ++ [(⟨x, y, begun + 1⟩ : Rd)]).length = l.length + 1 from by simp]
  exact Rw.grown this (grown_set _ _ _ _) (elem?_of hq3) (by decide)

set_option maxHeartbeats 2000000 in
theorem rask_some (w : World) (begun sure x y : Int) (ao : Option Addr) (cap : Nat) (l : List Rd) (hw : RW w ao cap l) (hn : l.length < 32) (h0 : 0 ≤ begun) (hg : begun < 1152921504606846976) (hl : l ≠ []) :
    Calls Try.prog 17 #[RQ begun sure ao l.length cap, .int .u64 x, .int .u64 y] w (RAsked w begun sure x y l) := by
  unfold RQ
  have hlp := List.length_pos_iff.2 hl
  have hlen := hw.sl.len
  have hle := hw.sl.le
  obtain ⟨ad, rfl, hnews⟩ := rd_news hw hl
  have Hnews := Lib.hid hnews
  have Hw := Lib.hid hw
  clear hnews hw
  obtain ⟨i0, hi, hz0, hz1, hz2⟩ := info_parts infoRR
  obtain ⟨W0, hW0⟩ : ∃ W0, W0 = (w.alloc (.cells #[.int .u64 (begun + 1), .int .u64 sure, .slice (some ad) l.length cap] 29)).alloc (.cells #[.int .u64 0, .int .u64 0, .slice none 0 0] 29) := ⟨_, rfl⟩
  have hB0 : Below w.heap.size w W0 := by rw [hW0]; exact below_two _ _ _ 0
  have hz0 : W0.heap.size = w.heap.size + 2 := by rw [hW0]; simp
  have hq0 : W0.heap[w.heap.size]? = some (.cells #[.int .u64 (begun + 1), .int .u64 sure, .slice (some ad) l.length cap] 29 (0, 0)) := by
    rw [hW0]; exact (heap_alloc_old _ _ (by simp)).trans (heap_alloc_new _ _)
  have hq1 : W0.heap[w.heap.size + 1]? = some (.cells #[.int .u64 0, .int .u64 0, .slice none 0 0] 29 (0, 0)) := by
    have := heap_alloc_new (w.alloc (.cells #[.int .u64 (begun + 1), .int .u64 sure, .slice (some ad) l.length cap] 29)) (.cells #[.int .u64 0, .int .u64 0, .slice none 0 0] 29)
    rw [hW0]; simpa using this
  have c2 := block_cell hq0 2
  have c0 := block_cell hq0 0
  have f2 := block_free hq0 2
  have hlt0 : w.heap.size < W0.heap.size := by omega
  have hlt1 : w.heap.size + 1 < W0.heap.size := by omega
  simp at c0 c2
  go_enter Try.func17, Try.ntmps17
  go_wp2
  rw [← hW0]
  have Hz0 := Lib.hid hz0
  clear hW0 hz0
  go_cut [3, 6] (fun v3 v6 wx => v3 = .pointer (some ⟨w.heap.size, 0, none⟩) ∧ v6 = .pointer (some ⟨w.heap.size + 1, 0, none⟩) ∧ RMid w begun sure x y l wx)
  case first =>
    go_region_law (first
      | (refine step_append_grows rfl (.tmp 22) (.tmp 24) 27 rfl 59 i0 (.agg #[.int .u64 0, .int .u64 0, .int .u64 0]) 3 24 Try.underlying27 hi hz0 hz1 hz2 rfl (by decide) _ 0 0 [] rfl ?_ rfl ?_ ad l.length cap (l.map rdCells).flatten rfl hlen ?_ (rds_one l) ?_ ?_ ?_ ?_; (intro e; cases e); (intro b _ j u hu; simp at hu); (refine Hnews.out _ ?_; (repeat (first | with_reducible exact Below.refl _ _ | with_reducible assumption | with_reducible refine below_dr ?_ | (with_reducible refine below_al ?_ (by first | exact Nat.le_refl _ | omega))))); omega; (unfold maxLen; omega); omega; intro v1 w1 hown1 hgr1; (obtain ⟨a', c', rfl⟩ := own_slice hown1); simp only [Nat.zero_add, List.nil_append] at hown1 ⊢; have hB1 : Below W0.heap.size W0 w1 := (below_grown_none (by (repeat (first | with_reducible exact Below.refl _ _ | with_reducible assumption | with_reducible refine below_dr ?_ | (with_reducible refine below_al ?_ (by first | exact Nat.le_refl _ | omega))))) hgr1 (Nat.le_refl _)); have hBx := below_grown_none (Below.refl _ _) hgr1 (Nat.le_refl _); have hw1s := hgr1.size; clear hgr1; have d0 := (hB1.cell (p := ⟨w.heap.size, 0, none⟩) hlt0).trans c0)
      | (have hx1 := own_below hown1 (below_new w1 (.cells #[.int .u64 x, .int .u64 y, .int .u64 (begun + 1)] 59)); refine step_append_one rfl (.tmp 25) (.tmp 31) 27 rfl (W0.alloc (.cells #[] 59)).drew.heap.size 59 infoRR Try.underlying27 rfl (by decide) (.slice a' l.length c') l.length (l.map rdCells) rfl hx1 _ 1 (rdCells ⟨x, y, begun + 1⟩) rfl rfl ?_ (rd_one _) ?_ ?_ ?_ ?_; exact news_at _ rfl; omega; (unfold maxLen; omega); exact Nat.le_trans hw1s (by simp); intro g c3 w3 hown3 hg3 hlie; have hB3 := below_app3 hB1 hg3 hlie hown1 (below_new W0 (.cells #[] 59)).drew.size; have hq3 := (hB3.block _ hlt0).trans hq0; have hq4 := (hB3.block _ hlt1).trans hq1; have e2 := block_cell hq3 2; have ef2 := block_free hq3 2; simp at e2)
      | (refine step_append_one rfl (.tmp 25) (.tmp 31) 27 rfl _ 59 infoRR Try.underlying27 rfl (by decide) (.slice a' l.length c') l.length (l.map rdCells) rfl hown1 _ 1 (rdCells ⟨x, y, begun + 1⟩) rfl rfl ?_ (rd_one _) ?_ ?_ ?_ ?_; (intro j u hu; first | (have := news_any (W := W0.alloc (.cells #[] 59)) (T := 59) (rdCells ⟨x, y, begun + 1⟩) rfl (by (repeat (first | with_reducible exact Below.refl _ _ | with_reducible assumption | with_reducible refine below_dr ?_ | (with_reducible refine below_al ?_ (by first | exact Nat.le_refl _ | omega))))) hBx j u hu; simpa using this) | (have := news_any (W := W0) (T := 59) (rdCells ⟨x, y, begun + 1⟩) rfl (by (repeat (first | with_reducible exact Below.refl _ _ | with_reducible assumption | with_reducible refine below_dr ?_ | (with_reducible refine below_al ?_ (by first | exact Nat.le_refl _ | omega))))) hBx j u hu; simpa using this)); omega; (unfold maxLen; omega); exact hw1s; intro g c3 w3 hown3 hg3 hlie; have hB3 := below_app hB1 hg3 hown1 (by simp <;> omega) hB1.size; have hq3 := (hB3.block _ hlt0).trans hq0; have hq4 := (hB3.block _ hlt1).trans hq1; have e2 := block_cell hq3 2; have ef2 := block_free hq3 2; simp at e2))
    all_goals
      go_wp2_with fail
      go_meet
      exact ⟨rfl, rfl, rmid_mk hB0 hB3 hq3 hq4 hown3⟩
  case rest =>
    obtain ⟨rfl, rfl, g, c3, m1, m2, m3, m4⟩ := hcut
    have k0 := block_cell m1 0
    have k1 := block_cell m1 1
    have k2 := block_cell m1 2
    have r0 := block_cell m2 0
    have r1 := block_cell m2 1
    have r2 := block_cell m2 2
    have s0 := block_free m2 0
    have s1 := block_free m2 1
    have s2 := block_free m2 2
    simp at k0 k1 k2 r0 r1 r2
    go_wp2
    go_region
    all_goals
      go_wp2
      refine bodyPost_ret (v := .tuple #[RQ (begun + 1) sure (some ⟨g, 0, none⟩) (l.length + 1) c3, .int .u64 (begun + 1), .int .i64 0]) ?_ rfl ?_
      · simp [results, Try.results17, go_sem, RQ, r0, r1, r2]
      · exact ⟨_, _, rfl, Rw.grown m3 (grown_sets _ _ _ _ _) (elem?_of m2) (by decide), below_grown m4 (grown_sets _ _ _ _ _) (by omega) m4.size⟩
end Go.Proofs.Ytiboaafelabpfaa
