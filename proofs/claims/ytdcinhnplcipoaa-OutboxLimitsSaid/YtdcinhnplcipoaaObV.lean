/- Contracts of the reference's with, Try, Ack, Due. No statement of the seat is proved here. -/
import Derived.Test.YtdcinhnplcipoaaObU
namespace Go.Proofs.Ytdcinhnplcipoaa
set_option linter.unusedVariables false
set_option linter.unusedSimpArgs false
set_option linter.unusedSectionVars false
open Go Go.RowKit Go.Shelf

theorem own_some' {w : World} {base e size n cap : Nat} {ao : Option Addr} {xs : List Value} (h : w.ownsRow base e size (.slice ao n cap) n xs) (hn : 0 < n) : ∃ g, ao = some ⟨g, 0, none⟩ ∧ base ≤ g := by
  rcases h.2 with ⟨h', h0⟩ | ⟨g', cap', cur, h', hb, hg, _⟩
  · omega
  · simp only [Value.slice.injEq] at h'
    exact ⟨g', h'.1, hb⟩
/-- a whole notice stored in a row of the call's own -/
theorem own9 {W : World} {base g cap : Nat} {l : List No} (h0 : W.ownsRow base 24 9 (.slice (some ⟨g, 0, none⟩) l.length cap) l.length (l.map noCells).flatten) (i : Nat) (hi : i < l.length) (n : No) :
    (((((((((W.setCell ⟨g, i * 9, none⟩ (.int .u64 n.id)).setCell ⟨g, i * 9 + 1, none⟩ (.int .u64 n.tk)).setCell ⟨g, i * 9 + 2, none⟩ (.int .i64 n.lv)).setCell ⟨g, i * 9 + 3, none⟩ (.int .i64 n.pt)).setCell ⟨g, i * 9 + 4, none⟩ (.int .i64 n.st)).setCell ⟨g, i * 9 + 5, none⟩ (.int .i64 n.tr)).setCell ⟨g, i * 9 + 6, none⟩ (.int .i64 n.rt)).setCell ⟨g, i * 9 + 7, none⟩ (.int .i64 n.wt)).setCell ⟨g, i * 9 + 8, none⟩ (.int .i64 n.nx)).ownsRow base 24 9 (.slice (some ⟨g, 0, none⟩) l.length cap) l.length ((l.set i n).map noCells).flatten := by
  obtain ⟨a1, -⟩ := h0.stored (i * 9) (.int .u64 n.id)
  obtain ⟨a2, -⟩ := a1.stored (i * 9 + 1) (.int .u64 n.tk)
  obtain ⟨a3, -⟩ := a2.stored (i * 9 + 2) (.int .i64 n.lv)
  obtain ⟨a4, -⟩ := a3.stored (i * 9 + 3) (.int .i64 n.pt)
  obtain ⟨a5, -⟩ := a4.stored (i * 9 + 4) (.int .i64 n.st)
  obtain ⟨a6, -⟩ := a5.stored (i * 9 + 5) (.int .i64 n.tr)
  obtain ⟨a7, -⟩ := a6.stored (i * 9 + 6) (.int .i64 n.rt)
  obtain ⟨a8, -⟩ := a7.stored (i * 9 + 7) (.int .i64 n.wt)
  obtain ⟨a9, -⟩ := a8.stored (i * 9 + 8) (.int .i64 n.nx)
  have key : ((l.set i n).map noCells).flatten = ((((((((((l.map noCells).flatten.set (i * 9) (.int .u64 n.id)).set (i * 9 + 1) (.int .u64 n.tk)).set (i * 9 + 2) (.int .i64 n.lv)).set (i * 9 + 3) (.int .i64 n.pt)).set (i * 9 + 4) (.int .i64 n.st)).set (i * 9 + 5) (.int .i64 n.tr)).set (i * 9 + 6) (.int .i64 n.rt)).set (i * 9 + 7) (.int .i64 n.wt)).set (i * 9 + 8) (.int .i64 n.nx)) := by
    rw [rows_self l i hi]
    have e0 := rows_set l i hi (noCells l[i]) rfl 0 (by decide) (.int .u64 n.id)
    rw [Nat.add_zero] at e0
    rw [e0, rows_set l i hi _ rfl 1 (by decide), rows_set l i hi _ rfl 2 (by decide), rows_set l i hi _ rfl 3 (by decide), rows_set l i hi _ rfl 4 (by decide), rows_set l i hi _ rfl 5 (by decide), rows_set l i hi _ rfl 6 (by decide), rows_set l i hi _ rfl 7 (by decide), rows_set l i hi _ rfl 8 (by decide), List.map_set]
    rfl
  rw [key]
  exact a9
set_option maxHeartbeats 4000000 in
theorem with_any (last : Int) (ao : Option Addr) (cap : Nat) (l : List No) (i : Nat) (n : No) (w : World) (hs : Ns w ao cap l) (hl : l.length ≤ 1000000) (hi : i < l.length) :
    Calls Try.prog 69 #[.agg #[.int .u64 last, .slice ao l.length cap], .int .i64 i, noVal n] w (Told last (l.set i n) w) := by
  obtain ⟨L, hL⟩ : ∃ L, L = l.set i n := ⟨_, rfl⟩
  rw [← hL]
  have hLl : L.length = l.length := by rw [hL, List.length_set]
  have HL := Lib.hid hL
  have HLl := Lib.hid hLl
  clear hL hLl
  have hsto := fun (W : World) (base g cap : Nat) (h : W.ownsRow base 24 9 (.slice (some ⟨g, 0, none⟩) l.length cap) l.length (l.map noCells).flatten) => own9 h i hi n
  rw [← HL.out] at hsto
  obtain ⟨id, tk, lv, pt, st, tr, rt, wt, nx⟩ := n
  unfold noVal
  simp only at hsto ⊢
  have Hsto := Lib.hid hsto
  clear hsto
  have i0 : (0 : Int) ≤ (i : Int) := by omega
  have i1 : (i : Int) < (l.length : Int) := by omega
  obtain ⟨W1, hW1⟩ : ∃ W1, W1 = ((w.alloc (.cells #[.int .u64 last, .slice ao l.length cap] 53)).alloc (.cells #[.int .u64 id, .int .u64 tk, .int .i64 lv, .int .i64 pt, .int .i64 st, .int .i64 tr, .int .i64 rt, .int .i64 wt, .int .i64 nx] 24)).alloc (.cells #[.int .u64 0, .slice none 0 0] 53) := ⟨_, rfl⟩
  have hz : W1.heap.size = w.heap.size + 3 := by rw [hW1]; simp
  have hb0 : W1.heap[w.heap.size]? = some (.cells #[.int .u64 last, .slice ao l.length cap] 53 (0, 0)) := by
    rw [hW1]; exact (heap_alloc_old _ _ (by simp; try omega)).trans ((heap_alloc_old _ _ (by simp; try omega)).trans (heap_alloc_new _ _))
  have hbn : W1.heap[w.heap.size + 1]? = some (.cells #[.int .u64 id, .int .u64 tk, .int .i64 lv, .int .i64 pt, .int .i64 st, .int .i64 tr, .int .i64 rt, .int .i64 wt, .int .i64 nx] 24 (0, 0)) := by
    rw [hW1]
    refine (heap_alloc_old _ _ (by simp)).trans ?_
    have := heap_alloc_new (w.alloc (.cells #[.int .u64 last, .slice ao l.length cap] 53)) (.cells #[.int .u64 id, .int .u64 tk, .int .i64 lv, .int .i64 pt, .int .i64 st, .int .i64 tr, .int .i64 rt, .int .i64 wt, .int .i64 nx] 24)
    rw [show (w.alloc (.cells #[.int .u64 last, .slice ao l.length cap] 53)).heap.size = w.heap.size + 1 by simp] at this
    exact this
  have hbr : W1.heap[w.heap.size + 1 + 1]? = some (.cells #[.int .u64 0, .slice none 0 0] 53 (0, 0)) := by
    rw [hW1]
    have := heap_alloc_new ((w.alloc (.cells #[.int .u64 last, .slice ao l.length cap] 53)).alloc (.cells #[.int .u64 id, .int .u64 tk, .int .i64 lv, .int .i64 pt, .int .i64 st, .int .i64 tr, .int .i64 rt, .int .i64 wt, .int .i64 nx] 24)) (.cells #[.int .u64 0, .slice none 0 0] 53)
    rw [show ((w.alloc (.cells #[.int .u64 last, .slice ao l.length cap] 53)).alloc (.cells #[.int .u64 id, .int .u64 tk, .int .i64 lv, .int .i64 pt, .int .i64 st, .int .i64 tr, .int .i64 rt, .int .i64 wt, .int .i64 nx] 24)).heap.size = w.heap.size + 1 + 1 by simp] at this
    exact this
  have hB1 : Below w.heap.size w W1 := by rw [hW1]; exact ((below_new _ _).alloc (by simp) _).alloc (by simp; omega) _
  have hs1 := hs.below hB1
  have p1 := block_cell hb0 1
  simp at p1
  have Hz := Lib.hid hz
  have hle1 : w.heap.size + 1 + 1 < W1.heap.size := by omega
  have hlt0 : w.heap.size < W1.heap.size := by omega
  have hlt1 : w.heap.size + 1 < W1.heap.size := by omega
  clear hz
  have hpos : 0 < l.length := by omega
  go_enter Try.func69, Try.ntmps69
  go_upto_region 1 with fail
  rw [← hW1]
  clear hW1
  go_upto_region 2 with (at_builtin; refine wpl_append rfl (.tmp 7) (.tmp 9) 42 rfl W1.heap.size 24 infoNo Try.underlying42 rfl (by decide) _ 0 [] rfl (own_empty W1 W1.heap.size _ 9 (Nat.le_refl _)) _ _ _ _ rfl (hs1.sl.below (below_new _ _)) (nos_one l) ?_ ?_ ?_ ?_; (unfold maxLen; omega); omega; exact (below_new _ _).size; intro ao2 cap2 w2 how2 hg2; have hB2 := below_app (below_new W1 _) hg2 (own_empty W1 W1.heap.size _ 9 (Nat.le_refl _)) (Nat.le_refl _) (below_new W1 _).size; rw [Nat.zero_add, List.nil_append] at how2; obtain ⟨g, rfl, hgb⟩ := own_some' how2 hpos; have hb02 := (hB2.block _ hlt0).trans hb0; have hbn2 := (hB2.block _ hlt1).trans hbn; have hbr2 := (hB2.block _ hle1).trans hbr; have pp1 := block_cell hb02 1; have zz1 := block_free hb02 1; simp at pp1)
  obtain ⟨W3, hW3⟩ : ∃ W3, W3 = w2.setCell ⟨w.heap.size, 1, none⟩ (.slice (some ⟨g, 0, none⟩) l.length cap2) := ⟨_, rfl⟩
  have gb := grown_set w2 w.heap.size 1 (.slice (some ⟨g, 0, none⟩) l.length cap2)
  have q02 := block_set hb02 1 (.slice (some ⟨g, 0, none⟩) l.length cap2)
  simp only [List.setIfInBounds_toArray, List.set_cons_zero, List.set_cons_succ] at q02
  have hz2 := hB2.size
  have hbn3 := (gb.block _ (by omega) (by simp)).trans hbn2
  have hbr3 := (gb.block _ (by omega) (by simp; try omega)).trans hbr2
  have how3 := ownsRow_setCell_below how2 (a := ⟨w.heap.size, 1, none⟩) (by show w.heap.size < W1.heap.size; exact hlt0) (.slice (some ⟨g, 0, none⟩) l.length cap2)
  try simp only [Nat.zero_add]
  rw [← hW3] at gb q02 hbn3 hbr3 how3
  rw [← hW3]
  clear hW3 hb02 hbn2 hbr2 pp1 zz1 how2 hbn hbr hb0 p1
  obtain ⟨d0, d1, d2, d3, d4, d5, d6, d7, d8⟩ := blk9 hbn3
  have pp1 := block_cell q02 1
  simp at pp1
  obtain ⟨g', off', hga, c0, c1, c2, c3, c4, c5, c6, c7, c8⟩ := (Ns.of_own how3).get i hi
  cases hga
  rw [Nat.zero_add] at c0 c1 c2 c3 c4 c5 c6 c7 c8
  have y0 := how3.frozenAt (i * 9)
  have y1 := how3.frozenAt (i * 9 + 1)
  have y2 := how3.frozenAt (i * 9 + 2)
  have y3 := how3.frozenAt (i * 9 + 3)
  have y4 := how3.frozenAt (i * 9 + 4)
  have y5 := how3.frozenAt (i * 9 + 5)
  have y6 := how3.frozenAt (i * 9 + 6)
  have y7 := how3.frozenAt (i * 9 + 7)
  have y8 := how3.frozenAt (i * 9 + 8)
  have how4 := Hsto.out W3 _ g cap2 how3
  have g4 := grown9 W3 g (i * 9) (.int .u64 id) (.int .u64 tk) (.int .i64 lv) (.int .i64 pt) (.int .i64 st) (.int .i64 tr) (.int .i64 rt) (.int .i64 wt) (.int .i64 nx)
  go_upto_region 3 with fail
  obtain ⟨W4, hW4⟩ : ∃ W4, W4 = _ ∧ W4.ownsRow W1.heap.size 24 9 (.slice (some ⟨g, 0, none⟩) l.length cap2) l.length (L.map noCells).flatten ∧ W3.grownBy W4 (some g) := ⟨_, rfl, how4, g4⟩
  obtain ⟨hW4, how4, g4⟩ := hW4
  rw [← hW4]
  clear hW4 c0 c1 c2 c3 c4 c5 c6 c7 c8 d0 d1 d2 d3 d4 d5 d6 d7 d8 y0 y1 y2 y3 y4 y5 y6 y7 y8
  have hz3 := gb.size
  have q4 := (g4.block _ (by omega) (by simp; omega)).trans q02
  have hbr4 := (g4.block _ (by omega) (by simp; omega)).trans hbr3
  have p0 := block_cell q4 0
  have p1 := block_cell q4 1
  have r0 := block_cell hbr4 0
  have r1 := block_cell hbr4 1
  have z0 := block_free hbr4 0
  have z1 := block_free hbr4 1
  simp at p0 p1 r0 r1
  go_wp2_with fail
  refine bodyPost_ret (v := .agg #[.int .u64 last, .slice (some ⟨g, 0, none⟩) l.length cap2]) (by simp [results, Try.results69, go_sem, r0, r1, z0, z1]) rfl ?_
  have hg := grown_trans (grown_set W4 (w.heap.size + 1 + 1) 0 (.int .u64 last)) (grown_set _ (w.heap.size + 1 + 1) 1 (.slice (some ⟨g, 0, none⟩) l.length cap2))
  have B2 := below_on hB1 hB2 (Nat.le_refl _)
  have B3 := below_grown B2 gb (Nat.le_refl _) B2.size
  have B4 := below_grown B3 g4 (by omega) B3.size
  refine ⟨some ⟨g, 0, none⟩, cap2, by rw [HLl.out], ?_, below_grown B4 hg (by omega) B4.size⟩
  rw [HLl.out]
  exact own_base (ownsRow_setCell_below (ownsRow_setCell_below how4 (a := ⟨w.heap.size + 1 + 1, 0, none⟩) hle1 _) (a := ⟨w.heap.size + 1 + 1, 1, none⟩) hle1 _) (by omega)
end Go.Proofs.Ytdcinhnplcipoaa
