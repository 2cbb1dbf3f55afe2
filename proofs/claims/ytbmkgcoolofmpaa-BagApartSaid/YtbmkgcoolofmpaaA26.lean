/- Lemmas for BagApart (Mp3). No statement of the seat is proved here. -/
import Derived.Test.YtbmkgcoolofmpaaA6
namespace Go.Proofs.Ytbmkgcoolofmpaa
set_option linter.unusedVariables false
set_option linter.unusedSimpArgs false
set_option linter.unusedSectionVars false
open Go Go.RowKit Go.Shelf
set_option maxRecDepth 100000 in
set_option maxHeartbeats 8000000 in
theorem plain_3 (frm dst term index logTerm commit round : Int) (ok force : Bool) (eo : Option Addr) (ec : Nat) (el : List Ep) (si st : Int) (mo : Option Addr) (mc : Nat) (ml : List Int) (ao : Option Addr) (ac : Nat) (d : List UInt8) (w : World) :
    Calls Try.prog 70 #[.agg #[.int .i64 3, .int .i64 frm, .int .i64 dst, .int .u64 term, .int .u64 index, .int .u64 logTerm, .int .u64 commit, .int .u64 round, .bool ok, .bool force, .slice eo el.length ec, .int .u64 si, .int .u64 st, .slice mo ml.length mc, .slice ao d.length ac]] w fun e w' => e = .returned (.agg #[.int .i64 3, .int .i64 frm, .int .i64 dst, .int .u64 term, .int .u64 index, .int .u64 logTerm, .int .u64 0, .int .u64 0, .bool false, .bool force, .slice none 0 0, .int .u64 0, .int .u64 0, .slice none 0 0, .slice none 0 0]) ∧ Below w.heap.size w w' := by
  go_enter Try.func70, Try.ntmps70
  go_upto_region 2 with fail
  obtain ⟨W3, hW3⟩ : ∃ W3, W3 = (((w.alloc (.cells #[.int .i64 3, .int .i64 frm, .int .i64 dst, .int .u64 term, .int .u64 index, .int .u64 logTerm, .int .u64 commit, .int .u64 round, .bool ok, .bool force, .slice eo el.length ec, .int .u64 si, .int .u64 st, .slice mo ml.length mc, .slice ao d.length ac] 62)).alloc (.cells #[.int .i64 0, .int .i64 0, .int .i64 0, .int .u64 0, .int .u64 0, .int .u64 0, .int .u64 0, .int .u64 0, .bool false, .bool false, .slice none 0 0, .int .u64 0, .int .u64 0, .slice none 0 0, .slice none 0 0] 62)).alloc (.cells #[.int .i64 3, .int .i64 frm, .int .i64 dst, .int .u64 term, .int .u64 0, .int .u64 0, .int .u64 0, .int .u64 0, .bool false, .bool false, .slice none 0 0, .int .u64 0, .int .u64 0, .slice none 0 0, .slice none 0 0] 62)) := ⟨_, rfl⟩
  obtain ⟨a3, b3, c3, hB3⟩ := al3 hW3
  rw [← hW3]
  clear hW3
  have p0 := cell_at a3 0 (.int .i64 3) rfl
  have p1 := cell_at a3 1 (.int .i64 frm) rfl
  have p2 := cell_at a3 2 (.int .i64 dst) rfl
  have p3 := cell_at a3 3 (.int .u64 term) rfl
  have p4 := cell_at a3 4 (.int .u64 index) rfl
  have p5 := cell_at a3 5 (.int .u64 logTerm) rfl
  have p6 := cell_at a3 6 (.int .u64 commit) rfl
  have p7 := cell_at a3 7 (.int .u64 round) rfl
  have p8 := cell_at a3 8 (.bool ok) rfl
  have p9 := cell_at a3 9 (.bool force) rfl
  have p10 := cell_at a3 10 (.slice eo el.length ec) rfl
  have p11 := cell_at a3 11 (.int .u64 si) rfl
  have p12 := cell_at a3 12 (.int .u64 st) rfl
  have p13 := cell_at a3 13 (.slice mo ml.length mc) rfl
  have p14 := cell_at a3 14 (.slice ao d.length ac) rfl
  have g4 := cell_at c3 4 (.int .u64 0) rfl
  have e4 := block_free c3 4
  have c4 := block_set c3 4 (.int .u64 index)
  simp only [List.setIfInBounds_toArray, List.set_cons_zero, List.set_cons_succ] at c4
  have g5 := cell_at c4 5 (.int .u64 0) rfl
  have e5 := block_free c4 5
  have c5 := block_set c4 5 (.int .u64 logTerm)
  simp only [List.setIfInBounds_toArray, List.set_cons_zero, List.set_cons_succ] at c5
  have g6 := cell_at c5 9 (.bool false) rfl
  have e6 := block_free c5 9
  have c6 := block_set c5 9 (.bool force)
  simp only [List.setIfInBounds_toArray, List.set_cons_zero, List.set_cons_succ] at c6
  go_upto_region 26 with fail
  obtain ⟨W4, hW4⟩ : ∃ W4, W4 = (((W3.setCell ⟨w.heap.size + 1 + 1, 4, none⟩ (.int .u64 index)).setCell ⟨w.heap.size + 1 + 1, 5, none⟩ (.int .u64 logTerm)).setCell ⟨w.heap.size + 1 + 1, 9, none⟩ (.bool force)) := ⟨_, rfl⟩
  have c4x : W4.heap[w.heap.size + 1 + 1]? = some (.cells #[.int .i64 3, .int .i64 frm, .int .i64 dst, .int .u64 term, .int .u64 index, .int .u64 logTerm, .int .u64 0, .int .u64 0, .bool false, .bool force, .slice none 0 0, .int .u64 0, .int .u64 0, .slice none 0 0, .slice none 0 0] 62) := by rw [hW4]; exact c6
  have b4 := (Below.heap_setCell W3 ⟨w.heap.size + 1 + 1, 4, none⟩ (.int .u64 index) (w.heap.size + 1) (by simp only; omega)).trans b3
  have hB4 := hB3.setCell (p := ⟨w.heap.size + 1 + 1, 4, none⟩) (by simp only; omega) (.int .u64 index)
  have b5 := (Below.heap_setCell _ ⟨w.heap.size + 1 + 1, 5, none⟩ (.int .u64 logTerm) (w.heap.size + 1) (by simp only; omega)).trans b4
  have hB5 := hB4.setCell (p := ⟨w.heap.size + 1 + 1, 5, none⟩) (by simp only; omega) (.int .u64 logTerm)
  have b6 := (Below.heap_setCell _ ⟨w.heap.size + 1 + 1, 9, none⟩ (.bool force) (w.heap.size + 1) (by simp only; omega)).trans b5
  have hB6 := hB5.setCell (p := ⟨w.heap.size + 1 + 1, 9, none⟩) (by simp only; omega) (.bool force)
  have d0 : W4.heap[w.heap.size + 1]? = some (.cells #[.int .i64 0, .int .i64 0, .int .i64 0, .int .u64 0, .int .u64 0, .int .u64 0, .int .u64 0, .int .u64 0, .bool false, .bool false, .slice none 0 0, .int .u64 0, .int .u64 0, .slice none 0 0, .slice none 0 0] 62) := by rw [hW4]; exact b6
  have hB4x : Below w.heap.size w W4 := by rw [hW4]; exact hB6
  rw [← hW4]
  clear hW4
  have C4 := Lib.hid c4x
  have D0 := Lib.hid d0
  have B4 := Lib.hid hB4x
  clear p0 p1 p2 p3 p4 p5 p6 p7 p8 p9 p10 p11 p12 p13 p14 a3 b3 c3 hB3 c4x d0 hB4x g4 e4 c4 b4 hB4 g5 e5 c5 b5 hB5 g6 e6 c6 b6 hB6
  have p0 := cell_at C4.out 0 (.int .i64 3) rfl
  have p1 := cell_at C4.out 1 (.int .i64 frm) rfl
  have p2 := cell_at C4.out 2 (.int .i64 dst) rfl
  have p3 := cell_at C4.out 3 (.int .u64 term) rfl
  have p4 := cell_at C4.out 4 (.int .u64 index) rfl
  have p5 := cell_at C4.out 5 (.int .u64 logTerm) rfl
  have p6 := cell_at C4.out 6 (.int .u64 0) rfl
  have p7 := cell_at C4.out 7 (.int .u64 0) rfl
  have p8 := cell_at C4.out 8 (.bool false) rfl
  have p9 := cell_at C4.out 9 (.bool force) rfl
  have p10 := cell_at C4.out 10 (.slice none 0 0) rfl
  have p11 := cell_at C4.out 11 (.int .u64 0) rfl
  have p12 := cell_at C4.out 12 (.int .u64 0) rfl
  have p13 := cell_at C4.out 13 (.slice none 0 0) rfl
  have p14 := cell_at C4.out 14 (.slice none 0 0) rfl
  have g0 := cell_at D0.out 0 (.int .i64 0) rfl
  have e0 := block_free D0.out 0
  have dd0 := block_set D0.out 0 (.int .i64 3)
  simp only [List.setIfInBounds_toArray, List.set_cons_zero, List.set_cons_succ] at dd0
  have d1 := Lib.hid dd0
  clear dd0
  have hb0 := B4.out.setCell (p := ⟨w.heap.size + 1, 0, none⟩) (by simp only; omega) (.int .i64 3)
  have BB0 := Lib.hid hb0
  clear hb0
  have g1 := cell_at d1.out 1 (.int .i64 0) rfl
  have e1 := block_free d1.out 1
  have dd1 := block_set d1.out 1 (.int .i64 frm)
  simp only [List.setIfInBounds_toArray, List.set_cons_zero, List.set_cons_succ] at dd1
  have d2 := Lib.hid dd1
  clear dd1
  have hb1 := BB0.out.setCell (p := ⟨w.heap.size + 1, 1, none⟩) (by simp only; omega) (.int .i64 frm)
  have BB1 := Lib.hid hb1
  clear hb1
  have g2 := cell_at d2.out 2 (.int .i64 0) rfl
  have e2 := block_free d2.out 2
  have dd2 := block_set d2.out 2 (.int .i64 dst)
  simp only [List.setIfInBounds_toArray, List.set_cons_zero, List.set_cons_succ] at dd2
  have d3 := Lib.hid dd2
  clear dd2
  have hb2 := BB1.out.setCell (p := ⟨w.heap.size + 1, 2, none⟩) (by simp only; omega) (.int .i64 dst)
  have BB2 := Lib.hid hb2
  clear hb2
  have g3 := cell_at d3.out 3 (.int .u64 0) rfl
  have e3 := block_free d3.out 3
  have dd3 := block_set d3.out 3 (.int .u64 term)
  simp only [List.setIfInBounds_toArray, List.set_cons_zero, List.set_cons_succ] at dd3
  have d4 := Lib.hid dd3
  clear dd3
  have hb3 := BB2.out.setCell (p := ⟨w.heap.size + 1, 3, none⟩) (by simp only; omega) (.int .u64 term)
  have BB3 := Lib.hid hb3
  clear hb3
  have g4 := cell_at d4.out 4 (.int .u64 0) rfl
  have e4 := block_free d4.out 4
  have dd4 := block_set d4.out 4 (.int .u64 index)
  simp only [List.setIfInBounds_toArray, List.set_cons_zero, List.set_cons_succ] at dd4
  have d5 := Lib.hid dd4
  clear dd4
  have hb4 := BB3.out.setCell (p := ⟨w.heap.size + 1, 4, none⟩) (by simp only; omega) (.int .u64 index)
  have BB4 := Lib.hid hb4
  clear hb4
  have g5 := cell_at d5.out 5 (.int .u64 0) rfl
  have e5 := block_free d5.out 5
  have dd5 := block_set d5.out 5 (.int .u64 logTerm)
  simp only [List.setIfInBounds_toArray, List.set_cons_zero, List.set_cons_succ] at dd5
  have d6 := Lib.hid dd5
  clear dd5
  have hb5 := BB4.out.setCell (p := ⟨w.heap.size + 1, 5, none⟩) (by simp only; omega) (.int .u64 logTerm)
  have BB5 := Lib.hid hb5
  clear hb5
  have g6 := cell_at d6.out 6 (.int .u64 0) rfl
  have e6 := block_free d6.out 6
  have dd6 := block_set d6.out 6 (.int .u64 0)
  simp only [List.setIfInBounds_toArray, List.set_cons_zero, List.set_cons_succ] at dd6
  have d7 := Lib.hid dd6
  clear dd6
  have hb6 := BB5.out.setCell (p := ⟨w.heap.size + 1, 6, none⟩) (by simp only; omega) (.int .u64 0)
  have BB6 := Lib.hid hb6
  clear hb6
  have g7 := cell_at d7.out 7 (.int .u64 0) rfl
  have e7 := block_free d7.out 7
  have dd7 := block_set d7.out 7 (.int .u64 0)
  simp only [List.setIfInBounds_toArray, List.set_cons_zero, List.set_cons_succ] at dd7
  have d8 := Lib.hid dd7
  clear dd7
  have hb7 := BB6.out.setCell (p := ⟨w.heap.size + 1, 7, none⟩) (by simp only; omega) (.int .u64 0)
  have BB7 := Lib.hid hb7
  clear hb7
  have g8 := cell_at d8.out 8 (.bool false) rfl
  have e8 := block_free d8.out 8
  have dd8 := block_set d8.out 8 (.bool false)
  simp only [List.setIfInBounds_toArray, List.set_cons_zero, List.set_cons_succ] at dd8
  have d9 := Lib.hid dd8
  clear dd8
  have hb8 := BB7.out.setCell (p := ⟨w.heap.size + 1, 8, none⟩) (by simp only; omega) (.bool false)
  have BB8 := Lib.hid hb8
  clear hb8
  have g9 := cell_at d9.out 9 (.bool false) rfl
  have e9 := block_free d9.out 9
  have dd9 := block_set d9.out 9 (.bool force)
  simp only [List.setIfInBounds_toArray, List.set_cons_zero, List.set_cons_succ] at dd9
  have d10 := Lib.hid dd9
  clear dd9
  have hb9 := BB8.out.setCell (p := ⟨w.heap.size + 1, 9, none⟩) (by simp only; omega) (.bool force)
  have BB9 := Lib.hid hb9
  clear hb9
  have g10 := cell_at d10.out 10 (.slice none 0 0) rfl
  have e10 := block_free d10.out 10
  have dd10 := block_set d10.out 10 (.slice none 0 0)
  simp only [List.setIfInBounds_toArray, List.set_cons_zero, List.set_cons_succ] at dd10
  have d11 := Lib.hid dd10
  clear dd10
  have hb10 := BB9.out.setCell (p := ⟨w.heap.size + 1, 10, none⟩) (by simp only; omega) (.slice none 0 0)
  have BB10 := Lib.hid hb10
  clear hb10
  have g11 := cell_at d11.out 11 (.int .u64 0) rfl
  have e11 := block_free d11.out 11
  have dd11 := block_set d11.out 11 (.int .u64 0)
  simp only [List.setIfInBounds_toArray, List.set_cons_zero, List.set_cons_succ] at dd11
  have d12 := Lib.hid dd11
  clear dd11
  have hb11 := BB10.out.setCell (p := ⟨w.heap.size + 1, 11, none⟩) (by simp only; omega) (.int .u64 0)
  have BB11 := Lib.hid hb11
  clear hb11
  have g12 := cell_at d12.out 12 (.int .u64 0) rfl
  have e12 := block_free d12.out 12
  have dd12 := block_set d12.out 12 (.int .u64 0)
  simp only [List.setIfInBounds_toArray, List.set_cons_zero, List.set_cons_succ] at dd12
  have d13 := Lib.hid dd12
  clear dd12
  have hb12 := BB11.out.setCell (p := ⟨w.heap.size + 1, 12, none⟩) (by simp only; omega) (.int .u64 0)
  have BB12 := Lib.hid hb12
  clear hb12
  have g13 := cell_at d13.out 13 (.slice none 0 0) rfl
  have e13 := block_free d13.out 13
  have dd13 := block_set d13.out 13 (.slice none 0 0)
  simp only [List.setIfInBounds_toArray, List.set_cons_zero, List.set_cons_succ] at dd13
  have d14 := Lib.hid dd13
  clear dd13
  have hb13 := BB12.out.setCell (p := ⟨w.heap.size + 1, 13, none⟩) (by simp only; omega) (.slice none 0 0)
  have BB13 := Lib.hid hb13
  clear hb13
  have g14 := cell_at d14.out 14 (.slice none 0 0) rfl
  have e14 := block_free d14.out 14
  have dd14 := block_set d14.out 14 (.slice none 0 0)
  simp only [List.setIfInBounds_toArray, List.set_cons_zero, List.set_cons_succ] at dd14
  have d15 := Lib.hid dd14
  clear dd14
  have hb14 := BB13.out.setCell (p := ⟨w.heap.size + 1, 14, none⟩) (by simp only; omega) (.slice none 0 0)
  have BB14 := Lib.hid hb14
  clear hb14
  refine WL.start ?_
  iterate 2 (refine WL.any (by rfl) (fun K hK => ?_); go_simp; refine hK.out _ _ ?_; clear hK K)
  refine WL.nil ?_
  obtain ⟨W5, hW5⟩ : ∃ W5, W5 = (((((((((((((((W4.setCell ⟨w.heap.size + 1, 0, none⟩ (.int .i64 3)).setCell ⟨w.heap.size + 1, 1, none⟩ (.int .i64 frm)).setCell ⟨w.heap.size + 1, 2, none⟩ (.int .i64 dst)).setCell ⟨w.heap.size + 1, 3, none⟩ (.int .u64 term)).setCell ⟨w.heap.size + 1, 4, none⟩ (.int .u64 index)).setCell ⟨w.heap.size + 1, 5, none⟩ (.int .u64 logTerm)).setCell ⟨w.heap.size + 1, 6, none⟩ (.int .u64 0)).setCell ⟨w.heap.size + 1, 7, none⟩ (.int .u64 0)).setCell ⟨w.heap.size + 1, 8, none⟩ (.bool false)).setCell ⟨w.heap.size + 1, 9, none⟩ (.bool force)).setCell ⟨w.heap.size + 1, 10, none⟩ (.slice none 0 0)).setCell ⟨w.heap.size + 1, 11, none⟩ (.int .u64 0)).setCell ⟨w.heap.size + 1, 12, none⟩ (.int .u64 0)).setCell ⟨w.heap.size + 1, 13, none⟩ (.slice none 0 0)).setCell ⟨w.heap.size + 1, 14, none⟩ (.slice none 0 0)) := ⟨_, rfl⟩
  have hd5 : W5.heap[w.heap.size + 1]? = some (.cells #[.int .i64 3, .int .i64 frm, .int .i64 dst, .int .u64 term, .int .u64 index, .int .u64 logTerm, .int .u64 0, .int .u64 0, .bool false, .bool force, .slice none 0 0, .int .u64 0, .int .u64 0, .slice none 0 0, .slice none 0 0] 62) := by rw [hW5]; exact d15.out
  have hb5 : Below w.heap.size w W5 := by rw [hW5]; exact BB14.out
  rw [← hW5]
  clear hW5 p0 g0 e0 BB0 d1 p1 g1 e1 BB1 d2 p2 g2 e2 BB2 d3 p3 g3 e3 BB3 d4 p4 g4 e4 BB4 d5 p5 g5 e5 BB5 d6 p6 g6 e6 BB6 d7 p7 g7 e7 BB7 d8 p8 g8 e8 BB8 d9 p9 g9 e9 BB9 d10 p10 g10 e10 BB10 d11 p11 g11 e11 BB11 d12 p12 g12 e12 BB12 d13 p13 g13 e13 BB13 d14 p14 g14 e14 BB14 d15 C4 D0 B4
  have p0 := cell_at hd5 0 (.int .i64 3) rfl
  have p1 := cell_at hd5 1 (.int .i64 frm) rfl
  have p2 := cell_at hd5 2 (.int .i64 dst) rfl
  have p3 := cell_at hd5 3 (.int .u64 term) rfl
  have p4 := cell_at hd5 4 (.int .u64 index) rfl
  have p5 := cell_at hd5 5 (.int .u64 logTerm) rfl
  have p6 := cell_at hd5 6 (.int .u64 0) rfl
  have p7 := cell_at hd5 7 (.int .u64 0) rfl
  have p8 := cell_at hd5 8 (.bool false) rfl
  have p9 := cell_at hd5 9 (.bool force) rfl
  have p10 := cell_at hd5 10 (.slice none 0 0) rfl
  have p11 := cell_at hd5 11 (.int .u64 0) rfl
  have p12 := cell_at hd5 12 (.int .u64 0) rfl
  have p13 := cell_at hd5 13 (.slice none 0 0) rfl
  have p14 := cell_at hd5 14 (.slice none 0 0) rfl
  have HB5 := Lib.hid hb5
  clear hb5 hd5
  go_wp2_with fail
  refine bodyPost_ret (v := .agg #[.int .i64 3, .int .i64 frm, .int .i64 dst, .int .u64 term, .int .u64 index, .int .u64 logTerm, .int .u64 0, .int .u64 0, .bool false, .bool force, .slice none 0 0, .int .u64 0, .int .u64 0, .slice none 0 0, .slice none 0 0]) (by simp [results, Try.results70, go_sem, p0, p1, p2, p3, p4, p5, p6, p7, p8, p9, p10, p11, p12, p13, p14]) rfl ?_
  exact ⟨rfl, HB5.out⟩
set_option maxRecDepth 100000 in
set_option maxHeartbeats 8000000 in
theorem plain_5 (frm dst term index logTerm commit round : Int) (ok force : Bool) (eo : Option Addr) (ec : Nat) (el : List Ep) (si st : Int) (mo : Option Addr) (mc : Nat) (ml : List Int) (ao : Option Addr) (ac : Nat) (d : List UInt8) (w : World) :
    Calls Try.prog 70 #[.agg #[.int .i64 5, .int .i64 frm, .int .i64 dst, .int .u64 term, .int .u64 index, .int .u64 logTerm, .int .u64 commit, .int .u64 round, .bool ok, .bool force, .slice eo el.length ec, .int .u64 si, .int .u64 st, .slice mo ml.length mc, .slice ao d.length ac]] w fun e w' => e = .returned (.agg #[.int .i64 5, .int .i64 frm, .int .i64 dst, .int .u64 term, .int .u64 index, .int .u64 logTerm, .int .u64 commit, .int .u64 round, .bool false, .bool false, .slice eo el.length ec, .int .u64 0, .int .u64 0, .slice none 0 0, .slice none 0 0]) ∧ Below w.heap.size w w' := by
  go_enter Try.func70, Try.ntmps70
  go_upto_region 2 with fail
  obtain ⟨W3, hW3⟩ : ∃ W3, W3 = (((w.alloc (.cells #[.int .i64 5, .int .i64 frm, .int .i64 dst, .int .u64 term, .int .u64 index, .int .u64 logTerm, .int .u64 commit, .int .u64 round, .bool ok, .bool force, .slice eo el.length ec, .int .u64 si, .int .u64 st, .slice mo ml.length mc, .slice ao d.length ac] 62)).alloc (.cells #[.int .i64 0, .int .i64 0, .int .i64 0, .int .u64 0, .int .u64 0, .int .u64 0, .int .u64 0, .int .u64 0, .bool false, .bool false, .slice none 0 0, .int .u64 0, .int .u64 0, .slice none 0 0, .slice none 0 0] 62)).alloc (.cells #[.int .i64 5, .int .i64 frm, .int .i64 dst, .int .u64 term, .int .u64 0, .int .u64 0, .int .u64 0, .int .u64 0, .bool false, .bool false, .slice none 0 0, .int .u64 0, .int .u64 0, .slice none 0 0, .slice none 0 0] 62)) := ⟨_, rfl⟩
  obtain ⟨a3, b3, c3, hB3⟩ := al3 hW3
  rw [← hW3]
  clear hW3
  have p0 := cell_at a3 0 (.int .i64 5) rfl
  have p1 := cell_at a3 1 (.int .i64 frm) rfl
  have p2 := cell_at a3 2 (.int .i64 dst) rfl
  have p3 := cell_at a3 3 (.int .u64 term) rfl
  have p4 := cell_at a3 4 (.int .u64 index) rfl
  have p5 := cell_at a3 5 (.int .u64 logTerm) rfl
  have p6 := cell_at a3 6 (.int .u64 commit) rfl
  have p7 := cell_at a3 7 (.int .u64 round) rfl
  have p8 := cell_at a3 8 (.bool ok) rfl
  have p9 := cell_at a3 9 (.bool force) rfl
  have p10 := cell_at a3 10 (.slice eo el.length ec) rfl
  have p11 := cell_at a3 11 (.int .u64 si) rfl
  have p12 := cell_at a3 12 (.int .u64 st) rfl
  have p13 := cell_at a3 13 (.slice mo ml.length mc) rfl
  have p14 := cell_at a3 14 (.slice ao d.length ac) rfl
  have g4 := cell_at c3 4 (.int .u64 0) rfl
  have e4 := block_free c3 4
  have c4 := block_set c3 4 (.int .u64 index)
  simp only [List.setIfInBounds_toArray, List.set_cons_zero, List.set_cons_succ] at c4
  have g5 := cell_at c4 5 (.int .u64 0) rfl
  have e5 := block_free c4 5
  have c5 := block_set c4 5 (.int .u64 logTerm)
  simp only [List.setIfInBounds_toArray, List.set_cons_zero, List.set_cons_succ] at c5
  have g6 := cell_at c5 6 (.int .u64 0) rfl
  have e6 := block_free c5 6
  have c6 := block_set c5 6 (.int .u64 commit)
  simp only [List.setIfInBounds_toArray, List.set_cons_zero, List.set_cons_succ] at c6
  have g7 := cell_at c6 7 (.int .u64 0) rfl
  have e7 := block_free c6 7
  have c7 := block_set c6 7 (.int .u64 round)
  simp only [List.setIfInBounds_toArray, List.set_cons_zero, List.set_cons_succ] at c7
  have g8 := cell_at c7 10 (.slice none 0 0) rfl
  have e8 := block_free c7 10
  have c8 := block_set c7 10 (.slice eo el.length ec)
  simp only [List.setIfInBounds_toArray, List.set_cons_zero, List.set_cons_succ] at c8
  go_upto_region 26 with fail
  obtain ⟨W4, hW4⟩ : ∃ W4, W4 = (((((W3.setCell ⟨w.heap.size + 1 + 1, 4, none⟩ (.int .u64 index)).setCell ⟨w.heap.size + 1 + 1, 5, none⟩ (.int .u64 logTerm)).setCell ⟨w.heap.size + 1 + 1, 6, none⟩ (.int .u64 commit)).setCell ⟨w.heap.size + 1 + 1, 7, none⟩ (.int .u64 round)).setCell ⟨w.heap.size + 1 + 1, 10, none⟩ (.slice eo el.length ec)) := ⟨_, rfl⟩
  have c4x : W4.heap[w.heap.size + 1 + 1]? = some (.cells #[.int .i64 5, .int .i64 frm, .int .i64 dst, .int .u64 term, .int .u64 index, .int .u64 logTerm, .int .u64 commit, .int .u64 round, .bool false, .bool false, .slice eo el.length ec, .int .u64 0, .int .u64 0, .slice none 0 0, .slice none 0 0] 62) := by rw [hW4]; exact c8
  have b4 := (Below.heap_setCell W3 ⟨w.heap.size + 1 + 1, 4, none⟩ (.int .u64 index) (w.heap.size + 1) (by simp only; omega)).trans b3
  have hB4 := hB3.setCell (p := ⟨w.heap.size + 1 + 1, 4, none⟩) (by simp only; omega) (.int .u64 index)
  have b5 := (Below.heap_setCell _ ⟨w.heap.size + 1 + 1, 5, none⟩ (.int .u64 logTerm) (w.heap.size + 1) (by simp only; omega)).trans b4
  have hB5 := hB4.setCell (p := ⟨w.heap.size + 1 + 1, 5, none⟩) (by simp only; omega) (.int .u64 logTerm)
  have b6 := (Below.heap_setCell _ ⟨w.heap.size + 1 + 1, 6, none⟩ (.int .u64 commit) (w.heap.size + 1) (by simp only; omega)).trans b5
  have hB6 := hB5.setCell (p := ⟨w.heap.size + 1 + 1, 6, none⟩) (by simp only; omega) (.int .u64 commit)
  have b7 := (Below.heap_setCell _ ⟨w.heap.size + 1 + 1, 7, none⟩ (.int .u64 round) (w.heap.size + 1) (by simp only; omega)).trans b6
  have hB7 := hB6.setCell (p := ⟨w.heap.size + 1 + 1, 7, none⟩) (by simp only; omega) (.int .u64 round)
  have b8 := (Below.heap_setCell _ ⟨w.heap.size + 1 + 1, 10, none⟩ (.slice eo el.length ec) (w.heap.size + 1) (by simp only; omega)).trans b7
  have hB8 := hB7.setCell (p := ⟨w.heap.size + 1 + 1, 10, none⟩) (by simp only; omega) (.slice eo el.length ec)
  have d0 : W4.heap[w.heap.size + 1]? = some (.cells #[.int .i64 0, .int .i64 0, .int .i64 0, .int .u64 0, .int .u64 0, .int .u64 0, .int .u64 0, .int .u64 0, .bool false, .bool false, .slice none 0 0, .int .u64 0, .int .u64 0, .slice none 0 0, .slice none 0 0] 62) := by rw [hW4]; exact b8
  have hB4x : Below w.heap.size w W4 := by rw [hW4]; exact hB8
  rw [← hW4]
  clear hW4
  have C4 := Lib.hid c4x
  have D0 := Lib.hid d0
  have B4 := Lib.hid hB4x
  clear p0 p1 p2 p3 p4 p5 p6 p7 p8 p9 p10 p11 p12 p13 p14 a3 b3 c3 hB3 c4x d0 hB4x g4 e4 c4 b4 hB4 g5 e5 c5 b5 hB5 g6 e6 c6 b6 hB6 g7 e7 c7 b7 hB7 g8 e8 c8 b8 hB8
  have p0 := cell_at C4.out 0 (.int .i64 5) rfl
  have p1 := cell_at C4.out 1 (.int .i64 frm) rfl
  have p2 := cell_at C4.out 2 (.int .i64 dst) rfl
  have p3 := cell_at C4.out 3 (.int .u64 term) rfl
  have p4 := cell_at C4.out 4 (.int .u64 index) rfl
  have p5 := cell_at C4.out 5 (.int .u64 logTerm) rfl
  have p6 := cell_at C4.out 6 (.int .u64 commit) rfl
  have p7 := cell_at C4.out 7 (.int .u64 round) rfl
  have p8 := cell_at C4.out 8 (.bool false) rfl
  have p9 := cell_at C4.out 9 (.bool false) rfl
  have p10 := cell_at C4.out 10 (.slice eo el.length ec) rfl
  have p11 := cell_at C4.out 11 (.int .u64 0) rfl
  have p12 := cell_at C4.out 12 (.int .u64 0) rfl
  have p13 := cell_at C4.out 13 (.slice none 0 0) rfl
  have p14 := cell_at C4.out 14 (.slice none 0 0) rfl
  have g0 := cell_at D0.out 0 (.int .i64 0) rfl
  have e0 := block_free D0.out 0
  have dd0 := block_set D0.out 0 (.int .i64 5)
  simp only [List.setIfInBounds_toArray, List.set_cons_zero, List.set_cons_succ] at dd0
  have d1 := Lib.hid dd0
  clear dd0
  have hb0 := B4.out.setCell (p := ⟨w.heap.size + 1, 0, none⟩) (by simp only; omega) (.int .i64 5)
  have BB0 := Lib.hid hb0
  clear hb0
  have g1 := cell_at d1.out 1 (.int .i64 0) rfl
  have e1 := block_free d1.out 1
  have dd1 := block_set d1.out 1 (.int .i64 frm)
  simp only [List.setIfInBounds_toArray, List.set_cons_zero, List.set_cons_succ] at dd1
  have d2 := Lib.hid dd1
  clear dd1
  have hb1 := BB0.out.setCell (p := ⟨w.heap.size + 1, 1, none⟩) (by simp only; omega) (.int .i64 frm)
  have BB1 := Lib.hid hb1
  clear hb1
  have g2 := cell_at d2.out 2 (.int .i64 0) rfl
  have e2 := block_free d2.out 2
  have dd2 := block_set d2.out 2 (.int .i64 dst)
  simp only [List.setIfInBounds_toArray, List.set_cons_zero, List.set_cons_succ] at dd2
  have d3 := Lib.hid dd2
  clear dd2
  have hb2 := BB1.out.setCell (p := ⟨w.heap.size + 1, 2, none⟩) (by simp only; omega) (.int .i64 dst)
  have BB2 := Lib.hid hb2
  clear hb2
  have g3 := cell_at d3.out 3 (.int .u64 0) rfl
  have e3 := block_free d3.out 3
  have dd3 := block_set d3.out 3 (.int .u64 term)
  simp only [List.setIfInBounds_toArray, List.set_cons_zero, List.set_cons_succ] at dd3
  have d4 := Lib.hid dd3
  clear dd3
  have hb3 := BB2.out.setCell (p := ⟨w.heap.size + 1, 3, none⟩) (by simp only; omega) (.int .u64 term)
  have BB3 := Lib.hid hb3
  clear hb3
  have g4 := cell_at d4.out 4 (.int .u64 0) rfl
  have e4 := block_free d4.out 4
  have dd4 := block_set d4.out 4 (.int .u64 index)
  simp only [List.setIfInBounds_toArray, List.set_cons_zero, List.set_cons_succ] at dd4
  have d5 := Lib.hid dd4
  clear dd4
  have hb4 := BB3.out.setCell (p := ⟨w.heap.size + 1, 4, none⟩) (by simp only; omega) (.int .u64 index)
  have BB4 := Lib.hid hb4
  clear hb4
  have g5 := cell_at d5.out 5 (.int .u64 0) rfl
  have e5 := block_free d5.out 5
  have dd5 := block_set d5.out 5 (.int .u64 logTerm)
  simp only [List.setIfInBounds_toArray, List.set_cons_zero, List.set_cons_succ] at dd5
  have d6 := Lib.hid dd5
  clear dd5
  have hb5 := BB4.out.setCell (p := ⟨w.heap.size + 1, 5, none⟩) (by simp only; omega) (.int .u64 logTerm)
  have BB5 := Lib.hid hb5
  clear hb5
  have g6 := cell_at d6.out 6 (.int .u64 0) rfl
  have e6 := block_free d6.out 6
  have dd6 := block_set d6.out 6 (.int .u64 commit)
  simp only [List.setIfInBounds_toArray, List.set_cons_zero, List.set_cons_succ] at dd6
  have d7 := Lib.hid dd6
  clear dd6
  have hb6 := BB5.out.setCell (p := ⟨w.heap.size + 1, 6, none⟩) (by simp only; omega) (.int .u64 commit)
  have BB6 := Lib.hid hb6
  clear hb6
  have g7 := cell_at d7.out 7 (.int .u64 0) rfl
  have e7 := block_free d7.out 7
  have dd7 := block_set d7.out 7 (.int .u64 round)
  simp only [List.setIfInBounds_toArray, List.set_cons_zero, List.set_cons_succ] at dd7
  have d8 := Lib.hid dd7
  clear dd7
  have hb7 := BB6.out.setCell (p := ⟨w.heap.size + 1, 7, none⟩) (by simp only; omega) (.int .u64 round)
  have BB7 := Lib.hid hb7
  clear hb7
  have g8 := cell_at d8.out 8 (.bool false) rfl
  have e8 := block_free d8.out 8
  have dd8 := block_set d8.out 8 (.bool false)
  simp only [List.setIfInBounds_toArray, List.set_cons_zero, List.set_cons_succ] at dd8
  have d9 := Lib.hid dd8
  clear dd8
  have hb8 := BB7.out.setCell (p := ⟨w.heap.size + 1, 8, none⟩) (by simp only; omega) (.bool false)
  have BB8 := Lib.hid hb8
  clear hb8
  have g9 := cell_at d9.out 9 (.bool false) rfl
  have e9 := block_free d9.out 9
  have dd9 := block_set d9.out 9 (.bool false)
  simp only [List.setIfInBounds_toArray, List.set_cons_zero, List.set_cons_succ] at dd9
  have d10 := Lib.hid dd9
  clear dd9
  have hb9 := BB8.out.setCell (p := ⟨w.heap.size + 1, 9, none⟩) (by simp only; omega) (.bool false)
  have BB9 := Lib.hid hb9
  clear hb9
  have g10 := cell_at d10.out 10 (.slice none 0 0) rfl
  have e10 := block_free d10.out 10
  have dd10 := block_set d10.out 10 (.slice eo el.length ec)
  simp only [List.setIfInBounds_toArray, List.set_cons_zero, List.set_cons_succ] at dd10
  have d11 := Lib.hid dd10
  clear dd10
  have hb10 := BB9.out.setCell (p := ⟨w.heap.size + 1, 10, none⟩) (by simp only; omega) (.slice eo el.length ec)
  have BB10 := Lib.hid hb10
  clear hb10
  have g11 := cell_at d11.out 11 (.int .u64 0) rfl
  have e11 := block_free d11.out 11
  have dd11 := block_set d11.out 11 (.int .u64 0)
  simp only [List.setIfInBounds_toArray, List.set_cons_zero, List.set_cons_succ] at dd11
  have d12 := Lib.hid dd11
  clear dd11
  have hb11 := BB10.out.setCell (p := ⟨w.heap.size + 1, 11, none⟩) (by simp only; omega) (.int .u64 0)
  have BB11 := Lib.hid hb11
  clear hb11
  have g12 := cell_at d12.out 12 (.int .u64 0) rfl
  have e12 := block_free d12.out 12
  have dd12 := block_set d12.out 12 (.int .u64 0)
  simp only [List.setIfInBounds_toArray, List.set_cons_zero, List.set_cons_succ] at dd12
  have d13 := Lib.hid dd12
  clear dd12
  have hb12 := BB11.out.setCell (p := ⟨w.heap.size + 1, 12, none⟩) (by simp only; omega) (.int .u64 0)
  have BB12 := Lib.hid hb12
  clear hb12
  have g13 := cell_at d13.out 13 (.slice none 0 0) rfl
  have e13 := block_free d13.out 13
  have dd13 := block_set d13.out 13 (.slice none 0 0)
  simp only [List.setIfInBounds_toArray, List.set_cons_zero, List.set_cons_succ] at dd13
  have d14 := Lib.hid dd13
  clear dd13
  have hb13 := BB12.out.setCell (p := ⟨w.heap.size + 1, 13, none⟩) (by simp only; omega) (.slice none 0 0)
  have BB13 := Lib.hid hb13
  clear hb13
  have g14 := cell_at d14.out 14 (.slice none 0 0) rfl
  have e14 := block_free d14.out 14
  have dd14 := block_set d14.out 14 (.slice none 0 0)
  simp only [List.setIfInBounds_toArray, List.set_cons_zero, List.set_cons_succ] at dd14
  have d15 := Lib.hid dd14
  clear dd14
  have hb14 := BB13.out.setCell (p := ⟨w.heap.size + 1, 14, none⟩) (by simp only; omega) (.slice none 0 0)
  have BB14 := Lib.hid hb14
  clear hb14
  refine WL.start ?_
  iterate 2 (refine WL.any (by rfl) (fun K hK => ?_); go_simp; refine hK.out _ _ ?_; clear hK K)
  refine WL.nil ?_
  obtain ⟨W5, hW5⟩ : ∃ W5, W5 = (((((((((((((((W4.setCell ⟨w.heap.size + 1, 0, none⟩ (.int .i64 5)).setCell ⟨w.heap.size + 1, 1, none⟩ (.int .i64 frm)).setCell ⟨w.heap.size + 1, 2, none⟩ (.int .i64 dst)).setCell ⟨w.heap.size + 1, 3, none⟩ (.int .u64 term)).setCell ⟨w.heap.size + 1, 4, none⟩ (.int .u64 index)).setCell ⟨w.heap.size + 1, 5, none⟩ (.int .u64 logTerm)).setCell ⟨w.heap.size + 1, 6, none⟩ (.int .u64 commit)).setCell ⟨w.heap.size + 1, 7, none⟩ (.int .u64 round)).setCell ⟨w.heap.size + 1, 8, none⟩ (.bool false)).setCell ⟨w.heap.size + 1, 9, none⟩ (.bool false)).setCell ⟨w.heap.size + 1, 10, none⟩ (.slice eo el.length ec)).setCell ⟨w.heap.size + 1, 11, none⟩ (.int .u64 0)).setCell ⟨w.heap.size + 1, 12, none⟩ (.int .u64 0)).setCell ⟨w.heap.size + 1, 13, none⟩ (.slice none 0 0)).setCell ⟨w.heap.size + 1, 14, none⟩ (.slice none 0 0)) := ⟨_, rfl⟩
  have hd5 : W5.heap[w.heap.size + 1]? = some (.cells #[.int .i64 5, .int .i64 frm, .int .i64 dst, .int .u64 term, .int .u64 index, .int .u64 logTerm, .int .u64 commit, .int .u64 round, .bool false, .bool false, .slice eo el.length ec, .int .u64 0, .int .u64 0, .slice none 0 0, .slice none 0 0] 62) := by rw [hW5]; exact d15.out
  have hb5 : Below w.heap.size w W5 := by rw [hW5]; exact BB14.out
  rw [← hW5]
  clear hW5 p0 g0 e0 BB0 d1 p1 g1 e1 BB1 d2 p2 g2 e2 BB2 d3 p3 g3 e3 BB3 d4 p4 g4 e4 BB4 d5 p5 g5 e5 BB5 d6 p6 g6 e6 BB6 d7 p7 g7 e7 BB7 d8 p8 g8 e8 BB8 d9 p9 g9 e9 BB9 d10 p10 g10 e10 BB10 d11 p11 g11 e11 BB11 d12 p12 g12 e12 BB12 d13 p13 g13 e13 BB13 d14 p14 g14 e14 BB14 d15 C4 D0 B4
  have p0 := cell_at hd5 0 (.int .i64 5) rfl
  have p1 := cell_at hd5 1 (.int .i64 frm) rfl
  have p2 := cell_at hd5 2 (.int .i64 dst) rfl
  have p3 := cell_at hd5 3 (.int .u64 term) rfl
  have p4 := cell_at hd5 4 (.int .u64 index) rfl
  have p5 := cell_at hd5 5 (.int .u64 logTerm) rfl
  have p6 := cell_at hd5 6 (.int .u64 commit) rfl
  have p7 := cell_at hd5 7 (.int .u64 round) rfl
  have p8 := cell_at hd5 8 (.bool false) rfl
  have p9 := cell_at hd5 9 (.bool false) rfl
  have p10 := cell_at hd5 10 (.slice eo el.length ec) rfl
  have p11 := cell_at hd5 11 (.int .u64 0) rfl
  have p12 := cell_at hd5 12 (.int .u64 0) rfl
  have p13 := cell_at hd5 13 (.slice none 0 0) rfl
  have p14 := cell_at hd5 14 (.slice none 0 0) rfl
  have HB5 := Lib.hid hb5
  clear hb5 hd5
  go_wp2_with fail
  refine bodyPost_ret (v := .agg #[.int .i64 5, .int .i64 frm, .int .i64 dst, .int .u64 term, .int .u64 index, .int .u64 logTerm, .int .u64 commit, .int .u64 round, .bool false, .bool false, .slice eo el.length ec, .int .u64 0, .int .u64 0, .slice none 0 0, .slice none 0 0]) (by simp [results, Try.results70, go_sem, p0, p1, p2, p3, p4, p5, p6, p7, p8, p9, p10, p11, p12, p13, p14]) rfl ?_
  exact ⟨rfl, HB5.out⟩
set_option maxRecDepth 100000 in
set_option maxHeartbeats 8000000 in
theorem plain_6 (frm dst term index logTerm commit round : Int) (ok force : Bool) (eo : Option Addr) (ec : Nat) (el : List Ep) (si st : Int) (mo : Option Addr) (mc : Nat) (ml : List Int) (ao : Option Addr) (ac : Nat) (d : List UInt8) (w : World) :
    Calls Try.prog 70 #[.agg #[.int .i64 6, .int .i64 frm, .int .i64 dst, .int .u64 term, .int .u64 index, .int .u64 logTerm, .int .u64 commit, .int .u64 round, .bool ok, .bool force, .slice eo el.length ec, .int .u64 si, .int .u64 st, .slice mo ml.length mc, .slice ao d.length ac]] w fun e w' => e = .returned (.agg #[.int .i64 6, .int .i64 frm, .int .i64 dst, .int .u64 term, .int .u64 index, .int .u64 0, .int .u64 0, .int .u64 round, .bool ok, .bool false, .slice none 0 0, .int .u64 0, .int .u64 0, .slice none 0 0, .slice none 0 0]) ∧ Below w.heap.size w w' := by
  go_enter Try.func70, Try.ntmps70
  go_upto_region 2 with fail
  obtain ⟨W3, hW3⟩ : ∃ W3, W3 = (((w.alloc (.cells #[.int .i64 6, .int .i64 frm, .int .i64 dst, .int .u64 term, .int .u64 index, .int .u64 logTerm, .int .u64 commit, .int .u64 round, .bool ok, .bool force, .slice eo el.length ec, .int .u64 si, .int .u64 st, .slice mo ml.length mc, .slice ao d.length ac] 62)).alloc (.cells #[.int .i64 0, .int .i64 0, .int .i64 0, .int .u64 0, .int .u64 0, .int .u64 0, .int .u64 0, .int .u64 0, .bool false, .bool false, .slice none 0 0, .int .u64 0, .int .u64 0, .slice none 0 0, .slice none 0 0] 62)).alloc (.cells #[.int .i64 6, .int .i64 frm, .int .i64 dst, .int .u64 term, .int .u64 0, .int .u64 0, .int .u64 0, .int .u64 0, .bool false, .bool false, .slice none 0 0, .int .u64 0, .int .u64 0, .slice none 0 0, .slice none 0 0] 62)) := ⟨_, rfl⟩
  obtain ⟨a3, b3, c3, hB3⟩ := al3 hW3
  rw [← hW3]
  clear hW3
  have p0 := cell_at a3 0 (.int .i64 6) rfl
  have p1 := cell_at a3 1 (.int .i64 frm) rfl
  have p2 := cell_at a3 2 (.int .i64 dst) rfl
  have p3 := cell_at a3 3 (.int .u64 term) rfl
  have p4 := cell_at a3 4 (.int .u64 index) rfl
  have p5 := cell_at a3 5 (.int .u64 logTerm) rfl
  have p6 := cell_at a3 6 (.int .u64 commit) rfl
  have p7 := cell_at a3 7 (.int .u64 round) rfl
  have p8 := cell_at a3 8 (.bool ok) rfl
  have p9 := cell_at a3 9 (.bool force) rfl
  have p10 := cell_at a3 10 (.slice eo el.length ec) rfl
  have p11 := cell_at a3 11 (.int .u64 si) rfl
  have p12 := cell_at a3 12 (.int .u64 st) rfl
  have p13 := cell_at a3 13 (.slice mo ml.length mc) rfl
  have p14 := cell_at a3 14 (.slice ao d.length ac) rfl
  have g4 := cell_at c3 8 (.bool false) rfl
  have e4 := block_free c3 8
  have c4 := block_set c3 8 (.bool ok)
  simp only [List.setIfInBounds_toArray, List.set_cons_zero, List.set_cons_succ] at c4
  have g5 := cell_at c4 4 (.int .u64 0) rfl
  have e5 := block_free c4 4
  have c5 := block_set c4 4 (.int .u64 index)
  simp only [List.setIfInBounds_toArray, List.set_cons_zero, List.set_cons_succ] at c5
  have g6 := cell_at c5 7 (.int .u64 0) rfl
  have e6 := block_free c5 7
  have c6 := block_set c5 7 (.int .u64 round)
  simp only [List.setIfInBounds_toArray, List.set_cons_zero, List.set_cons_succ] at c6
  go_upto_region 26 with fail
  obtain ⟨W4, hW4⟩ : ∃ W4, W4 = (((W3.setCell ⟨w.heap.size + 1 + 1, 8, none⟩ (.bool ok)).setCell ⟨w.heap.size + 1 + 1, 4, none⟩ (.int .u64 index)).setCell ⟨w.heap.size + 1 + 1, 7, none⟩ (.int .u64 round)) := ⟨_, rfl⟩
  have c4x : W4.heap[w.heap.size + 1 + 1]? = some (.cells #[.int .i64 6, .int .i64 frm, .int .i64 dst, .int .u64 term, .int .u64 index, .int .u64 0, .int .u64 0, .int .u64 round, .bool ok, .bool false, .slice none 0 0, .int .u64 0, .int .u64 0, .slice none 0 0, .slice none 0 0] 62) := by rw [hW4]; exact c6
  have b4 := (Below.heap_setCell W3 ⟨w.heap.size + 1 + 1, 8, none⟩ (.bool ok) (w.heap.size + 1) (by simp only; omega)).trans b3
  have hB4 := hB3.setCell (p := ⟨w.heap.size + 1 + 1, 8, none⟩) (by simp only; omega) (.bool ok)
  have b5 := (Below.heap_setCell _ ⟨w.heap.size + 1 + 1, 4, none⟩ (.int .u64 index) (w.heap.size + 1) (by simp only; omega)).trans b4
  have hB5 := hB4.setCell (p := ⟨w.heap.size + 1 + 1, 4, none⟩) (by simp only; omega) (.int .u64 index)
  have b6 := (Below.heap_setCell _ ⟨w.heap.size + 1 + 1, 7, none⟩ (.int .u64 round) (w.heap.size + 1) (by simp only; omega)).trans b5
  have hB6 := hB5.setCell (p := ⟨w.heap.size + 1 + 1, 7, none⟩) (by simp only; omega) (.int .u64 round)
  have d0 : W4.heap[w.heap.size + 1]? = some (.cells #[.int .i64 0, .int .i64 0, .int .i64 0, .int .u64 0, .int .u64 0, .int .u64 0, .int .u64 0, .int .u64 0, .bool false, .bool false, .slice none 0 0, .int .u64 0, .int .u64 0, .slice none 0 0, .slice none 0 0] 62) := by rw [hW4]; exact b6
  have hB4x : Below w.heap.size w W4 := by rw [hW4]; exact hB6
  rw [← hW4]
  clear hW4
  have C4 := Lib.hid c4x
  have D0 := Lib.hid d0
  have B4 := Lib.hid hB4x
  clear p0 p1 p2 p3 p4 p5 p6 p7 p8 p9 p10 p11 p12 p13 p14 a3 b3 c3 hB3 c4x d0 hB4x g4 e4 c4 b4 hB4 g5 e5 c5 b5 hB5 g6 e6 c6 b6 hB6
  have p0 := cell_at C4.out 0 (.int .i64 6) rfl
  have p1 := cell_at C4.out 1 (.int .i64 frm) rfl
  have p2 := cell_at C4.out 2 (.int .i64 dst) rfl
  have p3 := cell_at C4.out 3 (.int .u64 term) rfl
  have p4 := cell_at C4.out 4 (.int .u64 index) rfl
  have p5 := cell_at C4.out 5 (.int .u64 0) rfl
  have p6 := cell_at C4.out 6 (.int .u64 0) rfl
  have p7 := cell_at C4.out 7 (.int .u64 round) rfl
  have p8 := cell_at C4.out 8 (.bool ok) rfl
  have p9 := cell_at C4.out 9 (.bool false) rfl
  have p10 := cell_at C4.out 10 (.slice none 0 0) rfl
  have p11 := cell_at C4.out 11 (.int .u64 0) rfl
  have p12 := cell_at C4.out 12 (.int .u64 0) rfl
  have p13 := cell_at C4.out 13 (.slice none 0 0) rfl
  have p14 := cell_at C4.out 14 (.slice none 0 0) rfl
  have g0 := cell_at D0.out 0 (.int .i64 0) rfl
  have e0 := block_free D0.out 0
  have dd0 := block_set D0.out 0 (.int .i64 6)
  simp only [List.setIfInBounds_toArray, List.set_cons_zero, List.set_cons_succ] at dd0
  have d1 := Lib.hid dd0
  clear dd0
  have hb0 := B4.out.setCell (p := ⟨w.heap.size + 1, 0, none⟩) (by simp only; omega) (.int .i64 6)
  have BB0 := Lib.hid hb0
  clear hb0
  have g1 := cell_at d1.out 1 (.int .i64 0) rfl
  have e1 := block_free d1.out 1
  have dd1 := block_set d1.out 1 (.int .i64 frm)
  simp only [List.setIfInBounds_toArray, List.set_cons_zero, List.set_cons_succ] at dd1
  have d2 := Lib.hid dd1
  clear dd1
  have hb1 := BB0.out.setCell (p := ⟨w.heap.size + 1, 1, none⟩) (by simp only; omega) (.int .i64 frm)
  have BB1 := Lib.hid hb1
  clear hb1
  have g2 := cell_at d2.out 2 (.int .i64 0) rfl
  have e2 := block_free d2.out 2
  have dd2 := block_set d2.out 2 (.int .i64 dst)
  simp only [List.setIfInBounds_toArray, List.set_cons_zero, List.set_cons_succ] at dd2
  have d3 := Lib.hid dd2
  clear dd2
  have hb2 := BB1.out.setCell (p := ⟨w.heap.size + 1, 2, none⟩) (by simp only; omega) (.int .i64 dst)
  have BB2 := Lib.hid hb2
  clear hb2
  have g3 := cell_at d3.out 3 (.int .u64 0) rfl
  have e3 := block_free d3.out 3
  have dd3 := block_set d3.out 3 (.int .u64 term)
  simp only [List.setIfInBounds_toArray, List.set_cons_zero, List.set_cons_succ] at dd3
  have d4 := Lib.hid dd3
  clear dd3
  have hb3 := BB2.out.setCell (p := ⟨w.heap.size + 1, 3, none⟩) (by simp only; omega) (.int .u64 term)
  have BB3 := Lib.hid hb3
  clear hb3
  have g4 := cell_at d4.out 4 (.int .u64 0) rfl
  have e4 := block_free d4.out 4
  have dd4 := block_set d4.out 4 (.int .u64 index)
  simp only [List.setIfInBounds_toArray, List.set_cons_zero, List.set_cons_succ] at dd4
  have d5 := Lib.hid dd4
  clear dd4
  have hb4 := BB3.out.setCell (p := ⟨w.heap.size + 1, 4, none⟩) (by simp only; omega) (.int .u64 index)
  have BB4 := Lib.hid hb4
  clear hb4
  have g5 := cell_at d5.out 5 (.int .u64 0) rfl
  have e5 := block_free d5.out 5
  have dd5 := block_set d5.out 5 (.int .u64 0)
  simp only [List.setIfInBounds_toArray, List.set_cons_zero, List.set_cons_succ] at dd5
  have d6 := Lib.hid dd5
  clear dd5
  have hb5 := BB4.out.setCell (p := ⟨w.heap.size + 1, 5, none⟩) (by simp only; omega) (.int .u64 0)
  have BB5 := Lib.hid hb5
  clear hb5
  have g6 := cell_at d6.out 6 (.int .u64 0) rfl
  have e6 := block_free d6.out 6
  have dd6 := block_set d6.out 6 (.int .u64 0)
  simp only [List.setIfInBounds_toArray, List.set_cons_zero, List.set_cons_succ] at dd6
  have d7 := Lib.hid dd6
  clear dd6
  have hb6 := BB5.out.setCell (p := ⟨w.heap.size + 1, 6, none⟩) (by simp only; omega) (.int .u64 0)
  have BB6 := Lib.hid hb6
  clear hb6
  have g7 := cell_at d7.out 7 (.int .u64 0) rfl
  have e7 := block_free d7.out 7
  have dd7 := block_set d7.out 7 (.int .u64 round)
  simp only [List.setIfInBounds_toArray, List.set_cons_zero, List.set_cons_succ] at dd7
  have d8 := Lib.hid dd7
  clear dd7
  have hb7 := BB6.out.setCell (p := ⟨w.heap.size + 1, 7, none⟩) (by simp only; omega) (.int .u64 round)
  have BB7 := Lib.hid hb7
  clear hb7
  have g8 := cell_at d8.out 8 (.bool false) rfl
  have e8 := block_free d8.out 8
  have dd8 := block_set d8.out 8 (.bool ok)
  simp only [List.setIfInBounds_toArray, List.set_cons_zero, List.set_cons_succ] at dd8
  have d9 := Lib.hid dd8
  clear dd8
  have hb8 := BB7.out.setCell (p := ⟨w.heap.size + 1, 8, none⟩) (by simp only; omega) (.bool ok)
  have BB8 := Lib.hid hb8
  clear hb8
  have g9 := cell_at d9.out 9 (.bool false) rfl
  have e9 := block_free d9.out 9
  have dd9 := block_set d9.out 9 (.bool false)
  simp only [List.setIfInBounds_toArray, List.set_cons_zero, List.set_cons_succ] at dd9
  have d10 := Lib.hid dd9
  clear dd9
  have hb9 := BB8.out.setCell (p := ⟨w.heap.size + 1, 9, none⟩) (by simp only; omega) (.bool false)
  have BB9 := Lib.hid hb9
  clear hb9
  have g10 := cell_at d10.out 10 (.slice none 0 0) rfl
  have e10 := block_free d10.out 10
  have dd10 := block_set d10.out 10 (.slice none 0 0)
  simp only [List.setIfInBounds_toArray, List.set_cons_zero, List.set_cons_succ] at dd10
  have d11 := Lib.hid dd10
  clear dd10
  have hb10 := BB9.out.setCell (p := ⟨w.heap.size + 1, 10, none⟩) (by simp only; omega) (.slice none 0 0)
  have BB10 := Lib.hid hb10
  clear hb10
  have g11 := cell_at d11.out 11 (.int .u64 0) rfl
  have e11 := block_free d11.out 11
  have dd11 := block_set d11.out 11 (.int .u64 0)
  simp only [List.setIfInBounds_toArray, List.set_cons_zero, List.set_cons_succ] at dd11
  have d12 := Lib.hid dd11
  clear dd11
  have hb11 := BB10.out.setCell (p := ⟨w.heap.size + 1, 11, none⟩) (by simp only; omega) (.int .u64 0)
  have BB11 := Lib.hid hb11
  clear hb11
  have g12 := cell_at d12.out 12 (.int .u64 0) rfl
  have e12 := block_free d12.out 12
  have dd12 := block_set d12.out 12 (.int .u64 0)
  simp only [List.setIfInBounds_toArray, List.set_cons_zero, List.set_cons_succ] at dd12
  have d13 := Lib.hid dd12
  clear dd12
  have hb12 := BB11.out.setCell (p := ⟨w.heap.size + 1, 12, none⟩) (by simp only; omega) (.int .u64 0)
  have BB12 := Lib.hid hb12
  clear hb12
  have g13 := cell_at d13.out 13 (.slice none 0 0) rfl
  have e13 := block_free d13.out 13
  have dd13 := block_set d13.out 13 (.slice none 0 0)
  simp only [List.setIfInBounds_toArray, List.set_cons_zero, List.set_cons_succ] at dd13
  have d14 := Lib.hid dd13
  clear dd13
  have hb13 := BB12.out.setCell (p := ⟨w.heap.size + 1, 13, none⟩) (by simp only; omega) (.slice none 0 0)
  have BB13 := Lib.hid hb13
  clear hb13
  have g14 := cell_at d14.out 14 (.slice none 0 0) rfl
  have e14 := block_free d14.out 14
  have dd14 := block_set d14.out 14 (.slice none 0 0)
  simp only [List.setIfInBounds_toArray, List.set_cons_zero, List.set_cons_succ] at dd14
  have d15 := Lib.hid dd14
  clear dd14
  have hb14 := BB13.out.setCell (p := ⟨w.heap.size + 1, 14, none⟩) (by simp only; omega) (.slice none 0 0)
  have BB14 := Lib.hid hb14
  clear hb14
  refine WL.start ?_
  iterate 2 (refine WL.any (by rfl) (fun K hK => ?_); go_simp; refine hK.out _ _ ?_; clear hK K)
  refine WL.nil ?_
  obtain ⟨W5, hW5⟩ : ∃ W5, W5 = (((((((((((((((W4.setCell ⟨w.heap.size + 1, 0, none⟩ (.int .i64 6)).setCell ⟨w.heap.size + 1, 1, none⟩ (.int .i64 frm)).setCell ⟨w.heap.size + 1, 2, none⟩ (.int .i64 dst)).setCell ⟨w.heap.size + 1, 3, none⟩ (.int .u64 term)).setCell ⟨w.heap.size + 1, 4, none⟩ (.int .u64 index)).setCell ⟨w.heap.size + 1, 5, none⟩ (.int .u64 0)).setCell ⟨w.heap.size + 1, 6, none⟩ (.int .u64 0)).setCell ⟨w.heap.size + 1, 7, none⟩ (.int .u64 round)).setCell ⟨w.heap.size + 1, 8, none⟩ (.bool ok)).setCell ⟨w.heap.size + 1, 9, none⟩ (.bool false)).setCell ⟨w.heap.size + 1, 10, none⟩ (.slice none 0 0)).setCell ⟨w.heap.size + 1, 11, none⟩ (.int .u64 0)).setCell ⟨w.heap.size + 1, 12, none⟩ (.int .u64 0)).setCell ⟨w.heap.size + 1, 13, none⟩ (.slice none 0 0)).setCell ⟨w.heap.size + 1, 14, none⟩ (.slice none 0 0)) := ⟨_, rfl⟩
  have hd5 : W5.heap[w.heap.size + 1]? = some (.cells #[.int .i64 6, .int .i64 frm, .int .i64 dst, .int .u64 term, .int .u64 index, .int .u64 0, .int .u64 0, .int .u64 round, .bool ok, .bool false, .slice none 0 0, .int .u64 0, .int .u64 0, .slice none 0 0, .slice none 0 0] 62) := by rw [hW5]; exact d15.out
  have hb5 : Below w.heap.size w W5 := by rw [hW5]; exact BB14.out
  rw [← hW5]
  clear hW5 p0 g0 e0 BB0 d1 p1 g1 e1 BB1 d2 p2 g2 e2 BB2 d3 p3 g3 e3 BB3 d4 p4 g4 e4 BB4 d5 p5 g5 e5 BB5 d6 p6 g6 e6 BB6 d7 p7 g7 e7 BB7 d8 p8 g8 e8 BB8 d9 p9 g9 e9 BB9 d10 p10 g10 e10 BB10 d11 p11 g11 e11 BB11 d12 p12 g12 e12 BB12 d13 p13 g13 e13 BB13 d14 p14 g14 e14 BB14 d15 C4 D0 B4
  have p0 := cell_at hd5 0 (.int .i64 6) rfl
  have p1 := cell_at hd5 1 (.int .i64 frm) rfl
  have p2 := cell_at hd5 2 (.int .i64 dst) rfl
  have p3 := cell_at hd5 3 (.int .u64 term) rfl
  have p4 := cell_at hd5 4 (.int .u64 index) rfl
  have p5 := cell_at hd5 5 (.int .u64 0) rfl
  have p6 := cell_at hd5 6 (.int .u64 0) rfl
  have p7 := cell_at hd5 7 (.int .u64 round) rfl
  have p8 := cell_at hd5 8 (.bool ok) rfl
  have p9 := cell_at hd5 9 (.bool false) rfl
  have p10 := cell_at hd5 10 (.slice none 0 0) rfl
  have p11 := cell_at hd5 11 (.int .u64 0) rfl
  have p12 := cell_at hd5 12 (.int .u64 0) rfl
  have p13 := cell_at hd5 13 (.slice none 0 0) rfl
  have p14 := cell_at hd5 14 (.slice none 0 0) rfl
  have HB5 := Lib.hid hb5
  clear hb5 hd5
  go_wp2_with fail
  refine bodyPost_ret (v := .agg #[.int .i64 6, .int .i64 frm, .int .i64 dst, .int .u64 term, .int .u64 index, .int .u64 0, .int .u64 0, .int .u64 round, .bool ok, .bool false, .slice none 0 0, .int .u64 0, .int .u64 0, .slice none 0 0, .slice none 0 0]) (by simp [results, Try.results70, go_sem, p0, p1, p2, p3, p4, p5, p6, p7, p8, p9, p10, p11, p12, p13, p14]) rfl ?_
  exact ⟨rfl, HB5.out⟩
end Go.Proofs.Ytbmkgcoolofmpaa
