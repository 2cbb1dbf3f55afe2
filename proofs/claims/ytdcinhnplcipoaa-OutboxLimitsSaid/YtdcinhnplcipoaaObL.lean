/- The outbox law's lives. No statement of the seat is proved here. -/
import Derived.Test.YtdcinhnplcipoaaObP
import Derived.Test.YtdcinhnplcipoaaObQ
namespace Go.Proofs.Ytdcinhnplcipoaa
set_option linter.unusedVariables false
set_option linter.unusedSimpArgs false
set_option linter.unusedSectionVars false
open Go Go.RowKit Go.Shelf

def lv0 : No := ⟨0, 0, 0, 0, 0, 0, 1, 5, 0⟩
def lv1 : No := ⟨1, 0, 0, 0, 1, 0, 1, 5, 0⟩
def lv2 : No := ⟨1, 0, 0, 0, 1, 1, 1, 10, 5⟩
def lv3 : No := ⟨1, 0, 0, 0, 3, 1, 1, 10, 5⟩
theorem lv_put : roomL [] ++ [putN 0 lv0 0] = [lv1] := by decide
theorem lv_try : tryN lv1 0 = lv2 := by decide
theorem lv_t4 : ([lv2].map (tickN 4)) = [lv2] ∧ [lv2].filter (spentB 4) = [] := by decide
theorem lv_t5 : ([lv2].map (tickN 5)) = [lv3] ∧ [lv2].filter (spentB 5) = [lv2] := by decide
/-- a block of a caller's own is kept -/
theorem Fr2.kept {b r : Nat} {v : Value} {W W' : World} {o : Obj} (h : Fr2 W.heap.size b v W W') (hr : W.heap[r]? = some o) (hb : r ≠ b) (hv : v.ownBlock ≠ some r) : W'.heap[r]? = some o :=
  (h.block r (Array.getElem?_eq_some_iff.1 hr).1 hb hv).trans hr
/-- a box's call, below what began before the box -/
theorem Bx.low {w W W' : World} {base b : Nat} {last : Int} {v : Value} {l : List No} (h : Bx W base b last v l) (hf : Fr2 W.heap.size b v W W') (hb : Below w.heap.size w W) (hbb : w.heap.size ≤ base) : Below w.heap.size w W' :=
  hf.below_of hb hb.size (by have := h.le; omega) (fun k hk => by have := (h.own.lt k hk).1; omega) (Nat.le_refl _)
set_option maxRecDepth 100000 in
set_option maxHeartbeats 4000000 in
theorem lives17_any (w : World) : Calls Try.prog 10 #[] w fun e w' => e = .returned (.bool true) ∧ Below w.heap.size w w' := by
  go_enter Try.func10, Try.ntmps10
  go_wp2_with fail
  refine (new_bx w).mono ?_
  rintro e w1 ⟨rfl, h1, hb1⟩
  go_wp2_with fail
  refine (put_ok (last := 0) (l := []) lv0 0 (by simp) (by simp) h1 (by decide) (by decide) (by omega) (by omega)).mono ?_
  rintro e w2 ⟨v2, rfl, h2, hf2, ho2⟩
  have hb2 := h1.low hf2 hb1 (Nat.le_refl _)
  have Hp := Lib.hid lv_put
  rw [Hp.out] at h2
  clear hf2 ho2
  simp only [Int.zero_add] at h2 ⊢
  go_wp2_with fail
  refine (try_ok (l := [lv1]) 1 0 (by simp) h2 (by decide) (by decide) (by decide) (by decide) (by decide)).mono ?_
  rintro e w3 ⟨rfl, h3, hf3⟩
  have hb3 := h2.low hf3 hb2 (Nat.le_refl _)
  have e0 : placeN [lv1] 1 = 0 := by decide
  have ht : tryN ([lv1][placeN [lv1] 1]'(by decide)) 0 = lv2 := lv_try
  have hl3 : [lv1].set (placeN [lv1] 1) (tryN ([lv1][placeN [lv1] 1]'(by decide)) 0) = [lv2] := by decide
  rw [hl3] at h3
  rw [ht]
  clear e0 ht hl3 hf3
  unfold noVal lv2
  simp only
  go_wp2_with fail
  have hr3 : (w3.alloc (.cells #[.int .u64 1, .int .u64 0, .int .i64 0, .int .i64 0, .int .i64 1, .int .i64 1, .int .i64 1, .int .i64 10, .int .i64 5] 24)).heap[w3.heap.size]? = _ := heap_alloc_new _ _
  have h3a := h3.below (below_new w3 (.cells #[.int .u64 1, .int .u64 0, .int .i64 0, .int .i64 0, .int .i64 1, .int .i64 1, .int .i64 1, .int .i64 10, .int .i64 5] 24))
  have hb3a := hb3.alloc hb3.size (.cells #[.int .u64 1, .int .u64 0, .int .i64 0, .int .i64 0, .int .i64 1, .int .i64 1, .int .i64 1, .int .i64 10, .int .i64 5] 24)
  have hvr : v2.ownBlock ≠ some w3.heap.size := fun e => by have := (h3.own.lt _ e).2; omega
  have hbr : w3.heap.size ≠ w.heap.size := by have := (Array.getElem?_eq_some_iff.1 h3.blk).1; omega
  obtain ⟨w4, hw4⟩ : ∃ w4, w4 = w3.alloc (.cells #[.int .u64 1, .int .u64 0, .int .i64 0, .int .i64 0, .int .i64 1, .int .i64 1, .int .i64 1, .int .i64 10, .int .i64 5] 24) := ⟨_, rfl⟩
  rw [← hw4] at hr3 h3a hb3a
  rw [← hw4]
  clear hw4
  refine (tick_bx 4 (by simp) h3a).mono ?_
  rintro e w5 ⟨so4, sc4, rfl, -, h5, hf5⟩
  have hb5 := h3a.low hf5 hb3a (Nat.le_refl _)
  have hr5 := hf5.kept hr3 hbr hvr
  rw [lv_t4.1] at h5
  rw [lv_t4.2]
  clear hf5 hr3
  go_wp2_with fail
  refine (tick_bx 5 (by simp) h5).mono ?_
  rintro e w6 ⟨so5, sc5, rfl, how6, h6, hf6⟩
  have hb6 := h5.low hf6 hb5 (Nat.le_refl _)
  have hr6 := hf6.kept hr5 hbr hvr
  rw [lv_t5.1] at h6
  rw [lv_t5.2] at how6 ⊢
  clear hf6 hr5
  obtain ⟨g6, hg6, -⟩ := own_some how6 (by decide)
  subst hg6
  have hs6 := Sl.of_own how6
  obtain ⟨g', off', e6, hc6⟩ := hs6.cell 0 (.int .u64 1) rfl
  cases e6
  have hc6' : w6.cell? ⟨g6, 0, none⟩ = some (.int .u64 1) := hc6
  clear hc6 hs6
  go_wp2_with fail
  refine (get_yes (l := [lv3]) 1 (by simp) h6 (by decide)).mono ?_
  rintro e w7 ⟨rfl, hb7⟩
  have B7 := below_on hb6 hb7 (Nat.le_refl _)
  have hr7 := (hb7.block _ (Array.getElem?_eq_some_iff.1 hr6).1).trans hr6
  have hc7 := (hb7.cell (p := ⟨g6, 0, none⟩) (cell?_lt hc6')).trans hc6'
  have hg : noVal ([lv3][placeN [lv3] 1]'(by decide)) = .agg #[.int .u64 1, .int .u64 0, .int .i64 0, .int .i64 0, .int .i64 3, .int .i64 1, .int .i64 1, .int .i64 10, .int .i64 5] := rfl
  rw [hg]
  clear hg hc6'
  have k8 := block_cell hr7 8
  simp at k8
  have hz7 := (Array.getElem?_eq_some_iff.1 hr7).1
  have hg7 := cell?_lt hc7
  go_wp2_with fail
  go_ret
  exact ⟨rfl, B7.alloc B7.size _⟩
end Go.Proofs.Ytdcinhnplcipoaa
