/- Contracts of the box's methods at a box that is nil or that no call made. No statement of the seat is proved here. -/
import Derived.Test.YtdcinhnplcipoaaObDu
namespace Go.Proofs.Ytdcinhnplcipoaa
set_option linter.unusedVariables false
set_option linter.unusedSimpArgs false
set_option linter.unusedSectionVars false
open Go Go.RowKit Go.Shelf

/-- nobody's box -/
def NoBx (W : World) (p : Value) : Prop := p = .pointer none ∨ ∃ b, p = .pointer (some ⟨b, 0, none⟩) ∧ W.heap[b]? = some (.cells #[.bool false, .int .u64 0, .slice none 0 0] 62 (0, 0))
theorem NoBx.below {W W' : World} {p : Value} (h : NoBx W p) (hb : Below W.heap.size W W') : NoBx W' p := by
  rcases h with h | ⟨b, h, h2⟩
  · exact .inl h
  · exact .inr ⟨b, h, (hb.block b (Array.getElem?_eq_some_iff.1 h2).1).trans h2⟩
theorem none_nb {W : World} {p : Value} (h : NoBx W p) : Calls Try.prog 36 #[p] W fun e W' => e = .returned (.bool true) ∧ W = W' := by
  rcases h with rfl | ⟨b, rfl, h2⟩
  · go_enter Try.func36, Try.ntmps36
    go_wp2_with fail
    go_ret
    exact ⟨rfl, rfl⟩
  · have c0 := block_cell h2 0
    simp at c0
    go_enter Try.func36, Try.ntmps36
    go_wp2_with fail
    go_ret
    exact ⟨rfl, rfl⟩
theorem put_nb {W : World} {p : Value} (n : No) (now : Int) (h : NoBx W p) : Calls Try.prog 9 #[p, noVal n, .int .i64 now] W fun e W' => e = .returned (.tuple #[.int .u64 0, .int .i64 1]) ∧ Below W.heap.size W W' := by
  obtain ⟨id, tk, lv, pt, st, tr, rt, wt, nx⟩ := n
  unfold noVal
  simp only
  have hn := fun (W' : World) (hb : Below W.heap.size W W') => none_nb (h.below hb)
  have Hn := Lib.hid hn
  clear hn
  go_enter Try.func9, Try.ntmps9
  go_wp2_with fail
  refine (Hn.out _ (below_new W _)).mono ?_
  rintro e W2 ⟨rfl, rfl⟩
  go_wp2_with fail
  go_ret2
  exact ⟨rfl, below_new W _⟩
theorem at_nb {W : World} {p : Value} (id : Int) (h : NoBx W p) : Calls Try.prog 42 #[p, .int .u64 id] W fun e W' => e = .returned (.tuple #[.int .i64 0, .int .i64 1]) ∧ Below W.heap.size W W' := by
  have hn := fun (W' : World) (hb : Below W.heap.size W W') => none_nb (h.below hb)
  have Hn := Lib.hid hn
  clear hn
  go_enter Try.func42, Try.ntmps42
  go_wp2_with fail
  refine (Hn.out _ (below_new W _)).mono ?_
  rintro e W2 ⟨rfl, rfl⟩
  go_wp2_with fail
  go_ret2
  exact ⟨rfl, below_new W _⟩
theorem get_nb {W : World} {p : Value} (id : Int) (h : NoBx W p) : Calls Try.prog 13 #[p, .int .u64 id] W fun e W' => e = .returned (.tuple #[noVal noZ, .bool false]) ∧ Below W.heap.size W W' := by
  unfold noVal noZ
  simp only
  have hn := fun (W' : World) (hb : Below W.heap.size W W') => at_nb id (h.below hb)
  have Hn := Lib.hid hn
  clear hn
  go_enter Try.func13, Try.ntmps13
  go_wp2_with fail
  refine (Hn.out _ (below_new W _)).mono ?_
  rintro e W2 ⟨rfl, hb2⟩
  have hr := alloc_after hb2
  have hB := below_on (below_new W _) hb2 (Nat.le_refl _)
  obtain ⟨q0, q1, q2, q3, q4, q5, q6, q7, q8⟩ := blk9 hr
  obtain ⟨z0, z1, z2, z3, z4, z5, z6, z7, z8⟩ := blk9z hr
  go_wp2_with fail
  refine bodyPost_ret (v := .tuple #[.agg #[.int .u64 0, .int .u64 0, .int .i64 0, .int .i64 0, .int .i64 0, .int .i64 0, .int .i64 0, .int .i64 0, .int .i64 0], .bool false]) (by simp [results, Try.results13, go_sem, q0, q1, q2, q3, q4, q5, q6, q7, q8, z0, z1, z2, z3, z4, z5, z6, z7, z8]) rfl ?_
  exact ⟨rfl, below_grown hB (grown9 W2 W.heap.size 0 _ _ _ _ _ _ _ _ _) (Nat.le_refl _) hB.size⟩
theorem try_nb {W : World} {p : Value} (id now : Int) (h : NoBx W p) : Calls Try.prog 11 #[p, .int .u64 id, .int .i64 now] W fun e W' => e = .returned (.tuple #[noVal noZ, .int .i64 1]) ∧ Below W.heap.size W W' := by
  unfold noVal noZ
  simp only
  have hn := fun (W' : World) (hb : Below W.heap.size W W') => at_nb id (h.below hb)
  have Hn := Lib.hid hn
  clear hn
  go_enter Try.func11, Try.ntmps11
  go_wp2_with fail
  refine (Hn.out _ (below_new W _)).mono ?_
  rintro e W2 ⟨rfl, hb2⟩
  have hr := alloc_after hb2
  have hB := below_on (below_new W _) hb2 (Nat.le_refl _)
  obtain ⟨q0, q1, q2, q3, q4, q5, q6, q7, q8⟩ := blk9 hr
  obtain ⟨z0, z1, z2, z3, z4, z5, z6, z7, z8⟩ := blk9z hr
  go_wp2_with fail
  refine bodyPost_ret (v := .tuple #[.agg #[.int .u64 0, .int .u64 0, .int .i64 0, .int .i64 0, .int .i64 0, .int .i64 0, .int .i64 0, .int .i64 0, .int .i64 0], .int .i64 1]) (by simp [results, Try.results11, go_sem, q0, q1, q2, q3, q4, q5, q6, q7, q8, z0, z1, z2, z3, z4, z5, z6, z7, z8]) rfl ?_
  exact ⟨rfl, below_grown hB (grown9 W2 W.heap.size 0 _ _ _ _ _ _ _ _ _) (Nat.le_refl _) hB.size⟩
theorem ack_nb {W : World} {p : Value} (id : Int) (h : NoBx W p) : Calls Try.prog 12 #[p, .int .u64 id] W fun e W' => e = .returned (.tuple #[noVal noZ, .int .i64 1]) ∧ Below W.heap.size W W' := by
  unfold noVal noZ
  simp only
  have hn := fun (W' : World) (hb : Below W.heap.size W W') => at_nb id (h.below hb)
  have Hn := Lib.hid hn
  clear hn
  go_enter Try.func12, Try.ntmps12
  go_wp2_with fail
  refine (Hn.out _ (below_new W _)).mono ?_
  rintro e W2 ⟨rfl, hb2⟩
  have hr := alloc_after hb2
  have hB := below_on (below_new W _) hb2 (Nat.le_refl _)
  obtain ⟨q0, q1, q2, q3, q4, q5, q6, q7, q8⟩ := blk9 hr
  obtain ⟨z0, z1, z2, z3, z4, z5, z6, z7, z8⟩ := blk9z hr
  go_wp2_with fail
  refine bodyPost_ret (v := .tuple #[.agg #[.int .u64 0, .int .u64 0, .int .i64 0, .int .i64 0, .int .i64 0, .int .i64 0, .int .i64 0, .int .i64 0, .int .i64 0], .int .i64 1]) (by simp [results, Try.results12, go_sem, q0, q1, q2, q3, q4, q5, q6, q7, q8, z0, z1, z2, z3, z4, z5, z6, z7, z8]) rfl ?_
  exact ⟨rfl, below_grown hB (grown9 W2 W.heap.size 0 _ _ _ _ _ _ _ _ _) (Nat.le_refl _) hB.size⟩
theorem tick_nb {W : World} {p : Value} (now : Int) (h : NoBx W p) : Calls Try.prog 17 #[p, .int .i64 now] W fun e W' => e = .returned (.slice none 0 0) ∧ Below W.heap.size W W' := by
  have hn := fun (W' : World) (hb : Below W.heap.size W W') => none_nb (h.below hb)
  have Hn := Lib.hid hn
  clear hn
  go_enter Try.func17, Try.ntmps17
  go_wp2_with fail
  refine (Hn.out _ (below_new W _)).mono ?_
  rintro e W2 ⟨rfl, rfl⟩
  go_wp2_with fail
  go_ret
  exact ⟨rfl, below_new W _⟩
theorem due_nb {W : World} {p : Value} (now : Int) (h : NoBx W p) : Calls Try.prog 26 #[p, .int .i64 now] W fun e W' => e = .returned (.slice none 0 0) ∧ Below W.heap.size W W' := by
  have hn := fun (W' : World) (hb : Below W.heap.size W W') => none_nb (h.below hb)
  have Hn := Lib.hid hn
  clear hn
  go_enter Try.func26, Try.ntmps26
  go_wp2_with fail
  refine (Hn.out _ (below_new W _)).mono ?_
  rintro e W2 ⟨rfl, rfl⟩
  go_wp2_with fail
  go_ret
  exact ⟨rfl, below_new W _⟩
theorem waiting_nb {W : World} {p : Value} (h : NoBx W p) : Calls Try.prog 14 #[p] W fun e W' => e = .returned (.int .i64 0) ∧ Below W.heap.size W W' := by
  have Hn := Lib.hid (none_nb h)
  go_enter Try.func14, Try.ntmps14
  go_wp2_with fail
  refine Hn.out.mono ?_
  rintro e W2 ⟨rfl, rfl⟩
  go_wp2_with fail
  go_ret
  exact ⟨rfl, Below.refl _ _⟩
theorem state_nb {W : World} {p : Value} (h : NoBx W p) : Calls Try.prog 15 #[p] W fun e W' => e = .returned (.agg #[.int .u64 0, .slice none 0 0]) ∧ Below W.heap.size W W' := by
  have hn := fun (W' : World) (hb : Below W.heap.size W W') => none_nb (h.below hb)
  have Hn := Lib.hid hn
  clear hn
  go_enter Try.func15, Try.ntmps15
  go_wp2_with fail
  have hr : (W.alloc (.cells #[.int .u64 0, .slice none 0 0] 44)).heap[W.heap.size]? = _ := heap_alloc_new _ _
  have hb1 := below_new W (.cells #[.int .u64 0, .slice none 0 0] 44)
  obtain ⟨W1, hW1⟩ : ∃ W1, W1 = W.alloc (.cells #[.int .u64 0, .slice none 0 0] 44) := ⟨_, rfl⟩
  rw [← hW1] at hr hb1
  rw [← hW1]
  clear hW1
  refine (Hn.out _ hb1).mono ?_
  rintro e W2 ⟨rfl, rfl⟩
  have z0 := block_free hr 0
  have z1 := block_free hr 1
  have c0 := block_cell hr 0
  have c1 := block_cell hr 1
  simp at c0 c1
  go_wp2_with fail
  refine bodyPost_ret (v := .agg #[.int .u64 0, .slice none 0 0]) (by simp [results, Try.results15, go_sem, c0, c1, z0, z1]) rfl ?_
  exact ⟨rfl, below_grown hb1 (grown_set2 W1 W.heap.size (.int .u64 0) (.slice none 0 0)) (Nat.le_refl _) hb1.size⟩
theorem clone_nb {W : World} {p : Value} (h : NoBx W p) : Calls Try.prog 25 #[p] W fun e W' => e = .returned (.pointer (some ⟨W.heap.size, 0, none⟩)) ∧ NoBx W' (.pointer (some ⟨W.heap.size, 0, none⟩)) ∧ Below W.heap.size W W' := by
  have Hn := Lib.hid (none_nb h)
  go_enter Try.func25, Try.ntmps25
  go_wp2_with fail
  refine Hn.out.mono ?_
  rintro e W2 ⟨rfl, rfl⟩
  go_wp2_with fail
  go_ret
  exact ⟨rfl, .inr ⟨_, rfl, heap_alloc_new _ _⟩, below_new _ _⟩
end Go.Proofs.Ytdcinhnplcipoaa
