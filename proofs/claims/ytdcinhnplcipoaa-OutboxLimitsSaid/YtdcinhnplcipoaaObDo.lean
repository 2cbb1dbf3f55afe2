/- Contracts of law17's 'do', way by way. No statement of the seat is proved here. -/
import Derived.Test.YtdcinhnplcipoaaObM
import Derived.Test.YtdcinhnplcipoaaOpenO
import Derived.Test.YtdcinhnplcipoaaObT
import Derived.Test.YtdcinhnplcipoaaObS
import Derived.Test.YtdcinhnplcipoaaObL
namespace Go.Proofs.Ytdcinhnplcipoaa
set_option linter.unusedVariables false
set_option linter.unusedSimpArgs false
set_option linter.unusedSectionVars false
open Go Go.RowKit Go.Shelf

theorem two_cells {w : World} {b : Nat} {v0 v1 : Value} {T : TypeId} (h : w.heap[b]? = some (.cells #[v0, v1] T (0, 0))) : w.cell? ⟨b, 0, none⟩ = some v0 ∧ w.cell? ⟨b, 1, none⟩ = some v1 := ⟨block_cell h 0, block_cell h 1⟩
theorem do_end {W W4 W5 W6 : World} {base b R : Nat} {last' : Int} {v v' x y : Value} {l' : List No} {ao ao' : Option Addr} {l : List No} {cap' : Nat} (h4 : Bx W4 base b last' v' l') (hns : Ns W4 ao' cap' l') (hfar : Far v' ao' l') (hF : Fr2 W.heap.size b v W W4)
    (hV : ∀ k, v'.ownBlock = some k → v.ownBlock = some k ∨ W.heap.size ≤ k) (hA : 0 < l'.length → ∀ a, ao' = some a → (ao = some a ∧ 0 < l.length) ∨ W.heap.size ≤ a.block) (hb5 : Below W4.heap.size W4 W5) (k : W5.heap[R]? = some (.cells #[x, y] 53 (0, 0))) (hR : W.heap.size ≤ R) (hb : b < W.heap.size) (hR4 : R < W4.heap.size) (hg : W5.grownBy W6 (some R)) :
    DoOk base b v ao l last' l' W (.returned (.tuple #[.agg #[.int .u64 last', .slice ao' l'.length cap'], .bool true])) W6 := by
  have hvR : v'.ownBlock ≠ some R := fun e => by
    have := own_elem (h4.below hb5).own R e
    rw [elem?_of k] at this
    exact absurd this (by decide)
  exact ⟨v', ao', cap', rfl, (h4.below hb5).grown hg (by omega) hvR, (hns.below hb5).grown hg (elem?_of k) (by decide), hfar, hF.trans ((Fr2.below hb5 hF.size).trans (Fr2.new hg hR (Nat.le_trans hF.size hb5.size))), hV, hA⟩
set_option maxRecDepth 100000 in
set_option maxHeartbeats 4000000 in
theorem do_try {W : World} {base b : Nat} {last : Int} {v : Value} {l : List No} (ao : Option Addr) (cap : Nat) (o : Opn) (hk : o.k = 1) (h : Bx W base b last v l) (hns : Ns W ao cap l) (hfar : Far v ao l) (hS : soundS last l = true) :
    Calls Try.prog 21 #[.pointer (some ⟨b, 0, none⟩), .agg #[.int .u64 last, .slice ao l.length cap], opVal o] W (DoOk base b v ao l last (tryOut l o.n.id o.at').1 W) := by
  obtain ⟨k, ⟨id, tk, lv, pt, st, tr, rt, wt, nx⟩, at'⟩ := o
  simp only at hk
  subst hk
  unfold opVal
  simp only
  have hr1 := fun w hs => refTry_res last id at' ao cap l w hs hS
  have hr2 := fun (W : World) (h : Bx W base b last v l) => try_res id at' h hS
  obtain ⟨R, hR⟩ : ∃ R, R = tryOut l id at' := ⟨_, rfl⟩
  simp only [← hR] at hr1 hr2 ⊢
  clear hR
  obtain ⟨l', ⟨id', tk', lv', pt', st', tr', rt', wt', nx'⟩, F⟩ := R
  unfold noVal at hr1 hr2
  simp only at hr1 hr2 ⊢
  have Hr1 := Lib.hid hr1
  have Hr2 := Lib.hid hr2
  clear hr1 hr2
  obtain ⟨W1, hW1⟩ : ∃ W1, W1 = ((W.alloc (.cells #[.int .u64 last, .slice ao l.length cap] 53)).alloc (.cells #[.int .i64 1, .int .u64 id, .int .u64 tk, .int .i64 lv, .int .i64 pt, .int .i64 st, .int .i64 tr, .int .i64 rt, .int .i64 wt, .int .i64 nx, .int .i64 at'] 41)).alloc (.cells #[.int .u64 0, .slice none 0 0] 53) := ⟨_, rfl⟩
  obtain ⟨k0, k1, k2, hz, hB1⟩ := news3 hW1
  go_enter Try.func21, Try.ntmps21
  go_wp2_with fail
  rw [← hW1]
  clear hW1
  refine (Hr1.out W1 (hns.below hB1)).mono ?_
  rintro e W2 ⟨ao', cap', rfl, hns2, hao, hb2⟩
  simp only
  have k0 := (hb2.block _ (by omega)).trans k0
  have k1 := (hb2.block _ (by omega)).trans k1
  have k2 := (hb2.block _ (by omega)).trans k2
  obtain ⟨c0, c1, c2, c3, c4, c5, c6, c7, c8, c9, c10⟩ := blk11 k1
  have hB2 := below_on hB1 hb2 (Nat.le_refl _)
  have hl0 : W.heap.size < W2.heap.size := by have := hb2.size; omega
  have hl1 : W.heap.size + 1 < W2.heap.size := by have := hb2.size; omega
  have hl2 : W.heap.size + 1 + 1 < W2.heap.size := by have := hb2.size; omega
  go_wp2_with fail
  obtain ⟨W3, hW3⟩ : ∃ W3, W3 = (W2.alloc (.cells #[.int .u64 last, .slice ao' l'.length cap'] 53)).alloc (.cells #[.int .u64 id', .int .u64 tk', .int .i64 lv', .int .i64 pt', .int .i64 st', .int .i64 tr', .int .i64 rt', .int .i64 wt', .int .i64 nx'] 24) := ⟨_, rfl⟩
  obtain ⟨m0, m1, mz, hb3⟩ := news2 hW3
  rw [← hW3]
  clear hW3 c0 c1 c2 c3 c4 c5 c6 c7 c8 c9 c10
  have hB3 := below_on hB2 hb3 (Nat.le_refl _)
  have h3 := h.below hB3
  have hns3 := hns2.below hb3
  refine (Hr2.out W3 h3).mono ?_
  rintro e W4 ⟨rfl, v', hbx, hf, hv'⟩
  obtain ⟨hfar4, hns4⟩ := both_kept h hfar hB3 hns3 (fun h0 a ha => (hao h0 a ha).imp_right (fun x => by have := hB1.size; omega)) hf hv'
  have hzb := (Array.getElem?_eq_some_iff.1 h.blk).1
  have hvl : ∀ k, W.heap.size ≤ k → v.ownBlock ≠ some k := fun k hk e => by have := (h.own.lt k e).2; omega
  have hsz := hb3.size
  have m0 := hf.kept m0 (by omega) (hvl _ (by have := hB2.size; omega))
  have m1 := hf.kept m1 (by omega) (hvl _ (by have := hB2.size; omega))
  have k2 := hf.kept ((hb3.block _ hl2).trans k2) (by omega) (hvl _ (by omega))
  have hF : Fr2 W.heap.size b v W W4 := (Fr2.below hB3 (Nat.le_refl _)).trans ⟨hf.os, hf.tape, hf.output, hf.size, fun k hk h1 h2 => hf.block k (by have := hB3.size; omega) h1 h2⟩
  have hV : ∀ k, v'.ownBlock = some k → v.ownBlock = some k ∨ W.heap.size ≤ k := fun k hk => (hv' k hk).imp_right (fun x => by have := hB3.size; omega)
  have hA : 0 < l'.length → ∀ a, ao' = some a → (ao = some a ∧ 0 < l.length) ∨ W.heap.size ≤ a.block := fun h0 a ha => (hao h0 a ha).imp_right (fun x => by have := hB1.size; omega)
  have hsz4 := hf.size
  clear hf hv' hao hb2 hb3 hns3 h3 hB3 hB2 hns2 hB1 Hr1 Hr2 k0 k1 hl0 hl1
  obtain ⟨W5, hW5⟩ : ∃ W5, W5 = W4.alloc (.cells #[.int .u64 id', .int .u64 tk', .int .i64 lv', .int .i64 pt', .int .i64 st', .int .i64 tr', .int .i64 rt', .int .i64 wt', .int .i64 nx'] 24) := ⟨_, rfl⟩
  have n5 : W5.heap[W4.heap.size]? = _ := (congrArg (fun z : World => z.heap[W4.heap.size]?) hW5).trans (heap_alloc_new _ _)
  have hb5 : Below W4.heap.size W4 W5 := by rw [hW5]; exact below_new _ _
  have m0 := (hb5.block _ (by omega)).trans m0
  have m1 := (hb5.block _ (by omega)).trans m1
  have k2 := (hb5.block _ (by omega)).trans k2
  have ne := eql_no id' tk' lv' pt' st' tr' rt' wt' nx' id' tk' lv' pt' st' tr' rt' wt' nx'
  simp only [decide_true] at ne
  have ng := guard_no
  obtain ⟨p0, p1⟩ := two_cells m0
  obtain ⟨q0, q1, q2, q3, q4, q5, q6, q7, q8⟩ := blk9 m1
  obtain ⟨r0, r1, r2, r3, r4, r5, r6, r7, r8⟩ := blk9 n5
  obtain ⟨t0, t1⟩ := two_cells k2
  have z0 := block_free k2 0
  have z1 := block_free k2 1
  have hlx : W.heap.size + 1 + 1 < W5.heap.size := by have := hb5.size; omega
  go_upto_region 8 with fail
  rw [← hW5]
  clear hW5
  go_region
  all_goals
    have g6 := grown_drew (grown_set2 W5 (W.heap.size + 1 + 1) (.int .u64 last) (.slice ao' l'.length cap'))
    have k6 := block_set (block_set k2 0 (.int .u64 last)) 1 (.slice ao' l'.length cap')
    simp only [List.setIfInBounds_toArray, List.set_cons_zero, List.set_cons_succ] at k6
    obtain ⟨W6, hW6⟩ : ∃ W6, W6 = ((W5.setCell ⟨W.heap.size + 1 + 1, 0, none⟩ (.int .u64 last)).setCell ⟨W.heap.size + 1 + 1, 1, none⟩ (.slice ao' l'.length cap')).drew := ⟨_, rfl⟩
    have k7 : W6.heap[W.heap.size + 1 + 1]? = _ := (congrArg (fun z : World => z.heap[W.heap.size + 1 + 1]?) hW6).trans k6
    rw [← hW6] at g6 ⊢
    clear hW6 k6 ne ng p0 p1 q0 q1 q2 q3 q4 q5 q6 q7 q8 r0 r1 r2 r3 r4 r5 r6 r7 r8 t0 t1 z0 z1
    have hend := do_end hbx hns4 hfar4 hF hV hA hb5 k2 (by omega) hzb (by omega) g6
    obtain ⟨t0, t1⟩ := two_cells k7
    go_wp2_with fail
    refine bodyPost_ret (v := .tuple #[.agg #[.int .u64 last, .slice ao' l'.length cap'], .bool true]) (by simp [results, Try.results21, go_sem, t0, t1]) rfl ?_
    exact hend
set_option maxRecDepth 100000 in
set_option maxHeartbeats 4000000 in
theorem do_ack {W : World} {base b : Nat} {last : Int} {v : Value} {l : List No} (ao : Option Addr) (cap : Nat) (o : Opn) (hk : o.k = 2) (h : Bx W base b last v l) (hns : Ns W ao cap l) (hfar : Far v ao l) (hS : soundS last l = true) :
    Calls Try.prog 21 #[.pointer (some ⟨b, 0, none⟩), .agg #[.int .u64 last, .slice ao l.length cap], opVal o] W (DoOk base b v ao l last (ackOut l o.n.id).1 W) := by
  obtain ⟨k, ⟨id, tk, lv, pt, st, tr, rt, wt, nx⟩, at'⟩ := o
  simp only at hk
  subst hk
  unfold opVal
  simp only
  have hr1 := fun w hs => refAck_res last id ao cap l w hs hS
  have hr2 := fun (W : World) (h : Bx W base b last v l) => ack_res id h hS
  obtain ⟨R, hR⟩ : ∃ R, R = ackOut l id := ⟨_, rfl⟩
  simp only [← hR] at hr1 hr2 ⊢
  clear hR
  obtain ⟨l', ⟨id', tk', lv', pt', st', tr', rt', wt', nx'⟩, F⟩ := R
  unfold noVal at hr1 hr2
  simp only at hr1 hr2 ⊢
  have Hr1 := Lib.hid hr1
  have Hr2 := Lib.hid hr2
  clear hr1 hr2
  obtain ⟨W1, hW1⟩ : ∃ W1, W1 = ((W.alloc (.cells #[.int .u64 last, .slice ao l.length cap] 53)).alloc (.cells #[.int .i64 2, .int .u64 id, .int .u64 tk, .int .i64 lv, .int .i64 pt, .int .i64 st, .int .i64 tr, .int .i64 rt, .int .i64 wt, .int .i64 nx, .int .i64 at'] 41)).alloc (.cells #[.int .u64 0, .slice none 0 0] 53) := ⟨_, rfl⟩
  obtain ⟨k0, k1, k2, hz, hB1⟩ := news3 hW1
  go_enter Try.func21, Try.ntmps21
  go_wp2_with fail
  rw [← hW1]
  clear hW1
  refine (Hr1.out W1 (hns.below hB1)).mono ?_
  rintro e W2 ⟨ao', cap', rfl, hns2, hao, hb2⟩
  simp only
  have k0 := (hb2.block _ (by omega)).trans k0
  have k1 := (hb2.block _ (by omega)).trans k1
  have k2 := (hb2.block _ (by omega)).trans k2
  obtain ⟨c0, c1, c2, c3, c4, c5, c6, c7, c8, c9, c10⟩ := blk11 k1
  have hB2 := below_on hB1 hb2 (Nat.le_refl _)
  have hl0 : W.heap.size < W2.heap.size := by have := hb2.size; omega
  have hl1 : W.heap.size + 1 < W2.heap.size := by have := hb2.size; omega
  have hl2 : W.heap.size + 1 + 1 < W2.heap.size := by have := hb2.size; omega
  go_wp2_with fail
  obtain ⟨W3, hW3⟩ : ∃ W3, W3 = (W2.alloc (.cells #[.int .u64 last, .slice ao' l'.length cap'] 53)).alloc (.cells #[.int .u64 id', .int .u64 tk', .int .i64 lv', .int .i64 pt', .int .i64 st', .int .i64 tr', .int .i64 rt', .int .i64 wt', .int .i64 nx'] 24) := ⟨_, rfl⟩
  obtain ⟨m0, m1, mz, hb3⟩ := news2 hW3
  rw [← hW3]
  clear hW3 c0 c1 c2 c3 c4 c5 c6 c7 c8 c9 c10
  have hB3 := below_on hB2 hb3 (Nat.le_refl _)
  have h3 := h.below hB3
  have hns3 := hns2.below hb3
  refine (Hr2.out W3 h3).mono ?_
  rintro e W4 ⟨rfl, v', hbx, hf, hv'⟩
  obtain ⟨hfar4, hns4⟩ := both_kept h hfar hB3 hns3 (fun h0 a ha => (hao h0 a ha).imp_right (fun x => by have := hB1.size; omega)) hf hv'
  have hzb := (Array.getElem?_eq_some_iff.1 h.blk).1
  have hvl : ∀ k, W.heap.size ≤ k → v.ownBlock ≠ some k := fun k hk e => by have := (h.own.lt k e).2; omega
  have hsz := hb3.size
  have m0 := hf.kept m0 (by omega) (hvl _ (by have := hB2.size; omega))
  have m1 := hf.kept m1 (by omega) (hvl _ (by have := hB2.size; omega))
  have k2 := hf.kept ((hb3.block _ hl2).trans k2) (by omega) (hvl _ (by omega))
  have hF : Fr2 W.heap.size b v W W4 := (Fr2.below hB3 (Nat.le_refl _)).trans ⟨hf.os, hf.tape, hf.output, hf.size, fun k hk h1 h2 => hf.block k (by have := hB3.size; omega) h1 h2⟩
  have hV : ∀ k, v'.ownBlock = some k → v.ownBlock = some k ∨ W.heap.size ≤ k := fun k hk => (hv' k hk).imp_right (fun x => by have := hB3.size; omega)
  have hA : 0 < l'.length → ∀ a, ao' = some a → (ao = some a ∧ 0 < l.length) ∨ W.heap.size ≤ a.block := fun h0 a ha => (hao h0 a ha).imp_right (fun x => by have := hB1.size; omega)
  have hsz4 := hf.size
  clear hf hv' hao hb2 hb3 hns3 h3 hB3 hB2 hns2 hB1 Hr1 Hr2 k0 k1 hl0 hl1
  obtain ⟨W5, hW5⟩ : ∃ W5, W5 = W4.alloc (.cells #[.int .u64 id', .int .u64 tk', .int .i64 lv', .int .i64 pt', .int .i64 st', .int .i64 tr', .int .i64 rt', .int .i64 wt', .int .i64 nx'] 24) := ⟨_, rfl⟩
  have n5 : W5.heap[W4.heap.size]? = _ := (congrArg (fun z : World => z.heap[W4.heap.size]?) hW5).trans (heap_alloc_new _ _)
  have hb5 : Below W4.heap.size W4 W5 := by rw [hW5]; exact below_new _ _
  have m0 := (hb5.block _ (by omega)).trans m0
  have m1 := (hb5.block _ (by omega)).trans m1
  have k2 := (hb5.block _ (by omega)).trans k2
  have ne := eql_no id' tk' lv' pt' st' tr' rt' wt' nx' id' tk' lv' pt' st' tr' rt' wt' nx'
  simp only [decide_true] at ne
  have ng := guard_no
  obtain ⟨p0, p1⟩ := two_cells m0
  obtain ⟨q0, q1, q2, q3, q4, q5, q6, q7, q8⟩ := blk9 m1
  obtain ⟨r0, r1, r2, r3, r4, r5, r6, r7, r8⟩ := blk9 n5
  obtain ⟨t0, t1⟩ := two_cells k2
  have z0 := block_free k2 0
  have z1 := block_free k2 1
  have hlx : W.heap.size + 1 + 1 < W5.heap.size := by have := hb5.size; omega
  go_upto_region 12 with fail
  rw [← hW5]
  clear hW5
  go_region
  all_goals
    have g6 := grown_drew (grown_set2 W5 (W.heap.size + 1 + 1) (.int .u64 last) (.slice ao' l'.length cap'))
    have k6 := block_set (block_set k2 0 (.int .u64 last)) 1 (.slice ao' l'.length cap')
    simp only [List.setIfInBounds_toArray, List.set_cons_zero, List.set_cons_succ] at k6
    obtain ⟨W6, hW6⟩ : ∃ W6, W6 = ((W5.setCell ⟨W.heap.size + 1 + 1, 0, none⟩ (.int .u64 last)).setCell ⟨W.heap.size + 1 + 1, 1, none⟩ (.slice ao' l'.length cap')).drew := ⟨_, rfl⟩
    have k7 : W6.heap[W.heap.size + 1 + 1]? = _ := (congrArg (fun z : World => z.heap[W.heap.size + 1 + 1]?) hW6).trans k6
    rw [← hW6] at g6 ⊢
    clear hW6 k6 ne ng p0 p1 q0 q1 q2 q3 q4 q5 q6 q7 q8 r0 r1 r2 r3 r4 r5 r6 r7 r8 t0 t1 z0 z1
    have hend := do_end hbx hns4 hfar4 hF hV hA hb5 k2 (by omega) hzb (by omega) g6
    obtain ⟨t0, t1⟩ := two_cells k7
    go_wp2_with fail
    refine bodyPost_ret (v := .tuple #[.agg #[.int .u64 last, .slice ao' l'.length cap'], .bool true]) (by simp [results, Try.results21, go_sem, t0, t1]) rfl ?_
    exact hend
set_option maxRecDepth 100000 in
set_option maxHeartbeats 4000000 in
theorem do_put {W : World} {base b : Nat} {last : Int} {v : Value} {l : List No} (ao : Option Addr) (cap : Nat) (o : Opn) (hk1 : o.k ≠ 1) (hk2 : o.k ≠ 2) (hk3 : o.k ≠ 3) (hk4 : o.k ≠ 4) (h : Bx W base b last v l) (hns : Ns W ao cap l) (hfar : Far v ao l) (hS : soundS last l = true) (h0 : 0 ≤ last) :
    Calls Try.prog 21 #[.pointer (some ⟨b, 0, none⟩), .agg #[.int .u64 last, .slice ao l.length cap], opVal o] W (DoOk base b v ao l (putOut last l o.n o.at').1 (putOut last l o.n o.at').2.1 W) := by
  obtain ⟨k, n, at'⟩ := o
  simp only at hk1 hk2 hk3 hk4
  unfold opVal
  simp only
  have hr1 := fun w hs => refPut_res last at' ao cap l n w hs hS h0
  have hr2 := fun (W : World) (h : Bx W base b last v l) => put_res n at' h hS h0
  obtain ⟨R, hR⟩ : ∃ R, R = putOut last l n at' := ⟨_, rfl⟩
  simp only [← hR] at hr1 hr2 ⊢
  clear hR
  obtain ⟨last', l', I, F⟩ := R
  obtain ⟨id, tk, lv, pt, st, tr, rt, wt, nx⟩ := n
  unfold noVal at hr1 hr2
  simp only at hr1 hr2 ⊢
  have Hr1 := Lib.hid hr1
  have Hr2 := Lib.hid hr2
  clear hr1 hr2
  obtain ⟨W1, hW1⟩ : ∃ W1, W1 = ((W.alloc (.cells #[.int .u64 last, .slice ao l.length cap] 53)).alloc (.cells #[.int .i64 k, .int .u64 id, .int .u64 tk, .int .i64 lv, .int .i64 pt, .int .i64 st, .int .i64 tr, .int .i64 rt, .int .i64 wt, .int .i64 nx, .int .i64 at'] 41)).alloc (.cells #[.int .u64 0, .slice none 0 0] 53) := ⟨_, rfl⟩
  obtain ⟨k0, k1, k2, hz, hB1⟩ := news3 hW1
  go_enter Try.func21, Try.ntmps21
  go_wp2_with fail
  rw [← hW1]
  clear hW1
  refine (Hr1.out W1 (hns.below hB1)).mono ?_
  rintro e W2 ⟨ao', cap', rfl, hns2, hao, hb2⟩
  simp only
  have k0 := (hb2.block _ (by omega)).trans k0
  have k1 := (hb2.block _ (by omega)).trans k1
  have k2 := (hb2.block _ (by omega)).trans k2
  obtain ⟨c0, c1, c2, c3, c4, c5, c6, c7, c8, c9, c10⟩ := blk11 k1
  have hB2 := below_on hB1 hb2 (Nat.le_refl _)
  have hl0 : W.heap.size < W2.heap.size := by have := hb2.size; omega
  have hl1 : W.heap.size + 1 < W2.heap.size := by have := hb2.size; omega
  have hl2 : W.heap.size + 1 + 1 < W2.heap.size := by have := hb2.size; omega
  go_wp2_with fail
  obtain ⟨W3, hW3⟩ : ∃ W3, W3 = W2.alloc (.cells #[.int .u64 last', .slice ao' l'.length cap'] 53) := ⟨_, rfl⟩
  have m0 : W3.heap[W2.heap.size]? = _ := (congrArg (fun z : World => z.heap[W2.heap.size]?) hW3).trans (heap_alloc_new _ _)
  have hb3 : Below W2.heap.size W2 W3 := by rw [hW3]; exact below_new _ _
  have mz : W2.heap.size < W3.heap.size := (Array.getElem?_eq_some_iff.1 m0).1
  rw [← hW3]
  clear hW3 c0 c1 c2 c3 c4 c5 c6 c7 c8 c9 c10
  have hB3 := below_on hB2 hb3 (Nat.le_refl _)
  have h3 := h.below hB3
  have hns3 := hns2.below hb3
  refine (Hr2.out W3 h3).mono ?_
  rintro e W4 ⟨rfl, v', hbx, hf, hv'⟩
  obtain ⟨hfar4, hns4⟩ := both_kept h hfar hB3 hns3 (fun h0 a ha => (hao h0 a ha).imp_right (fun x => by have := hB1.size; omega)) hf hv'
  have hzb := (Array.getElem?_eq_some_iff.1 h.blk).1
  have hvl : ∀ k, W.heap.size ≤ k → v.ownBlock ≠ some k := fun k hk e => by have := (h.own.lt k e).2; omega
  have hsz := hb3.size
  have m0 := hf.kept m0 (by omega) (hvl _ (by have := hB2.size; omega))
  have k2 := hf.kept ((hb3.block _ hl2).trans k2) (by omega) (hvl _ (by omega))
  have hF : Fr2 W.heap.size b v W W4 := (Fr2.below hB3 (Nat.le_refl _)).trans ⟨hf.os, hf.tape, hf.output, hf.size, fun k hk h1 h2 => hf.block k (by have := hB3.size; omega) h1 h2⟩
  have hV : ∀ k, v'.ownBlock = some k → v.ownBlock = some k ∨ W.heap.size ≤ k := fun k hk => (hv' k hk).imp_right (fun x => by have := hB3.size; omega)
  have hA : 0 < l'.length → ∀ a, ao' = some a → (ao = some a ∧ 0 < l.length) ∨ W.heap.size ≤ a.block := fun h0 a ha => (hao h0 a ha).imp_right (fun x => by have := hB1.size; omega)
  have hsz4 := hf.size
  clear hf hv' hao hb2 hb3 hns3 h3 hB3 hB2 hns2 hB1 Hr1 Hr2 k0 k1 hl0 hl1
  obtain ⟨p0, p1⟩ := two_cells m0
  obtain ⟨t0, t1⟩ := two_cells k2
  have z0 := block_free k2 0
  have z1 := block_free k2 1
  have hlx : W.heap.size + 1 + 1 < W4.heap.size := by omega
  have g6 := grown_set2 W4 (W.heap.size + 1 + 1) (.int .u64 last') (.slice ao' l'.length cap')
  have k6 := block_set (block_set k2 0 (.int .u64 last')) 1 (.slice ao' l'.length cap')
  simp only [List.setIfInBounds_toArray, List.set_cons_zero, List.set_cons_succ] at k6
  obtain ⟨u0, u1⟩ := two_cells k6
  have hend := do_end hbx hns4 hfar4 hF hV hA (Below.refl _ _) k2 (by omega) hzb (by omega) g6
  go_wp2_with fail
  refine bodyPost_ret (v := .tuple #[.agg #[.int .u64 last', .slice ao' l'.length cap'], .bool true]) (by simp [results, Try.results21, go_sem, u0, u1]) rfl ?_
  exact hend
end Go.Proofs.Ytdcinhnplcipoaa
