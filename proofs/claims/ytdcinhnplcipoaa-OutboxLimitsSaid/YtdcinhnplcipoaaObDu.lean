/- Contracts of law17's 'do', the ways Due and Tick; all ways in one. No statement of the seat is proved here. -/
import Derived.Test.YtdcinhnplcipoaaObDo
namespace Go.Proofs.Ytdcinhnplcipoaa
set_option linter.unusedVariables false
set_option linter.unusedSimpArgs false
set_option linter.unusedSectionVars false
open Go Go.RowKit Go.Shelf

set_option maxRecDepth 100000 in
set_option maxHeartbeats 4000000 in
theorem do_due {W : World} {base b : Nat} {last : Int} {v : Value} {l : List No} (ao : Option Addr) (cap : Nat) (o : Opn) (hk : o.k = 4) (h : Bx W base b last v l) (hns : Ns W ao cap l) (hfar : Far v ao l) (hS : soundS last l = true) :
    Calls Try.prog 21 #[.pointer (some ⟨b, 0, none⟩), .agg #[.int .u64 last, .slice ao l.length cap], opVal o] W (DoOk base b v ao l last l W) := by
  obtain ⟨k, ⟨id, tk, lv, pt, st, tr, rt, wt, nx⟩, at'⟩ := o
  simp only at hk
  subst hk
  unfold opVal
  simp only
  have hl : l.length ≤ 1000000 := by have := sound_len hS; omega
  obtain ⟨W1, hW1⟩ : ∃ W1, W1 = ((W.alloc (.cells #[.int .u64 last, .slice ao l.length cap] 53)).alloc (.cells #[.int .i64 4, .int .u64 id, .int .u64 tk, .int .i64 lv, .int .i64 pt, .int .i64 st, .int .i64 tr, .int .i64 rt, .int .i64 wt, .int .i64 nx, .int .i64 at'] 41)).alloc (.cells #[.int .u64 0, .slice none 0 0] 53) := ⟨_, rfl⟩
  obtain ⟨k0, k1, k2, hz, hB1⟩ := news3 hW1
  have hd1 := fun (W : World) (hw : Below W1.heap.size W1 W) => due_bx at' hl ((h.below hB1).below hw)
  have hd2 := fun (W : World) (hw : Below W1.heap.size W1 W) => refDue_any last at' ao cap l W ((hns.below hB1).below hw) hl
  unfold DueOk at hd1 hd2
  have hFl : (l.filter (dueB at')).length ≤ 1000000 := Nat.le_trans (List.length_filter_le _ _) hl
  obtain ⟨F, hF⟩ : ∃ F, F = l.filter (dueB at') := ⟨_, rfl⟩
  simp only [← hF] at hd1 hd2 hFl
  clear hF
  have hrow := fun (so so2 : Option Addr) (sc sc2 : Nat) (W : World) (h1 : Ns W so sc F) (h2 : Ns W so2 sc2 F) => refRow_any so so2 sc sc2 F F W h1 h2 hFl hFl
  simp only [decide_true] at hrow
  have hzb := (Array.getElem?_eq_some_iff.1 h.blk).1
  have hcw : ∀ W' : World, Below W1.heap.size W1 W' → (W'.cell? ⟨W.heap.size, 0, none⟩ = some (.int .u64 last) ∧ W'.cell? ⟨W.heap.size, 1, none⟩ = some (.slice ao l.length cap) ∧ W'.cell? ⟨W.heap.size + 1, 10, none⟩ = some (.int .i64 at')) := by
    intro W' hw
    have k0 := (hw.block _ (by omega)).trans k0
    have k1 := (hw.block _ (by omega)).trans k1
    exact ⟨block_cell k0 0, block_cell k0 1, block_cell k1 10⟩
  have hcs : ∀ (W' : World) (x y : Value), (W'.cell? ⟨W.heap.size, 0, none⟩ = some (.int .u64 last) ∧ W'.cell? ⟨W.heap.size, 1, none⟩ = some (.slice ao l.length cap) ∧ W'.cell? ⟨W.heap.size + 1, 10, none⟩ = some (.int .i64 at')) → (((W'.setCell ⟨W.heap.size + 1 + 1, 0, none⟩ x).setCell ⟨W.heap.size + 1 + 1, 1, none⟩ y).cell? ⟨W.heap.size, 0, none⟩ = some (.int .u64 last) ∧ ((W'.setCell ⟨W.heap.size + 1 + 1, 0, none⟩ x).setCell ⟨W.heap.size + 1 + 1, 1, none⟩ y).cell? ⟨W.heap.size, 1, none⟩ = some (.slice ao l.length cap) ∧ ((W'.setCell ⟨W.heap.size + 1 + 1, 0, none⟩ x).setCell ⟨W.heap.size + 1 + 1, 1, none⟩ y).cell? ⟨W.heap.size + 1, 10, none⟩ = some (.int .i64 at')) := by
    rintro W' x y ⟨h1, h2, h3⟩
    refine ⟨?_, ?_, ?_⟩
    · rw [World.cell?_setCell_other _ _ _ _ (by simp; try omega), World.cell?_setCell_other _ _ _ _ (by simp; try omega)]; exact h1
    · rw [World.cell?_setCell_other _ _ _ _ (by simp; try omega), World.cell?_setCell_other _ _ _ _ (by simp; try omega)]; exact h2
    · rw [World.cell?_setCell_other _ _ _ _ (by simp; try omega), World.cell?_setCell_other _ _ _ _ (by simp; try omega)]; exact h3
  go_enter Try.func21, Try.ntmps21
  go_wp2_with fail
  rw [← hW1]
  clear hW1
  have hW1d : Below W1.heap.size W1 W1.drew := (Below.refl _ _).drew
  go_region_held3 (fun W' => (W'.cell? ⟨W.heap.size, 0, none⟩ = some (.int .u64 last) ∧ W'.cell? ⟨W.heap.size, 1, none⟩ = some (.slice ao l.length cap) ∧ W'.cell? ⟨W.heap.size + 1, 10, none⟩ = some (.int .i64 at')))
    (first | exact hL7 | exact hL6 | exact hL5 | exact hL4 | exact hcw _ hW1d | exact hcw _ (Below.refl _ _) | go_keep)
    (first
      | (go_at_call 26; refine (hd1 W1.drew hW1d).mono ?_; rintro e w4 ⟨so, sc, rfl, how4, hb4⟩; have hB4 : Below W1.heap.size W1 w4 := below_on hW1d hb4 (Nat.le_refl _); have hL4 := hcw w4 hB4)
      | (go_at_call 54; refine (hd2 w4 hB4).mono ?_; rintro e w5 ⟨so2, sc2, rfl, how5, hb5⟩; have hB5 : Below W1.heap.size W1 w5 := below_on hB4 hb5 (Nat.le_refl _); have hL5 := hcw w5 hB5)
      | (go_at_call 53; refine (hrow so so2 sc sc2 w5 ((Ns.of_own how4).below hb5) (Ns.of_own how5)).mono ?_; rintro e w6 ⟨rfl, hb6⟩; have hB6 : Below W1.heap.size W1 w6 := below_on hB5 hb6 (Nat.le_refl _); have hL6 := hcw w6 hB6; have hL7 := hcs w6 (.int .u64 last) (.slice ao l.length cap) hL6; have k6 : w6.heap[W.heap.size + 1 + 1]? = _ := (hB6.block _ (by omega)).trans k2; have t0 := block_cell k6 0; have t1 := block_cell k6 1; simp at t0 t1; have z0 := block_free k6 0; have z1 := block_free k6 1))
  all_goals
    have hBw : Below W.heap.size W w6 := below_on hB1 hB6 (Nat.le_refl _)
    have g7 := grown_set2 w6 (W.heap.size + 1 + 1) (.int .u64 last) (.slice ao l.length cap)
    have k7 := block_set (block_set k6 0 (.int .u64 last)) 1 (.slice ao l.length cap)
    simp only [List.setIfInBounds_toArray, List.set_cons_zero, List.set_cons_succ] at k7
    have hlx := (Array.getElem?_eq_some_iff.1 k6).1
    have hend := do_end (h.below hBw) (hns.below hBw) hfar (Fr2.below hBw (Nat.le_refl _)) (fun k hk => .inl hk) (fun h0 a ha => .inl ⟨ha, h0⟩) (Below.refl _ _) k6 (by omega) hzb hlx g7
    obtain ⟨W7, hW7⟩ : ∃ W7, W7 = (w6.setCell ⟨W.heap.size + 1 + 1, 0, none⟩ (.int .u64 last)).setCell ⟨W.heap.size + 1 + 1, 1, none⟩ (.slice ao l.length cap) := ⟨_, rfl⟩
    rw [← hW7] at hend k7 ⊢
    clear hW7 t0 t1 z0 z1 hL7 hL6 hL5 hL4 hcs hcw
    obtain ⟨u0, u1⟩ := two_cells k7
    go_wp2_with fail
    refine bodyPost_ret (v := .tuple #[.agg #[.int .u64 last, .slice ao l.length cap], .bool true]) (by simp [results, Try.results21, go_sem, u0, u1]) rfl ?_
    exact hend
theorem sl_u {w : World} {ao : Option Addr} {n cap : Nat} {D : List Int} (h : Sl w 1 ao n cap (D.map uCell).flatten) (i : Nat) (hi : i < D.length) : ∃ b off, ao = some ⟨b, off, none⟩ ∧ w.cell? ⟨b, off + i, none⟩ = some (.int .u64 D[i]) := by
  rw [uCells] at h
  exact h.cell i _ (by rw [List.getElem?_map, List.getElem?_eq_getElem hi]; rfl)
set_option maxRecDepth 100000 in
set_option maxHeartbeats 4000000 in
theorem do_tick {W : World} {base b : Nat} {last : Int} {v : Value} {l : List No} (ao : Option Addr) (cap : Nat) (o : Opn) (hk : o.k = 3) (h : Bx W base b last v l) (hns : Ns W ao cap l) (hfar : Far v ao l) (hS : soundS last l = true) :
    Calls Try.prog 21 #[.pointer (some ⟨b, 0, none⟩), .agg #[.int .u64 last, .slice ao l.length cap], opVal o] W (DoOk base b v ao l last (l.map (tickN o.at')) W) := by
  obtain ⟨k, ⟨id, tk, lv, pt, st, tr, rt, wt, nx⟩, at'⟩ := o
  simp only at hk
  subst hk
  unfold opVal
  simp only
  have hl : l.length ≤ 1000000 := by have := sound_len hS; omega
  obtain ⟨W1, hW1⟩ : ∃ W1, W1 = ((W.alloc (.cells #[.int .u64 last, .slice ao l.length cap] 53)).alloc (.cells #[.int .i64 3, .int .u64 id, .int .u64 tk, .int .i64 lv, .int .i64 pt, .int .i64 st, .int .i64 tr, .int .i64 rt, .int .i64 wt, .int .i64 nx, .int .i64 at'] 41)).alloc (.cells #[.int .u64 0, .slice none 0 0] 53) := ⟨_, rfl⟩
  obtain ⟨k0, k1, k2, hz, hB1⟩ := news3 hW1
  have hr1 := refTick_any last at' ao cap l W1 (hns.below hB1) hl
  have hr2 := fun (W : World) (h : Bx W base b last v l) => tick_bx at' hl h
  unfold RTick at hr1
  unfold TickOk at hr2
  have hFl : (l.filter (spentB at')).length ≤ 1000000 := Nat.le_trans (List.length_filter_le _ _) hl
  obtain ⟨F, hF⟩ : ∃ F, F = l.filter (spentB at') := ⟨_, rfl⟩
  obtain ⟨l', hl'⟩ : ∃ l', l' = l.map (tickN at') := ⟨_, rfl⟩
  have hll : l.length = l'.length := by rw [hl']; simp
  simp only [← hF, ← hl'] at hr1 hr2 hFl ⊢
  clear hF hl'
  obtain ⟨D, hD⟩ : ∃ D, D = ids F := ⟨_, rfl⟩
  have hDl : F.length = D.length := by rw [hD]; unfold ids; simp
  rw [hDl] at hr1 hFl
  simp only [hDl] at hr2
  simp only [← hD] at hr1 hr2
  have Hll := Lib.hid hll
  clear hD hDl hll
  have Hr1 := Lib.hid hr1
  have Hr2 := Lib.hid hr2
  clear hr1 hr2
  go_enter Try.func21, Try.ntmps21
  go_wp2_with fail
  rw [← hW1]
  clear hW1
  refine Hr1.out.mono ?_
  rintro e W2 ⟨ao', cap', so, sc, rfl, hns2, hao, how2, hb2⟩
  simp only
  have k0 := (hb2.block _ (by omega)).trans k0
  have k1 := (hb2.block _ (by omega)).trans k1
  have k2 := (hb2.block _ (by omega)).trans k2
  obtain ⟨c0, c1, c2, c3, c4, c5, c6, c7, c8, c9, c10⟩ := blk11 k1
  have hB2 := below_on hB1 hb2 (Nat.le_refl _)
  have hl0 : W.heap.size < W2.heap.size := by have := hb2.size; omega
  have hl1 : W.heap.size + 1 < W2.heap.size := by have := hb2.size; omega
  have hl2 : W.heap.size + 1 + 1 < W2.heap.size := by have := hb2.size; omega
  go_wp2_with fail
  obtain ⟨W3, hW3⟩ : ∃ W3, W3 = W2.alloc (.cells #[.int .u64 last, .slice ao' l.length cap'] 53) := ⟨_, rfl⟩
  have m0 : W3.heap[W2.heap.size]? = _ := (congrArg (fun z : World => z.heap[W2.heap.size]?) hW3).trans (heap_alloc_new _ _)
  have hb3 : Below W2.heap.size W2 W3 := by rw [hW3]; exact below_new _ _
  have mz : W2.heap.size < W3.heap.size := (Array.getElem?_eq_some_iff.1 m0).1
  rw [← hW3]
  clear hW3 c0 c1 c2 c3 c4 c5 c6 c7 c8 c9 c10
  have hB3 := below_on hB2 hb3 (Nat.le_refl _)
  have h3 := h.below hB3
  have hns3 := hns2.below hb3
  have how3 := own_below how2 hb3
  refine (Hr2.out W3 h3).mono ?_
  rintro e W4 ⟨so4, sc4, rfl, how4, hbx, hf⟩
  have hao2 : 0 < l'.length → ∀ a, ao' = some a → (ao = some a ∧ 0 < l.length) ∨ W.heap.size ≤ a.block := by
    intro h0 a ha
    rcases hao with ⟨e1, e2⟩ | e1
    · exact .inl ⟨by rw [← e1]; exact ha, by have := Hll.out; omega⟩
    · have := e1 a ha
      exact .inr (by omega)
  obtain ⟨hfar4, hns4⟩ := both_kept h hfar hB3 hns3 hao2 hf (fun k hk => .inl hk)
  have hzb := (Array.getElem?_eq_some_iff.1 h.blk).1
  have hvl : ∀ k, W.heap.size ≤ k → v.ownBlock ≠ some k := fun k hk e => by have := (h.own.lt k e).2; omega
  have hsz := hb3.size
  have m0 := hf.kept m0 (by omega) (hvl _ (by have := hB2.size; omega))
  have k2 := hf.kept ((hb3.block _ hl2).trans k2) (by omega) (hvl _ (by omega))
  have how5 := hf.own how3 (by omega) (fun k hk => (how3.lt k hk).2) (fun k hk => by have := (h.own.lt k hk).2; omega)
  have hF : Fr2 W.heap.size b v W W4 := (Fr2.below hB3 (Nat.le_refl _)).trans ⟨hf.os, hf.tape, hf.output, hf.size, fun k hk h1 h2 => hf.block k (by have := hB3.size; omega) h1 h2⟩
  have hA := hao2
  have hsz4 := hf.size
  have hs1 := Sl.of_own how4
  have hs2 := Sl.of_own how5
  clear hf hao hao2 hb2 hb3 hns3 h3 hB3 hB2 hns2 hB1 Hr1 Hr2 k0 k1 hl0 hl1 how2 how3 how4 how5
  go_wp2_with fail
  go_loopw [138] (fun u wr => ∃ i : Nat, u = .int .i64 i ∧ i ≤ D.length ∧ Below W4.heap.size W4 wr) (fun u _ => D.length - (intOf u).toNat)
  case atStart => exact ⟨0, rfl, Nat.zero_le _, Below.refl _ _⟩
  case round =>
    obtain ⟨i, rfl, hi, hb⟩ := hrel
    by_cases hlt : i < D.length
    · obtain ⟨g1, f1, rfl, c1⟩ := sl_u (hs1.below hb) i hlt
      obtain ⟨g2, f2, rfl, c2⟩ := sl_u (hs2.below hb) i hlt
      obtain ⟨d, hd⟩ : ∃ d, d = D[i] := ⟨_, rfl⟩
      rw [← hd] at c1 c2
      clear hd
      have i0 : (0 : Int) ≤ (i : Int) := by omega
      have i1 : (i : Int) < (D.length : Int) := by omega
      go_wp2_with fail
      go_quiet (fail)
      have hbq : Below W4.heap.size W4 (wr.drewN nq) := below_on hb ⟨rfl, rfl, rfl, by simp [World.drewN], fun k hk => rfl⟩ (Nat.le_refl _)
      go_wp2_with fail
      go_roundw
      case rel => exact ⟨i + 1, by simp, by omega, hbq⟩
      case measure => simp [intOf]; omega
    · have hi' : i = D.length := by omega
      subst hi'
      have m0 := (hb.block _ (by omega)).trans m0
      have k2 := (hb.block _ (by omega)).trans k2
      obtain ⟨p0, p1⟩ := two_cells m0
      obtain ⟨t0, t1⟩ := two_cells k2
      have z0 := block_free k2 0
      have z1 := block_free k2 1
      have hlx : W.heap.size + 1 + 1 < wr.heap.size := (Array.getElem?_eq_some_iff.1 k2).1
      have g6 := grown_set2 wr (W.heap.size + 1 + 1) (.int .u64 last) (.slice ao' l.length cap')
      have k6 := block_set (block_set k2 0 (.int .u64 last)) 1 (.slice ao' l.length cap')
      simp only [List.setIfInBounds_toArray, List.set_cons_zero, List.set_cons_succ] at k6
      obtain ⟨u0, u1⟩ := two_cells k6
      have hend := do_end hbx hns4 hfar4 hF (fun k hk => .inl hk) hA hb k2 (by omega) hzb (by omega) g6
      rw [← Hll.out] at hend
      have Hend := Lib.hid hend
      clear hend
      go_wp2_with fail
      refine bodyPost_ret (v := .tuple #[.agg #[.int .u64 last, .slice ao' l.length cap'], .bool true]) (by simp [results, Try.results21, go_sem, u0, u1]) rfl ?_
      exact Hend.out
/-- what the box has behind a call -/
def doL (last : Int) (l : List No) (o : Opn) : Int × List No :=
  if o.k = 1 then (last, (tryOut l o.n.id o.at').1) else if o.k = 2 then (last, (ackOut l o.n.id).1) else if o.k = 3 then (last, l.map (tickN o.at')) else if o.k = 4 then (last, l) else ((putOut last l o.n o.at').1, (putOut last l o.n o.at').2.1)
theorem sound_doL {last : Int} {l : List No} (o : Opn) (h0 : 0 ≤ last) (h : soundS last l = true) : 0 ≤ (doL last l o).1 ∧ soundS (doL last l o).1 (doL last l o).2 = true := by
  unfold doL
  split
  · exact ⟨h0, sound_tryOut _ _ h⟩
  · split
    · exact ⟨h0, sound_ackOut _ h⟩
    · split
      · exact ⟨h0, sound_tick _ h⟩
      · split
        · exact ⟨h0, h⟩
        · exact sound_putOut _ _ h0 h
theorem do_any {W : World} {base b : Nat} {last : Int} {v : Value} {l : List No} (ao : Option Addr) (cap : Nat) (o : Opn) (h : Bx W base b last v l) (hns : Ns W ao cap l) (hfar : Far v ao l) (hS : soundS last l = true) (h0 : 0 ≤ last) :
    Calls Try.prog 21 #[.pointer (some ⟨b, 0, none⟩), .agg #[.int .u64 last, .slice ao l.length cap], opVal o] W (DoOk base b v ao l (doL last l o).1 (doL last l o).2 W) := by
  unfold doL
  by_cases h1 : o.k = 1
  · rw [if_pos h1]; exact do_try ao cap o h1 h hns hfar hS
  · rw [if_neg h1]
    by_cases h2 : o.k = 2
    · rw [if_pos h2]; exact do_ack ao cap o h2 h hns hfar hS
    · rw [if_neg h2]
      by_cases h3 : o.k = 3
      · rw [if_pos h3]; exact do_tick ao cap o h3 h hns hfar hS
      · rw [if_neg h3]
        by_cases h4 : o.k = 4
        · rw [if_pos h4]; exact do_due ao cap o h4 h hns hfar hS
        · rw [if_neg h4]; exact do_put ao cap o h1 h2 h3 h4 h hns hfar hS h0
theorem Ops.get11 {w : World} {ao : Option Addr} {cap : Nat} {l : List Opn} (h : Ops w ao cap l) (i : Nat) (hi : i < l.length) :
    ∃ b off, ao = some ⟨b, off, none⟩ ∧ w.cell? ⟨b, off + i * 11, none⟩ = some (.int .i64 l[i].k) ∧ w.cell? ⟨b, off + i * 11 + 1, none⟩ = some (.int .u64 l[i].n.id) ∧ w.cell? ⟨b, off + i * 11 + 2, none⟩ = some (.int .u64 l[i].n.tk) ∧ w.cell? ⟨b, off + i * 11 + 3, none⟩ = some (.int .i64 l[i].n.lv) ∧ w.cell? ⟨b, off + i * 11 + 4, none⟩ = some (.int .i64 l[i].n.pt) ∧ w.cell? ⟨b, off + i * 11 + 5, none⟩ = some (.int .i64 l[i].n.st) ∧ w.cell? ⟨b, off + i * 11 + 6, none⟩ = some (.int .i64 l[i].n.tr) ∧ w.cell? ⟨b, off + i * 11 + 7, none⟩ = some (.int .i64 l[i].n.rt) ∧ w.cell? ⟨b, off + i * 11 + 8, none⟩ = some (.int .i64 l[i].n.wt) ∧ w.cell? ⟨b, off + i * 11 + 9, none⟩ = some (.int .i64 l[i].n.nx) ∧ w.cell? ⟨b, off + i * 11 + 10, none⟩ = some (.int .i64 l[i].at') := by
  obtain ⟨b, off, e, hc⟩ := h.get i hi
  exact ⟨b, off, e, hc 0 (by decide), hc 1 (by decide), hc 2 (by decide), hc 3 (by decide), hc 4 (by decide), hc 5 (by decide), hc 6 (by decide), hc 7 (by decide), hc 8 (by decide), hc 9 (by decide), hc 10 (by decide)⟩
end Go.Proofs.Ytdcinhnplcipoaa
