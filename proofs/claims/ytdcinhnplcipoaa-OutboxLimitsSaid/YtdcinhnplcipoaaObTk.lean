/- Contract of the reference's Tick. No statement of the seat is proved here. -/
import Derived.Test.YtdcinhnplcipoaaObZ
namespace Go.Proofs.Ytdcinhnplcipoaa
set_option linter.unusedVariables false
set_option linter.unusedSimpArgs false
set_option linter.unusedSectionVars false
open Go Go.RowKit Go.Shelf

theorem own_elem {w : World} {base e k n : Nat} {v : Value} {xs : List Value} (h : w.ownsRow base e k v n xs) (g : Nat) (hg : v.ownBlock = some g) : elem? w g = some e := by
  rcases h.2 with ⟨hv, -⟩ | ⟨g', cap, cur, hv, hb, hh, -⟩
  · rw [hv] at hg; simp [Value.ownBlock] at hg
  · rw [hv] at hg; simp [Value.ownBlock] at hg; subst hg; exact elem?_of hh
/-- an append to a row of another type keeps a row of notices -/
theorem Ns.app {w w' : World} {ao : Option Addr} {cap base E k n : Nat} {l : List No} {v : Value} {xs : List Value} (h : Ns w ao cap l) (hown : w.ownsRow base E k v n xs) (hg : w.grownBy w' v.ownBlock) (hE : farT E = false) : Ns w' ao cap l := by
  cases hv : v.ownBlock with
  | none =>
    rw [hv] at hg
    exact h.below ((Below.refl w.heap.size w).grown hg (Nat.le_refl _) (fun k hk => by cases hk))
  | some g =>
    rw [hv] at hg
    exact h.grown hg (own_elem hown g hv) hE
theorem grown_app {W w w' : World} {b base E k n : Nat} {v : Value} {xs : List Value} (h : W.grownBy w (some b)) (hown : w.ownsRow base E k v n xs) (hg : w.grownBy w' v.ownBlock) (hb : W.heap.size ≤ base) : W.grownBy w' (some b) :=
  ⟨hg.os.trans h.os, hg.tape.trans h.tape, hg.output.trans h.output, Nat.le_trans h.size hg.size, fun j hj hne => (hg.block j (Nat.lt_of_lt_of_le hj h.size) (fun e => by have := (hown.lt j e.symm).1; omega)).trans (h.block j hj hne)⟩
theorem tick_keep (l : List No) (now : Int) (i : Nat) (hi : i < l.length) (h : spentB now l[i] = false) : (l.take i).map (tickN now) ++ l.drop i = (l.take (i + 1)).map (tickN now) ++ l.drop (i + 1) := by
  have hs := tick_set l now i hi
  have hself := List.set_getElem_self («as» := (l.take i).map (tickN now) ++ l.drop i) (i := i) (by rw [tick_len l now i (by omega)]; omega)
  rw [tick_at l now i hi] at hself
  have e : tickN now l[i] = l[i] := by unfold tickN; simp [h]
  rw [e, hself] at hs
  exact hs
/-- what the reference's Tick tells -/
def RTick (last now : Int) (ao : Option Addr) (cap : Nat) (l : List No) (W : World) (e : Ending) (W' : World) : Prop :=
  ∃ ao' cap' so sc, e = .returned (.tuple #[.agg #[.int .u64 last, .slice ao' l.length cap'], .slice so (l.filter (spentB now)).length sc]) ∧ Ns W' ao' cap' (l.map (tickN now)) ∧ ((ao' = ao ∧ cap' = cap) ∨ ∀ a, ao' = some a → W.heap.size ≤ a.block) ∧
    W'.ownsRow W.heap.size 22 1 (.slice so (l.filter (spentB now)).length sc) (l.filter (spentB now)).length ((ids (l.filter (spentB now))).map uCell).flatten ∧ Below W.heap.size W W'
theorem two_new {w W : World} {last : Int} {v : Value} (hW : W = (w.alloc (.cells #[.int .u64 last, v] 53)).alloc (.cells #[.int .u64 0, .slice none 0 0] 53)) :
    W.heap[w.heap.size]? = some (.cells #[.int .u64 last, v] 53 (0, 0)) ∧ W.heap[w.heap.size + 1]? = some (.cells #[.int .u64 0, .slice none 0 0] 53 (0, 0)) ∧ W.heap.size = w.heap.size + 2 ∧ Below w.heap.size w W := by
  subst hW
  have e1 : (w.alloc (.cells #[.int .u64 last, v] 53)).heap.size = w.heap.size + 1 := by simp
  refine ⟨(heap_alloc_old _ _ (by simp)).trans (heap_alloc_new _ _), ?_, by simp, (below_new _ _).alloc (by simp) _⟩
  have := heap_alloc_new (w.alloc (.cells #[.int .u64 last, v] 53)) (.cells #[.int .u64 0, .slice none 0 0] 53)
  rw [e1] at this
  exact this
set_option maxHeartbeats 8000000 in
theorem refTick_any (last now : Int) (ao : Option Addr) (cap : Nat) (l : List No) (w : World) (hs : Ns w ao cap l) (hl : l.length ≤ 1000000) :
    Calls Try.prog 52 #[.agg #[.int .u64 last, .slice ao l.length cap], .int .i64 now] w (RTick last now ao cap l w) := by
  unfold RTick
  obtain ⟨F, hF⟩ : ∃ F, F = l.filter (spentB now) := ⟨_, rfl⟩
  obtain ⟨M, hM⟩ : ∃ M, M = l.map (tickN now) := ⟨_, rfl⟩
  rw [← hF, ← hM]
  have HF := Lib.hid hF
  have HM := Lib.hid hM
  clear hF hM
  obtain ⟨W1, hW1⟩ : ∃ W1, W1 = (w.alloc (.cells #[.int .u64 last, .slice ao l.length cap] 53)).alloc (.cells #[.int .u64 0, .slice none 0 0] 53) := ⟨_, rfl⟩
  obtain ⟨k0, k1, hz, hB1⟩ := two_new hW1
  have hs1 := hs.below hB1
  have Hz := Lib.hid hz
  have hlt0 : w.heap.size < W1.heap.size := by omega
  have hlt1 : w.heap.size + 1 < W1.heap.size := by omega
  clear hz
  go_enter Try.func52, Try.ntmps52
  go_wp2_with fail
  rw [← hW1]
  clear hW1
  go_loopw [6, 7] (fun v u wr => ∃ (i : Nat) (out L : List No) (ao' : Option Addr) (cap' : Nat), u = .int .i64 i ∧ i ≤ l.length ∧ out.length ≤ i ∧ Hid (out = (l.take i).filter (spentB now)) ∧ Hid (L = (l.take i).map (tickN now) ++ l.drop i) ∧ Hid (L.length = l.length) ∧ wr.heap[w.heap.size]? = some (.cells #[.int .u64 last, .slice ao' L.length cap'] 53 (0, 0)) ∧ Ns wr ao' cap' L ∧ ((ao' = ao ∧ cap' = cap) ∨ ∀ a, ao' = some a → W1.heap.size ≤ a.block) ∧ wr.ownsRow W1.heap.size 22 1 v out.length ((ids out).map uCell).flatten ∧ W1.grownBy wr (some w.heap.size))
    (fun _ u _ => l.length - (intOf u).toNat)
  case atStart => exact ⟨0, [], l, ao, cap, rfl, Nat.zero_le _, Nat.le_refl _, rfl, by show _ = _; simp, rfl, k0, hs1, .inl ⟨rfl, rfl⟩, World.ownsRow_nil _ _ _ _, grown_below (Below.refl _ _)⟩
  case round =>
    obtain ⟨i, out, L, ao', cap', rfl, hi, ho, hout, hLd, hLl, hbox, hns, hfre, hown, hgr⟩ := hrel
    obtain ⟨oa, oc, rfl⟩ := own_slice hown
    have p1 := block_cell hbox 1
    simp at p1
    have hz1 := hgr.size
    by_cases hlt : i < l.length
    · have hiL : i < L.length := by rw [hLl.out]; exact hlt
      have hlL : L.length ≤ 1000000 := by rw [hLl.out]; exact hl
      obtain ⟨b, off, rfl, c0, c1, c2, c3, c4, c5, c6, c7, c8⟩ := hns.get i hiL
      have hLi : L[i] = l[i] := by
        have := tick_at l now i hlt
        simp only [hLd.out]
        exact this
      rw [hLi] at c0 c1 c2 c3 c4 c5 c6 c7 c8
      clear hLi
      have Hst := Lib.hid (filter_snocN (spentB now) l i hlt)
      have Hke := Lib.hid (tick_keep l now i hlt)
      have Hse := Lib.hid (tick_set l now i hlt)
      obtain ⟨s, hsd⟩ : ∃ s, s = l[i] := ⟨_, rfl⟩
      rw [← hsd] at c0 c1 c2 c3 c4 c5 c6 c7 c8 Hst Hke Hse
      clear hsd
      have htk : tickN now s = if spentB now s then setSt s 3 else s := rfl
      obtain ⟨id, tk, lv, pt, st, tr, rt, wt, nx⟩ := s
      simp only at c0 c1 c2 c3 c4 c5 c6 c7 c8
      have hcs : (spentB now ⟨id, tk, lv, pt, st, tr, rt, wt, nx⟩ = false ∧ (st == 1) = false) ∨ (spentB now ⟨id, tk, lv, pt, st, tr, rt, wt, nx⟩ = false ∧ (st == 1) = true ∧ ¬ rt ≤ tr) ∨ (spentB now ⟨id, tk, lv, pt, st, tr, rt, wt, nx⟩ = false ∧ (st == 1) = true ∧ rt ≤ tr ∧ ¬ nx ≤ now) ∨ (spentB now ⟨id, tk, lv, pt, st, tr, rt, wt, nx⟩ = true ∧ (st == 1) = true ∧ rt ≤ tr ∧ nx ≤ now) := by
        unfold spentB waitsB
        simp only
        cases g0 : (st == 1) with
        | false => simp
        | true =>
          by_cases g1 : rt ≤ tr
          · by_cases g2 : nx ≤ now
            · simp [g1, g2]
            · simp [g1, g2]
          · simp [g1]
      obtain ⟨q, hq⟩ : ∃ q, q = spentB now ⟨id, tk, lv, pt, st, tr, rt, wt, nx⟩ := ⟨_, rfl⟩
      rw [← hq] at Hst hcs Hke htk
      clear hq
      have Htk := Lib.hid htk
      clear htk
      have i0 : (0 : Int) ≤ (i : Int) := by omega
      have i1 : (i : Int) < (L.length : Int) := by omega
      go_upto_region 6 with fail
      obtain ⟨W3, hW3⟩ : ∃ W3, W3 = wr.alloc (.cells #[.int .u64 id, .int .u64 tk, .int .i64 lv, .int .i64 pt, .int .i64 st, .int .i64 tr, .int .i64 rt, .int .i64 wt, .int .i64 nx] 24) := ⟨_, rfl⟩
      have B3 : Below wr.heap.size wr W3 := by rw [hW3]; exact below_new _ _
      have jn : W3.heap[wr.heap.size]? = _ := (congrArg (fun z : World => z.heap[wr.heap.size]?) hW3).trans (heap_alloc_new _ _)
      rw [← hW3]
      clear hW3 c0 c1 c2 c3 c4 c5 c6 c7 c8 p1
      have hlw : w.heap.size < wr.heap.size := by omega
      obtain ⟨d0, d1, d2, d3, d4, d5, d6, d7, d8⟩ := blk9 jn
      rcases hcs with ⟨rfl, g0⟩ | ⟨rfl, g0, g1⟩ | ⟨rfl, g0, g1, g2⟩ | ⟨rfl, g0, g1, g2⟩
      iterate 3
        · have hout2 : Hid (out = (l.take (i + 1)).filter (spentB now)) := by show _ = _; rw [Hst.out, ← hout.out]; simp
          have hL2 : Hid (L = (l.take (i + 1)).map (tickN now) ++ l.drop (i + 1)) := by show _ = _; rw [hLd.out]; exact Hke.out rfl
          go_wp2_with fail
          go_roundw
          case rel => exact ⟨i + 1, out, L, _, cap', by simp, by omega, by omega, hout2, hL2, hLl, (B3.block _ hlw).trans hbox, hns.below B3, hfre, own_below hown B3, grown_trans hgr (grown_below B3)⟩
          case measure => simp [intOf]; omega
      · have hout2 : Hid (out ++ [(⟨id, tk, lv, pt, st, tr, rt, wt, nx⟩ : No)] = (l.take (i + 1)).filter (spentB now)) := by show _ = _; rw [Hst.out, ← hout.out]; rfl
        obtain ⟨L5, hL5⟩ : ∃ x, x = L.set i ⟨id, tk, lv, pt, 3, tr, rt, wt, nx⟩ := ⟨_, rfl⟩
        have hL2 : Hid (L5 = (l.take (i + 1)).map (tickN now) ++ l.drop (i + 1)) := by
          show _ = _
          rw [hL5, hLd.out, ← Hse.out, Htk.out]; rfl
        have hl5 : Hid (L5.length = l.length) := by show _ = _; rw [hL5, List.length_set]; exact hLl.out
        have z4 := block_free jn 4
        have hb4 := block_set jn 4 (.int .i64 3)
        simp only [List.setIfInBounds_toArray, List.set_cons_zero, List.set_cons_succ] at hb4
        have g4 := grown_set W3 wr.heap.size 4 (.int .i64 3)
        go_upto_region 8 with fail
        obtain ⟨W4, hW4⟩ : ∃ W4, W4 = W3.setCell ⟨wr.heap.size, 4, none⟩ (.int .i64 3) := ⟨_, rfl⟩
        rw [← hW4] at hb4 g4
        rw [← hW4]
        clear hW4 d0 d1 d2 d3 d4 d5 d6 d7 d8 z4
        have B4 := below_grown B3 g4 (Nat.le_refl _) B3.size
        obtain ⟨d0, d1, d2, d3, d4, d5, d6, d7, d8⟩ := blk9 hb4
        have hbox4 := (B4.block _ hlw).trans hbox
        have p0 := block_cell hbox4 0
        have p1 := block_cell hbox4 1
        simp at p0 p1
        have hwi := with_any last (some ⟨b, off, none⟩) cap' L i ⟨id, tk, lv, pt, 3, tr, rt, wt, nx⟩ W4 (hns.below B4) hlL hiL
        rw [← hL5] at hwi
        unfold noVal at hwi
        simp only at hwi
        have Hwi := Lib.hid hwi
        clear hwi hL5
        have hlw4 : wr.heap.size < W4.heap.size := (Array.getElem?_eq_some_iff.1 hb4).1
        go_wp2_with fail
        refine Hwi.out.mono ?_
        rintro e W5 ⟨ao5, cap5, rfl, how5, hb5⟩
        have B5 := below_on B4 hb5 (Nat.le_refl _)
        clear hbox4 p0 p1 d0 d1 d2 d3 d4 d5 d6 d7 d8
        have hbox5 := (B5.block _ hlw).trans hbox
        have jn5 := (hb5.block _ hlw4).trans hb4
        have y0 := block_free hbox5 0
        have y1 := block_free hbox5 1
        have p0 := block_cell hbox5 0
        have p1 := block_cell hbox5 1
        simp at p0 p1
        have hz5 := hb5.size
        obtain ⟨d0, d1, d2, d3, d4, d5, d6, d7, d8⟩ := blk9 jn5
        go_upto_region 9 with fail
        obtain ⟨W6, hW6⟩ : ∃ W6, W6 = (W5.setCell ⟨w.heap.size, 0, none⟩ (.int .u64 last)).setCell ⟨w.heap.size, 1, none⟩ (.slice ao5 L5.length cap5) := ⟨_, rfl⟩
        have g6 := grown_set2 W5 w.heap.size (.int .u64 last) (.slice ao5 L5.length cap5)
        have hbox6 := block_set (block_set hbox5 0 (.int .u64 last)) 1 (.slice ao5 L5.length cap5)
        simp only [List.setIfInBounds_toArray, List.set_cons_zero, List.set_cons_succ] at hbox6
        have hown6 := own_under2 (own_below hown B5) hlt0 (.int .u64 last) (.slice ao5 L5.length cap5)
        rw [← hW6] at g6 hbox6 hown6
        rw [← hW6]
        clear hW6 d0 d1 d2 d3 d4 d5 d6 d7 d8 y0 y1 p0 p1
        have hns6 : Ns W6 ao5 cap5 L5 := (Ns.of_own how5).grown g6 (elem?_of hbox5) (by decide)
        have jn6 := (g6.block _ (by omega) (by simp; omega)).trans jn5
        have gW6 := grown_trans (grown_trans hgr (grown_below B5)) g6
        have hz6 := gW6.size
        have hz56 := g6.size
        obtain ⟨d0, d1, d2, d3, d4, d5, d6, d7, d8⟩ := blk9 jn6
        go_wp2_with (at_builtin; refine wpl_append_one rfl (.tmp 42) (.tmp 45) 47 rfl W1.heap.size 22 infoU Try.underlying47 rfl (by decide) _ out.length ((ids out).map uCell) rfl (hown6.alloc _) _ 1 (uCell id) rfl rfl (news_at _ rfl) (by simp [uCell, Value.oneCell']) ?_ ?_ ?_ ?_; omega; (unfold maxLen; omega); (simp; omega); intro g7 c7 w7 hown7 hg7 hlie)
        have gA : W1.grownBy (W6.alloc _) (some w.heap.size) := grown_trans gW6 (grown_below (below_new W6 (.cells #[.int .u64 id] 22)))
        have gB := grown_app gA (hown6.alloc _) hg7 (Nat.le_refl _)
        have hns7 := (hns6.below (below_new W6 (.cells #[.int .u64 id] 22))).app (hown6.alloc _) hg7 (by decide)
        have hbox7 := (hg7.block w.heap.size (by simp; omega) (fun e => by have := (hown6.lt _ e.symm).1; omega)).trans ((heap_alloc_old _ _ (by omega)).trans hbox6)
        go_roundw
        case rel =>
          exact ⟨i + 1, out ++ [(⟨id, tk, lv, pt, st, tr, rt, wt, nx⟩ : No)], L5, ao5, cap5, by simp, by omega, by simp; omega, hout2, hL2, hl5, hbox7, hns7, .inr (fun a ha => by subst ha; have := (how5.lt a.block rfl).1; omega), by simpa [ids, uCell] using hown7, gB⟩
        case measure => simp [intOf]; omega
    · have hi' : i = l.length := by omega
      subst hi'
      have he : F = out := by rw [HF.out, hout.out, List.take_length]
      have hm : M = L := by rw [HM.out, hLd.out]; simp
      have hLn : ¬ ((l.length : Int) < (L.length : Int)) := by rw [hLl.out]; omega
      have p0 := block_cell hbox 0
      have hrs := (hgr.block _ hlt1 (by simp)).trans k1
      have r0 := block_cell hrs 0
      have r1 := block_cell hrs 1
      have z0 := block_free hrs 0
      have z1 := block_free hrs 1
      simp at p0 r0 r1
      have hlr : w.heap.size + 1 < wr.heap.size := by omega
      go_wp2_with fail
      refine bodyPost_ret (v := .tuple #[.agg #[.int .u64 last, .slice ao' L.length cap'], .slice oa out.length oc]) (by simp [results, Try.results52, go_sem, r0, r1, z0, z1]) rfl ?_
      have g9 := grown_set2 wr (w.heap.size + 1) (.int .u64 last) (.slice ao' L.length cap')
      try rw [he]
      try rw [hm]
      refine ⟨ao', cap', oa, oc, by rw [hLl.out], hns.grown g9 (elem?_of hrs) (by decide), hfre.imp_right (fun h a ha => by have := h a ha; omega), own_base (own_under2 hown hlt1 _ _) (by omega), ?_⟩
      have B8 := below_grown hB1 hgr (Nat.le_refl _) hB1.size
      exact below_grown B8 g9 (by omega) B8.size
end Go.Proofs.Ytdcinhnplcipoaa
