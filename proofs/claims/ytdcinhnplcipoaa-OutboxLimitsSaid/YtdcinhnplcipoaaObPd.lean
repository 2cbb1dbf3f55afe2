/- Contract of the reference's Put where it puts. No statement of the seat is proved here. -/
import Derived.Test.YtdcinhnplcipoaaObPc
namespace Go.Proofs.Ytdcinhnplcipoaa
set_option linter.unusedVariables false
set_option linter.unusedSimpArgs false
set_option linter.unusedSectionVars false
open Go Go.RowKit Go.Shelf

theorem some_rest {l : List No} (hl : l.length ≤ 128) (h : ¬ (128 ≤ l.length ∧ l.findIdx (fun n => !waitsB n) = l.length)) : (l.filter waitsB).length < 128 := by
  by_cases g : 128 ≤ l.length
  · have h2 : ¬ l.findIdx (fun n => !waitsB n) = l.length := fun e => h ⟨g, e⟩
    have h3 := List.length_filter_le waitsB l
    refine Nat.lt_of_le_of_ne (by omega) (fun e => h2 ?_)
    rw [List.findIdx_eq_length]
    have h4 : (l.filter waitsB).length = l.length := by omega
    intro x hx
    have := List.length_filter_eq_length_iff.1 h4 x hx
    simp [this]
  · have := List.length_filter_le waitsB l
    omega
/-- what the reference's Put tells -/
def RPut (last : Int) (l : List No) (W : World) (e : Ending) (W' : World) : Prop :=
  ∃ ao cap, e = .returned (.tuple #[.agg #[.int .u64 (last + 1), .slice ao l.length cap], .int .u64 (last + 1), .int .i64 0]) ∧ W'.ownsRow W.heap.size 24 9 (.slice ao l.length cap) l.length (l.map noCells).flatten ∧ Below W.heap.size W W'
set_option maxRecDepth 100000 in
set_option maxHeartbeats 8000000 in
theorem refPut_ok (last now : Int) (ao : Option Addr) (cap : Nat) (l : List No) (n : No) (w : World) (hs : Ns w ao cap l) (hl : l.length ≤ 128) (h0 : 0 ≤ last) (he : putErr last l n now = 0) :
    Calls Try.prog 55 #[.agg #[.int .u64 last, .slice ao l.length cap], noVal n, .int .i64 now] w (RPut last (roomL l ++ [putN last n now]) w) := by
  have hin := fun W => refInst_any now W
  have hfi := fun W => refFits_any n W
  obtain ⟨W1, hW1⟩ : ∃ W1, W1 = ((w.alloc (.cells #[.int .u64 last, .slice ao l.length cap] 53)).alloc (.cells #[.int .u64 n.id, .int .u64 n.tk, .int .i64 n.lv, .int .i64 n.pt, .int .i64 n.st, .int .i64 n.tr, .int .i64 n.rt, .int .i64 n.wt, .int .i64 n.nx] 24)).alloc (.cells #[.int .u64 0, .slice none 0 0] 53) := ⟨_, rfl⟩
  obtain ⟨k0, k1, k2, hz, hB1⟩ := put_new hW1
  unfold putErr at he
  by_cases g : (!instB now || !fitsN n) = true
  · rw [if_pos g] at he; cases he
  rw [if_neg g] at he
  simp at g
  rw [g.1] at hin
  rw [g.2] at hfi
  by_cases g1 : 1152921504606846976 ≤ last
  · rw [if_pos g1] at he; cases he
  rw [if_neg g1] at he
  have g2 : ¬ (128 ≤ l.length ∧ l.findIdx (fun n => !waitsB n) = l.length) := fun g2 => by rw [if_pos g2] at he; cases he
  have hC0 := some_rest hl g2
  obtain ⟨C, hC⟩ : ∃ C, C = (l.filter waitsB).length := ⟨_, rfl⟩
  rw [← hC] at hC0
  have hco := fun W (h : Ns W ao cap l) => count_any last ao cap l W h (by omega)
  simp only [← hC] at hco
  have Hco := Lib.hid hco
  obtain ⟨T, hT⟩ : ∃ T, T = putN last n now := ⟨_, rfl⟩
  obtain ⟨R, hR⟩ : ∃ R, R = roomL l := ⟨_, rfl⟩
  rw [← hT, ← hR]
  have HT := Lib.hid hT
  have HR := Lib.hid hR
  obtain ⟨sid, tk, lv, pt, st, tr, rt, wt, nx⟩ := n
  unfold noVal at hfi ⊢
  simp only at hfi hW1 k1 ⊢
  have Hfi := Lib.hid hfi
  have Hin := Lib.hid hin
  have hs1 := hs.below hB1
  have hlt0 : w.heap.size < W1.heap.size := by omega
  have hlt1 : w.heap.size + 1 < W1.heap.size := by omega
  have hlt2 : w.heap.size + 1 + 1 < W1.heap.size := by omega
  have Hz := Lib.hid hz
  clear hfi hin he hco hC hz hT hR g g2
  have p0 := block_cell k0 0
  have p1 := block_cell k0 1
  simp at p0 p1
  obtain ⟨d0, d1, d2, d3, d4, d5, d6, d7, d8⟩ := blk9 k1
  go_enter Try.func55, Try.ntmps55
  go_wp2_with fail
  rw [← hW1]
  clear hW1
  refine (Hin.out _).mono ?_
  rintro e W2 ⟨rfl, rfl⟩
  go_wp2_with fail
  refine (Hfi.out _).mono ?_
  rintro e W3 ⟨rfl, hb3⟩
  have B3 := below_on hB1 hb3 (Nat.le_refl _)
  have j0 := (hb3.block _ hlt0).trans k0
  have hs3 := hs1.below hb3
  have hz3 := hb3.size
  clear p0 p1 d0 d1 d2 d3 d4 d5 d6 d7 d8
  have p0 := block_cell j0 0
  have p1 := block_cell j0 1
  simp at p0 p1
  go_wp2_with fail
  refine (Hco.out _ hs3).mono ?_
  rintro e W4 ⟨rfl, hb4⟩
  have hb14 := below_on hb3 hb4 (Nat.le_refl _)
  have B4 := below_on B3 hb4 (Nat.le_refl _)
  have i0 := (hb14.block _ hlt0).trans k0
  have i1 := (hb14.block _ hlt1).trans k1
  have i2 := (hb14.block _ hlt2).trans k2
  have hs4 := hs1.below hb14
  have hz4 := hb14.size
  clear p0 p1 j0 B3 hs3 hb3 hb4 hz3 hb14
  have p1 := block_cell i0 1
  simp at p1
  have g3 : ¬ (128 : Int) ≤ (C : Int) := by omega
  have hg0 : decide ((l.length : Int) < 128) = goneB l 0 := by rw [gone_zero]; simp; omega
  have Hg0 := Lib.hid hg0
  clear hg0
  go_wp2_with fail
  go_loopw [9, 10, 11] (fun v q u wr => ∃ (i : Nat) (out : List No) (gb : Bool), q = .bool gb ∧ u = .int .i64 i ∧ i ≤ l.length ∧ out.length ≤ i ∧ Hid (gb = goneB l i) ∧ Hid (out = keepN l i) ∧ wr.ownsRow W4.heap.size 24 9 v out.length (out.map noCells).flatten ∧ Below W4.heap.size W4 wr)
    (fun _ _ u _ => l.length - (intOf u).toNat)
  case atStart => exact ⟨0, [], _, rfl, rfl, Nat.zero_le _, Nat.le_refl _, Hg0.out, (keep_zero l).symm, World.ownsRow_nil _ _ _ _, Below.refl _ _⟩
  case round =>
    obtain ⟨i, out, gb, rfl, rfl, hi, ho, hgb, hout, hown, hb⟩ := hrel
    obtain ⟨oa, oc, rfl⟩ := own_slice hown
    have hl4 : w.heap.size < W4.heap.size := by omega
    have hrr := (hb.block _ hl4).trans i0
    have p0 := block_cell hrr 0
    have p1 := block_cell hrr 1
    simp at p0 p1
    have hzr := hb.size
    by_cases hlt : i < l.length
    · obtain ⟨b, off, rfl, c0, c1, c2, c3, c4, c5, c6, c7, c8⟩ := (hs4.below hb).get i hlt
      have Hgo := Lib.hid (goes_iff l i hlt)
      have Hk1 := Lib.hid (keep_gone l i hlt)
      have Hk2 := Lib.hid (keep_more l i hlt)
      have Hgs := Lib.hid (gone_succ l i)
      obtain ⟨s, hsd⟩ : ∃ s, s = l[i] := ⟨_, rfl⟩
      rw [← hsd] at c0 c1 c2 c3 c4 c5 c6 c7 c8 Hgo Hk2
      clear hsd
      obtain ⟨id, tk', lv', pt', st', tr', rt', wt', nx'⟩ := s
      simp only at c0 c1 c2 c3 c4 c5 c6 c7 c8 Hgo
      have j0 : (0 : Int) ≤ (i : Int) := by omega
      have j1 : (i : Int) < (l.length : Int) := by omega
      have hcs : (gb = false ∧ (st' == 1) = false ∧ Hid (true = goneB l (i + 1)) ∧ Hid (out = keepN l (i + 1))) ∨ (gb = false ∧ (st' == 1) = true ∧ Hid (gb = goneB l (i + 1)) ∧ Hid (out ++ [(⟨id, tk', lv', pt', st', tr', rt', wt', nx'⟩ : No)] = keepN l (i + 1))) ∨ (gb = true ∧ Hid (gb = goneB l (i + 1)) ∧ Hid (out ++ [(⟨id, tk', lv', pt', st', tr', rt', wt', nx'⟩ : No)] = keepN l (i + 1))) := by
        have hG := Hgs.out
        have hI := Hgo.out
        have h := hgb.out
        rw [← h] at hG hI
        cases gb with
        | true =>
          have hne : goesN l ≠ i := fun e => by have := hI.1 e; simp at this
          exact .inr (.inr ⟨rfl, by show _ = _; rw [hG]; rfl, by show _ = _; rw [Hk2.out hne, ← hout.out]⟩)
        | false =>
          cases hst : (st' == 1) with
          | true =>
            have hne : goesN l ≠ i := fun e => by have := (hI.1 e).2; rw [hst] at this; cases this
            exact .inr (.inl ⟨rfl, rfl, by show _ = _; rw [hG]; simp [hne], by show _ = _; rw [Hk2.out hne, ← hout.out]⟩)
          | false =>
            have he : goesN l = i := hI.2 ⟨rfl, hst⟩
            exact .inl ⟨rfl, rfl, by show _ = _; rw [hG]; simp [he], by show _ = _; rw [Hk1.out he]; exact hout.out⟩
      clear Hgo Hk1 Hk2 Hgs hgb hout
      rcases hcs with ⟨rfl, a1, h1, h2⟩ | ⟨rfl, a1, h1, h2⟩ | ⟨rfl, h1, h2⟩
      · have a2 := waits_ne a1
        go_wp2_with fail
        go_roundw
        case rel => exact ⟨i + 1, out, true, rfl, by simp, by omega, by omega, h1, h2, hown, hb⟩
        case measure => simp [intOf]; omega
      · have a2 := waits_eq a1
        go_wp2_with (at_builtin; refine wpl_append_one rfl (.tmp 51) (.tmp 57) 42 rfl W4.heap.size 24 infoNo Try.underlying42 rfl (by decide) _ out.length (out.map noCells) rfl (hown.alloc _) _ 1 (noCells ⟨id, tk', lv', pt', st', tr', rt', wt', nx'⟩) rfl rfl (news_at _ rfl) (no_one _) ?_ ?_ ?_ ?_; omega; (unfold maxLen; omega); (simp; omega); intro g4 c4 w4 hown4 hg4 hlie)
        have hB4 := below_app (hb.alloc hzr _) hg4 (hown.alloc _) (Nat.le_refl _) (by simp; omega)
        go_roundw
        case rel => exact ⟨i + 1, out ++ [(⟨id, tk', lv', pt', st', tr', rt', wt', nx'⟩ : No)], false, rfl, by simp, by omega, by simp; omega, h1, h2, by simpa using hown4, hB4⟩
        case measure => simp [intOf]; omega
      · go_wp2_with (at_builtin; refine wpl_append_one rfl (.tmp 51) (.tmp 57) 42 rfl W4.heap.size 24 infoNo Try.underlying42 rfl (by decide) _ out.length (out.map noCells) rfl (hown.alloc _) _ 1 (noCells ⟨id, tk', lv', pt', st', tr', rt', wt', nx'⟩) rfl rfl (news_at _ rfl) (no_one _) ?_ ?_ ?_ ?_; omega; (unfold maxLen; omega); (simp; omega); intro g4 c4 w4 hown4 hg4 hlie)
        have hB4 := below_app (hb.alloc hzr _) hg4 (hown.alloc _) (Nat.le_refl _) (by simp; omega)
        go_roundw
        case rel => exact ⟨i + 1, out ++ [(⟨id, tk', lv', pt', st', tr', rt', wt', nx'⟩ : No)], true, rfl, by simp, by omega, by simp; omega, h1, h2, by simpa using hown4, hB4⟩
        case measure => simp [intOf]; omega
    · have hi' : i = l.length := by omega
      subst hi'
      have Hout : Hid (R = out) := by show _ = _; rw [HR.out, hout.out, keep_all]
      clear hgb hout
      have z0 := block_free hrr 0
      have hl41 : w.heap.size + 1 < W4.heap.size := by omega
      have hl42 : w.heap.size + 1 + 1 < W4.heap.size := by omega
      have e1 : IntKind.u64.wrap (last + 1) = last + 1 := IntWalk.u64_in _ (by omega)
      have hbox5 := block_set hrr 0 (.int .u64 (last + 1))
      simp only [List.setIfInBounds_toArray, List.set_cons_zero, List.set_cons_succ] at hbox5
      have g5 := grown_set wr w.heap.size 0 (.int .u64 (last + 1))
      have hown5 := ownsRow_setCell_below hown (a := ⟨w.heap.size, 0, none⟩) hl4 (.int .u64 (last + 1))
      go_upto_region 16 with fail
      obtain ⟨W5, hW5⟩ : ∃ W5, W5 = wr.setCell ⟨w.heap.size, 0, none⟩ (.int .u64 (last + 1)) := ⟨_, rfl⟩
      rw [← hW5] at hbox5 g5 hown5
      rw [← hW5]
      clear hW5 z0 p0 p1
      have hn5 := (g5.block _ (by omega) (by simp)).trans ((hb.block _ hl41).trans i1)
      have hr5 := (g5.block _ (by omega) (by simp; omega)).trans ((hb.block _ hl42).trans i2)
      have B5 : Below w.heap.size w W5 := below_grown (below_on B4 hb (by have := B4.size; omega)) g5 (Nat.le_refl _) (by omega)
      have hz5 := g5.size
      have p0 := block_cell hbox5 0
      have p1 := block_cell hbox5 1
      simp at p0 p1
      obtain ⟨d0, d1, d2, d3, d4, d5, d6, d7, d8⟩ := blk9 hn5
      go_upto_region 17 with (at_builtin; refine wpl_append_one rfl (.tmp 63) (.tmp 78) 42 rfl W4.heap.size 24 infoNo Try.underlying42 rfl (by decide) _ out.length (out.map noCells) rfl (hown5.alloc _) _ 1 (noCells ⟨last + 1, tk, lv, pt, 1, 0, rt, wt, now⟩) rfl rfl (news_at _ rfl) (no_one _) ?_ ?_ ?_ ?_; omega; (unfold maxLen; omega); (simp; omega); intro g7 c7 w7 hown7 hg7 hlie; have hbx7 := (hg7.block w.heap.size (by simp; omega) (fun e => by have := (hown5.lt _ e.symm).1; omega)).trans ((heap_alloc_old _ _ (by omega)).trans hbox5); have q0 := block_cell hbx7 0; have q1 := block_cell hbx7 1; have y1 := block_free hbx7 1; simp at q0 q1)
      have hz7 := hg7.size
      simp at hz7
      have hr7 := (hg7.block (w.heap.size + 1 + 1) (by simp; omega) (fun e => by have := (hown5.lt _ e.symm).1; omega)).trans ((heap_alloc_old _ _ (by omega)).trans hr5)
      have B7 := below_app (B5.alloc (by omega) _) hg7 (hown5.alloc _) (by omega) (by simp; omega)
      have hbx8 := block_set hbx7 1 (.slice (some ⟨g7, 0, none⟩) (out.length + 1 : Nat) c7)
      simp only [List.setIfInBounds_toArray, List.set_cons_zero, List.set_cons_succ] at hbx8
      have g8 := grown_set w7 w.heap.size 1 (.slice (some ⟨g7, 0, none⟩) (out.length + 1 : Nat) c7)
      have hown8 := ownsRow_setCell_below hown7 (a := ⟨w.heap.size, 1, none⟩) hl4 (.slice (some ⟨g7, 0, none⟩) (out.length + 1 : Nat) c7)
      obtain ⟨W8, hW8⟩ : ∃ W8, W8 = w7.setCell ⟨w.heap.size, 1, none⟩ (.slice (some ⟨g7, 0, none⟩) (out.length + 1 : Nat) c7) := ⟨_, rfl⟩
      rw [← hW8] at hbx8 g8 hown8
      rw [← hW8]
      clear hW8 p0 p1 q0 q1 y1 d0 d1 d2 d3 d4 d5 d6 d7 d8
      have hr8 := (g8.block _ (by omega) (by simp; omega)).trans hr7
      have B8 := below_grown B7 g8 (Nat.le_refl _) (by omega)
      have p0 := block_cell hbx8 0
      have p1 := block_cell hbx8 1
      have r0 := block_cell hr8 0
      have r1 := block_cell hr8 1
      have z0 := block_free hr8 0
      have z1 := block_free hr8 1
      simp at p0 p1 r0 r1
      go_region
      all_goals
        go_wp2_with fail
        refine bodyPost_ret (v := .tuple #[.agg #[.int .u64 (last + 1), .slice (some ⟨g7, 0, none⟩) (out.length + 1 : Nat) c7], .int .u64 (last + 1), .int .i64 0]) (by simp [results, Try.results55, go_sem, r0, r1, z0, z1]) rfl ?_
        unfold RPut
        rw [HT.out, Hout.out]
        refine ⟨some ⟨g7, 0, none⟩, c7, by simp, ?_, ?_⟩
        · have := own_base (own_under2 hown8 hl42 (.int .u64 (last + 1)) (.slice (some ⟨g7, 0, none⟩) (out.length + 1 : Nat) c7)) (base' := w.heap.size) (by omega)
          refine own_drew ?_
          simpa [putN] using this
        · exact (below_grown B8 (grown_set2 W8 (w.heap.size + 1 + 1) _ _) (by omega) B8.size).drew
end Go.Proofs.Ytdcinhnplcipoaa
