/- OutboxPlays: the walk. No statement of the seat is proved here. -/
import Derived.Test.YtdcinhnplcipoaaObDu
import Derived.Test.YtdcinhnplcipoaaObLt
namespace Go.Proofs.Ytdcinhnplcipoaa
set_option linter.unusedVariables false
set_option linter.unusedSimpArgs false
set_option linter.unusedSectionVars false
open Go Go.RowKit Go.Shelf

set_option maxRecDepth 100000 in
set_option maxHeartbeats 8000000 in
theorem outboxPlays_walk (last : Int) (ao : Option Addr) (cap : Nat) (l : List No) (ao2 : Option Addr) (cap2 : Nat) (ops : List Opn) (w : World) (hns : Ns w ao cap l) (h0 : 0 ≤ last) (hops : Ops w ao2 cap2 ops) :
    Calls Try.prog 5 #[.agg #[.int .u64 last, .slice ao l.length cap], .slice ao2 ops.length cap2] w fun e w' => e = .returned (.bool true) ∧ Below w.heap.size w w' := by
  have hlight := fun W => light_any last ao l.length cap W
  by_cases hc : l.length ≤ 200 ∧ ops.length ≤ 100
  · obtain ⟨hc1, hc2⟩ := hc
    have hd : decide ((l.length : Int) ≤ 200) = true := by simp; omega
    rw [hd] at hlight
    have hl : l.length ≤ 1000000 := by omega
    have Hli := Lib.hid hlight
    clear hlight hd
    have hlb := fun W hs => load_bad last ao cap l W hs hl
    have hlo := fun W hs => load_ok last ao cap l W hs hl
    have hso := fun W hs => refSound_any last ao cap l W hs hl
    cases hS : soundS last l with
    | false =>
      rw [hS] at hso
      have Hlb := Lib.hid (fun W hs => hlb W hs hS)
      have Hso := Lib.hid hso
      clear hlb hlo hso hS
      go_enter Try.func5, Try.ntmps5
      go_wp2_with fail
      refine (Hli.out _).mono ?_
      rintro e w1 ⟨rfl, hb1⟩
      have hB1 := below_on (below_new w _) hb1 (Nat.le_refl _)
      have hr1 := alloc_after hb1
      obtain ⟨p0, p1⟩ := two_cells hr1
      go_wp2_with fail
      refine (Hlb.out _ (hns.below hB1)).mono ?_
      rintro e w2 ⟨rfl, hb2⟩
      have hB2 := below_on hB1 hb2 (Nat.le_refl _)
      have hr2 := (hb2.block _ (Array.getElem?_eq_some_iff.1 hr1).1).trans hr1
      clear p0 p1 hr1
      obtain ⟨p0, p1⟩ := two_cells hr2
      go_wp2_with fail
      have hB3 := hB2.alloc hB2.size (.cells #[.int .u64 last, .slice ao l.length cap] 53)
      refine (Hso.out _ (hns.below hB3)).mono ?_
      rintro e w3 ⟨rfl, hb3⟩
      have hB4 := below_on hB3 hb3 (Nat.le_refl _)
      go_wp2_with fail
      refine (lives17_any _).mono ?_
      rintro e w4 ⟨rfl, hb4⟩
      go_wp2_with fail
      go_ret
      exact ⟨rfl, below_on hB4 hb4 (Nat.le_refl _)⟩
    | true =>
      rw [hS] at hso
      have Hlo := Lib.hid (fun W hs => hlo W hs hS)
      have Hso := Lib.hid hso
      have HS := Lib.hid hS
      clear hlb hlo hso hS
      go_enter Try.func5, Try.ntmps5
      go_wp2_with fail
      refine (Hli.out _).mono ?_
      rintro e w1 ⟨rfl, hb1⟩
      have hB1 := below_on (below_new w _) hb1 (Nat.le_refl _)
      have hr1 := alloc_after hb1
      obtain ⟨p0, p1⟩ := two_cells hr1
      go_wp2_with fail
      refine (Hlo.out _ (hns.below hB1)).mono ?_
      rintro e w2 ⟨b, v, rfl, hbx, hb2⟩
      have hB2 := below_on hB1 hb2 (Nat.le_refl _)
      have hr2 := (hb2.block _ (Array.getElem?_eq_some_iff.1 hr1).1).trans hr1
      have hz1 := hB1.size
      obtain ⟨B, hBd⟩ : ∃ B, B = w1.heap.size := ⟨_, rfl⟩
      rw [← hBd] at hbx hz1
      have hBle := hbx.le
      have hfar : Far v ao l := by
        intro h0 a ha e
        have h1 := (hbx.own.lt _ e).1
        obtain ⟨T, hT, -⟩ := (hns.below hB1).typ a.block a.off a.spot ha h0
        have := elem?_lt hT
        omega
      clear p0 p1 hr1 hb2 hBd
      obtain ⟨p0, p1⟩ := two_cells hr2
      go_wp2_with fail
      obtain ⟨W3, hW3⟩ : ∃ W3, W3 = w2.alloc (.cells #[.int .u64 last, .slice ao l.length cap] 53) := ⟨_, rfl⟩
      have hb3 : Below w2.heap.size w2 W3 := by rw [hW3]; exact below_new _ _
      have m3 : W3.heap[w2.heap.size]? = _ := (congrArg (fun z : World => z.heap[w2.heap.size]?) hW3).trans (heap_alloc_new _ _)
      rw [← hW3]
      clear hW3 p0 p1 hr2
      have hB3 := below_on hB2 hb3 (Nat.le_refl _)
      have hbx3 := hbx.below hb3
      obtain ⟨R, hR⟩ : ∃ R, R = w2.heap.size := ⟨_, rfl⟩
      have hRw : w.heap.size ≤ R := by rw [hR]; exact hB2.size
      have hRb : b < R := by rw [hR]; exact (Array.getElem?_eq_some_iff.1 hbx.blk).1
      rw [← hR] at m3 ⊢
      clear hR hb3 hbx hB2 hB1 hb1
      refine (Hso.out _ (hns.below hB3)).mono ?_
      rintro e w4 ⟨rfl, hb4⟩
      have hB4 := below_on hB3 hb4 (Nat.le_refl _)
      have hbx4 := hbx3.below hb4
      have m4 := (hb4.block _ (Array.getElem?_eq_some_iff.1 m3).1).trans m3
      clear hbx3 hB3 m3
      go_wp2_with fail
      go_loopw [50] (fun u wr => ∃ (i : Nat) (last' : Int) (l' : List No) (v' : Value) (ao' : Option Addr) (cap' : Nat), u = .int .i64 i ∧ i ≤ ops.length ∧ wr.heap[R]? = some (.cells #[.int .u64 last', .slice ao' l'.length cap'] 53 (0, 0)) ∧ Bx wr B b last' v' l' ∧ Ns wr ao' cap' l' ∧ Far v' ao' l' ∧ Hid (soundS last' l' = true) ∧ 0 ≤ last' ∧ Below w.heap.size w wr)
        (fun u _ => ops.length - (intOf u).toNat)
      case atStart => exact ⟨0, last, l, v, ao, cap, rfl, Nat.zero_le _, m4, hbx4, hns.below hB4, hfar, HS, h0, hB4⟩
      case round =>
        obtain ⟨i, last1, l1, v1, ao1, cap1, rfl, hi, m1, hb1, hn1, hf1, hS1, h01, hB1⟩ := hrel
        clear hbx4 hns hfar HS m4 hB4 h0 hb4
        by_cases hlt : i < ops.length
        · obtain ⟨bo, off, rfl, c0, c1, c2, c3, c4, c5, c6, c7, c8, c9, c10⟩ := (hops.below hB1).get11 i hlt
          have hdo := fun (W : World) (hb : Below wr.heap.size wr W) => do_any ao1 cap1 ops[i] (hb1.below hb) (hn1.below hb) hf1 hS1.out h01
          have hsd := sound_doL ops[i] h01 hS1.out
          obtain ⟨P, hP⟩ : ∃ P, P = doL last1 l1 ops[i] := ⟨_, rfl⟩
          simp only [← hP] at hdo hsd
          clear hP
          obtain ⟨o, ho⟩ : ∃ o, o = ops[i] := ⟨_, rfl⟩
          simp only [← ho] at c0 c1 c2 c3 c4 c5 c6 c7 c8 c9 c10 hdo
          clear ho
          obtain ⟨k, ⟨id, tk, lv, pt, st, tr, rt, wt, nx⟩, at'⟩ := o
          obtain ⟨last2, l2⟩ := P
          unfold opVal at hdo
          simp only at c0 c1 c2 c3 c4 c5 c6 c7 c8 c9 c10 hdo hsd
          obtain ⟨h02, hS2⟩ := hsd
          have Hdo := Lib.hid hdo
          have HS2 := Lib.hid hS2
          clear hdo hS2
          obtain ⟨p0, p1⟩ := two_cells m1
          have i0 : (0 : Int) ≤ (i : Int) := by omega
          have i1 : (i : Int) < (ops.length : Int) := by omega
          have hRl := (Array.getElem?_eq_some_iff.1 m1).1
          have hv1R : v1.ownBlock ≠ some R := fun e => by
            have := own_elem hb1.own R e
            rw [elem?_of m1] at this
            exact absurd this (by decide)
          have hv1o : v1.ownBlock ≠ some wr.heap.size := fun e => by have := (hb1.own.lt _ e).2; omega
          go_wp2_with fail
          obtain ⟨Wa, hWa⟩ : ∃ Wa, Wa = wr.alloc (.cells #[.int .i64 k, .int .u64 id, .int .u64 tk, .int .i64 lv, .int .i64 pt, .int .i64 st, .int .i64 tr, .int .i64 rt, .int .i64 wt, .int .i64 nx, .int .i64 at'] 41) := ⟨_, rfl⟩
          have hba : Below wr.heap.size wr Wa := by rw [hWa]; exact below_new _ _
          have oa : Wa.heap[wr.heap.size]? = _ := (congrArg (fun z : World => z.heap[wr.heap.size]?) hWa).trans (heap_alloc_new _ _)
          rw [← hWa]
          clear hWa c0 c1 c2 c3 c4 c5 c6 c7 c8 c9 c10 p0 p1
          refine (Hdo.out Wa hba).mono ?_
          rintro e W3 ⟨v2, ao2', cap2', rfl, hb2, hn2, hf2, hfr, hv2, -⟩
          have hBa := below_on hB1 hba (Nat.le_refl _)
          have hB3 := (hb1.below hba).low hfr hBa hz1
          have hbz := (Array.getElem?_eq_some_iff.1 hb1.blk).1
          have hza := hba.size
          have o3 := hfr.kept oa (by omega) hv1o
          have m3 := hfr.kept ((hba.block _ hRl).trans m1) (by omega) hv1R
          clear hfr hv2 hBa oa m1 hn1 hf1 hv1R hv1o Hdo hb1 hB1
          obtain ⟨c0, c1, c2, c3, c4, c5, c6, c7, c8, c9, c10⟩ := blk11 o3
          obtain ⟨p0, p1⟩ := two_cells m3
          have z0 := block_free m3 0
          have z1 := block_free m3 1
          have hRl3 := (Array.getElem?_eq_some_iff.1 m3).1
          have hol3 := (Array.getElem?_eq_some_iff.1 o3).1
          have g4 := grown_set2 W3 R (.int .u64 last2) (.slice ao2' l2.length cap2')
          have m4 := block_set (block_set m3 0 (.int .u64 last2)) 1 (.slice ao2' l2.length cap2')
          simp only [List.setIfInBounds_toArray, List.set_cons_zero, List.set_cons_succ] at m4
          have hv2R : v2.ownBlock ≠ some R := fun e => by
            have := own_elem hb2.own R e
            rw [elem?_of m3] at this
            exact absurd this (by decide)
          have hb4 := hb2.grown g4 (by omega) hv2R
          have hn4 := hn2.grown g4 (elem?_of m3) (by decide)
          have o4 := (g4.block wr.heap.size hol3 (by simp; omega)).trans o3
          have hB4 : Below w.heap.size w _ := below_grown hB3 g4 hRw hB3.size
          go_wp2_with fail
          obtain ⟨W4, hW4⟩ : ∃ W4, W4 = (W3.setCell ⟨R, 0, none⟩ (.int .u64 last2)).setCell ⟨R, 1, none⟩ (.slice ao2' l2.length cap2') := ⟨_, rfl⟩
          rw [← hW4] at m4 hb4 hn4 o4 hB4
          rw [← hW4]
          have hz34 : W4.heap.size = W3.heap.size := by rw [hW4]; simp
          rw [← hz34]
          clear hW4 g4 hb2 hn2 o3 m3 hB3 c0 c1 c2 c3 c4 c5 c6 c7 c8 c9 c10 p0 p1 z0 z1 hv2R
          obtain ⟨W5, hW5⟩ : ∃ W5, W5 = W4.alloc (.cells #[.int .u64 last2, .slice ao2' l2.length cap2'] 53) := ⟨_, rfl⟩
          have hba5 : Below W4.heap.size W4 W5 := by rw [hW5]; exact below_new _ _
          rw [← hW5]
          clear hW5
          have hb5 := hb4.below hba5
          have hn5 := hn4.below hba5
          have o5 := (hba5.block _ (Array.getElem?_eq_some_iff.1 o4).1).trans o4
          have m5 := (hba5.block _ (Array.getElem?_eq_some_iff.1 m4).1).trans m4
          have hB5 := below_on hB4 hba5 (Nat.le_refl _)
          have hl2 : l2.length ≤ 1000000 := by have := sound_len HS2.out; omega
          clear hb4 hn4 o4 m4 hB4 hba5
          by_cases hp : placeN l2 id < l2.length
          · have hge := fun W h => get_yes (W := W) (base := B) (b := b) (last := last2) (v := v2) (l := l2) id hl2 h hp
            have hfi := fun W hs => find_any last2 id ao2' cap2' l2 W hs hl2
            rw [find_some' hp] at hfi
            have hrow := fun W (hs : Ns W ao2' cap2' l2) => hs.get (placeN l2 id) hp
            obtain ⟨N, hN⟩ : ∃ N, N = l2[placeN l2 id] := ⟨_, rfl⟩
            obtain ⟨pl, hpl⟩ : ∃ pl, pl = placeN l2 id := ⟨_, rfl⟩
            simp only [← hN] at hge hrow
            simp only [← hpl] at hfi hrow hp
            clear hN hpl
            obtain ⟨id', tk', lv', pt', st', tr', rt', wt', nx'⟩ := N
            unfold noVal at hge
            unfold NoAt at hrow
            simp only at hge hrow
            have Hfi := Lib.hid hfi
            have Hge := Lib.hid hge
            have Hrow := Lib.hid hrow
            clear hfi hge hrow
            refine (Hge.out W5 hb5).mono ?_
            rintro e W6 ⟨rfl, hb6⟩
            have hbx6 := hb5.below hb6
            have hn6 := hn5.below hb6
            have o6 := (hb6.block _ (Array.getElem?_eq_some_iff.1 o5).1).trans o5
            have m6 := (hb6.block _ (Array.getElem?_eq_some_iff.1 m5).1).trans m5
            have hB6 := below_on hB5 hb6 (Nat.le_refl _)
            clear hb5 hn5 o5 m5 hB5 hb6
            obtain ⟨c0, c1, c2, c3, c4, c5, c6, c7, c8, c9, c10⟩ := blk11 o6
            obtain ⟨p0, p1⟩ := two_cells m6
            have q0 := (Array.getElem?_eq_some_iff.1 o6).1
            have q1 := (Array.getElem?_eq_some_iff.1 m6).1
            go_wp2_with fail
            obtain ⟨W7, hW7⟩ : ∃ W7, W7 = W6.alloc (.cells #[.int .u64 id', .int .u64 tk', .int .i64 lv', .int .i64 pt', .int .i64 st', .int .i64 tr', .int .i64 rt', .int .i64 wt', .int .i64 nx'] 24) := ⟨_, rfl⟩
            have hba7 : Below W6.heap.size W6 W7 := by rw [hW7]; exact below_new _ _
            have n7 : W7.heap[W6.heap.size]? = _ := (congrArg (fun z : World => z.heap[W6.heap.size]?) hW7).trans (heap_alloc_new _ _)
            rw [← hW7]
            clear hW7 c0 c1 c2 c3 c4 c5 c6 c7 c8 c9 c10 p0 p1 o6 q0
            have m7 := (hba7.block _ q1).trans m6
            refine (Hfi.out W7 (hn6.below hba7)).mono ?_
            rintro e W8 ⟨rfl, hb8⟩
            have hb78 := below_on hba7 hb8 (Nat.le_refl _)
            have hbx8 := hbx6.below hb78
            have hn8 := hn6.below hb78
            have hB8 := below_on hB6 hb78 (Nat.le_refl _)
            have m8 := (hb8.block _ (Array.getElem?_eq_some_iff.1 m7).1).trans m7
            have n8 := (hb8.block _ (Array.getElem?_eq_some_iff.1 n7).1).trans n7
            clear hb78 hba7 hb8 m7 n7 hbx6 hn6 m6 hB6 q1
            obtain ⟨gr, fr, rfl, d0, d1, d2, d3, d4, d5, d6, d7, d8⟩ := Hrow.out W8 hn8
            have i2 : (0 : Int) ≤ (pl : Int) := by omega
            have i3 : (pl : Int) < (l2.length : Int) := by omega
            have hwt := fun (W : World) (hw : Below W8.heap.size W8 W) => waiting_bx hl2 (hbx8.below hw)
            have hct := fun (W : World) (hw : Below W8.heap.size W8 W) => count_any last2 (some ⟨gr, fr, none⟩) cap2' l2 W (hn8.below hw) hl2
            obtain ⟨N, hN⟩ : ∃ N, N = (l2.filter waitsB).length := ⟨_, rfl⟩
            simp only [← hN] at hwt hct
            have hst := fun (W : World) (hw : Below W8.heap.size W8 W) => state_bx hl2 (hbx8.below hw)
            have hsm := fun (W : World) (hw : Below W8.heap.size W8 W) (aoT : Option Addr) (capT : Nat) (h : Ns W aoT capT l2) => refSame_any last2 last2 aoT (some ⟨gr, fr, none⟩) capT cap2' l2 l2 W h (hn8.below hw) hl2 hl2
            have hsd := fun (W : World) (hw : Below W8.heap.size W8 W) => refSound_any last2 (some ⟨gr, fr, none⟩) cap2' l2 W (hn8.below hw) hl2
            simp only [decide_true, Bool.and_true] at hsm
            simp only [HS2.out] at hsd
            unfold Told at hst
            have Hwt := Lib.hid hwt
            have Hct := Lib.hid hct
            have Hst := Lib.hid hst
            have Hsm := Lib.hid hsm
            have Hsd := Lib.hid hsd
            clear hwt hct hst hsm hsd hN
            have hd8 : Below W8.heap.size W8 W8.drew := (Below.refl _ _).drew
            have ne := neq_no id' tk' lv' pt' st' tr' rt' wt' nx' id' tk' lv' pt' st' tr' rt' wt' nx'
            simp only [decide_true, Bool.not_true] at ne
            have ng := guard_no
            obtain ⟨n0, n1, n2, n3, n4, n5, n6, n7, n8'⟩ := blk9 n8
            obtain ⟨p0, p1⟩ := two_cells m8
            have hcw : ∀ W' : World, Below W8.heap.size W8 W' → (W'.cell? ⟨R, 0, none⟩ = some (.int .u64 last2) ∧ W'.cell? ⟨R, 1, none⟩ = some (.slice (some ⟨gr, fr, none⟩) l2.length cap2') ∧ W'.cell? ⟨W6.heap.size, 0, none⟩ = some (.int .u64 id') ∧ W'.cell? ⟨W6.heap.size, 1, none⟩ = some (.int .u64 tk') ∧ W'.cell? ⟨W6.heap.size, 2, none⟩ = some (.int .i64 lv') ∧ W'.cell? ⟨W6.heap.size, 3, none⟩ = some (.int .i64 pt') ∧ W'.cell? ⟨W6.heap.size, 4, none⟩ = some (.int .i64 st') ∧ W'.cell? ⟨W6.heap.size, 5, none⟩ = some (.int .i64 tr') ∧ W'.cell? ⟨W6.heap.size, 6, none⟩ = some (.int .i64 rt') ∧ W'.cell? ⟨W6.heap.size, 7, none⟩ = some (.int .i64 wt') ∧ W'.cell? ⟨W6.heap.size, 8, none⟩ = some (.int .i64 nx') ∧ W'.cell? ⟨gr, fr + pl * 9, none⟩ = some (.int .u64 id') ∧ W'.cell? ⟨gr, fr + pl * 9 + 1, none⟩ = some (.int .u64 tk') ∧ W'.cell? ⟨gr, fr + pl * 9 + 2, none⟩ = some (.int .i64 lv') ∧ W'.cell? ⟨gr, fr + pl * 9 + 3, none⟩ = some (.int .i64 pt') ∧ W'.cell? ⟨gr, fr + pl * 9 + 4, none⟩ = some (.int .i64 st') ∧ W'.cell? ⟨gr, fr + pl * 9 + 5, none⟩ = some (.int .i64 tr') ∧ W'.cell? ⟨gr, fr + pl * 9 + 6, none⟩ = some (.int .i64 rt') ∧ W'.cell? ⟨gr, fr + pl * 9 + 7, none⟩ = some (.int .i64 wt') ∧ W'.cell? ⟨gr, fr + pl * 9 + 8, none⟩ = some (.int .i64 nx')) := by
              intro W' hw
              have key : ∀ {a : Addr} {u : Value}, W8.cell? a = some u → W'.cell? a = some u := fun {a u} h => (hw.cell (cell?_lt h)).trans h
              exact ⟨key p0, key p1, key n0, key n1, key n2, key n3, key n4, key n5, key n6, key n7, key n8', key d0, key d1, key d2, key d3, key d4, key d5, key d6, key d7, key d8⟩
            go_upto_region 16 with fail
            go_region_held3 (fun W' => (W'.cell? ⟨R, 0, none⟩ = some (.int .u64 last2) ∧ W'.cell? ⟨R, 1, none⟩ = some (.slice (some ⟨gr, fr, none⟩) l2.length cap2') ∧ W'.cell? ⟨W6.heap.size, 0, none⟩ = some (.int .u64 id') ∧ W'.cell? ⟨W6.heap.size, 1, none⟩ = some (.int .u64 tk') ∧ W'.cell? ⟨W6.heap.size, 2, none⟩ = some (.int .i64 lv') ∧ W'.cell? ⟨W6.heap.size, 3, none⟩ = some (.int .i64 pt') ∧ W'.cell? ⟨W6.heap.size, 4, none⟩ = some (.int .i64 st') ∧ W'.cell? ⟨W6.heap.size, 5, none⟩ = some (.int .i64 tr') ∧ W'.cell? ⟨W6.heap.size, 6, none⟩ = some (.int .i64 rt') ∧ W'.cell? ⟨W6.heap.size, 7, none⟩ = some (.int .i64 wt') ∧ W'.cell? ⟨W6.heap.size, 8, none⟩ = some (.int .i64 nx') ∧ W'.cell? ⟨gr, fr + pl * 9, none⟩ = some (.int .u64 id') ∧ W'.cell? ⟨gr, fr + pl * 9 + 1, none⟩ = some (.int .u64 tk') ∧ W'.cell? ⟨gr, fr + pl * 9 + 2, none⟩ = some (.int .i64 lv') ∧ W'.cell? ⟨gr, fr + pl * 9 + 3, none⟩ = some (.int .i64 pt') ∧ W'.cell? ⟨gr, fr + pl * 9 + 4, none⟩ = some (.int .i64 st') ∧ W'.cell? ⟨gr, fr + pl * 9 + 5, none⟩ = some (.int .i64 tr') ∧ W'.cell? ⟨gr, fr + pl * 9 + 6, none⟩ = some (.int .i64 rt') ∧ W'.cell? ⟨gr, fr + pl * 9 + 7, none⟩ = some (.int .i64 wt') ∧ W'.cell? ⟨gr, fr + pl * 9 + 8, none⟩ = some (.int .i64 nx')))
              (first | exact hL13 | exact hL12 | exact hL11 | exact hL10 | exact hL9 | exact hcw _ hd8 | exact hcw _ (Below.refl _ _) | go_keep)
              (first
                | (go_at_call 14; refine (Hwt.out W8.drew hd8).mono ?_; rintro e w9 ⟨rfl, hb9⟩; have hB9 : Below W8.heap.size W8 w9 := below_on hd8 hb9 (Nat.le_refl _); have hL9 := hcw w9 hB9)
                | (go_at_call 23; refine (Hct.out w9 hB9).mono ?_; rintro e w10 ⟨rfl, hb10⟩; have hB10 : Below W8.heap.size W8 w10 := below_on hB9 hb10 (Nat.le_refl _); have hL10 := hcw w10 hB10)
                | (go_at_call 15; refine (Hst.out w10 hB10).mono ?_; rintro e w11 ⟨aoT, capT, rfl, howT, hb11⟩; have hB11 : Below W8.heap.size W8 w11 := below_on hB10 hb11 (Nat.le_refl _); have hL11 := hcw w11 hB11)
                | (go_at_call 24; refine (Hsm.out w11 hB11 aoT capT (Ns.of_own howT)).mono ?_; rintro e w12 ⟨rfl, hb12⟩; have hB12 : Below W8.heap.size W8 w12 := below_on hB11 hb12 (Nat.le_refl _); have hL12 := hcw w12 hB12)
                | (go_at_call 20; refine (Hsd.out w12 hB12).mono ?_; rintro e w13 ⟨rfl, hb13⟩; have hB13 : Below W8.heap.size W8 w13 := below_on hB12 hb13 (Nat.le_refl _); have hL13 := hcw w13 hB13))
            all_goals
              clear hL9 hL10 hL11 hL12 hL13
              go_wp2_with fail
              go_roundw
              case rel => exact ⟨i + 1, last2, l2, v2, (some ⟨gr, fr, none⟩), cap2', by simp, by omega, (hB13.block _ (Array.getElem?_eq_some_iff.1 m8).1).trans m8, hbx8.below hB13, hn8.below hB13, hf2, HS2, h02, below_on hB8 hB13 (Nat.le_refl _)⟩
              case measure => simp [intOf]; omega
          · have hge := fun W h => get_no (W := W) (base := B) (b := b) (last := last2) (v := v2) (l := l2) id hl2 h hp
            have hfi := fun W hs => find_any last2 id ao2' cap2' l2 W hs hl2
            rw [find_none' hp] at hfi
            unfold noVal noZ at hge
            simp only at hge
            have Hfi := Lib.hid hfi
            have Hge := Lib.hid hge
            clear hfi hge hp
            refine (Hge.out W5 hb5).mono ?_
            rintro e W6 ⟨rfl, hb6⟩
            have hbx6 := hb5.below hb6
            have hn6 := hn5.below hb6
            have o6 := (hb6.block _ (Array.getElem?_eq_some_iff.1 o5).1).trans o5
            have m6 := (hb6.block _ (Array.getElem?_eq_some_iff.1 m5).1).trans m5
            have hB6 := below_on hB5 hb6 (Nat.le_refl _)
            clear hb5 hn5 o5 m5 hB5 hb6
            obtain ⟨c0, c1, c2, c3, c4, c5, c6, c7, c8, c9, c10⟩ := blk11 o6
            obtain ⟨p0, p1⟩ := two_cells m6
            have q0 := (Array.getElem?_eq_some_iff.1 o6).1
            have q1 := (Array.getElem?_eq_some_iff.1 m6).1
            go_wp2_with fail
            obtain ⟨W7, hW7⟩ : ∃ W7, W7 = W6.alloc (.cells #[.int .u64 0, .int .u64 0, .int .i64 0, .int .i64 0, .int .i64 0, .int .i64 0, .int .i64 0, .int .i64 0, .int .i64 0] 24) := ⟨_, rfl⟩
            have hba7 : Below W6.heap.size W6 W7 := by rw [hW7]; exact below_new _ _
            rw [← hW7]
            clear hW7 c0 c1 c2 c3 c4 c5 c6 c7 c8 c9 c10 p0 p1 o6 q0
            have m7 := (hba7.block _ q1).trans m6
            refine (Hfi.out W7 (hn6.below hba7)).mono ?_
            rintro e W8 ⟨rfl, hb8⟩
            have hb78 := below_on hba7 hb8 (Nat.le_refl _)
            have hbx8 := hbx6.below hb78
            have hn8 := hn6.below hb78
            have hB8 := below_on hB6 hb78 (Nat.le_refl _)
            have m8 := (hb8.block _ (Array.getElem?_eq_some_iff.1 m7).1).trans m7
            clear hb78 hba7 hb8 m7 hbx6 hn6 m6 hB6 q1
            have hwt := fun (W : World) (hw : Below W8.heap.size W8 W) => waiting_bx hl2 (hbx8.below hw)
            have hct := fun (W : World) (hw : Below W8.heap.size W8 W) => count_any last2 ao2' cap2' l2 W (hn8.below hw) hl2
            obtain ⟨N, hN⟩ : ∃ N, N = (l2.filter waitsB).length := ⟨_, rfl⟩
            simp only [← hN] at hwt hct
            have hst := fun (W : World) (hw : Below W8.heap.size W8 W) => state_bx hl2 (hbx8.below hw)
            have hsm := fun (W : World) (hw : Below W8.heap.size W8 W) (aoT : Option Addr) (capT : Nat) (h : Ns W aoT capT l2) => refSame_any last2 last2 aoT ao2' capT cap2' l2 l2 W h (hn8.below hw) hl2 hl2
            have hsd := fun (W : World) (hw : Below W8.heap.size W8 W) => refSound_any last2 ao2' cap2' l2 W (hn8.below hw) hl2
            simp only [decide_true, Bool.and_true] at hsm
            simp only [HS2.out] at hsd
            unfold Told at hst
            have Hwt := Lib.hid hwt
            have Hct := Lib.hid hct
            have Hst := Lib.hid hst
            have Hsm := Lib.hid hsm
            have Hsd := Lib.hid hsd
            clear hwt hct hst hsm hsd hN
            have hd8 : Below W8.heap.size W8 W8.drew := (Below.refl _ _).drew
            obtain ⟨p0, p1⟩ := two_cells m8
            have hcw : ∀ W' : World, Below W8.heap.size W8 W' → (W'.cell? ⟨R, 0, none⟩ = some (.int .u64 last2) ∧ W'.cell? ⟨R, 1, none⟩ = some (.slice ao2' l2.length cap2')) := by
              intro W' hw
              have key : ∀ {a : Addr} {u : Value}, W8.cell? a = some u → W'.cell? a = some u := fun {a u} h => (hw.cell (cell?_lt h)).trans h
              exact ⟨key p0, key p1⟩
            go_upto_region 16 with fail
            refine wp_region_held_drew (S := fun W' => (W'.cell? ⟨R, 0, none⟩ = some (.int .u64 last2) ∧ W'.cell? ⟨R, 1, none⟩ = some (.slice ao2' l2.length cap2'))) (by kernel_rfl) (hcw _ hd8) (fun hHeld => ?_)
            refine wpAnyH_take (i := 0) (v := ?_) rfl (by kernel_rfl) (by kernel_rfl) (by kernel_rfl) (fun _ _ _ h => h) (Or.inl ⟨by rfl, ?_⟩) (by assumption) ?_
            rotate_left
            · intro w hSw; (try dsimp only at hSw); go_simp; (try with_reducible rfl)
            try simp only [Act.put, List.getElem_toArray, List.getElem_cons_zero, List.getElem_cons_succ, List.setIfInBounds_toArray, List.set_cons_zero, List.set_cons_succ]
            refine wpAnyH_take (i := 1) (v := ?_) rfl (by kernel_rfl) (by kernel_rfl) (by kernel_rfl) (fun _ _ _ h => h) (Or.inl ⟨by rfl, ?_⟩) (by assumption) ?_
            rotate_left
            · intro w hSw; (try dsimp only at hSw); go_simp; (try with_reducible rfl)
            try simp only [Act.put, List.getElem_toArray, List.getElem_cons_zero, List.getElem_cons_succ, List.setIfInBounds_toArray, List.set_cons_zero, List.set_cons_succ]
            refine wpAnyH_take (i := 2) (v := ?_) rfl (by kernel_rfl) (by kernel_rfl) (by kernel_rfl) (fun _ _ _ h => h) (Or.inl ⟨by rfl, ?_⟩) (by assumption) ?_
            rotate_left
            · intro w hSw; (try dsimp only at hSw); go_simp; (try with_reducible rfl)
            try simp only [Act.put, List.getElem_toArray, List.getElem_cons_zero, List.getElem_cons_succ, List.setIfInBounds_toArray, List.set_cons_zero, List.set_cons_succ]
            refine wpAnyH_take (i := 3) (v := ?_) rfl (by kernel_rfl) (by kernel_rfl) (by kernel_rfl) (fun _ _ _ h => h) (Or.inl ⟨by rfl, ?_⟩) (by assumption) ?_
            rotate_left
            · intro w hSw; (try dsimp only at hSw); go_simp; (try with_reducible rfl)
            try simp only [Act.put, List.getElem_toArray, List.getElem_cons_zero, List.getElem_cons_succ, List.setIfInBounds_toArray, List.set_cons_zero, List.set_cons_succ]
            refine wpAnyH_take (i := 4) (v := ?_) rfl (by kernel_rfl) (by kernel_rfl) (by kernel_rfl) (fun _ _ _ h => h) (Or.inl ⟨by rfl, ?_⟩) (by assumption) ?_
            rotate_left
            · intro w hSw; (try dsimp only at hSw); go_simp; (try with_reducible rfl)
            try simp only [Act.put, List.getElem_toArray, List.getElem_cons_zero, List.getElem_cons_succ, List.setIfInBounds_toArray, List.set_cons_zero, List.set_cons_succ]
            refine wpAnyH_take (i := 5) (v := ?_) rfl (by kernel_rfl) (by kernel_rfl) (by kernel_rfl) (fun _ _ _ h => h) (Or.inl ⟨by rfl, ?_⟩) (by assumption) ?_
            rotate_left
            · intro w hSw; (try dsimp only at hSw); go_simp; (try with_reducible rfl)
            try simp only [Act.put, List.getElem_toArray, List.getElem_cons_zero, List.getElem_cons_succ, List.setIfInBounds_toArray, List.set_cons_zero, List.set_cons_succ]
            refine wpAnyH_take (i := 6) (v := ?_) rfl (by kernel_rfl) (by kernel_rfl) (by kernel_rfl) (fun _ _ _ h => h) (Or.inl ⟨by rfl, ?_⟩) (by assumption) ?_
            rotate_left
            · intro w hSw; (try dsimp only at hSw); go_simp; (try with_reducible rfl)
            try simp only [Act.put, List.getElem_toArray, List.getElem_cons_zero, List.getElem_cons_succ, List.setIfInBounds_toArray, List.set_cons_zero, List.set_cons_succ]
            refine wpAnyH_take (i := 7) (v := ?_) rfl (by kernel_rfl) (by kernel_rfl) (by kernel_rfl) (fun _ _ _ h => h) (Or.inl ⟨by rfl, ?_⟩) (by assumption) ?_
            rotate_left
            · intro w hSw; (try dsimp only at hSw); go_simp; (try with_reducible rfl)
            try simp only [Act.put, List.getElem_toArray, List.getElem_cons_zero, List.getElem_cons_succ, List.setIfInBounds_toArray, List.set_cons_zero, List.set_cons_succ]
            refine wpAnyH_take (i := 8) (v := ?_) rfl (by kernel_rfl) (by kernel_rfl) (by kernel_rfl) (fun _ _ _ h => h) (Or.inl ⟨by rfl, ?_⟩) (by assumption) ?_
            rotate_left
            · intro w hSw; (try dsimp only at hSw); go_simp; (try with_reducible rfl)
            try simp only [Act.put, List.getElem_toArray, List.getElem_cons_zero, List.getElem_cons_succ, List.setIfInBounds_toArray, List.set_cons_zero, List.set_cons_succ]
            refine wpAnyH_take (i := 9) (v := ?_) rfl (by kernel_rfl) (by kernel_rfl) (by kernel_rfl) (fun _ _ _ h => h) (Or.inl ⟨by rfl, ?_⟩) (by assumption) ?_
            rotate_left
            · intro w hSw; (try dsimp only at hSw); go_simp; (try with_reducible rfl)
            try simp only [Act.put, List.getElem_toArray, List.getElem_cons_zero, List.getElem_cons_succ, List.setIfInBounds_toArray, List.set_cons_zero, List.set_cons_succ]
            refine wpAnyH_take (i := 10) (v := ?_) rfl (by kernel_rfl) (by kernel_rfl) (by kernel_rfl) (fun _ _ _ h => h) (Or.inl ⟨by rfl, ?_⟩) (by assumption) ?_
            rotate_left
            · intro w hSw; (try dsimp only at hSw); go_simp; (try with_reducible rfl)
            try simp only [Act.put, List.getElem_toArray, List.getElem_cons_zero, List.getElem_cons_succ, List.setIfInBounds_toArray, List.set_cons_zero, List.set_cons_succ]
            refine wpAnyH_take (i := 11) rfl (by kernel_rfl) (by kernel_rfl) (by kernel_rfl) (fun _ _ _ h => h) (Or.inr ⟨by rfl, rfl⟩) (by assumption) ?_
            try simp only [Act.put, List.getElem_toArray, List.getElem_cons_zero, List.getElem_cons_succ, List.setIfInBounds_toArray, List.set_cons_zero, List.set_cons_succ]
            refine wpAnyH_take (i := 12) rfl (by kernel_rfl) (by kernel_rfl) (by kernel_rfl) (fun _ _ _ h => h) (Or.inr ⟨by rfl, rfl⟩) (by assumption) ?_
            try simp only [Act.put, List.getElem_toArray, List.getElem_cons_zero, List.getElem_cons_succ, List.setIfInBounds_toArray, List.set_cons_zero, List.set_cons_succ]
            refine wpAnyH_take (i := 13) rfl (by kernel_rfl) (by kernel_rfl) (by kernel_rfl) (fun _ _ _ h => h) (Or.inr ⟨by rfl, rfl⟩) (by assumption) ?_
            try simp only [Act.put, List.getElem_toArray, List.getElem_cons_zero, List.getElem_cons_succ, List.setIfInBounds_toArray, List.set_cons_zero, List.set_cons_succ]
            refine wpAnyH_take (i := 14) rfl (by kernel_rfl) (by kernel_rfl) (by kernel_rfl) (fun _ _ _ h => h) (Or.inr ⟨by rfl, rfl⟩) (by assumption) ?_
            try simp only [Act.put, List.getElem_toArray, List.getElem_cons_zero, List.getElem_cons_succ, List.setIfInBounds_toArray, List.set_cons_zero, List.set_cons_succ]
            refine wpAnyH_take (i := 15) rfl (by kernel_rfl) (by kernel_rfl) (by kernel_rfl) (fun _ _ _ h => h) (Or.inr ⟨by rfl, rfl⟩) (by assumption) ?_
            try simp only [Act.put, List.getElem_toArray, List.getElem_cons_zero, List.getElem_cons_succ, List.setIfInBounds_toArray, List.set_cons_zero, List.set_cons_succ]
            refine wpAnyH_take (i := 16) rfl (by kernel_rfl) (by kernel_rfl) (by kernel_rfl) (fun _ _ _ h => h) (Or.inr ⟨by rfl, rfl⟩) (by assumption) ?_
            try simp only [Act.put, List.getElem_toArray, List.getElem_cons_zero, List.getElem_cons_succ, List.setIfInBounds_toArray, List.set_cons_zero, List.set_cons_succ]
            refine wpAnyH_take (i := 17) rfl (by kernel_rfl) (by kernel_rfl) (by kernel_rfl) (fun _ _ _ h => h) (Or.inr ⟨by rfl, rfl⟩) (by assumption) ?_
            try simp only [Act.put, List.getElem_toArray, List.getElem_cons_zero, List.getElem_cons_succ, List.setIfInBounds_toArray, List.set_cons_zero, List.set_cons_succ]
            refine wpAnyH_take (i := 18) (v := ?_) rfl (by kernel_rfl) (by kernel_rfl) (by kernel_rfl) (fun _ _ _ h => h) (Or.inl ⟨by rfl, ?_⟩) (by assumption) ?_
            rotate_left
            · intro w hSw; (try dsimp only at hSw); go_simp; (try with_reducible rfl)
            try simp only [Act.put, List.getElem_toArray, List.getElem_cons_zero, List.getElem_cons_succ, List.setIfInBounds_toArray, List.set_cons_zero, List.set_cons_succ]
            refine wpAnyH_take (i := 19) (v := ?_) rfl (by kernel_rfl) (by kernel_rfl) (by kernel_rfl) (fun _ _ _ h => h) (Or.inl ⟨by rfl, ?_⟩) (by assumption) ?_
            rotate_left
            · intro w hSw; (try dsimp only at hSw); go_simp; (try with_reducible rfl)
            try simp only [Act.put, List.getElem_toArray, List.getElem_cons_zero, List.getElem_cons_succ, List.setIfInBounds_toArray, List.set_cons_zero, List.set_cons_succ]
            refine wpAnyH_take (i := 20) (v := ?_) rfl (by kernel_rfl) (by kernel_rfl) (by kernel_rfl) (fun _ _ _ h => h) (Or.inl ⟨by rfl, ?_⟩) (by assumption) ?_
            rotate_left
            · intro w hSw; (try dsimp only at hSw); go_simp; (try with_reducible rfl)
            try simp only [Act.put, List.getElem_toArray, List.getElem_cons_zero, List.getElem_cons_succ, List.setIfInBounds_toArray, List.set_cons_zero, List.set_cons_succ]
            refine wpAnyH_take (i := 21) (v := ?_) rfl (by kernel_rfl) (by kernel_rfl) (by kernel_rfl) (fun _ _ _ h => h) (Or.inl ⟨by rfl, ?_⟩) (by assumption) ?_
            rotate_left
            · intro w hSw; (try dsimp only at hSw); go_simp; (try with_reducible rfl)
            try simp only [Act.put, List.getElem_toArray, List.getElem_cons_zero, List.getElem_cons_succ, List.setIfInBounds_toArray, List.set_cons_zero, List.set_cons_succ]
            refine wpAnyH_take (i := 23) (v := ?_) rfl (by kernel_rfl) (by kernel_rfl) (by kernel_rfl) (fun _ _ _ h => h) (Or.inl ⟨by rfl, ?_⟩) (by assumption) ?_
            rotate_left
            · intro w hSw; (try dsimp only at hSw); go_simp; (try with_reducible rfl)
            try simp only [Act.put, List.getElem_toArray, List.getElem_cons_zero, List.getElem_cons_succ, List.setIfInBounds_toArray, List.set_cons_zero, List.set_cons_succ]
            refine wpAnyH_ready (rs := [22]) (by kernel_rfl) (by simp) ?_
            refine AllReadyH.cons rfl (fun K hK => ?_) AllReadyH.nil
            go_simp
            go_at_call 14
            refine (Hwt.out W8.drew hd8).mono ?_
            rintro e w9 ⟨rfl, hb9⟩; have hB9 : Below W8.heap.size W8 w9 := below_on hd8 hb9 (Nat.le_refl _)
            refine hK.out _ _ (hcw w9 hB9) (fun hHeld => ?_)
            clear hK K
            try simp only [Act.put, List.getElem_toArray, List.getElem_cons_zero, List.getElem_cons_succ, List.setIfInBounds_toArray, List.set_cons_zero, List.set_cons_succ]
            refine wpAnyH_ready (rs := [24]) (by kernel_rfl) (by simp) ?_
            refine AllReadyH.cons rfl (fun K hK => ?_) AllReadyH.nil
            go_simp
            go_at_call 23
            refine (Hct.out w9 hB9).mono ?_
            rintro e w10 ⟨rfl, hb10⟩; have hB10 : Below W8.heap.size W8 w10 := below_on hB9 hb10 (Nat.le_refl _)
            refine hK.out _ _ (hcw w10 hB10) (fun hHeld => ?_)
            clear hK K
            try simp only [Act.put, List.getElem_toArray, List.getElem_cons_zero, List.getElem_cons_succ, List.setIfInBounds_toArray, List.set_cons_zero, List.set_cons_succ]
            refine wpAnyH_take (i := 25) (v := ?_) rfl (by kernel_rfl) (by kernel_rfl) (by kernel_rfl) (fun _ _ _ h => h) (Or.inl ⟨by rfl, ?_⟩) (by assumption) ?_
            rotate_left
            · intro w hSw; (try dsimp only at hSw); go_simp; (try with_reducible rfl)
            try simp only [Act.put, List.getElem_toArray, List.getElem_cons_zero, List.getElem_cons_succ, List.setIfInBounds_toArray, List.set_cons_zero, List.set_cons_succ]
            refine wpAnyH_take (i := 26) (v := ?_) rfl (by kernel_rfl) (by kernel_rfl) (by kernel_rfl) (fun _ _ _ h => h) (Or.inl ⟨by rfl, ?_⟩) (by assumption) ?_
            rotate_left
            · intro w hSw; (try dsimp only at hSw); go_simp; (try with_reducible rfl)
            try simp only [Act.put, List.getElem_toArray, List.getElem_cons_zero, List.getElem_cons_succ, List.setIfInBounds_toArray, List.set_cons_zero, List.set_cons_succ]
            refine wpAnyH_take (i := 27) (v := ?_) rfl (by kernel_rfl) (by kernel_rfl) (by kernel_rfl) (fun _ _ _ h => h) (Or.inl ⟨by rfl, ?_⟩) (by assumption) ?_
            rotate_left
            · intro w hSw; (try dsimp only at hSw); go_simp; (try with_reducible rfl)
            try simp only [Act.put, List.getElem_toArray, List.getElem_cons_zero, List.getElem_cons_succ, List.setIfInBounds_toArray, List.set_cons_zero, List.set_cons_succ]
            refine wpAnyH_take (i := 28) (v := ?_) rfl (by kernel_rfl) (by kernel_rfl) (by kernel_rfl) (fun _ _ _ h => h) (Or.inl ⟨by rfl, ?_⟩) (by assumption) ?_
            rotate_left
            · intro w hSw; (try dsimp only at hSw); go_simp; (try with_reducible rfl)
            try simp only [Act.put, List.getElem_toArray, List.getElem_cons_zero, List.getElem_cons_succ, List.setIfInBounds_toArray, List.set_cons_zero, List.set_cons_succ]
            refine wpAnyH_take (i := 30) (v := ?_) rfl (by kernel_rfl) (by kernel_rfl) (by kernel_rfl) (fun _ _ _ h => h) (Or.inl ⟨by rfl, ?_⟩) (by assumption) ?_
            rotate_left
            · intro w hSw; (try dsimp only at hSw); go_simp; (try with_reducible rfl)
            try simp only [Act.put, List.getElem_toArray, List.getElem_cons_zero, List.getElem_cons_succ, List.setIfInBounds_toArray, List.set_cons_zero, List.set_cons_succ]
            refine wpAnyH_ready (rs := [29]) (by kernel_rfl) (by simp) ?_
            refine AllReadyH.cons rfl (fun K hK => ?_) AllReadyH.nil
            go_simp
            go_at_call 15
            refine (Hst.out w10 hB10).mono ?_
            rintro e w11 ⟨aoT, capT, rfl, howT, hb11⟩; have hB11 : Below W8.heap.size W8 w11 := below_on hB10 hb11 (Nat.le_refl _)
            refine hK.out _ _ (hcw w11 hB11) (fun hHeld => ?_)
            clear hK K
            try simp only [Act.put, List.getElem_toArray, List.getElem_cons_zero, List.getElem_cons_succ, List.setIfInBounds_toArray, List.set_cons_zero, List.set_cons_succ]
            refine wpAnyH_ready (rs := [31]) (by kernel_rfl) (by simp) ?_
            refine AllReadyH.cons rfl (fun K hK => ?_) AllReadyH.nil
            go_simp
            go_at_call 24
            refine (Hsm.out w11 hB11 aoT capT (Ns.of_own howT)).mono ?_
            rintro e w12 ⟨rfl, hb12⟩; have hB12 : Below W8.heap.size W8 w12 := below_on hB11 hb12 (Nat.le_refl _)
            refine hK.out _ _ (hcw w12 hB12) (fun hHeld => ?_)
            clear hK K
            try simp only [Act.put, List.getElem_toArray, List.getElem_cons_zero, List.getElem_cons_succ, List.setIfInBounds_toArray, List.set_cons_zero, List.set_cons_succ]
            refine wpAnyH_take (i := 32) (v := ?_) rfl (by kernel_rfl) (by kernel_rfl) (by kernel_rfl) (fun _ _ _ h => h) (Or.inl ⟨by rfl, ?_⟩) (by assumption) ?_
            rotate_left
            · intro w hSw; (try dsimp only at hSw); go_simp; (try with_reducible rfl)
            try simp only [Act.put, List.getElem_toArray, List.getElem_cons_zero, List.getElem_cons_succ, List.setIfInBounds_toArray, List.set_cons_zero, List.set_cons_succ]
            refine wpAnyH_take (i := 33) (v := ?_) rfl (by kernel_rfl) (by kernel_rfl) (by kernel_rfl) (fun _ _ _ h => h) (Or.inl ⟨by rfl, ?_⟩) (by assumption) ?_
            rotate_left
            · intro w hSw; (try dsimp only at hSw); go_simp; (try with_reducible rfl)
            try simp only [Act.put, List.getElem_toArray, List.getElem_cons_zero, List.getElem_cons_succ, List.setIfInBounds_toArray, List.set_cons_zero, List.set_cons_succ]
            refine wpAnyH_take (i := 34) (v := ?_) rfl (by kernel_rfl) (by kernel_rfl) (by kernel_rfl) (fun _ _ _ h => h) (Or.inl ⟨by rfl, ?_⟩) (by assumption) ?_
            rotate_left
            · intro w hSw; (try dsimp only at hSw); go_simp; (try with_reducible rfl)
            try simp only [Act.put, List.getElem_toArray, List.getElem_cons_zero, List.getElem_cons_succ, List.setIfInBounds_toArray, List.set_cons_zero, List.set_cons_succ]
            refine wpAnyH_take (i := 35) (v := ?_) rfl (by kernel_rfl) (by kernel_rfl) (by kernel_rfl) (fun _ _ _ h => h) (Or.inl ⟨by rfl, ?_⟩) (by assumption) ?_
            rotate_left
            · intro w hSw; (try dsimp only at hSw); go_simp; (try with_reducible rfl)
            try simp only [Act.put, List.getElem_toArray, List.getElem_cons_zero, List.getElem_cons_succ, List.setIfInBounds_toArray, List.set_cons_zero, List.set_cons_succ]
            refine wpAnyH_ready (rs := [36]) (by kernel_rfl) (by simp) ?_
            refine AllReadyH.cons rfl (fun K hK => ?_) AllReadyH.nil
            go_simp
            go_at_call 20
            refine (Hsd.out w12 hB12).mono ?_
            rintro e w13 ⟨rfl, hb13⟩; have hB13 : Below W8.heap.size W8 w13 := below_on hB12 hb13 (Nat.le_refl _)
            refine hK.out _ _ (hcw w13 hB13) (fun hHeld => ?_)
            clear hK K
            try simp only [Act.put, List.getElem_toArray, List.getElem_cons_zero, List.getElem_cons_succ, List.setIfInBounds_toArray, List.set_cons_zero, List.set_cons_succ]
            refine wpAnyH_take (i := 37) (v := ?_) rfl (by kernel_rfl) (by kernel_rfl) (by kernel_rfl) (fun _ _ _ h => h) (Or.inl ⟨by rfl, ?_⟩) (by assumption) ?_
            rotate_left
            · intro w hSw; (try dsimp only at hSw); go_simp; (try with_reducible rfl)
            try simp only [Act.put, List.getElem_toArray, List.getElem_cons_zero, List.getElem_cons_succ, List.setIfInBounds_toArray, List.set_cons_zero, List.set_cons_succ]
            refine wpAnyH_take (i := 38) (v := ?_) rfl (by kernel_rfl) (by kernel_rfl) (by kernel_rfl) (fun _ _ _ h => h) (Or.inl ⟨by rfl, ?_⟩) (by assumption) ?_
            rotate_left
            · intro w hSw; (try dsimp only at hSw); go_simp; (try with_reducible rfl)
            try simp only [Act.put, List.getElem_toArray, List.getElem_cons_zero, List.getElem_cons_succ, List.setIfInBounds_toArray, List.set_cons_zero, List.set_cons_succ]
            refine wpAnyH_done (by kernel_rfl) ?_ _
            all_goals
              skip
              go_wp2_with fail
              go_roundw
              case rel => exact ⟨i + 1, last2, l2, v2, ao2', cap2', by simp, by omega, (hB13.block _ (Array.getElem?_eq_some_iff.1 m8).1).trans m8, hbx8.below hB13, hn8.below hB13, hf2, HS2, h02, below_on hB8 hB13 (Nat.le_refl _)⟩
              case measure => simp [intOf]; omega
        · have hi' : i = ops.length := by omega
          subst hi'
          go_wp2_with fail
          refine (lives17_any _).mono ?_
          rintro e w5 ⟨rfl, hb5⟩
          go_wp2_with fail
          go_ret
          exact ⟨rfl, below_on hB1 hb5 (Nat.le_refl _)⟩
  · by_cases hc1 : l.length ≤ 200
    · have hd : decide ((l.length : Int) ≤ 200) = true := by simp; omega
      rw [hd] at hlight
      have hc2 : (100 : Int) < (ops.length : Int) := by omega
      have Hli := Lib.hid hlight
      clear hlight hd hc
      go_enter Try.func5, Try.ntmps5
      go_wp2_with fail
      refine (Hli.out _).mono ?_
      rintro e w1 ⟨rfl, hb1⟩
      have hB1 := below_on (below_new w _) hb1 (Nat.le_refl _)
      go_wp2_with fail
      refine (lives17_any _).mono ?_
      rintro e w4 ⟨rfl, hb4⟩
      go_wp2_with fail
      go_ret
      exact ⟨rfl, below_on hB1 hb4 (Nat.le_refl _)⟩
    · have hd : decide ((l.length : Int) ≤ 200) = false := by simp; omega
      rw [hd] at hlight
      have Hli := Lib.hid hlight
      clear hlight hd hc
      go_enter Try.func5, Try.ntmps5
      go_wp2_with fail
      refine (Hli.out _).mono ?_
      rintro e w1 ⟨rfl, hb1⟩
      have hB1 := below_on (below_new w _) hb1 (Nat.le_refl _)
      go_wp2_with fail
      refine (lives17_any _).mono ?_
      rintro e w4 ⟨rfl, hb4⟩
      go_wp2_with fail
      go_ret
      exact ⟨rfl, below_on hB1 hb4 (Nat.le_refl _)⟩
end Go.Proofs.Ytdcinhnplcipoaa
