/- OutboxApart: the walk. No statement of the seat is proved here. -/
import Derived.Test.YtdcinhnplcipoaaObFr
namespace Go.Proofs.Ytdcinhnplcipoaa
set_option linter.unusedVariables false
set_option linter.unusedSimpArgs false
set_option linter.unusedSectionVars false
open Go Go.RowKit Go.Shelf

set_option maxRecDepth 100000 in
set_option maxHeartbeats 20000000 in
theorem outboxApart_walk (last : Int) (ao : Option Addr) (cap : Nat) (l : List No) (ao2 : Option Addr) (cap2 : Nat) (ops : List Opn) (o : Opn) (w : World) (hns : Ns w ao cap l) (h0 : 0 ≤ last) (hops : Ops w ao2 cap2 ops) :
    Calls Try.prog 6 #[.agg #[.int .u64 last, .slice ao l.length cap], .slice ao2 ops.length cap2, opVal o] w fun e w' => e = .returned (.bool true) ∧ Below w.heap.size w w' := by
  have hlight := fun W => light_any last ao l.length cap W
  obtain ⟨ok, ⟨oid, otk, olv, opt, ost, otr, ort, owt, onx⟩, oat⟩ := o
  by_cases hc : l.length ≤ 200 ∧ ops.length ≤ 60
  · obtain ⟨hc1, hc2⟩ := hc
    have hd : decide ((l.length : Int) ≤ 200) = true := by simp; omega
    rw [hd] at hlight
    have hl : l.length ≤ 1000000 := by omega
    have hc3 : ¬ (60 : Int) < (ops.length : Int) := by omega
    have Hli := Lib.hid hlight
    clear hlight hd
    have hlo := fun W hs => load_ok last ao cap l W hs hl
    have hso := fun W hs => refSound_any last ao cap l W hs hl
    cases hS : soundS last l with
    | false =>
      rw [hS] at hso
      have Hso := Lib.hid hso
      clear hlo hso hS
      unfold opVal
      simp only
      go_enter Try.func6, Try.ntmps6
      go_wp2_with fail
      obtain ⟨W1, hW1⟩ : ∃ W1, W1 = ((w.alloc (.cells #[.int .u64 last, .slice ao l.length cap] 44)).alloc (.cells #[.int .i64 ok, .int .u64 oid, .int .u64 otk, .int .i64 olv, .int .i64 opt, .int .i64 ost, .int .i64 otr, .int .i64 ort, .int .i64 owt, .int .i64 onx, .int .i64 oat] 41)) := ⟨_, rfl⟩
      obtain ⟨k0, k1, kz, hB1⟩ := news2 hW1
      rw [← hW1]
      clear hW1
      refine (Hli.out _).mono ?_
      rintro e w1 ⟨rfl, hb1⟩
      have hB2 := below_on hB1 hb1 (Nat.le_refl _)
      have k0 := (hb1.block _ (by omega)).trans k0
      obtain ⟨p0, p1⟩ := two_cells k0
      go_wp2_with fail
      refine (Hso.out _ (hns.below hB2)).mono ?_
      rintro e w3 ⟨rfl, hb3⟩
      have hB4 := below_on hB2 hb3 (Nat.le_refl _)
      go_wp2_with fail
      refine (lives17_any _).mono ?_
      rintro e w4 ⟨rfl, hb4⟩
      go_wp2_with fail
      go_ret
      exact ⟨rfl, below_on hB4 hb4 (Nat.le_refl _)⟩
    | true =>
      rw [hS] at hso
      have Hlo := Lib.hid (fun W hs => hlo W hs hS)
      have Hso := Lib.hid hso
      have HS := Lib.hid hS
      clear hlo hso hS
      have htw := fun (W : World) (B b : Nat) (v : Value) (h : Bx W B b last v l) => twin_bx hl h
      have Htw := Lib.hid htw
      clear htw
      have hdo := fun (W : World) (B b : Nat) (v : Value) (h : Bx W B b last v l) (hn : Ns W ao cap l) (hf : Far v ao l) => do_any ao cap ⟨ok, ⟨oid, otk, olv, opt, ost, otr, ort, owt, onx⟩, oat⟩ h hn hf HS.out h0
      have hsd := sound_doL ⟨ok, ⟨oid, otk, olv, opt, ost, otr, ort, owt, onx⟩, oat⟩ h0 HS.out
      obtain ⟨P, hP⟩ : ∃ P, P = doL last l ⟨ok, ⟨oid, otk, olv, opt, ost, otr, ort, owt, onx⟩, oat⟩ := ⟨_, rfl⟩
      simp only [← hP] at hdo hsd
      clear hP
      obtain ⟨last2, l2⟩ := P
      unfold opVal at hdo ⊢
      simp only at hdo hsd ⊢
      obtain ⟨h02, hS2⟩ := hsd
      have HS2 := Lib.hid hS2
      have Hdo := Lib.hid hdo
      clear hdo hS2
      go_enter Try.func6, Try.ntmps6
      go_wp2_with fail
      obtain ⟨W1, hW1⟩ : ∃ W1, W1 = ((w.alloc (.cells #[.int .u64 last, .slice ao l.length cap] 44)).alloc (.cells #[.int .i64 ok, .int .u64 oid, .int .u64 otk, .int .i64 olv, .int .i64 opt, .int .i64 ost, .int .i64 otr, .int .i64 ort, .int .i64 owt, .int .i64 onx, .int .i64 oat] 41)) := ⟨_, rfl⟩
      obtain ⟨k0, k1, kz, hB1⟩ := news2 hW1
      rw [← hW1]
      clear hW1
      refine (Hli.out _).mono ?_
      rintro e w1 ⟨rfl, hb1⟩
      have hB2 := below_on hB1 hb1 (Nat.le_refl _)
      have k0 := (hb1.block _ (by omega)).trans k0
      have k1 := (hb1.block _ (by omega)).trans k1
      have kz1 := hb1.size
      obtain ⟨p0, p1⟩ := two_cells k0
      go_wp2_with fail
      refine (Hso.out _ (hns.below hB2)).mono ?_
      rintro e w2 ⟨rfl, hb2⟩
      have hB3 := below_on hB2 hb2 (Nat.le_refl _)
      have k0 := (hb2.block _ (by omega)).trans k0
      have k1 := (hb2.block _ (by omega)).trans k1
      have kz2 := hb2.size
      clear p0 p1 hb1 hb2 hB1 hB2
      obtain ⟨p0, p1⟩ := two_cells k0
      go_wp2_with fail
      refine (Hlo.out _ (hns.below hB3)).mono ?_
      rintro e w3 ⟨b, v, rfl, hbx, hb3⟩
      have k0 := (hb3.block _ (by omega)).trans k0
      have k1 := (hb3.block _ (by omega)).trans k1
      obtain ⟨B, hBd⟩ : ∃ B, B = w2.heap.size := ⟨_, rfl⟩
      rw [← hBd] at hbx
      have hBle := hbx.le
      have hz1 : w.heap.size + 2 ≤ B := by omega
      have hfar : Far v ao l := by
        intro h0 a ha e
        have h1 := (hbx.own.lt _ e).1
        obtain ⟨T, hT, -⟩ := hns.typ a.block a.off a.spot ha h0
        have := elem?_lt hT
        omega
      have hB4 := below_on hB3 hb3 (Nat.le_refl _)
      have kz3 := hb3.size
      clear p0 p1 hb3 hB3
      obtain ⟨p0, p1⟩ := two_cells k0
      go_wp2_with fail
      refine (Htw.out _ _ _ _ hbx).mono ?_
      rintro e w4 ⟨c, vc, rfl, ⟨Bc, hcx, hcC⟩, hb4, hvc⟩
      have hbz := (Array.getElem?_eq_some_iff.1 hbx.blk).1
      have hvz := hbx.own.lt
      have hcz := (Array.getElem?_eq_some_iff.1 hcx.blk).1
      have hvcz := hcx.own.lt
      have k0 := (hb4.block _ (by omega)).trans k0
      have k1 := (hb4.block _ (by omega)).trans k1
      have hbx4 := hbx.below hb4
      have hns4 := (hns.below hB4).below hb4
      have hB5 := below_on hB4 hb4 (Nat.le_refl _)
      have kz4 := hb4.size
      obtain ⟨C, hC⟩ : ∃ C, C = w3.heap.size := ⟨_, rfl⟩
      rw [← hC] at hcC hvc hbz hvz kz3 kz4
      clear p0 p1 hbx hb4 hB4 hC hBd
      obtain ⟨p0, p1⟩ := two_cells k0
      obtain ⟨c0, c1, c2, c3, c4, c5, c6, c7, c8, c9, c10⟩ := blk11 k1
      go_wp2_with fail
      refine (Hdo.out w4 B b v hbx4 hns4 hfar).mono ?_
      rintro e w5 ⟨v2, ao2', cap2', rfl, hbx5, hnx5, hfx5, hfr, hv2, hao2⟩
      have k0 := hfr.kept k0 (by omega) (fun e => by have := hvz _ e; omega)
      have k1 := hfr.kept k1 (by omega) (fun e => by have := hvz _ e; omega)
      have hcx5 := (Fr3.of2 hfr).bx rfl hcx (by omega) (by omega) (fun e => by have := hvz _ e; omega) (fun e => by have := hvc _ e; omega) (fun e => by have := hvc _ e; omega) (fun k e e2 => by have := hvc _ e; have := hvz _ e2; omega)
      have hny5 : Ns w5 ao cap l := hns4.kept fun k off s e h0 => by
        obtain ⟨T, hT, -⟩ := hns.typ k off s e h0
        have := elem?_lt hT
        exact hfr.block k (by omega) (by omega) (fun e2 => by have := hvz _ e2; omega)
      have hfarc : Far vc ao l := by
        intro h0 a ha e
        have h1 := hvc _ e
        obtain ⟨T, hT, -⟩ := hns.typ a.block a.off a.spot ha h0
        have := elem?_lt hT
        omega
      have hB6 := hbx4.low hfr hB5 (by omega)
      have hx2 : 0 < l2.length → ∀ a, ao2' = some a → vc.ownBlock ≠ some a.block := by
        intro h0 a ha e
        have h3 := hvc _ e
        have h4 := (hvcz _ e).2
        rcases hao2 h0 a ha with ⟨h5, h6⟩ | h5
        · obtain ⟨T, hT, -⟩ := hns.typ a.block a.off a.spot h5 h6
          have := elem?_lt hT
          omega
        · omega
      have hv2c : ∀ k, v2.ownBlock = some k → k < C ∨ w4.heap.size ≤ k := fun k e => (hv2 k e).imp (fun x => (hvz _ x).2) id
      have hsz5 := hfr.size
      have hv2z := hbx5.own.lt
      have hbl : B ≤ b := hBle
      have hw5 : w.heap.size < w5.heap.size := by omega
      clear hfr hbx4 hns4 hcx p0 p1 c0 c1 c2 c3 c4 c5 c6 c7 c8 c9 c10 hao2 hv2 hfx5 hfar hB5
      obtain ⟨p0, p1⟩ := two_cells k0
      go_wp2_with fail
      obtain ⟨W6, hW6⟩ : ∃ W6, W6 = (w5.alloc (.cells #[.int .u64 last2, .slice ao2' l2.length cap2'] 53)).alloc (.cells #[.int .u64 last, .slice ao l.length cap] 53) := ⟨_, rfl⟩
      obtain ⟨m0, m1, mz, hb6⟩ := news2 hW6
      rw [← hW6]
      clear hW6 p0 p1
      have hbx6 := hbx5.below hb6
      have hnx6 := hnx5.below hb6
      have hcx6 := hcx5.below hb6
      have hny6 := hny5.below hb6
      have k1 := (hb6.block _ (by omega)).trans k1
      have hB7 := below_on hB6 hb6 (Nat.le_refl _)
      obtain ⟨X, hX⟩ : ∃ X, X = w5.heap.size := ⟨_, rfl⟩
      rw [← hX] at m0 m1 mz hv2z hsz5 ⊢
      have hY : ∃ Y, Y = X + 1 := ⟨_, rfl⟩
      obtain ⟨Y, hY⟩ := hY
      rw [← hY] at m1 ⊢
      have hXY : X < Y := by omega
      have hYz : Y < W6.heap.size := by omega
      clear hY mz hbx5 hnx5 hcx5 hny5 hb6 hB6 k0 hX
      go_loopw [11, 61] (fun q u wr => ∃ (i : Nat) (last' : Int) (l' : List No) (v' : Value) (ao' : Option Addr) (cap' : Nat), q = .bool true ∧ u = .int .i64 i ∧ i ≤ ops.length ∧ wr.heap[Y]? = some (.cells #[.int .u64 last', .slice ao' l'.length cap'] 53 (0, 0)) ∧ Bx wr Bc c last' v' l' ∧ Ns wr ao' cap' l' ∧ Far v' ao' l' ∧ Hid (soundS last' l' = true) ∧ 0 ≤ last' ∧ Fr3 W6.heap.size c Y vc W6 wr ∧ (∀ k, v'.ownBlock = some k → vc.ownBlock = some k ∨ W6.heap.size ≤ k))
        (fun _ u _ => ops.length - (intOf u).toNat)
      case atStart => exact ⟨0, last, l, vc, ao, cap, rfl, rfl, Nat.zero_le _, m1, hcx6, hny6, hfarc, HS, h0, Fr3.refl _ _ _ _ _, fun k e => .inl e⟩
      case round =>
        obtain ⟨i, last1, l1, v1, ao1, cap1, rfl, rfl, hi, my1, hb1, hn1, hf1, hS1, h01, hF1, hv1⟩ := hrel
        have hB1 : Below w.heap.size w wr := hF1.below_of hB7 (by omega) (by omega) (by omega) (fun k e => by have := hvc _ e; omega)
        have hsz1 := hF1.size
        by_cases hlt : i < ops.length
        · clear Hli Hlo Hso Htw Hdo hbx6 hnx6 hcx6 hny6 m0 m1 hfarc HS HS2 hns
          obtain ⟨bo, off, rfl, c0, c1, c2, c3, c4, c5, c6, c7, c8, c9, c10⟩ := (hops.below hB1).get11 i hlt
          have hdo := fun (W : World) (hb : Below wr.heap.size wr W) => do_any ao1 cap1 ops[i] (hb1.below hb) (hn1.below hb) hf1 hS1.out h01
          have hsd := sound_doL ops[i] h01 hS1.out
          obtain ⟨P, hP⟩ : ∃ P, P = doL last1 l1 ops[i] := ⟨_, rfl⟩
          simp only [← hP] at hdo hsd
          clear hP
          obtain ⟨o, ho⟩ : ∃ o, o = ops[i] := ⟨_, rfl⟩
          simp only [← ho] at c0 c1 c2 c3 c4 c5 c6 c7 c8 c9 c10 hdo
          clear ho
          obtain ⟨k, ⟨id, tk, lv, pt, st, tr, rt, wt, nx⟩, at'⟩ := o
          obtain ⟨lastN, lN⟩ := P
          unfold opVal at hdo
          simp only at c0 c1 c2 c3 c4 c5 c6 c7 c8 c9 c10 hdo hsd
          obtain ⟨h0N, hSN⟩ := hsd
          have Hdo := Lib.hid hdo
          have HSN := Lib.hid hSN
          clear hdo hSN
          obtain ⟨p0, p1⟩ := two_cells my1
          have i0 : (0 : Int) ≤ (i : Int) := by omega
          have i1 : (i : Int) < (ops.length : Int) := by omega
          have hYl := (Array.getElem?_eq_some_iff.1 my1).1
          have hv1Y : v1.ownBlock ≠ some Y := fun e => by
            have := own_elem hb1.own Y e
            rw [elem?_of my1] at this
            exact absurd this (by decide)
          have hv1o : v1.ownBlock ≠ some wr.heap.size := fun e => by have := (hb1.own.lt _ e).2; omega
          have hYc : Y ≠ c := by omega
          go_wp2_with fail
          obtain ⟨Wa, hWa⟩ : ∃ Wa, Wa = wr.alloc (.cells #[.int .i64 k, .int .u64 id, .int .u64 tk, .int .i64 lv, .int .i64 pt, .int .i64 st, .int .i64 tr, .int .i64 rt, .int .i64 wt, .int .i64 nx, .int .i64 at'] 41) := ⟨_, rfl⟩
          have hba : Below wr.heap.size wr Wa := by rw [hWa]; exact below_new _ _
          rw [← hWa]
          clear hWa c0 c1 c2 c3 c4 c5 c6 c7 c8 c9 c10 p0 p1
          refine (Hdo.out Wa hba).mono ?_
          rintro e W3 ⟨vN, aoN, capN, rfl, hb2, hn2, hf2, hfr, hv2, -⟩
          have hza := hba.size
          have m3 := hfr.kept ((hba.block _ hYl).trans my1) (by omega) hv1Y
          have hF3 := (hF1.below hba (by omega)).step hfr (by omega) hv1
          have hvN : ∀ k, vN.ownBlock = some k → vc.ownBlock = some k ∨ W6.heap.size ≤ k := fun k e => by
            rcases hv2 k e with h | h
            · exact hv1 k h
            · exact .inr (by omega)
          have hzf := hfr.size
          clear hfr hv2 my1 hn1 hf1 hv1Y hv1o Hdo hb1 hF1 hv1
          obtain ⟨p0, p1⟩ := two_cells m3
          have z0 := block_free m3 0
          have z1 := block_free m3 1
          have hYl3 := (Array.getElem?_eq_some_iff.1 m3).1
          have g4 := grown_set2 W3 Y (.int .u64 lastN) (.slice aoN lN.length capN)
          have m4 := block_set (block_set m3 0 (.int .u64 lastN)) 1 (.slice aoN lN.length capN)
          simp only [List.setIfInBounds_toArray, List.set_cons_zero, List.set_cons_succ] at m4
          have hvNY : vN.ownBlock ≠ some Y := fun e => by
            have := own_elem hb2.own Y e
            rw [elem?_of m3] at this
            exact absurd this (by decide)
          have hb4 := hb2.grown g4 (by omega) hvNY
          have hn4 := hn2.grown g4 (elem?_of m3) (by decide)
          have hF4 := hF3.set g4 (by omega)
          go_wp2_with fail
          obtain ⟨W4, hW4⟩ : ∃ W4, W4 = (W3.setCell ⟨Y, 0, none⟩ (.int .u64 lastN)).setCell ⟨Y, 1, none⟩ (.slice aoN lN.length capN) := ⟨_, rfl⟩
          rw [← hW4] at m4 hb4 hn4 hF4
          rw [← hW4]
          clear hW4
          have hba5 := below_new W4 (.cells #[.int .u64 lastN, .slice aoN lN.length capN] 53)
          have hzW := hF4.size
          go_roundw
          case rel => exact ⟨i + 1, lastN, lN, vN, aoN, capN, rfl, by simp, by omega, (hba5.block _ (Array.getElem?_eq_some_iff.1 m4).1).trans m4, hb4.below hba5, hn4.below hba5, hf2, HSN, h0N, hF4.below hba5 (by omega), hvN⟩
          case measure => simp [intOf]; omega
        · have hi' : i = ops.length := by omega
          subst hi'
          have hbx := hF1.bx rfl hbx6 (by omega) (by omega) (fun e => by have := hvc _ e; omega) (fun e => by have := hv2c _ e; omega) (fun e => by have := (hv2z _ e).2; omega) (fun k e e2 => by have := hv2c _ e; have := hvc _ e2; have := (hvcz _ e2).2; omega)
          have hnx := hF1.ns rfl hnx6 hcx6 m1 hx2
          have mx1 := (hF1.block X (by omega) (by omega) (by omega) (fun e => by have := (hvcz _ e).2; omega)).trans m0
          have mo := (hF1.block (w.heap.size + 1) (by omega) (by omega) (by omega) (fun e => by have := hvc _ e; omega)).trans k1
          clear Hli Hlo Hso Htw Hdo hbx6 hnx6 hcx6 hny6 m0 m1 hfarc HS hns hF1 hf1 hx2 hv2c hv1 hv2z hvz hvcz hvc
          have hl2 : l2.length ≤ 1000000 := by have := sound_len HS2.out; omega
          have hl1 : l1.length ≤ 1000000 := by have := sound_len hS1.out; omega
          have hst := fun (W : World) (hw : Below wr.heap.size wr W) => state_bx hl2 (hbx.below hw)
          have hsm := fun (W : World) (hw : Below wr.heap.size wr W) (aoT : Option Addr) (capT : Nat) (h : Ns W aoT capT l2) => refSame_any last2 last2 aoT ao2' capT cap2' l2 l2 W h (hnx.below hw) hl2 hl2
          have hst1 := fun (W : World) (hw : Below wr.heap.size wr W) => state_bx hl1 (hb1.below hw)
          have hsm1 := fun (W : World) (hw : Below wr.heap.size wr W) (aoT : Option Addr) (capT : Nat) (h : Ns W aoT capT l1) => refSame_any last1 last1 aoT ao1 capT cap1 l1 l1 W h (hn1.below hw) hl1 hl1
          simp only [decide_true, Bool.and_true] at hsm hsm1
          unfold Told at hst hst1
          have Hst := Lib.hid hst
          have Hsm := Lib.hid hsm
          have Hst1 := Lib.hid hst1
          have Hsm1 := Lib.hid hsm1
          clear hst hsm hst1 hsm1 hbx hnx hb1 hn1
          have hd8 : Below wr.heap.size wr wr.drew := (Below.refl _ _).drew
          obtain ⟨p0, p1⟩ := two_cells mx1
          obtain ⟨q0, q1⟩ := two_cells my1
          have hcw : ∀ W' : World, Below wr.heap.size wr W' → (W'.cell? ⟨X, 0, none⟩ = some (.int .u64 last2) ∧ W'.cell? ⟨X, 1, none⟩ = some (.slice ao2' l2.length cap2') ∧ W'.cell? ⟨Y, 0, none⟩ = some (.int .u64 last1) ∧ W'.cell? ⟨Y, 1, none⟩ = some (.slice ao1 l1.length cap1)) := by
            intro W' hw
            have key : ∀ {a : Addr} {u : Value}, wr.cell? a = some u → W'.cell? a = some u := fun {a u} h => (hw.cell (cell?_lt h)).trans h
            exact ⟨key p0, key p1, key q0, key q1⟩
          have hput := fun (W : World) (q : Option Addr) (h : NoBx W (.pointer q)) => put_nb ⟨oid, otk, olv, opt, ost, otr, ort, owt, onx⟩ oat h
          have htry := fun (W : World) (q : Option Addr) (h : NoBx W (.pointer q)) => try_nb oid oat h
          have hack := fun (W : World) (q : Option Addr) (h : NoBx W (.pointer q)) => ack_nb oid h
          have hget := fun (W : World) (q : Option Addr) (h : NoBx W (.pointer q)) => get_nb oid h
          unfold noVal at hput
          unfold noVal noZ at htry hack hget
          simp only at hput htry hack hget
          have Hput := Lib.hid hput
          have Htry := Lib.hid htry
          have Hack := Lib.hid hack
          have Hget := Lib.hid hget
          clear hput htry hack hget
          go_upto_region 15 with fail
          go_region_held3 (fun W' => (W'.cell? ⟨X, 0, none⟩ = some (.int .u64 last2) ∧ W'.cell? ⟨X, 1, none⟩ = some (.slice ao2' l2.length cap2') ∧ W'.cell? ⟨Y, 0, none⟩ = some (.int .u64 last1) ∧ W'.cell? ⟨Y, 1, none⟩ = some (.slice ao1 l1.length cap1)))
            (first | exact hL12 | exact hL11 | exact hL10 | exact hL9 | exact hcw _ hd8 | exact hcw _ (Below.refl _ _) | go_keep)
            (first
              | (go_at_call 15; refine (Hst1.out w10 hB10).mono ?_; rintro e w11 ⟨aoU, capU, rfl, howU, hb11⟩; have hB11 : Below wr.heap.size wr w11 := below_on hB10 hb11 (Nat.le_refl _); have hL11 := hcw w11 hB11)
              | (go_at_call 24; refine (Hsm1.out w11 hB11 aoU capU (Ns.of_own howU)).mono ?_; rintro e w12 ⟨rfl, hb12⟩; have hB12 : Below wr.heap.size wr w12 := below_on hB11 hb12 (Nat.le_refl _); have hL12 := hcw w12 hB12)
              | (go_at_call 15; refine (Hst.out wr.drew hd8).mono ?_; rintro e w9 ⟨aoT, capT, rfl, howT, hb9⟩; have hB9 : Below wr.heap.size wr w9 := below_on hd8 hb9 (Nat.le_refl _); have hL9 := hcw w9 hB9)
              | (go_at_call 24; refine (Hsm.out w9 hB9 aoT capT (Ns.of_own howT)).mono ?_; rintro e w10 ⟨rfl, hb10⟩; have hB10 : Below wr.heap.size wr w10 := below_on hB9 hb10 (Nat.le_refl _); have hL10 := hcw w10 hB10))
          all_goals
            have hBw := below_on hB1 hB12 (Nat.le_refl _)
            have mo := (hB12.block _ (Array.getElem?_eq_some_iff.1 mo).1).trans mo
            clear hL9 hL10 hL11 hL12 Hst Hsm Hst1 Hsm1 hcw howT howU hb9 hb10 hb11 hb12 hB9 hB10 hB11 hB12 p0 p1 q0 q1 mx1 my1 hd8
            have Hcl := Lib.hid (fun (W : World) => clone_nb (W := W) (p := .pointer none) (.inl rfl))
            go_wp2_with fail
            obtain ⟨Wb, hWb⟩ : ∃ Wb, Wb = w12.alloc (.cells #[.bool false, .int .u64 0, .slice none 0 0] 62) := ⟨_, rfl⟩
            have hbb : Below w12.heap.size w12 Wb := by rw [hWb]; exact below_new _ _
            have nb0 : Wb.heap[w12.heap.size]? = _ := (congrArg (fun z : World => z.heap[w12.heap.size]?) hWb).trans (heap_alloc_new _ _)
            rw [← hWb]
            clear hWb
            refine (Hcl.out Wb).mono ?_
            rintro e W13 ⟨rfl, hN2, hb13⟩
            have hN1 : NoBx W13 (.pointer (some ⟨w12.heap.size, 0, none⟩)) := .inr ⟨_, rfl, (hb13.block _ (Array.getElem?_eq_some_iff.1 nb0).1).trans nb0⟩
            have hB13 := below_on hBw (below_on hbb hb13 (Nat.le_refl _)) (Nat.le_refl _)
            have mo := (hb13.block _ (by have := hbb.size; have := (Array.getElem?_eq_some_iff.1 mo).1; omega)).trans ((hbb.block _ (Array.getElem?_eq_some_iff.1 mo).1).trans mo)
            clear nb0 hbb hb13 hBw Hcl hB1 hsz1
            obtain ⟨q2, hq2⟩ : ∃ q2, q2 = Wb.heap.size := ⟨_, rfl⟩
            obtain ⟨q1, hq1⟩ : ∃ q1, q1 = w12.heap.size := ⟨_, rfl⟩
            rw [← hq2] at hN2 ⊢
            rw [← hq1] at hN1 ⊢
            clear hq1 hq2
            go_wp2_with fail
            obtain ⟨W14, hW14⟩ : ∃ W14, W14 = W13.alloc (.cells #[.pointer none, .pointer (some ⟨q1, 0, none⟩), .pointer (some ⟨q2, 0, none⟩)] 25) := ⟨_, rfl⟩
            have hb14 : Below W13.heap.size W13 W14 := by rw [hW14]; exact below_new _ _
            have ha14 : W14.heap[W13.heap.size]? = _ := (congrArg (fun z : World => z.heap[W13.heap.size]?) hW14).trans (heap_alloc_new _ _)
            rw [← hW14]
            clear hW14
            have hB14 := below_on hB13 hb14 (Nat.le_refl _)
            have mo := (hb14.block _ (Array.getElem?_eq_some_iff.1 mo).1).trans mo
            obtain ⟨A, hA⟩ : ∃ A, A = W13.heap.size := ⟨_, rfl⟩
            rw [← hA] at ha14 ⊢
            have hqs : ∀ i : Nat, i < 3 → ∃ q, W14.cell? ⟨A, i, none⟩ = some (.pointer q) ∧ NoBx W14 (.pointer q) := by
              intro i hi3
              have d0 := block_cell ha14 0
              have d1 := block_cell ha14 1
              have d2 := block_cell ha14 2
              simp at d0 d1 d2
              match i, hi3 with
              | 0, _ => exact ⟨_, d0, .inl rfl⟩
              | 1, _ => exact ⟨_, d1, hN1.below hb14⟩
              | 2, _ => exact ⟨_, d2, hN2.below hb14⟩
            have hop : ∀ W' : World, Below W14.heap.size W14 W' → W'.heap[w.heap.size + 1]? = _ := fun W' hw => (hw.block _ (Array.getElem?_eq_some_iff.1 mo).1).trans mo
            have htick := fun (W : World) (q : Option Addr) (h : NoBx W (.pointer q)) => tick_nb oat h
            have hdue := fun (W : World) (q : Option Addr) (h : NoBx W (.pointer q)) => due_nb oat h
            have hwait := fun (W : World) (q : Option Addr) (h : NoBx W (.pointer q)) => waiting_nb h
            have hstat := fun (W : World) (q : Option Addr) (h : NoBx W (.pointer q)) => state_nb h
            have Htick := Lib.hid htick
            have Hdue := Lib.hid hdue
            have Hwait := Lib.hid hwait
            have Hstat := Lib.hid hstat
            clear htick hdue hwait hstat hN1 hN2 ha14 hb14 hB13 hA
            go_loopw [101] (fun u wx => ∃ i : Nat, u = .int .i64 i ∧ i ≤ 3 ∧ Below W14.heap.size W14 wx) (fun u _ => 3 - (intOf u).toNat)
            case atStart => exact ⟨0, rfl, by omega, Below.refl _ _⟩
            case round =>
              obtain ⟨i, rfl, hi3, Bwr⟩ := hrel
              by_cases hlt : i < 3
              · obtain ⟨q, cq, hq⟩ := hqs i hlt
                have cq := (Bwr.cell (cell?_lt cq)).trans cq
                have i0 : (0 : Int) ≤ (i : Int) := by omega
                have i1 : (i : Int) < 3 := by omega
                obtain ⟨c0, c1, c2, c3, c4, c5, c6, c7, c8, c9, c10⟩ := blk11 (hop wr Bwr)
                have zwr : w.heap.size + 1 < wr.heap.size := (Array.getElem?_eq_some_iff.1 (hop wr Bwr)).1
                go_wp2_with fail
                refine (Hput.out _ q (hq.below Bwr)).mono ?_
                rintro e x1 ⟨rfl, hx1⟩
                have Bx1 := below_on Bwr hx1 (Nat.le_refl _)
                clear c0 c1 c2 c3 c4 c5 c6 c7 c8 c9 c10 cq
                obtain ⟨c0, c1, c2, c3, c4, c5, c6, c7, c8, c9, c10⟩ := blk11 (hop x1 Bx1)
                have zx1 : w.heap.size + 1 < x1.heap.size := (Array.getElem?_eq_some_iff.1 (hop x1 Bx1)).1
                go_wp2_with fail
                refine (Htry.out _ q (hq.below Bx1)).mono ?_
                rintro e x2 ⟨rfl, hx2⟩
                have Bx2 := below_on Bx1 hx2 (Nat.le_refl _)
                clear c0 c1 c2 c3 c4 c5 c6 c7 c8 c9 c10
                obtain ⟨c0, c1, c2, c3, c4, c5, c6, c7, c8, c9, c10⟩ := blk11 (hop x2 Bx2)
                have zx2 : w.heap.size + 1 < x2.heap.size := (Array.getElem?_eq_some_iff.1 (hop x2 Bx2)).1
                go_wp2_with fail
                obtain ⟨x3, hx3⟩ : ∃ x3, x3 = x2.alloc (.cells #[.int .u64 0, .int .u64 0, .int .i64 0, .int .i64 0, .int .i64 0, .int .i64 0, .int .i64 0, .int .i64 0, .int .i64 0] 24) := ⟨_, rfl⟩
                have Bx3 : Below W14.heap.size W14 x3 := by rw [hx3]; exact Bx2.alloc Bx2.size _
                rw [← hx3]
                clear hx3 c0 c1 c2 c3 c4 c5 c6 c7 c8 c9 c10
                refine (Hack.out _ q (hq.below Bx3)).mono ?_
                rintro e x4 ⟨rfl, hx4⟩
                have Bx4 := below_on Bx3 hx4 (Nat.le_refl _)
                obtain ⟨c0, c1, c2, c3, c4, c5, c6, c7, c8, c9, c10⟩ := blk11 (hop x4 Bx4)
                have zx4 : w.heap.size + 1 < x4.heap.size := (Array.getElem?_eq_some_iff.1 (hop x4 Bx4)).1
                go_wp2_with fail
                obtain ⟨x5, hx5⟩ : ∃ x5, x5 = x4.alloc (.cells #[.int .u64 0, .int .u64 0, .int .i64 0, .int .i64 0, .int .i64 0, .int .i64 0, .int .i64 0, .int .i64 0, .int .i64 0] 24) := ⟨_, rfl⟩
                have Bx5 : Below W14.heap.size W14 x5 := by rw [hx5]; exact Bx4.alloc Bx4.size _
                rw [← hx5]
                clear hx5 c0 c1 c2 c3 c4 c5 c6 c7 c8 c9 c10
                refine (Hget.out _ q (hq.below Bx5)).mono ?_
                rintro e x6 ⟨rfl, hx6⟩
                have Bx6 := below_on Bx5 hx6 (Nat.le_refl _)
                obtain ⟨c0, c1, c2, c3, c4, c5, c6, c7, c8, c9, c10⟩ := blk11 (hop x6 Bx6)
                have zx6 : w.heap.size + 1 < x6.heap.size := (Array.getElem?_eq_some_iff.1 (hop x6 Bx6)).1
                go_upto_region 25 with fail
                obtain ⟨x7, hx7⟩ : ∃ x7, x7 = x6.alloc (.cells #[.int .u64 0, .int .u64 0, .int .i64 0, .int .i64 0, .int .i64 0, .int .i64 0, .int .i64 0, .int .i64 0, .int .i64 0] 24) := ⟨_, rfl⟩
                have Bx7 : Below W14.heap.size W14 x7 := by rw [hx7]; exact Bx6.alloc Bx6.size _
                rw [← hx7]
                clear hx7 c0 c1 c2 c3 c4 c5 c6 c7 c8 c9 c10
                have Bd := Bx7.drew
                have hfd : ∀ w : World, (Instr.field 44 (.agg #[.int .u64 0, .slice none 0 0]) 1).run Try.prog w = .ok (.slice none 0 0) w := fun _ => by kernel_rfl
                have hcw : ∀ W' : World, Below W14.heap.size W14 W' → W'.cell? ⟨w.heap.size + 1, 10, none⟩ = some (.int .i64 oat) := fun W' hw => block_cell (hop W' hw) 10
                go_region_held3 (fun W' => W'.cell? ⟨w.heap.size + 1, 10, none⟩ = some (.int .i64 oat))
                  (first | exact hL4 | exact hL3 | exact hL2 | exact hL1 | exact hcw _ Bd | exact hcw _ Bx7 | go_keep)
                  (first
                    | (go_at_call 17; refine (Htick.out x7.drew q (hq.below Bd)).mono ?_; rintro e y1 ⟨rfl, hy1⟩; have By1 : Below W14.heap.size W14 y1 := below_on Bd hy1 (Nat.le_refl _); have hL1 := hcw y1 By1)
                    | (go_at_call 26; refine (Hdue.out y1 q (hq.below By1)).mono ?_; rintro e y2 ⟨rfl, hy2⟩; have By2 : Below W14.heap.size W14 y2 := below_on By1 hy2 (Nat.le_refl _); have hL2 := hcw y2 By2)
                    | (go_at_call 14; refine (Hwait.out y2 q (hq.below By2)).mono ?_; rintro e y3 ⟨rfl, hy3⟩; have By3 : Below W14.heap.size W14 y3 := below_on By2 hy3 (Nat.le_refl _); have hL3 := hcw y3 By3)
                    | (go_at_call 15; refine (Hstat.out y3 q (hq.below By3)).mono ?_; rintro e y4 ⟨rfl, hy4⟩; have By4 : Below W14.heap.size W14 y4 := below_on By3 hy4 (Nat.le_refl _); have hL4 := hcw y4 By4))
                all_goals
                  go_wp2_with fail
                  go_roundw
                  case rel => exact ⟨i + 1, by simp, by omega, By4⟩
                  case measure => simp [intOf]; omega
              · have hi' : i = 3 := by omega
                subst hi'
                have hBe := below_on hB14 Bwr (Nat.le_refl _)
                go_wp2_with fail
                refine (lives17_any _).mono ?_
                rintro e w5 ⟨rfl, hb5⟩
                go_wp2_with fail
                go_ret
                exact ⟨rfl, below_on hBe hb5 (Nat.le_refl _)⟩
  · by_cases hc1 : l.length ≤ 200
    · have hd : decide ((l.length : Int) ≤ 200) = true := by simp; omega
      rw [hd] at hlight
      have hc2 : (60 : Int) < (ops.length : Int) := by omega
      have Hli := Lib.hid hlight
      clear hlight hd hc
      unfold opVal
      simp only
      go_enter Try.func6, Try.ntmps6
      go_wp2_with fail
      refine (Hli.out _).mono ?_
      rintro e w1 ⟨rfl, hb1⟩
      have hB1 := below_on ((below_new w (.cells #[.int .u64 last, .slice ao l.length cap] 44)).alloc (by simp) _) hb1 (Nat.le_refl _)
      go_wp2_with fail
      refine (lives17_any _).mono ?_
      rintro e w4 ⟨rfl, hb4⟩
      go_wp2_with fail
      go_ret
      exact ⟨rfl, below_on hB1 hb4 (Nat.le_refl _)⟩
    · have hd : decide ((l.length : Int) ≤ 200) = false := by simp; omega
      rw [hd] at hlight
      have Hli := Lib.hid hlight
      clear hlight hd hc
      unfold opVal
      simp only
      go_enter Try.func6, Try.ntmps6
      go_wp2_with fail
      refine (Hli.out _).mono ?_
      rintro e w1 ⟨rfl, hb1⟩
      have hB1 := below_on ((below_new w (.cells #[.int .u64 last, .slice ao l.length cap] 44)).alloc (by simp) _) hb1 (Nat.le_refl _)
      go_wp2_with fail
      refine (lives17_any _).mono ?_
      rintro e w4 ⟨rfl, hb4⟩
      go_wp2_with fail
      go_ret
      exact ⟨rfl, below_on hB1 hb4 (Nat.le_refl _)⟩
end Go.Proofs.Ytdcinhnplcipoaa
