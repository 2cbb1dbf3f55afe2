/- OutboxLimits: the walk. No statement of the seat is proved here. -/
import Derived.Test.YtdcinhnplcipoaaObLv
import Derived.Test.YtdcinhnplcipoaaObLt
namespace Go.Proofs.Ytdcinhnplcipoaa
set_option linter.unusedVariables false
set_option linter.unusedSimpArgs false
set_option linter.unusedSectionVars false
open Go Go.RowKit Go.Maps Go.Shelf

theorem cell_grown9 {w w' : World} {p : Addr} {g : Nat} {v : Value} (h : w.cell? p = some v) (hg : w.grownBy w' (some g)) (hne : p.block ≠ g) : w'.cell? p = some v := by
  rw [World.cell?_of_block (w := w) (hg.block p.block (cell?_lt h) (by simpa using hne))]; exact h
set_option maxRecDepth 100000 in
set_option maxHeartbeats 16000000 in
theorem outboxLimits_walk (ao : Option Addr) (cap : Nat) (ops : List Opn) (w : World) (hops : Ops w ao cap ops) (hok : ∀ o ∈ ops, OpOk o) :
    Calls Try.prog 4 #[.slice ao ops.length cap] w fun e w' => e = .returned (.bool true) ∧ Below w.heap.size w w' := by
  by_cases hc : ops.length ≤ 200
  · have hc3 : ¬ (200 : Int) < (ops.length : Int) := by omega
    have hmm := @run_makeMap Try.prog
    go_enter Try.func4, Try.ntmps4
    go_wp2_with fail
    refine (new_bx w).mono ?_
    rintro e w1 ⟨rfl, hbx1, hb1⟩
    go_wp2_with fail
    obtain ⟨W3, hW3⟩ : ∃ W3, W3 = (w1.alloc (.map #[] 0)).alloc (.map #[] 0) := ⟨_, rfl⟩
    have hz1 : w.heap.size < w1.heap.size := (Array.getElem?_eq_some_iff.1 hbx1.blk).1
    have hL3 : LimAt w W3 w.heap.size w.heap.size w1.heap.size (w1.heap.size + 1) 0 (.slice none 0 0) [] 0 0 (fun _ => 0) (fun _ => 0) := by
      have hb3 : Below w1.heap.size w1 W3 := by rw [hW3]; exact (below_new _ _).alloc (by simp) _
      have m1 : Mp (w1.alloc (.map #[] 0)) w1.heap.size 0 (fun _ => 0) := ⟨.map [], World.ownsMap_made _ _ _ _, MapF.start⟩
      have m2 : Mp W3 w1.heap.size 0 (fun _ => 0) := by rw [hW3]; exact m1.below (below_new _ _)
      have m3 : Mp W3 (w1.heap.size + 1) 0 (fun _ => 0) := by
        have := (⟨.map [], World.ownsMap_made _ _ _ _, MapF.start⟩ : Mp ((w1.alloc (.map #[] 0)).alloc (.map #[] 0)) (w1.alloc (.map #[] 0)).heap.size 0 (fun _ => 0))
        rw [hW3]; have e1 : (w1.alloc (.map #[] 0)).heap.size = w1.heap.size + 1 := (by simp); rw [e1] at this; exact this
      exact ⟨hbx1.below hb3, Lim.start, m2, m3, by omega, by omega, by omega, below_on hb1 hb3 (Nat.le_refl _), Nat.le_refl _, by omega, by omega⟩
    rw [← hW3]
    clear hW3 hz1 hbx1 hb1 hmm
    go_loopw [6, 29] (fun g u wr => ∃ (i : Nat) (last : Int) (l : List No) (v : Value) (nT nO : Nat) (T O : Int → Int), g = .int .u64 last ∧ u = .int .i64 i ∧ i ≤ ops.length ∧ nT ≤ i ∧ nO ≤ 200 * i ∧ LimAt w wr w.heap.size w.heap.size w1.heap.size (w1.heap.size + 1) last v l nT nO T O) (fun _ u _ => ops.length - (intOf u).toNat)
    case atStart => exact ⟨0, 0, [], _, 0, 0, _, _, rfl, rfl, by omega, by omega, by omega, hL3⟩
    case round =>
      clear hL3
      obtain ⟨i, last, l, v, nT, nO, T, O, rfl, rfl, hi, hnT, hnO, hL⟩ := hrel
      by_cases hlt : i < ops.length
      · obtain ⟨bo, off, rfl, c0, c1, c2, c3, c4, c5, c6, c7, c8, c9, c10⟩ := (hops.below hL.bel).get11 i hlt
        obtain ⟨o, ho⟩ : ∃ o, o = ops[i] := ⟨_, rfl⟩
        have hoo := hok ops[i] (List.getElem_mem hlt)
        simp only [← ho] at c0 c1 c2 c3 c4 c5 c6 c7 c8 c9 c10 hoo
        clear ho
        obtain ⟨k, ⟨id, tk, lv, pt, st, tr, rt, wt, nx⟩, at'⟩ := o
        simp only at c0 c1 c2 c3 c4 c5 c6 c7 c8 c9 c10
        have i0 : (0 : Int) ≤ (i : Int) := by omega
        have i1 : (i : Int) < (ops.length : Int) := by omega
        have hl1 : l.length ≤ 1000000 := by have := sound_len hL.lim.sound; omega
        by_cases hk1 : k = 1
        · subst hk1
          go_wp2_with fail
          obtain ⟨Wa, hWa⟩ : ∃ Wa, Wa = wr.alloc (.cells #[.int .i64 1, .int .u64 id, .int .u64 tk, .int .i64 lv, .int .i64 pt, .int .i64 st, .int .i64 tr, .int .i64 rt, .int .i64 wt, .int .i64 nx, .int .i64 at'] 41) := ⟨_, rfl⟩
          have hba : Below wr.heap.size wr Wa := by rw [hWa]; exact below_new _ _
          have oa : Wa.heap[wr.heap.size]? = _ := (congrArg (fun z : World => z.heap[wr.heap.size]?) hWa).trans (heap_alloc_new _ _)
          rw [← hWa]
          clear hWa c0 c1 c2 c3 c4 c5 c6 c7 c8 c9 c10
          have hLa := hL.below hba
          refine (state_bx hl1 hLa.bx).mono ?_
          rintro e w3 ⟨aoW, cW, rfl, howW, hb3⟩
          have hL3 := hLa.below hb3
          have o3 := (hb3.block _ (Array.getElem?_eq_some_iff.1 oa).1).trans oa
          obtain ⟨c0, c1, c2, c3, c4, c5, c6, c7, c8, c9, c10⟩ := blk11 o3
          have o3z := (Array.getElem?_eq_some_iff.1 o3).1
          go_wp2_with fail
          obtain ⟨W4, hW4⟩ : ∃ W4, W4 = w3.alloc (.cells #[.int .u64 last, .slice aoW l.length cW] 44) := ⟨_, rfl⟩
          have hb4 : Below w3.heap.size w3 W4 := by rw [hW4]; exact below_new _ _
          have o4 : W4.heap[w3.heap.size]? = _ := (congrArg (fun z : World => z.heap[w3.heap.size]?) hW4).trans (heap_alloc_new _ _)
          rw [← hW4]
          clear hW4 c0 c1 c2 c3 c4 c5 c6 c7 c8 c9 c10
          have hL4 := hL3.below hb4
          have hnW := (Ns.of_own howW).below hb4
          have z4 := (Array.getElem?_eq_some_iff.1 o4).1
          have q1 := hL4.tb
          have q2 := hL4.ob
          have q3 := hL4.tob
          have q4 := hL4.lo
          have q5 := hL4.tl
          have q6 := hL4.ol
          clear hL3 hLa
          have htr := try_lim hL4 id at'
          unfold LimTry LimBad noVal noZ at htr
          simp only at htr
          have Htr := Lib.hid htr
          clear htr
          refine Htr.out.mono ?_
          rintro e w5 (⟨n, v2, l2, rfl, hx5, hlim5, ht5, ho5, hB5, hz5, htr5, hr5, hp5, hq5, hwf5⟩ | ⟨c, hc0, rfl, hb5⟩)
          · have hb6 := below_new w5 (.cells #[.int .u64 n.id, .int .u64 n.tk, .int .i64 n.lv, .int .i64 n.pt, .int .i64 n.st, .int .i64 n.tr, .int .i64 n.rt, .int .i64 n.wt, .int .i64 n.nx] 24)
            have ht6 := ht5.below hb6
            have lT6 := ht6.look n.id hwf5
            have w0 : IntKind.i64.wrap (T n.id + 1) = n.tr := by rw [htr5]; exact IntWalk.i64_in _ (by omega)
            have hwt : (Lit.int .i64 n.tr).wf = true := wf_i64 (by omega) (by omega)
            rw [← htr5] at hlim5
            have hnr : ¬ n.rt < n.tr := by omega
            clear htr5
            have Hfin := Lib.hid (fun (w7 : World) (h7 : Mp w7 (w1.heap.size) (nT + 1) (upd T n.id n.tr)) (hg : (w5.alloc (.cells #[.int .u64 n.id, .int .u64 n.tk, .int .i64 n.lv, .int .i64 n.pt, .int .i64 n.st, .int .i64 n.tr, .int .i64 n.rt, .int .i64 n.wt, .int .i64 n.nx] 24)).grownBy w7 (some w1.heap.size)) => LimTry.put (hx5.below hb6) hlim5 ht6 (ho5.below hb6) (below_on hB5 hb6 (Nat.le_refl _)) q1 q2 q3 q4 q5 q6 h7 hg)
            have hz : w.heap.size < w5.heap.size := (Array.getElem?_eq_some_iff.1 hx5.blk).1
            have h1z := ht5.lt
            have hnT2 : nT < 100000000 := by omega
            have hnew : w5.heap.size ≠ w1.heap.size := by omega
            have news := fun i => cell?_new w5 #[.int .u64 n.id, .int .u64 n.tk, .int .i64 n.lv, .int .i64 n.pt, .int .i64 n.st, .int .i64 n.tr, .int .i64 n.rt, .int .i64 n.wt, .int .i64 n.nx] 24 (0, 0) i
            have c0 := news 0
            have c6 := news 6
            have c5 := news 5
            simp only [List.getElem?_toArray, List.getElem?_cons_zero, List.getElem?_cons_succ] at c0 c5 c6
            clear news
            clear hr5 hp5 hq5
            go_wp2_with (at_mapUpdate; go_loud (refine wpl_mapset rfl (.tmp 72) (.tmp 74) (.tmp 76) rfl w1.heap.size nT T n.id n.tr rfl ht6 hnT2 rfl rfl hwf5 hwt ?_; intro w7 hm7 hg7; have hL7 := Hfin.out w7 hm7 hg7; have lT7 := hL7.mt.look n.id hwf5; have lO7 := hL7.mo.look n.id hwf5; rw [hz5] at lO7; rw [upd_same] at lT7; have d0 := cell_grown9 c0 hg7 hnew; have d5 := cell_grown9 c5 hg7 hnew; have d6 := cell_grown9 c6 hg7 hnew))
            have hl2 : l2.length ≤ 1000000 := by have := sound_len hL7.lim.sound; omega
            refine (state_bx hl2 hL7.bx).mono ?_
            rintro e y1 ⟨aoS, cS, rfl, howS, hby⟩
            have hLy := hL7.below hby
            have hnS := Ns.of_own howS
            have hfd : ∀ W : World, (Instr.field 44 (.agg #[.int .u64 last, .slice aoS l2.length cS]) 1).run Try.prog W = .ok (.slice aoS l2.length cS) W := fun _ => by kernel_rfl
            go_wp2_with fail
            go_loopw [147] (fun a wy => ∃ j : Nat, a = .int .i64 j ∧ j ≤ l2.length ∧ Below y1.heap.size y1 wy) (fun a _ => l2.length - (intOf a).toNat)
            case atStart => exact ⟨0, rfl, by omega, Below.refl _ _⟩
            case round =>
              obtain ⟨j, rfl, hj, hbj⟩ := hrel
              have hLj := hLy.below hbj
              by_cases hjt : j < l2.length
              · obtain ⟨gS, fS, rfl, hc⟩ := (hnS.below hbj).get j hjt
                have hm := List.getElem_mem hjt
                have htr := hLj.lim.tr _ hm
                have hst := hLj.lim.st _ hm
                have hid0 := (soundF_ids l2 j hjt (soundS_iff.1 hLj.lim.sound).2.2)
                have hid1 := (soundS_iff.1 hLj.lim.sound).1
                have hwf : (Lit.int .u64 l2[j].id).wf = true := wf_u64 (by omega) (by omega)
                obtain ⟨n, hn⟩ : ∃ n, n = l2[j] := ⟨_, rfl⟩
                rw [← hn] at hc htr hst hwf
                clear hn hm hid0 hid1
                obtain ⟨id', tk', lv', pt', st', tr', rt', wt', nx'⟩ := n
                obtain ⟨c0, c1, c2, c3, c4, c5, c6, c7, c8⟩ := hc
                simp only at c0 c1 c2 c3 c4 c5 c6 c7 c8 htr hst hwf
                have hLb := hLj.below (below_new wr (.cells #[.int .u64 id', .int .u64 tk', .int .i64 lv', .int .i64 pt', .int .i64 st', .int .i64 tr', .int .i64 rt', .int .i64 wt', .int .i64 nx'] 24))
                have lT := hLb.mt.look id' hwf
                have lO := hLb.mo.look id' hwf
                rw [← htr] at lT
                have i0 : (0 : Int) ≤ (j : Int) := by omega
                have i1 : (j : Int) < (l2.length : Int) := by omega
                by_cases hz : O id' = 0
                · rw [hz] at lO
                  clear hst hz htr
                  go_wp2_with fail
                  go_roundw
                  case rel => exact ⟨j + 1, by simp, by omega, below_on hbj (below_new _ _) (Nat.le_refl _)⟩
                  case measure => simp [intOf]; omega
                · have hst2 := hst hz
                  rw [← hst2] at lO hz
                  have hz2 : (st' == 0) = false := by simpa using hz
                  clear hst hst2 htr
                  go_wp2_with fail
                  go_roundw
                  case rel => exact ⟨j + 1, by simp, by omega, below_on hbj (below_new _ _) (Nat.le_refl _)⟩
                  case measure => simp [intOf]; omega
              · have hj' : j = l2.length := by omega
                subst hj'
                go_wp2_with fail
                go_roundw
                case rel => exact ⟨i + 1, last, l2, v2, (nT + 1), nO, (upd T n.id n.tr), O, rfl, by simp, by omega, by omega, by omega, hLj⟩
                case measure => simp [intOf]; omega
          · have hcb : (c == 0) = false := by simpa using hc0
            have hL5 := hL4.below hb5
            go_upto_region 20 with fail
            obtain ⟨W6, hW6⟩ : ∃ W6, W6 = w5.alloc (.cells #[.int .u64 0, .int .u64 0, .int .i64 0, .int .i64 0, .int .i64 0, .int .i64 0, .int .i64 0, .int .i64 0, .int .i64 0] 24) := ⟨_, rfl⟩
            have hb6 : Below w5.heap.size w5 W6 := by rw [hW6]; exact below_new _ _
            rw [← hW6]
            clear hW6
            have hL6 := hL5.below hb6
            have hnW6 := (hnW.below hb5).below hb6
            have o5 := (hb5.block _ z4).trans o4
            have o6 := (hb6.block _ (Array.getElem?_eq_some_iff.1 o5).1).trans o5
            obtain ⟨p0, p1⟩ := two_cells o6
            have hst := fun (W : World) (hw : Below W6.heap.size W6 W) => state_bx hl1 (hL6.bx.below hw)
            have hsm := fun (W : World) (hw : Below W6.heap.size W6 W) (aoT : Option Addr) (capT : Nat) (h : Ns W aoT capT l) => sameS_any last last aoT aoW capT cW l l W h (hnW6.below hw) hl1 hl1
            simp only [decide_true, Bool.and_true] at hsm
            unfold Told at hst
            have Hst := Lib.hid hst
            have Hsm := Lib.hid hsm
            clear hst hsm
            have hcw : ∀ W' : World, Below W6.heap.size W6 W' → (W'.cell? ⟨w3.heap.size, 0, none⟩ = some (.int .u64 last) ∧ W'.cell? ⟨w3.heap.size, 1, none⟩ = some (.slice aoW l.length cW)) := by
              intro W' hw
              have key : ∀ {a : Addr} {u : Value}, W6.cell? a = some u → W'.cell? a = some u := fun {a u} h => (hw.cell (cell?_lt h)).trans h
              exact ⟨key p0, key p1⟩
            have hd6 : Below W6.heap.size W6 W6.drew := (Below.refl _ _).drew
            go_region_held3 (fun W' => (W'.cell? ⟨w3.heap.size, 0, none⟩ = some (.int .u64 last) ∧ W'.cell? ⟨w3.heap.size, 1, none⟩ = some (.slice aoW l.length cW)))
              (first | exact hL9 | exact hL7 | exact hcw _ hd6 | exact hcw _ (Below.refl _ _) | go_keep)
              (first
                | (go_at_call 16; refine (Hsm.out w7 hB7 aoT capT (Ns.of_own howT)).mono ?_; rintro e w9 ⟨rfl, hb9⟩; have hB9 : Below W6.heap.size W6 w9 := below_on hB7 hb9 (Nat.le_refl _); have hL9 := hcw w9 hB9)
                | (go_at_call 15; refine (Hst.out W6.drew hd6).mono ?_; rintro e w7 ⟨aoT, capT, rfl, howT, hb7⟩; have hB7 : Below W6.heap.size W6 w7 := below_on hd6 hb7 (Nat.le_refl _); have hL7 := hcw w7 hB7))
            all_goals
              clear Hst Hsm hcw hL9 hL7 hd6 howT p0 p1
              go_wp2_with fail
              go_roundw
              case rel => exact ⟨i + 1, last, l, v, nT, nO, T, O, rfl, by simp, by omega, by omega, by omega, hL6.below hB9⟩
              case measure => simp [intOf]; omega
        by_cases hk2 : k = 2
        · subst hk2
          go_wp2_with fail
          obtain ⟨Wa, hWa⟩ : ∃ Wa, Wa = wr.alloc (.cells #[.int .i64 2, .int .u64 id, .int .u64 tk, .int .i64 lv, .int .i64 pt, .int .i64 st, .int .i64 tr, .int .i64 rt, .int .i64 wt, .int .i64 nx, .int .i64 at'] 41) := ⟨_, rfl⟩
          have hba : Below wr.heap.size wr Wa := by rw [hWa]; exact below_new _ _
          have oa : Wa.heap[wr.heap.size]? = _ := (congrArg (fun z : World => z.heap[wr.heap.size]?) hWa).trans (heap_alloc_new _ _)
          rw [← hWa]
          clear hWa c0 c1 c2 c3 c4 c5 c6 c7 c8 c9 c10
          have hLa := hL.below hba
          refine (state_bx hl1 hLa.bx).mono ?_
          rintro e w3 ⟨aoW, cW, rfl, howW, hb3⟩
          have hL3 := hLa.below hb3
          have o3 := (hb3.block _ (Array.getElem?_eq_some_iff.1 oa).1).trans oa
          obtain ⟨c0, c1, c2, c3, c4, c5, c6, c7, c8, c9, c10⟩ := blk11 o3
          have o3z := (Array.getElem?_eq_some_iff.1 o3).1
          go_wp2_with fail
          obtain ⟨W4, hW4⟩ : ∃ W4, W4 = w3.alloc (.cells #[.int .u64 last, .slice aoW l.length cW] 44) := ⟨_, rfl⟩
          have hb4 : Below w3.heap.size w3 W4 := by rw [hW4]; exact below_new _ _
          have o4 : W4.heap[w3.heap.size]? = _ := (congrArg (fun z : World => z.heap[w3.heap.size]?) hW4).trans (heap_alloc_new _ _)
          rw [← hW4]
          clear hW4 c0 c1 c2 c3 c4 c5 c6 c7 c8 c9 c10
          have hL4 := hL3.below hb4
          have hnW := (Ns.of_own howW).below hb4
          have z4 := (Array.getElem?_eq_some_iff.1 o4).1
          have q1 := hL4.tb
          have q2 := hL4.ob
          have q3 := hL4.tob
          have q4 := hL4.lo
          have q5 := hL4.tl
          have q6 := hL4.ol
          clear hL3 hLa
          have htr := ack_lim hL4 id
          unfold LimAck LimBad noVal noZ at htr
          simp only at htr
          have Htr := Lib.hid htr
          clear htr
          refine Htr.out.mono ?_
          rintro e w5 (⟨n, v2, l2, rfl, hx5, hlim5, ht5, ho5, hB5, hz5, hwf5⟩ | ⟨c, hc0, rfl, hb5⟩)
          · have hb6 := below_new w5 (.cells #[.int .u64 n.id, .int .u64 n.tk, .int .i64 n.lv, .int .i64 n.pt, .int .i64 n.st, .int .i64 n.tr, .int .i64 n.rt, .int .i64 n.wt, .int .i64 n.nx] 24)
            have ho6 := ho5.below hb6
            have lO6 := ho6.look n.id hwf5
            rw [hz5] at lO6
            have hwt : (Lit.int .i64 2).wf = true := wf_i64 (by omega) (by omega)
            have Hfin := Lib.hid (fun (w7 : World) (h7 : Mp w7 (w1.heap.size + 1) (nO + 1) (upd O n.id 2)) (hg : (w5.alloc (.cells #[.int .u64 n.id, .int .u64 n.tk, .int .i64 n.lv, .int .i64 n.pt, .int .i64 n.st, .int .i64 n.tr, .int .i64 n.rt, .int .i64 n.wt, .int .i64 n.nx] 24)).grownBy w7 (some (w1.heap.size + 1))) => LimAck.put (hx5.below hb6) hlim5 (ht5.below hb6) ho6 (below_on hB5 hb6 (Nat.le_refl _)) q1 q2 q3 q4 q5 q6 h7 hg)
            have hnO2 : nO < 100000000 := by omega
            go_wp2_with (at_mapUpdate; refine wpl_mapset rfl (.tmp 122) (.tmp 124) (.const (.int .i64 2)) rfl (w1.heap.size + 1) nO O n.id 2 rfl ho6 hnO2 rfl rfl hwf5 hwt ?_; intro w7 hm7 hg7; have hL7 := Hfin.out w7 hm7 hg7)
            have hl2 : l2.length ≤ 1000000 := by have := sound_len hL7.lim.sound; omega
            refine (state_bx hl2 hL7.bx).mono ?_
            rintro e y1 ⟨aoS, cS, rfl, howS, hby⟩
            have hLy := hL7.below hby
            have hnS := Ns.of_own howS
            have hfd : ∀ W : World, (Instr.field 44 (.agg #[.int .u64 last, .slice aoS l2.length cS]) 1).run Try.prog W = .ok (.slice aoS l2.length cS) W := fun _ => by kernel_rfl
            go_wp2_with fail
            go_loopw [147] (fun a wy => ∃ j : Nat, a = .int .i64 j ∧ j ≤ l2.length ∧ Below y1.heap.size y1 wy) (fun a _ => l2.length - (intOf a).toNat)
            case atStart => exact ⟨0, rfl, by omega, Below.refl _ _⟩
            case round =>
              obtain ⟨j, rfl, hj, hbj⟩ := hrel
              have hLj := hLy.below hbj
              by_cases hjt : j < l2.length
              · obtain ⟨gS, fS, rfl, hc⟩ := (hnS.below hbj).get j hjt
                have hm := List.getElem_mem hjt
                have htr := hLj.lim.tr _ hm
                have hst := hLj.lim.st _ hm
                have hid0 := (soundF_ids l2 j hjt (soundS_iff.1 hLj.lim.sound).2.2)
                have hid1 := (soundS_iff.1 hLj.lim.sound).1
                have hwf : (Lit.int .u64 l2[j].id).wf = true := wf_u64 (by omega) (by omega)
                obtain ⟨n, hn⟩ : ∃ n, n = l2[j] := ⟨_, rfl⟩
                rw [← hn] at hc htr hst hwf
                clear hn hm hid0 hid1
                obtain ⟨id', tk', lv', pt', st', tr', rt', wt', nx'⟩ := n
                obtain ⟨c0, c1, c2, c3, c4, c5, c6, c7, c8⟩ := hc
                simp only at c0 c1 c2 c3 c4 c5 c6 c7 c8 htr hst hwf
                have hLb := hLj.below (below_new wr (.cells #[.int .u64 id', .int .u64 tk', .int .i64 lv', .int .i64 pt', .int .i64 st', .int .i64 tr', .int .i64 rt', .int .i64 wt', .int .i64 nx'] 24))
                have lT := hLb.mt.look id' hwf
                have lO := hLb.mo.look id' hwf
                rw [← htr] at lT
                have i0 : (0 : Int) ≤ (j : Int) := by omega
                have i1 : (j : Int) < (l2.length : Int) := by omega
                by_cases hz : (upd O n.id 2) id' = 0
                · rw [hz] at lO
                  clear hst hz htr
                  go_wp2_with fail
                  go_roundw
                  case rel => exact ⟨j + 1, by simp, by omega, below_on hbj (below_new _ _) (Nat.le_refl _)⟩
                  case measure => simp [intOf]; omega
                · have hst2 := hst hz
                  rw [← hst2] at lO hz
                  have hz2 : (st' == 0) = false := by simpa using hz
                  clear hst hst2 htr
                  go_wp2_with fail
                  go_roundw
                  case rel => exact ⟨j + 1, by simp, by omega, below_on hbj (below_new _ _) (Nat.le_refl _)⟩
                  case measure => simp [intOf]; omega
              · have hj' : j = l2.length := by omega
                subst hj'
                go_wp2_with fail
                go_roundw
                case rel => exact ⟨i + 1, last, l2, v2, nT, (nO + 1), T, (upd O n.id 2), rfl, by simp, by omega, by omega, by omega, hLj⟩
                case measure => simp [intOf]; omega
          · have hcb : (c == 0) = false := by simpa using hc0
            have hL5 := hL4.below hb5
            go_upto_region 28 with fail
            obtain ⟨W6, hW6⟩ : ∃ W6, W6 = w5.alloc (.cells #[.int .u64 0, .int .u64 0, .int .i64 0, .int .i64 0, .int .i64 0, .int .i64 0, .int .i64 0, .int .i64 0, .int .i64 0] 24) := ⟨_, rfl⟩
            have hb6 : Below w5.heap.size w5 W6 := by rw [hW6]; exact below_new _ _
            rw [← hW6]
            clear hW6
            have hL6 := hL5.below hb6
            have hnW6 := (hnW.below hb5).below hb6
            have o5 := (hb5.block _ z4).trans o4
            have o6 := (hb6.block _ (Array.getElem?_eq_some_iff.1 o5).1).trans o5
            obtain ⟨p0, p1⟩ := two_cells o6
            have hst := fun (W : World) (hw : Below W6.heap.size W6 W) => state_bx hl1 (hL6.bx.below hw)
            have hsm := fun (W : World) (hw : Below W6.heap.size W6 W) (aoT : Option Addr) (capT : Nat) (h : Ns W aoT capT l) => sameS_any last last aoT aoW capT cW l l W h (hnW6.below hw) hl1 hl1
            simp only [decide_true, Bool.and_true] at hsm
            unfold Told at hst
            have Hst := Lib.hid hst
            have Hsm := Lib.hid hsm
            clear hst hsm
            have hcw : ∀ W' : World, Below W6.heap.size W6 W' → (W'.cell? ⟨w3.heap.size, 0, none⟩ = some (.int .u64 last) ∧ W'.cell? ⟨w3.heap.size, 1, none⟩ = some (.slice aoW l.length cW)) := by
              intro W' hw
              have key : ∀ {a : Addr} {u : Value}, W6.cell? a = some u → W'.cell? a = some u := fun {a u} h => (hw.cell (cell?_lt h)).trans h
              exact ⟨key p0, key p1⟩
            have hd6 : Below W6.heap.size W6 W6.drew := (Below.refl _ _).drew
            go_region_held3 (fun W' => (W'.cell? ⟨w3.heap.size, 0, none⟩ = some (.int .u64 last) ∧ W'.cell? ⟨w3.heap.size, 1, none⟩ = some (.slice aoW l.length cW)))
              (first | exact hL9 | exact hL7 | exact hcw _ hd6 | exact hcw _ (Below.refl _ _) | go_keep)
              (first
                | (go_at_call 16; refine (Hsm.out w7 hB7 aoT capT (Ns.of_own howT)).mono ?_; rintro e w9 ⟨rfl, hb9⟩; have hB9 : Below W6.heap.size W6 w9 := below_on hB7 hb9 (Nat.le_refl _); have hL9 := hcw w9 hB9)
                | (go_at_call 15; refine (Hst.out W6.drew hd6).mono ?_; rintro e w7 ⟨aoT, capT, rfl, howT, hb7⟩; have hB7 : Below W6.heap.size W6 w7 := below_on hd6 hb7 (Nat.le_refl _); have hL7 := hcw w7 hB7))
            all_goals
              clear Hst Hsm hcw hL9 hL7 hd6 howT p0 p1
              go_wp2_with fail
              go_roundw
              case rel => exact ⟨i + 1, last, l, v, nT, nO, T, O, rfl, by simp, by omega, by omega, by omega, hL6.below hB9⟩
              case measure => simp [intOf]; omega
        by_cases hk3 : k = 3
        · subst hk3
          go_wp2_with fail
          obtain ⟨Wa, hWa⟩ : ∃ Wa, Wa = wr.alloc (.cells #[.int .i64 3, .int .u64 id, .int .u64 tk, .int .i64 lv, .int .i64 pt, .int .i64 st, .int .i64 tr, .int .i64 rt, .int .i64 wt, .int .i64 nx, .int .i64 at'] 41) := ⟨_, rfl⟩
          have hba : Below wr.heap.size wr Wa := by rw [hWa]; exact below_new _ _
          have oa : Wa.heap[wr.heap.size]? = _ := (congrArg (fun z : World => z.heap[wr.heap.size]?) hWa).trans (heap_alloc_new _ _)
          rw [← hWa]
          clear hWa c0 c1 c2 c3 c4 c5 c6 c7 c8 c9 c10
          have hLa := hL.below hba
          refine (state_bx hl1 hLa.bx).mono ?_
          rintro e w3 ⟨aoW, cW, rfl, howW, hb3⟩
          have hL3 := hLa.below hb3
          have o3 := (hb3.block _ (Array.getElem?_eq_some_iff.1 oa).1).trans oa
          obtain ⟨c0, c1, c2, c3, c4, c5, c6, c7, c8, c9, c10⟩ := blk11 o3
          have o3z := (Array.getElem?_eq_some_iff.1 o3).1
          go_wp2_with fail
          obtain ⟨W4, hW4⟩ : ∃ W4, W4 = w3.alloc (.cells #[.int .u64 last, .slice aoW l.length cW] 44) := ⟨_, rfl⟩
          have hb4 : Below w3.heap.size w3 W4 := by rw [hW4]; exact below_new _ _
          have o4 : W4.heap[w3.heap.size]? = _ := (congrArg (fun z : World => z.heap[w3.heap.size]?) hW4).trans (heap_alloc_new _ _)
          rw [← hW4]
          clear hW4 c0 c1 c2 c3 c4 c5 c6 c7 c8 c9 c10
          have hL4 := hL3.below hb4
          have hnW := (Ns.of_own howW).below hb4
          have z4 := (Array.getElem?_eq_some_iff.1 o4).1
          have q1 := hL4.tb
          have q2 := hL4.ob
          have q3 := hL4.tob
          have q4 := hL4.lo
          have q5 := hL4.tl
          have q6 := hL4.ol
          clear hL3 hLa
          have htr := tick_lim hL4 at'
          have Htr := Lib.hid htr
          clear htr
          refine Htr.out.mono ?_
          rintro e w5 ⟨ks, v2, l2, so, sc, rfl, hks, how5, hx5, hlim5, ht5, ho5, hB5, hkk⟩
          have hT5 : TickAt w w5 w.heap.size w.heap.size w1.heap.size (w1.heap.size + 1) last v2 l2 nT nO T O ks W4.heap.size so sc 0 := ⟨how5, hx5, hlim5, ht5, by simpa [updL_nil] using ho5, hB5⟩
          have Hkk := Lib.hid hkk
          clear hkk
          go_wp2_with fail
          go_loopw [132] (fun a wy => ∃ j : Nat, a = .int .i64 j ∧ j ≤ ks.length ∧ TickAt w wy w.heap.size w.heap.size w1.heap.size (w1.heap.size + 1) last v2 l2 nT nO T O ks W4.heap.size so sc j) (fun a _ => ks.length - (intOf a).toNat)
          case atStart => exact ⟨0, rfl, by omega, hT5⟩
          case round =>
            obtain ⟨j, rfl, hj, hTj⟩ := hrel
            by_cases hjt : j < ks.length
            · obtain ⟨gS, fS, rfl, hc⟩ := hTj.get hjt
              obtain ⟨hk0, hkw⟩ := Hkk.out j hjt
              have lO := hTj.mo.look ks[j] hkw
              rw [hk0] at lO
              have Hput := Lib.hid (fun (w' : World) => hTj.put (w' := w') hjt q2 q3 q6)
              have hmo := hTj.mo
              have zc := cell?_lt hc
              obtain ⟨x, hx⟩ : ∃ x, x = ks[j] := ⟨_, rfl⟩
              rw [← hx] at hc hkw lO Hput
              clear hx hk0
              have i0 : (0 : Int) ≤ (j : Int) := by omega
              have i1 : (j : Int) < (ks.length : Int) := by omega
              have hnO2 : nO + j < 100000000 := by omega
              have hwt : (Lit.int .i64 3).wf = true := wf_i64 (by omega) (by omega)
              go_wp2_with (at_mapUpdate; refine wpl_mapset rfl (.tmp 140) (.tmp 141) (.const (.int .i64 3)) rfl (w1.heap.size + 1) (nO + j) (updL O (ks.take j)) x 3 rfl hmo hnO2 rfl rfl hkw hwt ?_; intro w7 hm7 hg7; have hL7 := Hput.out w7 hm7 hg7)
              go_roundw
              case rel => exact ⟨j + 1, by simp, by omega, hL7⟩
              case measure => simp [intOf]; omega
            · have hj' : j = ks.length := by omega
              subst hj'
              have hL7 := hTj.done q1 q2 q3 q4 q5 q6
              go_wp2_with fail
              have hl2 : l2.length ≤ 1000000 := by have := sound_len hL7.lim.sound; omega
              refine (state_bx hl2 hL7.bx).mono ?_
              rintro e y1 ⟨aoS, cS, rfl, howS, hby⟩
              have hLy := hL7.below hby
              have hnS := Ns.of_own howS
              have hfd : ∀ W : World, (Instr.field 44 (.agg #[.int .u64 last, .slice aoS l2.length cS]) 1).run Try.prog W = .ok (.slice aoS l2.length cS) W := fun _ => by kernel_rfl
              go_wp2_with fail
              go_loopw [147] (fun a wy => ∃ j : Nat, a = .int .i64 j ∧ j ≤ l2.length ∧ Below y1.heap.size y1 wy) (fun a _ => l2.length - (intOf a).toNat)
              case atStart => exact ⟨0, rfl, by omega, Below.refl _ _⟩
              case round =>
                obtain ⟨j, rfl, hj, hbj⟩ := hrel
                have hLj := hLy.below hbj
                by_cases hjt : j < l2.length
                · obtain ⟨gS, fS, rfl, hc⟩ := (hnS.below hbj).get j hjt
                  have hm := List.getElem_mem hjt
                  have htr := hLj.lim.tr _ hm
                  have hst := hLj.lim.st _ hm
                  have hid0 := (soundF_ids l2 j hjt (soundS_iff.1 hLj.lim.sound).2.2)
                  have hid1 := (soundS_iff.1 hLj.lim.sound).1
                  have hwf : (Lit.int .u64 l2[j].id).wf = true := wf_u64 (by omega) (by omega)
                  obtain ⟨n, hn⟩ : ∃ n, n = l2[j] := ⟨_, rfl⟩
                  rw [← hn] at hc htr hst hwf
                  clear hn hm hid0 hid1
                  obtain ⟨id', tk', lv', pt', st', tr', rt', wt', nx'⟩ := n
                  obtain ⟨c0, c1, c2, c3, c4, c5, c6, c7, c8⟩ := hc
                  simp only at c0 c1 c2 c3 c4 c5 c6 c7 c8 htr hst hwf
                  have hLb := hLj.below (below_new wr (.cells #[.int .u64 id', .int .u64 tk', .int .i64 lv', .int .i64 pt', .int .i64 st', .int .i64 tr', .int .i64 rt', .int .i64 wt', .int .i64 nx'] 24))
                  have lT := hLb.mt.look id' hwf
                  have lO := hLb.mo.look id' hwf
                  rw [← htr] at lT
                  have i0 : (0 : Int) ≤ (j : Int) := by omega
                  have i1 : (j : Int) < (l2.length : Int) := by omega
                  by_cases hz : (updL O ks) id' = 0
                  · rw [hz] at lO
                    clear hst hz htr
                    go_wp2_with fail
                    go_roundw
                    case rel => exact ⟨j + 1, by simp, by omega, below_on hbj (below_new _ _) (Nat.le_refl _)⟩
                    case measure => simp [intOf]; omega
                  · have hst2 := hst hz
                    rw [← hst2] at lO hz
                    have hz2 : (st' == 0) = false := by simpa using hz
                    clear hst hst2 htr
                    go_wp2_with fail
                    go_roundw
                    case rel => exact ⟨j + 1, by simp, by omega, below_on hbj (below_new _ _) (Nat.le_refl _)⟩
                    case measure => simp [intOf]; omega
                · have hj' : j = l2.length := by omega
                  subst hj'
                  go_wp2_with fail
                  go_roundw
                  case rel => exact ⟨i + 1, last, l2, v2, nT, (nO + ks.length), T, (updL O ks), rfl, by simp, by omega, by omega, by omega, hLj⟩
                  case measure => simp [intOf]; omega
        go_wp2_with fail
        obtain ⟨Wa, hWa⟩ : ∃ Wa, Wa = wr.alloc (.cells #[.int .i64 k, .int .u64 id, .int .u64 tk, .int .i64 lv, .int .i64 pt, .int .i64 st, .int .i64 tr, .int .i64 rt, .int .i64 wt, .int .i64 nx, .int .i64 at'] 41) := ⟨_, rfl⟩
        have hba : Below wr.heap.size wr Wa := by rw [hWa]; exact below_new _ _
        have oa : Wa.heap[wr.heap.size]? = _ := (congrArg (fun z : World => z.heap[wr.heap.size]?) hWa).trans (heap_alloc_new _ _)
        rw [← hWa]
        clear hWa c0 c1 c2 c3 c4 c5 c6 c7 c8 c9 c10
        have hLa := hL.below hba
        refine (state_bx hl1 hLa.bx).mono ?_
        rintro e w3 ⟨aoW, cW, rfl, howW, hb3⟩
        have hL3 := hLa.below hb3
        have o3 := (hb3.block _ (Array.getElem?_eq_some_iff.1 oa).1).trans oa
        obtain ⟨c0, c1, c2, c3, c4, c5, c6, c7, c8, c9, c10⟩ := blk11 o3
        have o3z := (Array.getElem?_eq_some_iff.1 o3).1
        go_wp2_with fail
        obtain ⟨W4, hW4⟩ : ∃ W4, W4 = w3.alloc (.cells #[.int .u64 last, .slice aoW l.length cW] 44) := ⟨_, rfl⟩
        have hb4 : Below w3.heap.size w3 W4 := by rw [hW4]; exact below_new _ _
        have o4 : W4.heap[w3.heap.size]? = _ := (congrArg (fun z : World => z.heap[w3.heap.size]?) hW4).trans (heap_alloc_new _ _)
        rw [← hW4]
        clear hW4 c0 c1 c2 c3 c4 c5 c6 c7 c8 c9 c10
        have hL4 := hL3.below hb4
        have hnW := (Ns.of_own howW).below hb4
        have z4 := (Array.getElem?_eq_some_iff.1 o4).1
        have q1 := hL4.tb
        have q2 := hL4.ob
        have q3 := hL4.tob
        have q4 := hL4.lo
        have q5 := hL4.tl
        have q6 := hL4.ol
        clear hL3 hLa
        have hpr := put_lim hL4 ⟨id, tk, lv, pt, st, tr, rt, wt, nx⟩ at'
        unfold noVal LimPut LimBad at hpr
        simp only at hpr
        have Hpr := Lib.hid hpr
        have w0 : IntKind.u64.wrap (last + 1) = last + 1 := IntWalk.u64_in _ (by have := hL4.lim.low; have := (soundS_iff.1 hL4.lim.sound).1; omega)
        clear hpr
        refine Hpr.out.mono ?_
        rintro e w5 (⟨v2, l2, rfl, hL5⟩ | ⟨c, hc0, rfl, hb5⟩)
        · go_wp2_with fail
          have hl2 : l2.length ≤ 1000000 := by have := sound_len hL5.lim.sound; omega
          refine (state_bx hl2 hL5.bx).mono ?_
          rintro e y1 ⟨aoS, cS, rfl, howS, hby⟩
          have hLy := hL5.below hby
          have hnS := Ns.of_own howS
          have hfd : ∀ W : World, (Instr.field 44 (.agg #[.int .u64 (last + 1), .slice aoS l2.length cS]) 1).run Try.prog W = .ok (.slice aoS l2.length cS) W := fun _ => by kernel_rfl
          go_wp2_with fail
          go_loopw [147] (fun a wy => ∃ j : Nat, a = .int .i64 j ∧ j ≤ l2.length ∧ Below y1.heap.size y1 wy) (fun a _ => l2.length - (intOf a).toNat)
          case atStart => exact ⟨0, rfl, by omega, Below.refl _ _⟩
          case round =>
            obtain ⟨j, rfl, hj, hbj⟩ := hrel
            have hLj := hLy.below hbj
            by_cases hjt : j < l2.length
            · obtain ⟨gS, fS, rfl, hc⟩ := (hnS.below hbj).get j hjt
              have hm := List.getElem_mem hjt
              have htr := hLj.lim.tr _ hm
              have hst := hLj.lim.st _ hm
              have hid0 := (soundF_ids l2 j hjt (soundS_iff.1 hLj.lim.sound).2.2)
              have hid1 := (soundS_iff.1 hLj.lim.sound).1
              have hwf : (Lit.int .u64 l2[j].id).wf = true := wf_u64 (by omega) (by omega)
              obtain ⟨n, hn⟩ : ∃ n, n = l2[j] := ⟨_, rfl⟩
              rw [← hn] at hc htr hst hwf
              clear hn hm hid0 hid1
              obtain ⟨id', tk', lv', pt', st', tr', rt', wt', nx'⟩ := n
              obtain ⟨c0, c1, c2, c3, c4, c5, c6, c7, c8⟩ := hc
              simp only at c0 c1 c2 c3 c4 c5 c6 c7 c8 htr hst hwf
              have hLb := hLj.below (below_new wr (.cells #[.int .u64 id', .int .u64 tk', .int .i64 lv', .int .i64 pt', .int .i64 st', .int .i64 tr', .int .i64 rt', .int .i64 wt', .int .i64 nx'] 24))
              have lT := hLb.mt.look id' hwf
              have lO := hLb.mo.look id' hwf
              rw [← htr] at lT
              have i0 : (0 : Int) ≤ (j : Int) := by omega
              have i1 : (j : Int) < (l2.length : Int) := by omega
              by_cases hz : O id' = 0
              · rw [hz] at lO
                clear hst hz htr
                go_wp2_with fail
                go_roundw
                case rel => exact ⟨j + 1, by simp, by omega, below_on hbj (below_new _ _) (Nat.le_refl _)⟩
                case measure => simp [intOf]; omega
              · have hst2 := hst hz
                rw [← hst2] at lO hz
                have hz2 : (st' == 0) = false := by simpa using hz
                clear hst hst2 htr
                go_wp2_with fail
                go_roundw
                case rel => exact ⟨j + 1, by simp, by omega, below_on hbj (below_new _ _) (Nat.le_refl _)⟩
                case measure => simp [intOf]; omega
            · have hj' : j = l2.length := by omega
              subst hj'
              go_wp2_with fail
              go_roundw
              case rel => exact ⟨i + 1, (last + 1), l2, v2, nT, nO, T, O, rfl, by simp, by omega, by omega, by omega, hLj⟩
              case measure => simp [intOf]; omega
        · have hcb : (c == 0) = false := by simpa using hc0
          have hL5 := hL4.below hb5
          go_wp2_with fail
          have hl2 : l.length ≤ 1000000 := by have := sound_len hL5.lim.sound; omega
          refine (state_bx hl2 hL5.bx).mono ?_
          rintro e y1 ⟨aoS, cS, rfl, howS, hby⟩
          have hLy := hL5.below hby
          have hnS := Ns.of_own howS
          have hfd : ∀ W : World, (Instr.field 44 (.agg #[.int .u64 last, .slice aoS l.length cS]) 1).run Try.prog W = .ok (.slice aoS l.length cS) W := fun _ => by kernel_rfl
          go_wp2_with fail
          go_loopw [147] (fun a wy => ∃ j : Nat, a = .int .i64 j ∧ j ≤ l.length ∧ Below y1.heap.size y1 wy) (fun a _ => l.length - (intOf a).toNat)
          case atStart => exact ⟨0, rfl, by omega, Below.refl _ _⟩
          case round =>
            obtain ⟨j, rfl, hj, hbj⟩ := hrel
            have hLj := hLy.below hbj
            by_cases hjt : j < l.length
            · obtain ⟨gS, fS, rfl, hc⟩ := (hnS.below hbj).get j hjt
              have hm := List.getElem_mem hjt
              have htr := hLj.lim.tr _ hm
              have hst := hLj.lim.st _ hm
              have hid0 := (soundF_ids l j hjt (soundS_iff.1 hLj.lim.sound).2.2)
              have hid1 := (soundS_iff.1 hLj.lim.sound).1
              have hwf : (Lit.int .u64 l[j].id).wf = true := wf_u64 (by omega) (by omega)
              obtain ⟨n, hn⟩ : ∃ n, n = l[j] := ⟨_, rfl⟩
              rw [← hn] at hc htr hst hwf
              clear hn hm hid0 hid1
              obtain ⟨id', tk', lv', pt', st', tr', rt', wt', nx'⟩ := n
              obtain ⟨c0, c1, c2, c3, c4, c5, c6, c7, c8⟩ := hc
              simp only at c0 c1 c2 c3 c4 c5 c6 c7 c8 htr hst hwf
              have hLb := hLj.below (below_new wr (.cells #[.int .u64 id', .int .u64 tk', .int .i64 lv', .int .i64 pt', .int .i64 st', .int .i64 tr', .int .i64 rt', .int .i64 wt', .int .i64 nx'] 24))
              have lT := hLb.mt.look id' hwf
              have lO := hLb.mo.look id' hwf
              rw [← htr] at lT
              have i0 : (0 : Int) ≤ (j : Int) := by omega
              have i1 : (j : Int) < (l.length : Int) := by omega
              by_cases hz : O id' = 0
              · rw [hz] at lO
                clear hst hz htr
                go_wp2_with fail
                go_roundw
                case rel => exact ⟨j + 1, by simp, by omega, below_on hbj (below_new _ _) (Nat.le_refl _)⟩
                case measure => simp [intOf]; omega
              · have hst2 := hst hz
                rw [← hst2] at lO hz
                have hz2 : (st' == 0) = false := by simpa using hz
                clear hst hst2 htr
                go_wp2_with fail
                go_roundw
                case rel => exact ⟨j + 1, by simp, by omega, below_on hbj (below_new _ _) (Nat.le_refl _)⟩
                case measure => simp [intOf]; omega
            · have hj' : j = l.length := by omega
              subst hj'
              go_wp2_with fail
              go_roundw
              case rel => exact ⟨i + 1, last, l, v, nT, nO, T, O, rfl, by simp, by omega, by omega, by omega, hLj⟩
              case measure => simp [intOf]; omega
      · have hi' : i = ops.length := by omega
        subst hi'
        go_wp2_with fail
        refine (lives17_any _).mono ?_
        rintro e w5 ⟨rfl, hb5⟩
        go_wp2_with fail
        go_ret
        exact ⟨rfl, below_on hL.bel hb5 (Nat.le_refl _)⟩
  · have hc3 : (200 : Int) < (ops.length : Int) := by omega
    go_enter Try.func4, Try.ntmps4
    go_wp2_with fail
    refine (lives17_any _).mono ?_
    rintro e w4 ⟨rfl, hb4⟩
    go_wp2_with fail
    go_ret
    exact ⟨rfl, hb4⟩
end Go.Proofs.Ytdcinhnplcipoaa
