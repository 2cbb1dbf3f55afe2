/- SlotsPlay: the walk. No statement of the seat is proved here. -/
import Derived.Test.YtadghaiengonoaaDoorVi
namespace Go.Proofs.YtadghaiengonoaaDoor
set_option linter.unusedVariables false
set_option linter.unusedSimpArgs false
set_option linter.unusedSectionVars false
open Go Go.RowKit Go.Maps

theorem do_any (W : World) (F : Nat → Prop) (r n : Nat) (L : RLs) (ao : Option Addr) (cap : Nat) (o : SOp) (hR : Rng W F r n L) (hT : Tab W) (hRt : Rt W ao cap L) (hA : Apart W F ao) (hl : L.length ≤ 10000) (hn : n < 1000000) (hid : IdOk o.t.id) :
    Calls Tryd.prog 14 #[.pointer (some ⟨r, 0, none⟩), .slice ao L.length cap, sopVal o] W (Done W F r n) := by
  by_cases h1 : o.kind = 1
  · exact do_drop W F r n L ao cap o h1 hR hRt hA hl (Nat.le_of_lt hn) hid
  by_cases h2 : o.kind = 2
  · exact do_take W F r n L ao cap o h2 hR hRt hl (Nat.le_of_lt hn)
  by_cases h3 : o.kind = 3
  · exact do_next W F r n L ao cap o h3 hR hT hRt hA hl
  by_cases h4 : o.kind = 4
  · exact do_get W F r n L ao cap o h4 hR hRt hA hl (Nat.le_of_lt hn) hid
  exact do_put W F r n L ao cap o ⟨h1, h2, h3, h4⟩ hR hRt hA hl hn hid
theorem used_L (W : World) (F : Nat → Prop) (r n : Nat) (L : RLs) (h : Rng W F r n L) :
    Calls Tryd.prog 16 #[.pointer (some ⟨r, 0, none⟩)] W fun e W' => (∃ u, UsedIs u L ∧ e = .returned (.int .u64 (u : Nat))) ∧ W' = W := by
  obtain ⟨mb, sv, u, hm, hu⟩ := h.mem
  refine (used_ring W r mb u hm.cellM hm.cellU hm.lt.1).mono ?_
  rintro e W' ⟨rfl, rfl⟩
  exact ⟨⟨u, hu, rfl⟩, rfl⟩
theorem left_all (L : RLs) (h : RLok L) (h2 : ∀ p ∈ L, 64 ≤ p.2) : L = [] := by
  cases L with
  | nil => rfl
  | cons p L => have := h.slot p (by simp); have := h2 p (by simp); omega
theorem leftI_from (L : RLs) (k : Nat) (h : ∀ p ∈ L, k ≤ p.2) : ∀ p ∈ leftI L (k : Nat), k + 1 ≤ p.2 := by
  intro p hp
  have hp2 := List.mem_filter.1 hp
  have := h p hp2.1
  have h3 := hp2.2
  simp only [decide_eq_true_eq] at h3
  omega
theorem leftI_len (L : RLs) (s : Int) : (leftI L s).length ≤ L.length := List.length_filter_le _ _
set_option maxRecDepth 100000 in
set_option maxHeartbeats 8000000 in
theorem slotsPlay_walk (ao : Option Addr) (cap : Nat) (l : List SOp) (W : World) (hT : Tab W) (hs : SOps W ao cap l) (hok : ∀ a ∈ l, SOpOk a) :
    Calls Tryd.prog 4 #[.slice ao l.length cap] W fun e W' => e = .returned (.bool true) ∧ Below W.heap.size W W' := by
  by_cases hl : l.length ≤ 200
  · have x0 : ¬ (l.length : Int) > 200 := by omega
    have Hl := Lib.hid hl
    have Hs := Lib.hid hs
    have HT := Lib.hid hT
    have Hok := Lib.hid hok
    clear hl hs hT hok
    go_enter Tryd.func4, Tryd.ntmps4
    go_wp2_with fail
    refine (new_ring W).mono ?_
    rintro e W0 ⟨rfl, hR0, hB0⟩
    obtain ⟨r, hr⟩ : ∃ r, r = W.heap.size + 1 := ⟨_, rfl⟩
    rw [← hr] at hR0 ⊢
    have HR0 := Lib.hid hR0
    have HB0 := Lib.hid hB0
    clear hr hR0 hB0
    go_wp2_with fail
    go_loopw [4, 19] (fun v u wr => ∃ (i n : Nat) (F : Nat → Prop) (L : RLs) (o1 : Option Addr) (q1 : Nat), u = .int .i64 (i : Nat) ∧ v = .slice o1 L.length q1 ∧ i ≤ l.length ∧ Hid (n ≤ i) ∧ Hid (Rng wr F r n L) ∧ Hid (Rt wr o1 q1 L) ∧ Hid (Apart wr F o1) ∧ Hid (Below W.heap.size W wr) ∧ Hid (∀ j, F j → W.heap.size ≤ j)) (fun _ u _ => l.length - (intOf u).toNat)
    case atStart =>
      refine ⟨0, 0, _, [], none, 0, rfl, rfl, Nat.zero_le _, (Nat.le_refl 0 : 0 ≤ 0), HR0, ?_, ?_, HB0, ?_⟩
      · show Rt _ none 0 []; exact Rt.of_own (World.ownsRow_nil _ 0 _ _)
      · show Apart _ _ none; intro a ha; cases ha
      · show ∀ j, _; intro j hj; exact hj.elim (fun h => h.elim) (fun h => h.1)
    case round =>
      obtain ⟨i, n, F, L, o1, q1, rfl, rfl, hi, hn, hR, hRt, hA, hb, hF⟩ := hrel
      by_cases hil : i < l.length
      · obtain ⟨x1, x2⟩ := i_nums i l.length hil
        obtain ⟨bx, fx, rfl, hcl⟩ := SOps.get (Hs.out.below hb.out) i hil
        have c0 := hcl 0 (by decide)
        have c1 := hcl 1 (by decide)
        have c2 := hcl 2 (by decide)
        have c3 := hcl 3 (by decide)
        have c4 := hcl 4 (by decide)
        obtain ⟨y, hy⟩ : ∃ y, y = l[i] := ⟨_, rfl⟩
        have hyo : SOpOk y := by rw [hy]; exact Hok.out _ (List.getElem_mem hil)
        rw [← hy] at c0 c1 c2 c3 c4
        obtain ⟨ok, os, ⟨ti, tg, td⟩⟩ := y
        simp [sopCells] at c0 c1 c2 c3 c4
        have hid := hyo.2.2.id
        have hbx := cell?_lt c0
        have Hi := Lib.hid hil
        have w1 : wrap64 ((i : Int) + 1) = (i : Int) + 1 := IntWalk.wrap64_in _ (by have := Hl.out; omega)
        obtain ⟨W1, hW1⟩ : ∃ W1, W1 = wr.alloc (.cells #[.int .i64 ok, .int .i64 os, .int .u64 ti, .int .u64 tg, .int .i64 td] opT) := ⟨_, rfl⟩
        have hB1 : Below wr.heap.size wr W1 := by rw [hW1]; exact below_new _ _
        obtain ⟨p0, hp0⟩ : ∃ p0, p0 = wr.heap.size := ⟨_, rfl⟩
        have ht1 : W1.heap[p0]? = some (.cells #[.int .i64 ok, .int .i64 os, .int .u64 ti, .int .u64 tg, .int .i64 td] opT (0, 0)) := by rw [hW1, hp0]; exact heap_alloc_new _ _
        have hpl := (Array.getElem?_eq_some_iff.1 ht1).1
        have e0 := block_cell ht1 0
        have e1 := block_cell ht1 1
        have e2 := block_cell ht1 2
        have e3 := block_cell ht1 3
        have e4 := block_cell ht1 4
        simp at e0 e1 e2 e3 e4
        have hlen : L.length ≤ 200 := Nat.le_trans hR.out.few (Nat.le_trans hn.out (Nat.le_trans hi Hl.out))
        have hnn : n < 1000000 := by have := hn.out; have := Hl.out; omega
        have hdo := do_any W1 F r n L o1 q1 ⟨ok, os, ⟨ti, tg, td⟩⟩ (hR.out.below hB1) (HT.out.below (below_on hb.out hB1 (Nat.le_refl _)) HT.out.pos) (hRt.out.below hB1) (fun a ha => ⟨Nat.lt_of_lt_of_le (hA.out a ha).1 hB1.size, (hA.out a ha).2⟩) (by omega) hnn hid
        have Hdo := Lib.hid hdo
        have HB1 := Lib.hid hB1
        have Hlen := Lib.hid hlen
        clear hdo hB1 hlen hnn hid hyo hcl hy hil hi ht1
        go_wp2_with fail
        rw [← hW1, ← hp0]
        clear hW1 hp0 c0 c1 c2 c3 c4
        refine Hdo.out.mono ?_
        rintro e W2 ⟨F2, n2, o2, q2, L2, rfl, hn2, hR2, hRt2, hA2, hG2, hF2⟩
        have hb1 : Below W.heap.size W W1 := below_on hb.out HB1.out (Nat.le_refl _)
        have hb2 : Below W.heap.size W W2 := hb1.trans (hG2.above hb1.size hF.out)
        have hF22 : ∀ j, F2 j → W.heap.size ≤ j := fun j hj => (hF2 j hj).elim (hF.out j) (fun h => Nat.le_trans hb1.size h)
        have hni : n2 ≤ i + 1 := Nat.le_trans hn2 (Nat.succ_le_succ hn.out)
        have hlen2 : L2.length ≤ 10000 := by have := hR2.few; have := Hl.out; have := Hi.out; omega
        have Hln := Lib.hid (len_ring W2 F2 r n2 L2 hR2)
        have Hus := Lib.hid (used_L W2 F2 r n2 L2 hR2)
        have Hru := Lib.hid (refUsed_any W2 o2 q2 L2 hRt2 hR2.ok hlen2)
        have HR2 := Lib.hid hR2
        have HRt2 := Lib.hid hRt2
        have HA2 := Lib.hid hA2
        have Hb2 := Lib.hid hb2
        have HF22 := Lib.hid hF22
        have Hni := Lib.hid hni
        clear hb1 hb2 hF22 hni hlen2 hR2 hRt2 hA2 hG2 hF2 hn2 e0 e1 e2 e3 e4 hpl hbx
        go_wp2_with fail
        refine Hln.out.mono ?_
        rintro e W3 ⟨rfl, hW3⟩
        subst hW3
        go_wp2_with fail
        refine Hus.out.mono ?_
        rintro e W4 ⟨⟨u1, hu1, rfl⟩, hW4⟩
        subst hW4
        have Hu1 := Lib.hid hu1
        clear hu1
        go_wp2_with fail
        refine Hru.out.mono ?_
        rintro e W5 ⟨⟨u9, hu2, rfl⟩, hW5⟩
        subst hW5
        have e9 := Hu1.out.uniq hu2
        subst e9
        clear hu2 Hu1
        go_wp2_with fail
        go_roundw
        case rel => exact ⟨i + 1, n2, F2, L2, o2, q2, by first | rfl | rw [w1]; rfl, rfl, Hi.out, Hni.out, HR2.out, HRt2.out, HA2.out, Hb2.out, HF22.out⟩
        case measure =>
          first | rw [w1] | skip
          exact ts_meas l.length i Hi.out
      · obtain rfl : i = l.length := Nat.le_antisymm hi (Nat.le_of_not_lt hil)
        have x1 : ¬ (l.length : Int) < (l.length : Int) := by omega
        have hn2 : n ≤ 1000000 := by have := hn.out; have := Hl.out; omega
        have hl2 : L.length ≤ 10000 := by have := hR.out.few; have := hn.out; have := Hl.out; omega
        have HN := Lib.hid hn2
        have HL2 := Lib.hid hl2
        have HT1 := Lib.hid (HT.out.below hb.out HT.out.pos)
        clear hn2 hl2 hil hi hn HR0 HB0 Hs Hok
        go_wp2_with fail
        go_loopw [4, 48] (fun v u wx => ∃ (k : Nat) (M : RLs) (o2 : Option Addr) (q2 : Nat), u = .int .i64 (k : Nat) ∧ v = .slice o2 M.length q2 ∧ k ≤ 64 ∧ Hid (Rng wx F r n M) ∧ Hid (Rt wx o2 q2 M) ∧ Hid (M.length ≤ 10000) ∧ Hid (Below W.heap.size W wx) ∧ Hid (∀ p ∈ M, k ≤ p.2)) (fun _ u _ => 64 - (intOf u).toNat)
        case atStart => exact ⟨0, L, o1, q1, rfl, rfl, Nat.zero_le _, hR, hRt, HL2, hb, (fun p _ => Nat.zero_le _ : ∀ p ∈ L, 0 ≤ p.2)⟩
        case round =>
          obtain ⟨k, M, o2, q2, rfl, rfl, hk, hR2, hRt2, hM, hb2, hfr⟩ := hrel
          by_cases hk6 : k < 64
          · have x2 : (k : Int) < 64 := by omega
            have w1 : wrap64 ((k : Int) + 1) = (k : Int) + 1 := IntWalk.wrap64_in _ (by omega)
            have Hrt := Lib.hid (refTake_any wr o2 q2 M (k : Nat) hRt2.out hM.out)
            have Hk := Lib.hid hk6
            have hMl : (leftI M (k : Nat)).length ≤ 10000 := Nat.le_trans (leftI_len M k) hM.out
            have hTl : (tookI M (k : Nat)).length ≤ 10000 := Nat.le_trans (List.length_filter_le _ _) hM.out
            have HMl := Lib.hid hMl
            have HTl := Lib.hid hTl
            clear hk6 hk hMl hTl
            go_wp2_with fail
            refine Hrt.out.mono ?_
            rintro e W3 ⟨p1, c1', p2, c2', rfl, ho1, ho2, hB3⟩
            have Htk := Lib.hid (takeI W3 F r n M (k : Nat) (hR2.out.below hB3) HN.out)
            rw [← took_len] at ho2 ⊢
            have Ho1 := Lib.hid ho1
            have Ho2 := Lib.hid ho2
            have HB3 := Lib.hid hB3
            clear ho1 ho2 hB3
            go_wp2_with fail
            refine Htk.out.mono ?_
            rintro e W6 ⟨a6, c6', l6, rfl, hl6, ht6, hR6, hG6⟩
            have hF5 : ∀ i, F i → i < wr.heap.size := hR2.out.bd
            have hown2 := own_gr Ho2.out hG6 hF5
            have hown1 := own_gr Ho1.out hG6 hF5
            have hll : (Sta.srt leP (tookI M (k : Nat))).length ≤ 10000 := by rw [took_len]; exact HTl.out
            have hl6l : l6.length ≤ 10000 := by rw [hl6.out, List.length_map]; exact hll
            have Hsm2 := Lib.hid (same_any W6 a6 c6' l6 p2 c2' _ ht6 (Rt.of_own hown2) (by omega) (by omega))
            have hb6 : Below W.heap.size W W6 := (below_on hb2.out HB3.out (Nat.le_refl _)).trans (hG6.above (Nat.le_trans hb2.out.size HB3.out.size) hF.out)
            have Hb6 := Lib.hid hb6
            have HR6 := Lib.hid hR6
            have Hw1 := Lib.hid hown1
            clear hG6 hR6 hown1 hown2 ht6 hl6l hF5 hll hb6
            go_wp2_with fail
            refine Hsm2.out.mono ?_
            rintro e W7 ⟨rfl, hB7⟩
            have hdec : decide (l6 = (Sta.srt leP (tookI M (k : Nat))).map (·.1)) = true := decide_eq_true hl6.out
            rw [hdec]
            have HB7 := Lib.hid hB7
            clear hB7 hdec
            go_wp2_with fail
            go_roundw
            case rel => exact ⟨k + 1, leftI M (k : Nat), p1, c1', by first | rfl | rw [w1]; rfl, rfl, Hk.out, HR6.out.below HB7.out, Rt.of_own (own_below Hw1.out HB7.out), HMl, below_on Hb6.out HB7.out (Nat.le_refl _), leftI_from M k hfr.out⟩
            case measure =>
              first | rw [w1] | skip
              exact ts_meas 64 k Hk.out
          · obtain rfl : k = 64 := by omega
            have x3 : ¬ ((64 : Nat) : Int) < 64 := by omega
            have hM0 : M = [] := left_all M hR2.out.ok hfr.out
            subst hM0
            have Hln := Lib.hid (len_ring wr F r n [] hR2.out)
            have Hus := Lib.hid (used_L wr F r n [] hR2.out)
            have Hlv := Lib.hid (lives_slots wr (HT.out.below hb2.out HT.out.pos))
            clear hk6 hk
            go_wp2_with fail
            refine Hln.out.mono ?_
            rintro e W3 ⟨rfl, hW3⟩
            subst hW3
            go_wp2_with fail
            refine Hus.out.mono ?_
            rintro e W4 ⟨⟨u1, hu1, rfl⟩, hW4⟩
            subst hW4
            have e1 : u1 = 0 := hu1.uniq UsedIs.nil
            subst e1
            clear hu1
            go_wp2_with fail
            refine Hlv.out.mono ?_
            rintro e W5 ⟨rfl, hb5⟩
            go_wp2_with fail
            go_ret
            exact ⟨rfl, below_on hb2.out hb5 (Nat.le_refl _)⟩
  · have x0 : (l.length : Int) > 200 := by omega
    have Hlv := Lib.hid (lives_slots W hT)
    clear hs hok
    go_enter Tryd.func4, Tryd.ntmps4
    go_wp2_with fail
    refine Hlv.out.mono ?_
    rintro e W5 ⟨rfl, hb5⟩
    go_wp2_with fail
    go_ret
    exact ⟨rfl, hb5⟩
end Go.Proofs.YtadghaiengonoaaDoor
