/- SegmentWrites: the walk. No statement of the seat is proved here. -/
import Derived.Test.YtlphpjgiaflfkaaSm
import Derived.Test.YtlphpjgiaflfkaaSz
import Derived.Test.YtlphpjgiaflfkaaSw
import Derived.Test.YtlphpjgiaflfkaaSv
namespace Go.Proofs.Ytlphpjgiaflfkaa
set_option linter.unusedVariables false
set_option linter.unusedSimpArgs false
set_option linter.unusedSectionVars false
open Go Go.RowKit Go.Shelf

theorem own_ens {W : World} {base cap : Nat} {ao : Option Addr} {l : List Ep} (h : W.ownsRow base 38 3 (.slice ao l.length cap) l.length (l.map epCells).flatten) (hd : ∀ x ∈ l, OwnD W base x) : Ens W ao cap l :=
  ⟨Sl.of_own h, fun x hx => Bs.of_own (hd x hx)⟩
set_option maxRecDepth 100000 in
set_option maxHeartbeats 4000000 in
theorem segmentWrites_far (index : Int) (ao1 ao2 : Option Addr) (cap1 cap2 : Nat) (a b : List Ep) (x : Int) (w : World) (h1 : Ens w ao1 cap1 a) (h2 : Ens w ao2 cap2 b) (hc : ¬ LightP a ∨ ¬ LightP b) :
    Calls Try.prog 7 #[.int .u64 index, .slice ao1 a.length cap1, .slice ao2 b.length cap2, .int .u8 x] w fun e w' => e = .returned (.bool true) ∧ Below w.heap.size w w' := by
  have hl := light24_any ao1 cap1 a w h1
  by_cases ha : LightP a
  · have hb : ¬ LightP b := hc.resolve_left (fun h => h ha)
    rw [decide_eq_true ha] at hl
    have Hl := Lib.hid hl
    have Hm := Lib.hid (fun W hW => light24_any ao2 cap2 b W hW)
    have hdb : decide (LightP b) = false := decide_eq_false hb
    clear hl ha hc hb
    go_enter Try.func7, Try.ntmps7
    go_wp2_with fail
    refine Hl.out.mono ?_
    rintro e w1 ⟨rfl, hB1⟩
    go_wp2_with fail
    refine (Hm.out _ (h2.below hB1)).mono ?_
    rintro e w2 ⟨rfl, hB2⟩
    rw [hdb]
    go_upto_if 23 with fail
    go_wp2_with fail
    refine (lives24_any _).mono ?_
    rintro e w3 ⟨rfl, hB3⟩
    go_wp2_with fail
    go_ret
    exact ⟨rfl, below_on (below_on hB1 hB2 (Nat.le_refl _)) hB3 (Nat.le_refl _)⟩
  · rw [decide_eq_false ha] at hl
    have Hl := Lib.hid hl
    clear hl ha hc
    go_enter Try.func7, Try.ntmps7
    go_wp2_with fail
    refine Hl.out.mono ?_
    rintro e w1 ⟨rfl, hB1⟩
    go_upto_if 23 with fail
    go_wp2_with fail
    refine (lives24_any _).mono ?_
    rintro e w3 ⟨rfl, hB3⟩
    go_wp2_with fail
    go_ret
    exact ⟨rfl, below_on hB1 hB3 (Nat.le_refl _)⟩
set_option maxRecDepth 100000 in
set_option maxHeartbeats 8000000 in
theorem segmentWrites_near (index : Nat) (ao1 ao2 : Option Addr) (cap1 cap2 : Nat) (a b : List Ep) (x : UInt8) (w : World) (h1 : Ens w ao1 cap1 a) (h2 : Ens w ao2 cap2 b) (ha : LightP a) (hb : LightP b) (hi : index < 2 ^ 64) :
    Calls Try.prog 7 #[.int .u64 (index : Nat), .slice ao1 a.length cap1, .slice ao2 b.length cap2, .int .u8 (x.toNat : Nat)] w fun e w' => e = .returned (.bool true) ∧ Below w.heap.size w w' := by
  have hl := light24_any ao1 cap1 a w h1
  rw [decide_eq_true ha] at hl
  have Hl := Lib.hid hl
  have Hm := Lib.hid (fun W hW => light24_any ao2 cap2 b W hW)
  have hdb : decide (LightP b) = true := decide_eq_true hb
  have hal : a.length ≤ 1000000 := Nat.le_trans ha.2 (by decide)
  have hbl : b.length ≤ 1000000 := Nat.le_trans hb.2 (by decide)
  have Hcp := Lib.hid (fun W hW => segCopy_any ao1 cap1 a W hW hal (fun x hx => Nat.le_trans (ha.1 x hx) (by decide)))
  have Ha := Lib.hid ha
  clear hl ha hb
  go_enter Try.func7, Try.ntmps7
  go_wp2_with fail
  refine Hl.out.mono ?_
  rintro e w1 ⟨rfl, hB1⟩
  go_wp2_with fail
  refine (Hm.out _ (h2.below hB1)).mono ?_
  rintro e w2 ⟨rfl, hB2'⟩
  have hB2 := below_on hB1 hB2' (Nat.le_refl _)
  rw [hdb]
  go_upto_if 23 with fail
  go_wp2_with fail
  refine (Hcp.out _ (h1.below hB2)).mono ?_
  rintro e w3 ⟨a3, c3, el, rfl, how3, hel, hod, hB3'⟩
  have hB3 := below_on hB2 hB3' (Nat.le_refl _)
  have hell : el.length = a.length := by simpa using congrArg List.length hel
  have g1 := h1.below hB3
  have g2 := h2.below hB3
  have g3 := own_ens how3 hod
  have Hell := Lib.hid hell
  have Hel := Lib.hid hel
  clear hell hel
  have hr1 := fun W hW1 hW2 => segRefSame_any a3 ao1 c3 cap1 el a W hW1 hW2 (by rw [Hell.out]; exact hal) hal
  have hd1 : decide (el.map Ep.e = a.map Ep.e) = true := decide_eq_true Hel.out
  have hs1 := fun W hW1 hW2 => segSame_any ao1 ao2 cap1 cap2 a b W hW1 hW2 hal hbl
  have hr2 := fun W hW1 hW2 => segRefSame_any ao1 ao2 cap1 cap2 a b W hW1 hW2 hal hbl
  have hs2 := fun W hW1 hW2 => segSame_any ao1 a3 cap1 c3 a el W hW1 hW2 hal (by rw [Hell.out]; exact hal)
  have hd2 : decide (a.map Ep.e = el.map Ep.e) = true := decide_eq_true Hel.out.symm
  rw [hd1] at hr1
  rw [hd2] at hs2
  obtain ⟨d, hd⟩ : ∃ d, d = decide (a.map Ep.e = b.map Ep.e) := ⟨_, rfl⟩
  rw [← hd] at hs1 hr2
  clear hd hd1 hd2
  have hnbw : ∀ w, (binOp .neq 4 (.bool d) (.bool d)).run Try.prog w = .ok (.bool false) w := fun w => by cases d <;> kernel_rfl
  have hnh : ∀ w, (binOp .neq 9 (.string ⟨(headB index).toArray⟩) (.string ⟨(headB index).toArray⟩)).run Try.prog w = .ok (.bool false) w := fun w => by simp [go_sem]
  have Hr1 := Lib.hid hr1
  have Hs1 := Lib.hid hs1
  have Hr2 := Lib.hid hr2
  have Hs2 := Lib.hid hs2
  have Hsh := Lib.hid (fun W => segHead_any index hi W)
  have Hrh := Lib.hid (fun W => refHeadB_any index hi W)
  clear hr1 hs1 hr2 hs2
  have hdr : Below w3.heap.size w3 w3.drew := (Below.refl _ _).drew
  go_upto_region 4 with fail
  go_cut [54] (fun v wx => v = .bool false ∧ Below w3.heap.size w3 wx)
  case first =>
    go_region_law (first
      | (go_simp; go_at_call 17; refine (Hrh.out _).mono ?_; rintro e w9 ⟨a9, c9, rfl, hf9⟩; have hB9 := below_on hB8 hf9.bel (Nat.le_refl _); have cv9 := conv_any (Bs.of_own hf9.own); have cv89 := conv_any (hs8.below hf9.bel))
      | (go_simp; go_at_call 31; refine (Hsh.out _).mono ?_; rintro e w8 ⟨a8, c8, rfl, hf8⟩; have hB8 := below_on hB7 hf8.bel (Nat.le_refl _); have hs8 := Bs.of_own hf8.own; have cv8 := conv_any hs8)
      | (go_simp; go_at_call 30; refine (Hs2.out _ (g1.below hB6) (g3.below hB6)).mono ?_; rintro e w7 ⟨rfl, hB7'⟩; have hB7 := below_on hB6 hB7' (Nat.le_refl _))
      | (go_simp; go_at_call 14; refine (Hr2.out _ (g1.below hB5) (g2.below hB5)).mono ?_; rintro e w6 ⟨rfl, hB6'⟩; have hB6 := below_on hB5 hB6' (Nat.le_refl _))
      | (go_simp; go_at_call 30; refine (Hs1.out _ (g1.below hB4) (g2.below hB4)).mono ?_; rintro e w5 ⟨rfl, hB5'⟩; have hB5 := below_on hB4 hB5' (Nat.le_refl _))
      | (go_simp; go_at_call 14; refine (Hr1.out _ (g3.below hdr) (g1.below hdr)).mono ?_; rintro e w4 ⟨rfl, hB4'⟩; have hB4 := below_on hdr hB4' (Nat.le_refl _)))
    all_goals
      go_wp2_with fail
      go_meet
      exact ⟨rfl, hB9⟩
  case rest =>
    obtain ⟨rfl, hBc'⟩ := hcut
    have hBc := below_on hB3 hBc' (Nat.le_refl _)
    clear hnbw hnh Hr1 Hs1 Hr2 Hs2 Hsh Hrh hdr g1 g2 g3
    go_wp2_with fail
    have how4 := own_below how3 hBc'
    have hoa : ∀ x ∈ el, OwnAny _ w2.heap.size x := fun x hx => (hod x hx).any.below hBc'
    have Hoa := Lib.hid hoa
    clear hoa hod how3
    go_loopw [57] (fun u wr => ∃ i : Nat, u = .int .i64 (i : Nat) ∧ i ≤ a.length ∧ wr.ownsRow w2.heap.size 38 3 (.slice a3 el.length c3) el.length (el.map epCells).flatten ∧ Hid (∀ x ∈ el, OwnAny wr w2.heap.size x) ∧ Below w.heap.size w wr) (fun u _ => a.length - (intOf u).toNat)
    case atStart => exact ⟨0, rfl, Nat.zero_le _, how4, Hoa, hBc⟩
    case round =>
      obtain ⟨i, rfl, hil, how, Hown, hB⟩ := hrel
      obtain ⟨w5, hw5⟩ : ∃ w5, w5 = wr := ⟨_, rfl⟩
      subst hw5
      by_cases hlt : i < a.length
      · have g1 := h1.below hB
        obtain ⟨b1, o1, rfl, p0, p1, p2⟩ := g1.get i hlt
        have hd0 := h1.data _ (List.getElem_mem hlt)
        have hle : i < el.length := by rw [Hell.out]; exact hlt
        have hei : el[i].e = a[i].e := by
          have h3 : (el.map Ep.e)[i]'(by simpa using hle) = (a.map Ep.e)[i]'(by simpa using hlt) := by simp only [Hel.out]
          simpa using h3
        have hlgt : a[i].e.data.length ≤ 5000 := Ha.out.1 _ (List.getElem_mem hlt)
        have hd5 : el[i].e.data.length ≤ 5000 := by rw [hei]; exact hlgt
        clear hei
        obtain ⟨y, hy⟩ : ∃ y, y = a[i] := ⟨_, rfl⟩
        rw [← hy] at p0 p1 p2 hd0 hlgt
        clear hy
        obtain ⟨⟨x1, x2, xd⟩, xa, xc⟩ := y
        simp only at p0 p1 p2 hd0 hlgt
        have i0 : (0 : Int) ≤ (i : Int) := by omega
        have i1 : (i : Int) < (a.length : Int) := by omega
        have i2 : (i : Int) < (el.length : Int) := by omega
        obtain ⟨g, rfl⟩ : ∃ g, a3 = some ⟨g, 0, none⟩ := by
          rcases how.2 with ⟨_, hn⟩ | ⟨g, cap', cur, hv, _⟩
          · omega
          · simp only [Value.slice.injEq] at hv
            exact ⟨g, hv.1⟩
        have hba := below_new w5 (.cells #[.int .u64 x1, .int .i64 x2, .slice xa xd.length xc] 38)
        have hB1' := below_on hB hba (Nat.le_refl _)
        have cv := conv_any (hd0.below hB1')
        have q2 : w5.cell? ⟨g, i * 3 + 2, none⟩ = some (.slice el[i].ao el[i].e.data.length el[i].cap) := by
          have hc := how.cellAt (i * 3 + 2) (by omega)
          rw [flat3_get el i hle 2 (by decide)] at hc
          rw [hc]; rfl
        have q2 := (hba.cell (p := ⟨g, i * 3 + 2, none⟩) (cell?_lt q2)).trans q2
        have hown1 := own_below how hba
        have Hown1 := Lib.hid (fun x hx => (Hown.out x hx).below hba)
        have k11 : (w5.alloc (.cells #[.int .u64 x1, .int .i64 x2, .slice xa xd.length xc] 38)).heap[w5.heap.size]? = some (.cells #[.int .u64 x1, .int .i64 x2, .slice xa xd.length xc] 38) := heap_alloc_new _ _
        have K11 := Lib.hid k11
        clear k11
        go_wp2_with fail
        go_loopw [71] (fun u wx => ∃ k : Nat, u = .int .i64 (k : Nat) ∧ k ≤ el[i].e.data.length ∧ wx.ownsRow w2.heap.size 38 3 (.slice (some ⟨g, 0, none⟩) el.length c3) el.length (el.map epCells).flatten ∧ Hid (∀ x ∈ el, OwnAny wx w2.heap.size x) ∧ Hid (wx.heap[w5.heap.size]? = some (.cells #[.int .u64 x1, .int .i64 x2, .slice xa xd.length xc] 38)) ∧ Below w.heap.size w wx) (fun u _ => el[i].e.data.length - (intOf u).toNat)
        case atStart => exact ⟨0, rfl, Nat.zero_le _, hown1, Hown1, K11, hB1'⟩
        case round =>
          obtain ⟨k, rfl, hkl, howx, Hownx, Hk11, hBx⟩ := hrel
          by_cases hkt : k < el[i].e.data.length
          · have hme := List.getElem_mem hle
            obtain ⟨bs, hbsl, hbsw⟩ := Hownx.out _ hme
            obtain ⟨gd, hgd⟩ : ∃ gd, el[i].ao = some ⟨gd, 0, none⟩ := by
              rcases hbsw.2 with ⟨_, hn⟩ | ⟨g', cap', cur, hv, _⟩
              · omega
              · simp only [Value.slice.injEq] at hv
                exact ⟨g', hv.1⟩
            rw [hgd] at hbsw
            have hkb : k < bs.length := by omega
            have r1 : wr.cell? ⟨gd, k, none⟩ = some (.int .u8 (bs[k].toNat : Int)) := by
              have hc := hbsw.cellAt k (by omega)
              rw [List.getElem?_map, List.getElem?_eq_getElem hkb] at hc
              exact hc
            have r2 := hbsw.frozenAt k
            have r3 : wr.cell? ⟨g, i * 3 + 2, none⟩ = some (.slice (some ⟨gd, 0, none⟩) el[i].e.data.length el[i].cap) := by
              have hc := howx.cellAt (i * 3 + 2) (by omega)
              rw [flat3_get el i hle 2 (by decide)] at hc
              rw [hc, ← hgd]; rfl
            have hu8 := own_elemE hbsw gd rfl
            have hne : w5.heap.size ≠ gd := by
              intro e
              unfold elem? at hu8
              rw [← e, Hk11.out] at hu8
              simp at hu8
            have hgw : w.heap.size ≤ gd := Nat.le_trans hB2.size (hbsw.lt gd rfl).1
            have N1 := rows_store (k := k) howx hu8 (.int .u8 (x.toNat : Int))
            have N2 := Lib.hid (fun y hy => (Hownx.out y hy).store (g := gd) (k := k) x)
            have N3 : Below w.heap.size w (wr.setCell ⟨gd, k, none⟩ (.int .u8 (x.toNat : Int))) := hBx.setCell hgw _
            have N4 := Lib.hid ((Below.heap_setCell wr ⟨gd, k, none⟩ (.int .u8 (x.toNat : Int)) w5.heap.size hne).trans Hk11.out)
            have j0 : (0 : Int) ≤ (k : Int) := by omega
            have j1 : (k : Int) < (el[i].e.data.length : Int) := by omega
            clear hbsl hbsw hgd hu8 hne
            go_wp2_with fail
            go_roundw
            case rel => exact ⟨k + 1, by simp, by omega, N1, N2, N4, N3⟩
            case measure => simp [intOf]; omega
          · have hge : ¬ ((k : Int) < (el[i].e.data.length : Int)) := by omega
            clear hkt hkl p0 p1 p2 q2 cv hown1 Hown1 K11 hB1' hba
            have hdx := hd0.below hBx
            have hcw : ∀ W', Below wr.heap.size wr W' → (W'.cell? ⟨w5.heap.size, 0, none⟩ = some (.int .u64 x1) ∧ W'.cell? ⟨w5.heap.size, 1, none⟩ = some (.int .i64 x2) ∧ W'.cell? ⟨w5.heap.size, 2, none⟩ = some (.slice xa xd.length xc) ∧ (convert 22 9 (.slice xa xd.length xc)).run Try.prog W' = .ok (.string ⟨xd.toArray⟩) W') := fun W' hb => by
              have hk := (hb.block _ (Array.getElem?_eq_some_iff.1 Hk11.out).1).trans Hk11.out
              exact ⟨block_cell hk 0, block_cell hk 1, block_cell hk 2, conv_any (hdx.below hb)⟩
            obtain ⟨t0, t1, t2, tcv⟩ := hcw _ (Below.refl _ _)
            have Hs1 := Lib.hid (fun W => sound_e x1 x2 xa xd.length xc xd rfl W)
            have Hs2 := Lib.hid (fun W => refSound_e x1 x2 xa xd.length xc xd rfl W)
            have hnxd : ∀ w, (binOp .neq 9 (.string ⟨xd.toArray⟩) (.string ⟨xd.toArray⟩)).run Try.prog w = .ok (.bool false) w := fun w => by simp [go_sem]
            by_cases hs : soundE ⟨x1, x2, xd⟩ = true
            · obtain ⟨s1, s2, s3, s4, s5⟩ := soundE_iff.1 hs
              simp only at s1 s2 s3 s4 s5
              obtain ⟨t, rfl⟩ : ∃ t : Nat, x1 = (t : Int) := ⟨x1.toNat, by omega⟩
              obtain ⟨kk, rfl⟩ : ∃ kk : Nat, x2 = (kk : Int) := ⟨x2.toNat, by omega⟩
              have hln := segLine_ok index t kk hi xa xc xd wr hdx hs
              have Hrl := Lib.hid (fun W hW => refLine_any index t kk hi xa xc xd W hW hs)
              have Hln := Lib.hid hln
              obtain ⟨L, hL⟩ : ∃ L, L = lineB index t kk xd := ⟨_, rfl⟩
              rw [← hL] at Hln Hrl
              rw [hs] at Hs1 Hs2
              have hnL : ∀ w, (binOp .neq 9 (.string ⟨L.toArray⟩) (.string ⟨L.toArray⟩)).run Try.prog w = .ok (.bool false) w := fun w => by simp [go_sem]
              clear hs hL s1 s2 s3 s4 s5 hln tcv hlgt hd5
              go_upto_region 15 with fail
              go_wp2_with fail
              refine Hln.out.mono ?_
              rintro e W8 ⟨aL, cL, rfl, hfL⟩
              have hB8 := hfL.bel
              have hd8 : Below wr.heap.size wr W8.drew := hB8.drew
              go_upto_region 16 with fail
              have hcw0 := hcw
              refine wp_region_held_drew (S := fun W' => (W'.cell? ⟨w5.heap.size, 0, none⟩ = some (.int .u64 (t : Nat)) ∧ W'.cell? ⟨w5.heap.size, 1, none⟩ = some (.int .i64 (kk : Nat)) ∧ W'.cell? ⟨w5.heap.size, 2, none⟩ = some (.slice xa xd.length xc) ∧ (convert 22 9 (.slice xa xd.length xc)).run Try.prog W' = .ok (.string ⟨xd.toArray⟩) W')) (by kernel_rfl) (hcw _ hd8) (fun hHeld => ?_)
              refine wpAnyH_take (i := 0) (v := ?_) rfl (by kernel_rfl) (by kernel_rfl) (by kernel_rfl) (fun _ _ _ h => h) (Or.inl ⟨by rfl, ?_⟩) (by assumption) ?_
              rotate_left
              · intro w hSw; (try dsimp only at hSw); go_simp; (try with_reducible rfl)
              try simp only [Act.put, List.getElem_toArray, List.getElem_cons_zero, List.getElem_cons_succ, List.setIfInBounds_toArray, List.set_cons_zero, List.set_cons_succ]
              refine wpAnyH_take (i := 1) (v := ?_) rfl (by kernel_rfl) (by kernel_rfl) (by kernel_rfl) (fun _ _ _ h => h) (Or.inl ⟨by rfl, ?_⟩) (by assumption) ?_
              rotate_left
              · intro w hSw; (try dsimp only at hSw); go_simp; (try with_reducible rfl)
              try simp only [Act.put, List.getElem_toArray, List.getElem_cons_zero, List.getElem_cons_succ, List.setIfInBounds_toArray, List.set_cons_zero, List.set_cons_succ]
              refine wpAnyH_take (i := 2) (v := ?_) rfl (by kernel_rfl) (by kernel_rfl) (by kernel_rfl) (fun _ _ _ h => h) (Or.inl ⟨by rfl, ?_⟩) (by assumption) ?_
              rotate_left
              · intro w hSw; (try dsimp only at hSw); go_simp; (try with_reducible rfl)
              try simp only [Act.put, List.getElem_toArray, List.getElem_cons_zero, List.getElem_cons_succ, List.setIfInBounds_toArray, List.set_cons_zero, List.set_cons_succ]
              refine wpAnyH_take (i := 3) (v := ?_) rfl (by kernel_rfl) (by kernel_rfl) (by kernel_rfl) (fun _ _ _ h => h) (Or.inl ⟨by rfl, ?_⟩) (by assumption) ?_
              rotate_left
              · intro w hSw; (try dsimp only at hSw); go_simp; (try with_reducible rfl)
              try simp only [Act.put, List.getElem_toArray, List.getElem_cons_zero, List.getElem_cons_succ, List.setIfInBounds_toArray, List.set_cons_zero, List.set_cons_succ]
              refine wpAnyH_take (i := 4) (v := ?_) rfl (by kernel_rfl) (by kernel_rfl) (by kernel_rfl) (fun _ _ _ h => h) (Or.inl ⟨by rfl, ?_⟩) (by assumption) ?_
              rotate_left
              · intro w hSw; (try dsimp only at hSw); go_simp; (try with_reducible rfl)
              try simp only [Act.put, List.getElem_toArray, List.getElem_cons_zero, List.getElem_cons_succ, List.setIfInBounds_toArray, List.set_cons_zero, List.set_cons_succ]
              refine wpAnyH_take (i := 5) (v := ?_) rfl (by kernel_rfl) (by kernel_rfl) (by kernel_rfl) (fun _ _ _ h => h) (Or.inl ⟨by rfl, ?_⟩) (by assumption) ?_
              rotate_left
              · intro w hSw; (try dsimp only at hSw); go_simp; (try with_reducible rfl)
              try simp only [Act.put, List.getElem_toArray, List.getElem_cons_zero, List.getElem_cons_succ, List.setIfInBounds_toArray, List.set_cons_zero, List.set_cons_succ]
              refine wpAnyH_take (i := 6) (v := ?_) rfl (by kernel_rfl) (by kernel_rfl) (by kernel_rfl) (fun _ _ _ h => h) (Or.inl ⟨by rfl, ?_⟩) (by assumption) ?_
              rotate_left
              · intro w hSw; (try dsimp only at hSw); go_simp; (try with_reducible rfl)
              try simp only [Act.put, List.getElem_toArray, List.getElem_cons_zero, List.getElem_cons_succ, List.setIfInBounds_toArray, List.set_cons_zero, List.set_cons_succ]
              refine wpAnyH_take (i := 8) (v := ?_) rfl (by kernel_rfl) (by kernel_rfl) (by kernel_rfl) (fun _ _ _ h => h) (Or.inl ⟨by rfl, ?_⟩) (by assumption) ?_
              rotate_left
              · intro w hSw; (try dsimp only at hSw); go_simp; (try with_reducible rfl)
              try simp only [Act.put, List.getElem_toArray, List.getElem_cons_zero, List.getElem_cons_succ, List.setIfInBounds_toArray, List.set_cons_zero, List.set_cons_succ]
              refine wpAnyH_ready (rs := [7]) (by kernel_rfl) (by simp) ?_
              refine AllReadyH.cons rfl (fun K hK => ?_) AllReadyH.nil
              go_simp
              go_at_call 33
              refine (Hs1.out _).mono ?_
              rintro e w9 ⟨rfl, hB9'⟩; have hB9 : Below wr.heap.size wr w9 := below_on hd8 hB9' (Nat.le_refl _)
              refine hK.out _ _ (hcw w9 hB9) (fun hHeld => ?_)
              clear hK K
              try simp only [Act.put, List.getElem_toArray, List.getElem_cons_zero, List.getElem_cons_succ, List.setIfInBounds_toArray, List.set_cons_zero, List.set_cons_succ]
              refine wpAnyH_ready (rs := [9]) (by kernel_rfl) (by simp) ?_
              refine AllReadyH.cons rfl (fun K hK => ?_) AllReadyH.nil
              go_simp
              go_at_call 34
              refine (Hs2.out _).mono ?_
              rintro e w10 ⟨rfl, hB10'⟩; have hB10 : Below wr.heap.size wr w10 := below_on hB9 hB10' (Nat.le_refl _)
              refine hK.out _ _ (hcw w10 hB10) (fun hHeld => ?_)
              clear hK K
              try simp only [Act.put, List.getElem_toArray, List.getElem_cons_zero, List.getElem_cons_succ, List.setIfInBounds_toArray, List.set_cons_zero, List.set_cons_succ]
              refine wpAnyH_take (i := 10) (v := ?_) rfl (by kernel_rfl) (by kernel_rfl) (by kernel_rfl) (fun _ _ _ h => h) (Or.inl ⟨by rfl, ?_⟩) (by assumption) ?_
              rotate_left
              · intro w hSw; (try dsimp only at hSw); go_simp; (try with_reducible rfl)
              try simp only [Act.put, List.getElem_toArray, List.getElem_cons_zero, List.getElem_cons_succ, List.setIfInBounds_toArray, List.set_cons_zero, List.set_cons_succ]
              refine wpAnyH_take (i := 11) (v := ?_) rfl (by kernel_rfl) (by kernel_rfl) (by kernel_rfl) (fun _ _ _ h => h) (Or.inl ⟨by rfl, ?_⟩) (by assumption) ?_
              rotate_left
              · intro w hSw; (try dsimp only at hSw); go_simp; (try with_reducible rfl)
              try simp only [Act.put, List.getElem_toArray, List.getElem_cons_zero, List.getElem_cons_succ, List.setIfInBounds_toArray, List.set_cons_zero, List.set_cons_succ]
              refine wpAnyH_done (by kernel_rfl) ?_ _
              have hLs := Bs.of_own hfL.own
              have hcv : ∀ W', Below W8.heap.size W8 W' → (W'.cell? ⟨w5.heap.size, 0, none⟩ = some (.int .u64 (t : Nat)) ∧ W'.cell? ⟨w5.heap.size, 1, none⟩ = some (.int .i64 (kk : Nat)) ∧ W'.cell? ⟨w5.heap.size, 2, none⟩ = some (.slice xa xd.length xc) ∧ (convert 22 9 (.slice aL L.length cL)).run Try.prog W' = .ok (.string ⟨L.toArray⟩) W') := fun W' hb => by
                have hx := hcw W' (below_on hB8 hb (Nat.le_refl _))
                exact ⟨hx.1, hx.2.1, hx.2.2.1, conv_any (hLs.below hb)⟩
              have hB10b : Below W8.heap.size W8 w10 := below_on (below_on (Below.refl _ _).drew hB9' (Nat.le_refl _)) hB10' (Nat.le_refl _)
              go_upto_region 18 with fail
              have hd11 : Below W8.heap.size W8 w10.drew := hB10b.drew
              refine wp_region_held_drew (S := fun W' => (W'.cell? ⟨w5.heap.size, 0, none⟩ = some (.int .u64 (t : Nat)) ∧ W'.cell? ⟨w5.heap.size, 1, none⟩ = some (.int .i64 (kk : Nat)) ∧ W'.cell? ⟨w5.heap.size, 2, none⟩ = some (.slice xa xd.length xc) ∧ (convert 22 9 (.slice aL L.length cL)).run Try.prog W' = .ok (.string ⟨L.toArray⟩) W')) (by kernel_rfl) (hcv _ hd11) (fun hHeld => ?_)
              refine wpAnyH_take (i := 0) (v := ?_) rfl (by kernel_rfl) (by kernel_rfl) (by kernel_rfl) (fun _ _ _ h => h) (Or.inl ⟨by rfl, ?_⟩) (by assumption) ?_
              rotate_left
              · intro w hSw; (try dsimp only at hSw); go_simp; (try with_reducible rfl)
              try simp only [Act.put, List.getElem_toArray, List.getElem_cons_zero, List.getElem_cons_succ, List.setIfInBounds_toArray, List.set_cons_zero, List.set_cons_succ]
              refine wpAnyH_ready (rs := [1]) (by kernel_rfl) (by simp) ?_
              refine AllReadyH.cons rfl (fun K hK => ?_) AllReadyH.nil
              go_simp
              go_at_call 34
              refine (Hs2.out _).mono ?_
              rintro e w11 ⟨rfl, hB11'⟩; have hB11 : Below W8.heap.size W8 w11 := below_on hd11 hB11' (Nat.le_refl _)
              refine hK.out _ _ (hcv w11 hB11) (fun hHeld => ?_)
              clear hK K
              try simp only [Act.put, List.getElem_toArray, List.getElem_cons_zero, List.getElem_cons_succ, List.setIfInBounds_toArray, List.set_cons_zero, List.set_cons_succ]
              refine wpAnyH_take (i := 2) (v := ?_) rfl (by kernel_rfl) (by kernel_rfl) (by kernel_rfl) (fun _ _ _ h => h) (Or.inl ⟨by rfl, ?_⟩) (by assumption) ?_
              rotate_left
              · intro w hSw; (try dsimp only at hSw); go_simp; (try with_reducible rfl)
              try simp only [Act.put, List.getElem_toArray, List.getElem_cons_zero, List.getElem_cons_succ, List.setIfInBounds_toArray, List.set_cons_zero, List.set_cons_succ]
              refine wpAnyH_take (i := 3) (v := ?_) rfl (by kernel_rfl) (by kernel_rfl) (by kernel_rfl) (fun _ _ _ h => h) (Or.inl ⟨by rfl, ?_⟩) (by assumption) ?_
              rotate_left
              · intro w hSw; (try dsimp only at hSw); go_simp; (try with_reducible rfl)
              try simp only [Act.put, List.getElem_toArray, List.getElem_cons_zero, List.getElem_cons_succ, List.setIfInBounds_toArray, List.set_cons_zero, List.set_cons_succ]
              refine wpAnyH_take (i := 4) (v := ?_) rfl (by kernel_rfl) (by kernel_rfl) (by kernel_rfl) (fun _ _ _ h => h) (Or.inl ⟨by rfl, ?_⟩) (by assumption) ?_
              rotate_left
              · intro w hSw; (try dsimp only at hSw); go_simp; (try with_reducible rfl)
              try simp only [Act.put, List.getElem_toArray, List.getElem_cons_zero, List.getElem_cons_succ, List.setIfInBounds_toArray, List.set_cons_zero, List.set_cons_succ]
              refine wpAnyH_take (i := 5) (v := ?_) rfl (by kernel_rfl) (by kernel_rfl) (by kernel_rfl) (fun _ _ _ h => h) (Or.inl ⟨by rfl, ?_⟩) (by assumption) ?_
              rotate_left
              · intro w hSw; (try dsimp only at hSw); go_simp; (try with_reducible rfl)
              try simp only [Act.put, List.getElem_toArray, List.getElem_cons_zero, List.getElem_cons_succ, List.setIfInBounds_toArray, List.set_cons_zero, List.set_cons_succ]
              refine wpAnyH_take (i := 6) (v := ?_) rfl (by kernel_rfl) (by kernel_rfl) (by kernel_rfl) (fun _ _ _ h => h) (Or.inl ⟨by rfl, ?_⟩) (by assumption) ?_
              rotate_left
              · intro w hSw; (try dsimp only at hSw); go_simp; (try with_reducible rfl)
              try simp only [Act.put, List.getElem_toArray, List.getElem_cons_zero, List.getElem_cons_succ, List.setIfInBounds_toArray, List.set_cons_zero, List.set_cons_succ]
              refine wpAnyH_take (i := 7) (v := ?_) rfl (by kernel_rfl) (by kernel_rfl) (by kernel_rfl) (fun _ _ _ h => h) (Or.inl ⟨by rfl, ?_⟩) (by assumption) ?_
              rotate_left
              · intro w hSw; (try dsimp only at hSw); go_simp; (try with_reducible rfl)
              try simp only [Act.put, List.getElem_toArray, List.getElem_cons_zero, List.getElem_cons_succ, List.setIfInBounds_toArray, List.set_cons_zero, List.set_cons_succ]
              refine wpAnyH_take (i := 8) (v := ?_) rfl (by kernel_rfl) (by kernel_rfl) (by kernel_rfl) (fun _ _ _ h => h) (Or.inl ⟨by rfl, ?_⟩) (by assumption) ?_
              rotate_left
              · intro w hSw; (try dsimp only at hSw); go_simp; (try with_reducible rfl)
              try simp only [Act.put, List.getElem_toArray, List.getElem_cons_zero, List.getElem_cons_succ, List.setIfInBounds_toArray, List.set_cons_zero, List.set_cons_succ]
              refine wpAnyH_take (i := 9) (v := ?_) rfl (by kernel_rfl) (by kernel_rfl) (by kernel_rfl) (fun _ _ _ h => h) (Or.inl ⟨by rfl, ?_⟩) (by assumption) ?_
              rotate_left
              · intro w hSw; (try dsimp only at hSw); go_simp; (try with_reducible rfl)
              try simp only [Act.put, List.getElem_toArray, List.getElem_cons_zero, List.getElem_cons_succ, List.setIfInBounds_toArray, List.set_cons_zero, List.set_cons_succ]
              have hB11w : Below wr.heap.size wr w11 := below_on hB8 hB11 (Nat.le_refl _)
              refine wpAnyH_ready (rs := [10]) (by kernel_rfl) (by simp) ?_
              refine AllReadyH.cons rfl (fun K hK => ?_) AllReadyH.nil
              go_simp
              go_at_call 18
              refine (Hrl.out _ (hdx.below hB11w)).mono ?_
              rintro e w12 ⟨aR, cR, rfl, hfR⟩; have hB12 : Below W8.heap.size W8 w12 := below_on hB11 hfR.bel (Nat.le_refl _); have cvR := conv_any (Bs.of_own hfR.own)
              refine hK.out _ _ (hcv w12 hB12) (fun hHeld => ?_)
              clear hK K
              try simp only [Act.put, List.getElem_toArray, List.getElem_cons_zero, List.getElem_cons_succ, List.setIfInBounds_toArray, List.set_cons_zero, List.set_cons_succ]
              refine wpAnyH_ready (rs := [11]) (by kernel_rfl) (by simp) ?_
              refine AllReadyH.cons rfl (fun K hK => ?_) AllReadyH.nil
              go_simp
              refine hK.out _ _ (hcv w12 hB12) (fun hHeld => ?_)
              clear hK K
              try simp only [Act.put, List.getElem_toArray, List.getElem_cons_zero, List.getElem_cons_succ, List.setIfInBounds_toArray, List.set_cons_zero, List.set_cons_succ]
              refine wpAnyH_take (i := 12) (v := ?_) rfl (by kernel_rfl) (by kernel_rfl) (by kernel_rfl) (fun _ _ _ h => h) (Or.inl ⟨by rfl, ?_⟩) (by assumption) ?_
              rotate_left
              · intro w hSw; (try dsimp only at hSw); go_simp; (try with_reducible rfl)
              try simp only [Act.put, List.getElem_toArray, List.getElem_cons_zero, List.getElem_cons_succ, List.setIfInBounds_toArray, List.set_cons_zero, List.set_cons_succ]
              refine wpAnyH_take (i := 13) (v := ?_) rfl (by kernel_rfl) (by kernel_rfl) (by kernel_rfl) (fun _ _ _ h => h) (Or.inl ⟨by rfl, ?_⟩) (by assumption) ?_
              rotate_left
              · intro w hSw; (try dsimp only at hSw); go_simp; (try with_reducible rfl)
              try simp only [Act.put, List.getElem_toArray, List.getElem_cons_zero, List.getElem_cons_succ, List.setIfInBounds_toArray, List.set_cons_zero, List.set_cons_succ]
              refine wpAnyH_take (i := 14) (v := ?_) rfl (by kernel_rfl) (by kernel_rfl) (by kernel_rfl) (fun _ _ _ h => h) (Or.inl ⟨by rfl, ?_⟩) (by assumption) ?_
              rotate_left
              · intro w hSw; (try dsimp only at hSw); go_simp; (try with_reducible rfl)
              try simp only [Act.put, List.getElem_toArray, List.getElem_cons_zero, List.getElem_cons_succ, List.setIfInBounds_toArray, List.set_cons_zero, List.set_cons_succ]
              refine wpAnyH_take (i := 15) (v := ?_) rfl (by kernel_rfl) (by kernel_rfl) (by kernel_rfl) (fun _ _ _ h => h) (Or.inl ⟨by rfl, ?_⟩) (by assumption) ?_
              rotate_left
              · intro w hSw; (try dsimp only at hSw); go_simp; (try with_reducible rfl)
              try simp only [Act.put, List.getElem_toArray, List.getElem_cons_zero, List.getElem_cons_succ, List.setIfInBounds_toArray, List.set_cons_zero, List.set_cons_succ]
              refine wpAnyH_take (i := 16) (v := ?_) rfl (by kernel_rfl) (by kernel_rfl) (by kernel_rfl) (fun _ _ _ h => h) (Or.inl ⟨by rfl, ?_⟩) (by assumption) ?_
              rotate_left
              · intro w hSw; (try dsimp only at hSw); go_simp; (try with_reducible rfl)
              try simp only [Act.put, List.getElem_toArray, List.getElem_cons_zero, List.getElem_cons_succ, List.setIfInBounds_toArray, List.set_cons_zero, List.set_cons_succ]
              refine wpAnyH_ready (rs := [17]) (by kernel_rfl) (by simp) ?_
              refine AllReadyH.cons rfl (fun K hK => ?_) AllReadyH.nil
              go_simp
              go_at_call 34
              refine (Hs2.out _).mono ?_
              rintro e w13 ⟨rfl, hB13'⟩; have hB13 : Below W8.heap.size W8 w13 := below_on hB12 hB13' (Nat.le_refl _)
              refine hK.out _ _ (hcv w13 hB13) (fun hHeld => ?_)
              clear hK K
              try simp only [Act.put, List.getElem_toArray, List.getElem_cons_zero, List.getElem_cons_succ, List.setIfInBounds_toArray, List.set_cons_zero, List.set_cons_succ]
              refine wpAnyH_take (i := 18) (v := ?_) rfl (by kernel_rfl) (by kernel_rfl) (by kernel_rfl) (fun _ _ _ h => h) (Or.inl ⟨by rfl, ?_⟩) (by assumption) ?_
              rotate_left
              · intro w hSw; (try dsimp only at hSw); go_simp; (try with_reducible rfl)
              try simp only [Act.put, List.getElem_toArray, List.getElem_cons_zero, List.getElem_cons_succ, List.setIfInBounds_toArray, List.set_cons_zero, List.set_cons_succ]
              refine wpAnyH_take (i := 19) (v := ?_) rfl (by kernel_rfl) (by kernel_rfl) (by kernel_rfl) (fun _ _ _ h => h) (Or.inl ⟨by rfl, ?_⟩) (by assumption) ?_
              rotate_left
              · intro w hSw; (try dsimp only at hSw); go_simp; (try with_reducible rfl)
              try simp only [Act.put, List.getElem_toArray, List.getElem_cons_zero, List.getElem_cons_succ, List.setIfInBounds_toArray, List.set_cons_zero, List.set_cons_succ]
              refine wpAnyH_take (i := 20) rfl (by kernel_rfl) (by kernel_rfl) (by kernel_rfl) (fun _ _ _ h => h) (Or.inr ⟨by rfl, rfl⟩) (by assumption) ?_
              try simp only [Act.put, List.getElem_toArray, List.getElem_cons_zero, List.getElem_cons_succ, List.setIfInBounds_toArray, List.set_cons_zero, List.set_cons_succ]
              refine wpAnyH_take (i := 21) rfl (by kernel_rfl) (by kernel_rfl) (by kernel_rfl) (fun _ _ _ h => h) (Or.inr ⟨by rfl, rfl⟩) (by assumption) ?_
              try simp only [Act.put, List.getElem_toArray, List.getElem_cons_zero, List.getElem_cons_succ, List.setIfInBounds_toArray, List.set_cons_zero, List.set_cons_succ]
              refine wpAnyH_take (i := 22) rfl (by kernel_rfl) (by kernel_rfl) (by kernel_rfl) (fun _ _ _ h => h) (Or.inr ⟨by rfl, rfl⟩) (by assumption) ?_
              try simp only [Act.put, List.getElem_toArray, List.getElem_cons_zero, List.getElem_cons_succ, List.setIfInBounds_toArray, List.set_cons_zero, List.set_cons_succ]
              refine wpAnyH_take (i := 23) rfl (by kernel_rfl) (by kernel_rfl) (by kernel_rfl) (fun _ _ _ h => h) (Or.inr ⟨by rfl, rfl⟩) (by assumption) ?_
              try simp only [Act.put, List.getElem_toArray, List.getElem_cons_zero, List.getElem_cons_succ, List.setIfInBounds_toArray, List.set_cons_zero, List.set_cons_succ]
              refine wpAnyH_take (i := 24) rfl (by kernel_rfl) (by kernel_rfl) (by kernel_rfl) (fun _ _ _ h => h) (Or.inr ⟨by rfl, rfl⟩) (by assumption) ?_
              try simp only [Act.put, List.getElem_toArray, List.getElem_cons_zero, List.getElem_cons_succ, List.setIfInBounds_toArray, List.set_cons_zero, List.set_cons_succ]
              refine wpAnyH_take (i := 25) rfl (by kernel_rfl) (by kernel_rfl) (by kernel_rfl) (fun _ _ _ h => h) (Or.inr ⟨by rfl, rfl⟩) (by assumption) ?_
              try simp only [Act.put, List.getElem_toArray, List.getElem_cons_zero, List.getElem_cons_succ, List.setIfInBounds_toArray, List.set_cons_zero, List.set_cons_succ]
              refine wpAnyH_take (i := 26) rfl (by kernel_rfl) (by kernel_rfl) (by kernel_rfl) (fun _ _ _ h => h) (Or.inr ⟨by rfl, rfl⟩) (by assumption) ?_
              try simp only [Act.put, List.getElem_toArray, List.getElem_cons_zero, List.getElem_cons_succ, List.setIfInBounds_toArray, List.set_cons_zero, List.set_cons_succ]
              refine wpAnyH_take (i := 27) (v := ?_) rfl (by kernel_rfl) (by kernel_rfl) (by kernel_rfl) (fun _ _ _ h => h) (Or.inl ⟨by rfl, ?_⟩) (by assumption) ?_
              rotate_left
              · intro w hSw; (try dsimp only at hSw); go_simp; (try with_reducible rfl)
              try simp only [Act.put, List.getElem_toArray, List.getElem_cons_zero, List.getElem_cons_succ, List.setIfInBounds_toArray, List.set_cons_zero, List.set_cons_succ]
              refine wpAnyH_take (i := 28) (v := ?_) rfl (by kernel_rfl) (by kernel_rfl) (by kernel_rfl) (fun _ _ _ h => h) (Or.inl ⟨by rfl, ?_⟩) (by assumption) ?_
              rotate_left
              · intro w hSw; (try dsimp only at hSw); go_simp; (try with_reducible rfl)
              try simp only [Act.put, List.getElem_toArray, List.getElem_cons_zero, List.getElem_cons_succ, List.setIfInBounds_toArray, List.set_cons_zero, List.set_cons_succ]
              refine wpAnyH_done (by kernel_rfl) ?_ _
              have hBn : Below wr.heap.size wr w13 := below_on hB8 hB13 (Nat.le_refl _)
              have M1 := own_below howx hBn
              have M2 := Lib.hid (fun y hy => (Hownx.out y hy).below hBn)
              have M3 := below_on hBx hBn (Nat.le_refl _)
              go_wp2_with fail
              go_roundw
              case rel => exact ⟨i + 1, by simp, by omega, M1, M2, M3⟩
              case measure => simp [intOf]; omega
            · have hsf : soundE ⟨x1, x2, xd⟩ = false := by simpa using hs
              have hln := segLine_bad (index : Nat) x1 x2 xa xc xd wr hsf
              have Hln := Lib.hid hln
              rw [hsf] at Hs1 Hs2
              clear hs hsf hln tcv hlgt hd5
              go_upto_region 15 with fail
              go_wp2_with fail
              refine Hln.out.mono ?_
              rintro e W8 ⟨rfl, hB8⟩
              have hd8 : Below wr.heap.size wr W8.drew := hB8.drew
              go_upto_region 16 with fail
              have hcw0 := hcw
              refine wp_region_held_drew (S := fun W' => (W'.cell? ⟨w5.heap.size, 0, none⟩ = some (.int .u64 x1) ∧ W'.cell? ⟨w5.heap.size, 1, none⟩ = some (.int .i64 x2) ∧ W'.cell? ⟨w5.heap.size, 2, none⟩ = some (.slice xa xd.length xc) ∧ (convert 22 9 (.slice xa xd.length xc)).run Try.prog W' = .ok (.string ⟨xd.toArray⟩) W')) (by kernel_rfl) (hcw _ hd8) (fun hHeld => ?_)
              refine wpAnyH_take (i := 0) (v := ?_) rfl (by kernel_rfl) (by kernel_rfl) (by kernel_rfl) (fun _ _ _ h => h) (Or.inl ⟨by rfl, ?_⟩) (by assumption) ?_
              rotate_left
              · intro w hSw; (try dsimp only at hSw); go_simp; (try with_reducible rfl)
              try simp only [Act.put, List.getElem_toArray, List.getElem_cons_zero, List.getElem_cons_succ, List.setIfInBounds_toArray, List.set_cons_zero, List.set_cons_succ]
              refine wpAnyH_take (i := 1) (v := ?_) rfl (by kernel_rfl) (by kernel_rfl) (by kernel_rfl) (fun _ _ _ h => h) (Or.inl ⟨by rfl, ?_⟩) (by assumption) ?_
              rotate_left
              · intro w hSw; (try dsimp only at hSw); go_simp; (try with_reducible rfl)
              try simp only [Act.put, List.getElem_toArray, List.getElem_cons_zero, List.getElem_cons_succ, List.setIfInBounds_toArray, List.set_cons_zero, List.set_cons_succ]
              refine wpAnyH_take (i := 2) (v := ?_) rfl (by kernel_rfl) (by kernel_rfl) (by kernel_rfl) (fun _ _ _ h => h) (Or.inl ⟨by rfl, ?_⟩) (by assumption) ?_
              rotate_left
              · intro w hSw; (try dsimp only at hSw); go_simp; (try with_reducible rfl)
              try simp only [Act.put, List.getElem_toArray, List.getElem_cons_zero, List.getElem_cons_succ, List.setIfInBounds_toArray, List.set_cons_zero, List.set_cons_succ]
              refine wpAnyH_take (i := 3) (v := ?_) rfl (by kernel_rfl) (by kernel_rfl) (by kernel_rfl) (fun _ _ _ h => h) (Or.inl ⟨by rfl, ?_⟩) (by assumption) ?_
              rotate_left
              · intro w hSw; (try dsimp only at hSw); go_simp; (try with_reducible rfl)
              try simp only [Act.put, List.getElem_toArray, List.getElem_cons_zero, List.getElem_cons_succ, List.setIfInBounds_toArray, List.set_cons_zero, List.set_cons_succ]
              refine wpAnyH_take (i := 4) (v := ?_) rfl (by kernel_rfl) (by kernel_rfl) (by kernel_rfl) (fun _ _ _ h => h) (Or.inl ⟨by rfl, ?_⟩) (by assumption) ?_
              rotate_left
              · intro w hSw; (try dsimp only at hSw); go_simp; (try with_reducible rfl)
              try simp only [Act.put, List.getElem_toArray, List.getElem_cons_zero, List.getElem_cons_succ, List.setIfInBounds_toArray, List.set_cons_zero, List.set_cons_succ]
              refine wpAnyH_take (i := 5) (v := ?_) rfl (by kernel_rfl) (by kernel_rfl) (by kernel_rfl) (fun _ _ _ h => h) (Or.inl ⟨by rfl, ?_⟩) (by assumption) ?_
              rotate_left
              · intro w hSw; (try dsimp only at hSw); go_simp; (try with_reducible rfl)
              try simp only [Act.put, List.getElem_toArray, List.getElem_cons_zero, List.getElem_cons_succ, List.setIfInBounds_toArray, List.set_cons_zero, List.set_cons_succ]
              refine wpAnyH_take (i := 6) (v := ?_) rfl (by kernel_rfl) (by kernel_rfl) (by kernel_rfl) (fun _ _ _ h => h) (Or.inl ⟨by rfl, ?_⟩) (by assumption) ?_
              rotate_left
              · intro w hSw; (try dsimp only at hSw); go_simp; (try with_reducible rfl)
              try simp only [Act.put, List.getElem_toArray, List.getElem_cons_zero, List.getElem_cons_succ, List.setIfInBounds_toArray, List.set_cons_zero, List.set_cons_succ]
              refine wpAnyH_take (i := 8) (v := ?_) rfl (by kernel_rfl) (by kernel_rfl) (by kernel_rfl) (fun _ _ _ h => h) (Or.inl ⟨by rfl, ?_⟩) (by assumption) ?_
              rotate_left
              · intro w hSw; (try dsimp only at hSw); go_simp; (try with_reducible rfl)
              try simp only [Act.put, List.getElem_toArray, List.getElem_cons_zero, List.getElem_cons_succ, List.setIfInBounds_toArray, List.set_cons_zero, List.set_cons_succ]
              refine wpAnyH_ready (rs := [7]) (by kernel_rfl) (by simp) ?_
              refine AllReadyH.cons rfl (fun K hK => ?_) AllReadyH.nil
              go_simp
              go_at_call 33
              refine (Hs1.out _).mono ?_
              rintro e w9 ⟨rfl, hB9'⟩; have hB9 : Below wr.heap.size wr w9 := below_on hd8 hB9' (Nat.le_refl _)
              refine hK.out _ _ (hcw w9 hB9) (fun hHeld => ?_)
              clear hK K
              try simp only [Act.put, List.getElem_toArray, List.getElem_cons_zero, List.getElem_cons_succ, List.setIfInBounds_toArray, List.set_cons_zero, List.set_cons_succ]
              refine wpAnyH_ready (rs := [9]) (by kernel_rfl) (by simp) ?_
              refine AllReadyH.cons rfl (fun K hK => ?_) AllReadyH.nil
              go_simp
              go_at_call 34
              refine (Hs2.out _).mono ?_
              rintro e w10 ⟨rfl, hB10'⟩; have hB10 : Below wr.heap.size wr w10 := below_on hB9 hB10' (Nat.le_refl _)
              refine hK.out _ _ (hcw w10 hB10) (fun hHeld => ?_)
              clear hK K
              try simp only [Act.put, List.getElem_toArray, List.getElem_cons_zero, List.getElem_cons_succ, List.setIfInBounds_toArray, List.set_cons_zero, List.set_cons_succ]
              refine wpAnyH_take (i := 10) (v := ?_) rfl (by kernel_rfl) (by kernel_rfl) (by kernel_rfl) (fun _ _ _ h => h) (Or.inl ⟨by rfl, ?_⟩) (by assumption) ?_
              rotate_left
              · intro w hSw; (try dsimp only at hSw); go_simp; (try with_reducible rfl)
              try simp only [Act.put, List.getElem_toArray, List.getElem_cons_zero, List.getElem_cons_succ, List.setIfInBounds_toArray, List.set_cons_zero, List.set_cons_succ]
              refine wpAnyH_take (i := 11) (v := ?_) rfl (by kernel_rfl) (by kernel_rfl) (by kernel_rfl) (fun _ _ _ h => h) (Or.inl ⟨by rfl, ?_⟩) (by assumption) ?_
              rotate_left
              · intro w hSw; (try dsimp only at hSw); go_simp; (try with_reducible rfl)
              try simp only [Act.put, List.getElem_toArray, List.getElem_cons_zero, List.getElem_cons_succ, List.setIfInBounds_toArray, List.set_cons_zero, List.set_cons_succ]
              refine wpAnyH_done (by kernel_rfl) ?_ _
              go_upto_region 18 with fail
              have hd11 : Below wr.heap.size wr w10.drew := hB10.drew
              refine wp_region_held_drew (S := fun W' => (W'.cell? ⟨w5.heap.size, 0, none⟩ = some (.int .u64 x1) ∧ W'.cell? ⟨w5.heap.size, 1, none⟩ = some (.int .i64 x2) ∧ W'.cell? ⟨w5.heap.size, 2, none⟩ = some (.slice xa xd.length xc) ∧ (convert 22 9 (.slice xa xd.length xc)).run Try.prog W' = .ok (.string ⟨xd.toArray⟩) W')) (by kernel_rfl) (hcw _ hd11) (fun hHeld => ?_)
              refine wpAnyH_take (i := 0) (v := ?_) rfl (by kernel_rfl) (by kernel_rfl) (by kernel_rfl) (fun _ _ _ h => h) (Or.inl ⟨by rfl, ?_⟩) (by assumption) ?_
              rotate_left
              · intro w hSw; (try dsimp only at hSw); go_simp; (try with_reducible rfl)
              try simp only [Act.put, List.getElem_toArray, List.getElem_cons_zero, List.getElem_cons_succ, List.setIfInBounds_toArray, List.set_cons_zero, List.set_cons_succ]
              refine wpAnyH_ready (rs := [1]) (by kernel_rfl) (by simp) ?_
              refine AllReadyH.cons rfl (fun K hK => ?_) AllReadyH.nil
              go_simp
              go_at_call 34
              refine (Hs2.out _).mono ?_
              rintro e w11 ⟨rfl, hB11'⟩; have hB11 : Below wr.heap.size wr w11 := below_on hd11 hB11' (Nat.le_refl _)
              refine hK.out _ _ (hcw w11 hB11) (fun hHeld => ?_)
              clear hK K
              try simp only [Act.put, List.getElem_toArray, List.getElem_cons_zero, List.getElem_cons_succ, List.setIfInBounds_toArray, List.set_cons_zero, List.set_cons_succ]
              refine wpAnyH_take (i := 2) (v := ?_) rfl (by kernel_rfl) (by kernel_rfl) (by kernel_rfl) (fun _ _ _ h => h) (Or.inl ⟨by rfl, ?_⟩) (by assumption) ?_
              rotate_left
              · intro w hSw; (try dsimp only at hSw); go_simp; (try with_reducible rfl)
              try simp only [Act.put, List.getElem_toArray, List.getElem_cons_zero, List.getElem_cons_succ, List.setIfInBounds_toArray, List.set_cons_zero, List.set_cons_succ]
              refine wpAnyH_take (i := 3) rfl (by kernel_rfl) (by kernel_rfl) (by kernel_rfl) (fun _ _ _ h => h) (Or.inr ⟨by rfl, rfl⟩) (by assumption) ?_
              try simp only [Act.put, List.getElem_toArray, List.getElem_cons_zero, List.getElem_cons_succ, List.setIfInBounds_toArray, List.set_cons_zero, List.set_cons_succ]
              refine wpAnyH_take (i := 4) rfl (by kernel_rfl) (by kernel_rfl) (by kernel_rfl) (fun _ _ _ h => h) (Or.inr ⟨by rfl, rfl⟩) (by assumption) ?_
              try simp only [Act.put, List.getElem_toArray, List.getElem_cons_zero, List.getElem_cons_succ, List.setIfInBounds_toArray, List.set_cons_zero, List.set_cons_succ]
              refine wpAnyH_take (i := 5) rfl (by kernel_rfl) (by kernel_rfl) (by kernel_rfl) (fun _ _ _ h => h) (Or.inr ⟨by rfl, rfl⟩) (by assumption) ?_
              try simp only [Act.put, List.getElem_toArray, List.getElem_cons_zero, List.getElem_cons_succ, List.setIfInBounds_toArray, List.set_cons_zero, List.set_cons_succ]
              refine wpAnyH_take (i := 6) rfl (by kernel_rfl) (by kernel_rfl) (by kernel_rfl) (fun _ _ _ h => h) (Or.inr ⟨by rfl, rfl⟩) (by assumption) ?_
              try simp only [Act.put, List.getElem_toArray, List.getElem_cons_zero, List.getElem_cons_succ, List.setIfInBounds_toArray, List.set_cons_zero, List.set_cons_succ]
              refine wpAnyH_take (i := 7) rfl (by kernel_rfl) (by kernel_rfl) (by kernel_rfl) (fun _ _ _ h => h) (Or.inr ⟨by rfl, rfl⟩) (by assumption) ?_
              try simp only [Act.put, List.getElem_toArray, List.getElem_cons_zero, List.getElem_cons_succ, List.setIfInBounds_toArray, List.set_cons_zero, List.set_cons_succ]
              refine wpAnyH_take (i := 8) rfl (by kernel_rfl) (by kernel_rfl) (by kernel_rfl) (fun _ _ _ h => h) (Or.inr ⟨by rfl, rfl⟩) (by assumption) ?_
              try simp only [Act.put, List.getElem_toArray, List.getElem_cons_zero, List.getElem_cons_succ, List.setIfInBounds_toArray, List.set_cons_zero, List.set_cons_succ]
              refine wpAnyH_take (i := 9) rfl (by kernel_rfl) (by kernel_rfl) (by kernel_rfl) (fun _ _ _ h => h) (Or.inr ⟨by rfl, rfl⟩) (by assumption) ?_
              try simp only [Act.put, List.getElem_toArray, List.getElem_cons_zero, List.getElem_cons_succ, List.setIfInBounds_toArray, List.set_cons_zero, List.set_cons_succ]
              refine wpAnyH_take (i := 10) rfl (by kernel_rfl) (by kernel_rfl) (by kernel_rfl) (fun _ _ _ h => h) (Or.inr ⟨by rfl, rfl⟩) (by assumption) ?_
              try simp only [Act.put, List.getElem_toArray, List.getElem_cons_zero, List.getElem_cons_succ, List.setIfInBounds_toArray, List.set_cons_zero, List.set_cons_succ]
              refine wpAnyH_take (i := 11) rfl (by kernel_rfl) (by kernel_rfl) (by kernel_rfl) (fun _ _ _ h => h) (Or.inr ⟨by rfl, rfl⟩) (by assumption) ?_
              try simp only [Act.put, List.getElem_toArray, List.getElem_cons_zero, List.getElem_cons_succ, List.setIfInBounds_toArray, List.set_cons_zero, List.set_cons_succ]
              refine wpAnyH_take (i := 12) rfl (by kernel_rfl) (by kernel_rfl) (by kernel_rfl) (fun _ _ _ h => h) (Or.inr ⟨by rfl, rfl⟩) (by assumption) ?_
              try simp only [Act.put, List.getElem_toArray, List.getElem_cons_zero, List.getElem_cons_succ, List.setIfInBounds_toArray, List.set_cons_zero, List.set_cons_succ]
              refine wpAnyH_take (i := 13) rfl (by kernel_rfl) (by kernel_rfl) (by kernel_rfl) (fun _ _ _ h => h) (Or.inr ⟨by rfl, rfl⟩) (by assumption) ?_
              try simp only [Act.put, List.getElem_toArray, List.getElem_cons_zero, List.getElem_cons_succ, List.setIfInBounds_toArray, List.set_cons_zero, List.set_cons_succ]
              refine wpAnyH_take (i := 14) (v := ?_) rfl (by kernel_rfl) (by kernel_rfl) (by kernel_rfl) (fun _ _ _ h => h) (Or.inl ⟨by rfl, ?_⟩) (by assumption) ?_
              rotate_left
              · intro w hSw; (try dsimp only at hSw); go_simp; (try with_reducible rfl)
              try simp only [Act.put, List.getElem_toArray, List.getElem_cons_zero, List.getElem_cons_succ, List.setIfInBounds_toArray, List.set_cons_zero, List.set_cons_succ]
              refine wpAnyH_take (i := 15) (v := ?_) rfl (by kernel_rfl) (by kernel_rfl) (by kernel_rfl) (fun _ _ _ h => h) (Or.inl ⟨by rfl, ?_⟩) (by assumption) ?_
              rotate_left
              · intro w hSw; (try dsimp only at hSw); go_simp; (try with_reducible rfl)
              try simp only [Act.put, List.getElem_toArray, List.getElem_cons_zero, List.getElem_cons_succ, List.setIfInBounds_toArray, List.set_cons_zero, List.set_cons_succ]
              refine wpAnyH_take (i := 16) (v := ?_) rfl (by kernel_rfl) (by kernel_rfl) (by kernel_rfl) (fun _ _ _ h => h) (Or.inl ⟨by rfl, ?_⟩) (by assumption) ?_
              rotate_left
              · intro w hSw; (try dsimp only at hSw); go_simp; (try with_reducible rfl)
              try simp only [Act.put, List.getElem_toArray, List.getElem_cons_zero, List.getElem_cons_succ, List.setIfInBounds_toArray, List.set_cons_zero, List.set_cons_succ]
              refine wpAnyH_ready (rs := [17]) (by kernel_rfl) (by simp) ?_
              refine AllReadyH.cons rfl (fun K hK => ?_) AllReadyH.nil
              go_simp
              go_at_call 34
              refine (Hs2.out _).mono ?_
              rintro e w13 ⟨rfl, hB13'⟩; have hB13 : Below wr.heap.size wr w13 := below_on hB11 hB13' (Nat.le_refl _)
              refine hK.out _ _ (hcw w13 hB13) (fun hHeld => ?_)
              clear hK K
              try simp only [Act.put, List.getElem_toArray, List.getElem_cons_zero, List.getElem_cons_succ, List.setIfInBounds_toArray, List.set_cons_zero, List.set_cons_succ]
              refine wpAnyH_take (i := 18) (v := ?_) rfl (by kernel_rfl) (by kernel_rfl) (by kernel_rfl) (fun _ _ _ h => h) (Or.inl ⟨by rfl, ?_⟩) (by assumption) ?_
              rotate_left
              · intro w hSw; (try dsimp only at hSw); go_simp; (try with_reducible rfl)
              try simp only [Act.put, List.getElem_toArray, List.getElem_cons_zero, List.getElem_cons_succ, List.setIfInBounds_toArray, List.set_cons_zero, List.set_cons_succ]
              refine wpAnyH_take (i := 19) (v := ?_) rfl (by kernel_rfl) (by kernel_rfl) (by kernel_rfl) (fun _ _ _ h => h) (Or.inl ⟨by rfl, ?_⟩) (by assumption) ?_
              rotate_left
              · intro w hSw; (try dsimp only at hSw); go_simp; (try with_reducible rfl)
              try simp only [Act.put, List.getElem_toArray, List.getElem_cons_zero, List.getElem_cons_succ, List.setIfInBounds_toArray, List.set_cons_zero, List.set_cons_succ]
              refine wpAnyH_take (i := 20) (v := ?_) rfl (by kernel_rfl) (by kernel_rfl) (by kernel_rfl) (fun _ _ _ h => h) (Or.inl ⟨by rfl, ?_⟩) (by assumption) ?_
              rotate_left
              · intro w hSw; (try dsimp only at hSw); go_simp; (try with_reducible rfl)
              try simp only [Act.put, List.getElem_toArray, List.getElem_cons_zero, List.getElem_cons_succ, List.setIfInBounds_toArray, List.set_cons_zero, List.set_cons_succ]
              refine wpAnyH_take (i := 21) (v := ?_) rfl (by kernel_rfl) (by kernel_rfl) (by kernel_rfl) (fun _ _ _ h => h) (Or.inl ⟨by rfl, ?_⟩) (by assumption) ?_
              rotate_left
              · intro w hSw; (try dsimp only at hSw); go_simp; (try with_reducible rfl)
              try simp only [Act.put, List.getElem_toArray, List.getElem_cons_zero, List.getElem_cons_succ, List.setIfInBounds_toArray, List.set_cons_zero, List.set_cons_succ]
              refine wpAnyH_take (i := 22) (v := ?_) rfl (by kernel_rfl) (by kernel_rfl) (by kernel_rfl) (fun _ _ _ h => h) (Or.inl ⟨by rfl, ?_⟩) (by assumption) ?_
              rotate_left
              · intro w hSw; (try dsimp only at hSw); go_simp; (try with_reducible rfl)
              try simp only [Act.put, List.getElem_toArray, List.getElem_cons_zero, List.getElem_cons_succ, List.setIfInBounds_toArray, List.set_cons_zero, List.set_cons_succ]
              refine wpAnyH_take (i := 23) (v := ?_) rfl (by kernel_rfl) (by kernel_rfl) (by kernel_rfl) (fun _ _ _ h => h) (Or.inl ⟨by rfl, ?_⟩) (by assumption) ?_
              rotate_left
              · intro w hSw; (try dsimp only at hSw); go_simp; (try with_reducible rfl)
              try simp only [Act.put, List.getElem_toArray, List.getElem_cons_zero, List.getElem_cons_succ, List.setIfInBounds_toArray, List.set_cons_zero, List.set_cons_succ]
              refine wpAnyH_take (i := 24) (v := ?_) rfl (by kernel_rfl) (by kernel_rfl) (by kernel_rfl) (fun _ _ _ h => h) (Or.inl ⟨by rfl, ?_⟩) (by assumption) ?_
              rotate_left
              · intro w hSw; (try dsimp only at hSw); go_simp; (try with_reducible rfl)
              try simp only [Act.put, List.getElem_toArray, List.getElem_cons_zero, List.getElem_cons_succ, List.setIfInBounds_toArray, List.set_cons_zero, List.set_cons_succ]
              refine wpAnyH_take (i := 25) (v := ?_) rfl (by kernel_rfl) (by kernel_rfl) (by kernel_rfl) (fun _ _ _ h => h) (Or.inl ⟨by rfl, ?_⟩) (by assumption) ?_
              rotate_left
              · intro w hSw; (try dsimp only at hSw); go_simp; (try with_reducible rfl)
              try simp only [Act.put, List.getElem_toArray, List.getElem_cons_zero, List.getElem_cons_succ, List.setIfInBounds_toArray, List.set_cons_zero, List.set_cons_succ]
              refine wpAnyH_take (i := 26) (v := ?_) rfl (by kernel_rfl) (by kernel_rfl) (by kernel_rfl) (fun _ _ _ h => h) (Or.inl ⟨by rfl, ?_⟩) (by assumption) ?_
              rotate_left
              · intro w hSw; (try dsimp only at hSw); go_simp; (try with_reducible rfl)
              try simp only [Act.put, List.getElem_toArray, List.getElem_cons_zero, List.getElem_cons_succ, List.setIfInBounds_toArray, List.set_cons_zero, List.set_cons_succ]
              refine wpAnyH_take (i := 27) (v := ?_) rfl (by kernel_rfl) (by kernel_rfl) (by kernel_rfl) (fun _ _ _ h => h) (Or.inl ⟨by rfl, ?_⟩) (by assumption) ?_
              rotate_left
              · intro w hSw; (try dsimp only at hSw); go_simp; (try with_reducible rfl)
              try simp only [Act.put, List.getElem_toArray, List.getElem_cons_zero, List.getElem_cons_succ, List.setIfInBounds_toArray, List.set_cons_zero, List.set_cons_succ]
              refine wpAnyH_take (i := 28) (v := ?_) rfl (by kernel_rfl) (by kernel_rfl) (by kernel_rfl) (fun _ _ _ h => h) (Or.inl ⟨by rfl, ?_⟩) (by assumption) ?_
              rotate_left
              · intro w hSw; (try dsimp only at hSw); go_simp; (try with_reducible rfl)
              try simp only [Act.put, List.getElem_toArray, List.getElem_cons_zero, List.getElem_cons_succ, List.setIfInBounds_toArray, List.set_cons_zero, List.set_cons_succ]
              refine wpAnyH_done (by kernel_rfl) ?_ _
              have M1 := own_below howx hB13
              have M2 := Lib.hid (fun y hy => (Hownx.out y hy).below hB13)
              have M3 := below_on hBx hB13 (Nat.le_refl _)
              go_wp2_with fail
              go_roundw
              case rel => exact ⟨i + 1, by simp, by omega, M1, M2, M3⟩
              case measure => simp [intOf]; omega
      · have hii : i = a.length := by omega
        subst hii
        go_wp2_with fail
        refine (lives24_any _).mono ?_
        rintro e w20 ⟨rfl, hB20⟩
        go_wp2_with fail
        go_ret
        exact ⟨rfl, below_on hB hB20 (Nat.le_refl _)⟩
theorem segmentWrites_walk (index : Int) (ao1 : Option Addr) (cap1 : Nat) (a : List Ep) (ao2 : Option Addr) (cap2 : Nat) (b : List Ep) (x : Int) (w : World) (i0 : 0 ≤ index) (i1 : index ≤ 18446744073709551615) (h1 : Ens w ao1 cap1 a) (h2 : Ens w ao2 cap2 b) (x0 : 0 ≤ x) (x1 : x ≤ 255) :
    Calls Try.prog 7 #[.int .u64 index, .slice ao1 a.length cap1, .slice ao2 b.length cap2, .int .u8 x] w fun e w' => e = .returned (.bool true) ∧ Below w.heap.size w w' := by
  by_cases hc : LightP a ∧ LightP b
  · obtain ⟨N, rfl⟩ := Int.eq_ofNat_of_zero_le i0
    obtain ⟨X, rfl⟩ := Int.eq_ofNat_of_zero_le x0
    have h := segmentWrites_near N ao1 ao2 cap1 cap2 a b (UInt8.ofNat X) w h1 h2 hc.1 hc.2 (by omega)
    rwa [show (UInt8.ofNat X).toNat = X from by rw [UInt8.toNat_ofNat']; omega] at h
  · exact segmentWrites_far index ao1 ao2 cap1 cap2 a b x w h1 h2 (by
      by_cases ha : LightP a
      · exact .inr fun hb => hc ⟨ha, hb⟩
      · exact .inl ha)
end Go.Proofs.Ytlphpjgiaflfkaa
