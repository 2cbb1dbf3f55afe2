/- Lemmas for BagOnce (Njc). No statement of the seat is proved here. -/
import Derived.Test.YtbmkgcoolofmpaaO16
namespace Go.Proofs.Ytbmkgcoolofmpaa
set_option linter.unusedVariables false
set_option linter.unusedSimpArgs false
set_option linter.unusedSectionVars false
open Go Go.RowKit Go.Shelf
set_option maxRecDepth 100000 in
set_option maxHeartbeats 16000000 in
theorem wireReadT_true (ao : Option Addr) (cap : Nat) (l : List UInt8) (w : World) (hb : Bs w ao cap l) (hl : l.length ≤ 70000000000000) (hwhole : wholeF 5 l) (hres : (wireR 6 l).2 = true) :
    Calls Try.prog 32 #[.slice ao l.length cap] w (MsgTold2 (wireR 6 l) w) := by
  rw [wireR_mx 6 7 (by decide) (by decide) (by decide) (by decide) l] at hres ⊢
  obtain ⟨R, hR⟩ : ∃ R, R = wireR 7 l := ⟨_, rfl⟩
  rw [← hR] at hres ⊢
  have Hres := Lib.hid hres
  clear hres
  have HR := Lib.hid hR
  clear hR
  obtain ⟨W1, hW1⟩ : ∃ W1, W1 = w.alloc (.cells #[.int .i64 0, .int .i64 0, .int .i64 0, .int .u64 0, .int .u64 0, .int .u64 0, .int .u64 0, .int .u64 0, .bool false, .bool false, .slice none 0 0, .int .u64 0, .int .u64 0, .slice none 0 0, .slice none 0 0] 37) := ⟨_, rfl⟩
  have hB1 : Below w.heap.size w W1 := by rw [hW1]; exact below_new _ _
  have k1 : W1.heap[w.heap.size]? = some (.cells #[.int .i64 0, .int .i64 0, .int .i64 0, .int .u64 0, .int .u64 0, .int .u64 0, .int .u64 0, .int .u64 0, .bool false, .bool false, .slice none 0 0, .int .u64 0, .int .u64 0, .slice none 0 0, .slice none 0 0] 37) := by rw [hW1]; exact heap_alloc_new _ _
  have Hwh := Lib.hid (whole_any ao cap l W1 hl (hb.below hB1))
  go_enter Try.func32, Try.ntmps32
  go_upto_region 1 with fail
  rw [← hW1]
  clear hW1
  go_wp2_with fail
  refine Hwh.out.mono ?_
  rintro e W2 ⟨hB2, hor⟩
  have k2 := (hB2.block _ (Array.getElem?_eq_some_iff.1 k1).1).trans k1
  have z2 := (Array.getElem?_eq_some_iff.1 k2).1
  have hBw2 := below_on hB1 hB2 (Nat.le_refl _)
  have hno : ∀ w', Below w.heap.size w w' → R = (ms0, false) → MsgTold2 R w (.returned (.tuple #[.agg #[.int .i64 0, .int .i64 0, .int .i64 0, .int .u64 0, .int .u64 0, .int .u64 0, .int .u64 0, .int .u64 0, .bool false, .bool false, .slice none 0 0, .int .u64 0, .int .u64 0, .slice none 0 0, .slice none 0 0], .bool false])) w' := fun w' hw h => by rw [h]; exact told_none2 w w' hw
  have Hno := Lib.hid hno
  clear hno k1 Hwh
  rcases hor with ⟨h1, h2, ab, cb, rfl, hbody⟩ | ⟨h1, rfl⟩
  rotate_left
  · exact absurd hwhole.1 h1
  · obtain ⟨-, h3⟩ := id hwhole
    · have hwh : wholeF 5 l := ⟨⟨h1, h2⟩, h3⟩
      rw [h3]
      obtain ⟨body, hbd⟩ : ∃ body, body = (Fr.take l).body := ⟨_, rfl⟩
      have HR2 : Hid (R = if doneR (gMsg 7 (body, false)).2 = true ∧ soundM (gMsg 7 (body, false)).1 = true then ((gMsg 7 (body, false)).1, true) else (ms0, false)) := by
        show _ = _
        rw [HR.out]; unfold wireR; rw [if_pos hwh, hbd]
      have hbl : body.length ≤ 70000000000000 := by
        have := (wrapped_of 5 l hwh).2; rw [hbd]; omega
      rw [← hbd] at hbody ⊢
      clear HR hwh h1 h2 h3 hbd
      have e5 : (((5 : UInt8).toNat : Nat) : Int) = 5 := rfl
      rw [e5]
      clear e5
      go_upto_region 4 with fail
      go_wp2_with fail
      refine (rds_open hbody).mono ?_
      rintro e W3 ⟨rfl, hrs3, hB3⟩
      obtain ⟨B, hBd⟩ : ∃ B, B = W3.heap.size := ⟨_, rfl⟩
      obtain ⟨W4, hW4⟩ : ∃ W4, W4 = W3.alloc (.cells #[.pointer (some ⟨W2.heap.size, 0, none⟩)] 95) := ⟨_, rfl⟩
      have hB4 : Below W3.heap.size W3 W4 := by rw [hW4]; exact below_new _ _
      have kB : W4.heap[B]? = some (.cells #[.pointer (some ⟨W2.heap.size, 0, none⟩)] 95) := by rw [hW4, hBd]; exact heap_alloc_new _ _
      have hrs4 := hrs3.below hB4
      have hBW : W2.heap.size ≤ B := by rw [hBd]; exact hrs3.bel.size
      have hBp : B ≠ W2.heap.size := by have := hrs3.lt; omega
      go_upto_region 6 with fail
      rw [← hW4, ← hBd]
      clear hW4 hBd hB4 hrs3 hB3
      have keepB : ∀ X Y : World, X.grownBy Y (some W2.heap.size) → X.heap[B]? = some (.cells #[.pointer (some ⟨W2.heap.size, 0, none⟩)] 95 (0, 0)) → Y.heap[B]? = some (.cells #[.pointer (some ⟨W2.heap.size, 0, none⟩)] 95 (0, 0)) := fun X Y hg hc => (hg.block B (Array.getElem?_eq_some_iff.1 hc).1 (by simp; omega)).trans hc
      obtain ⟨⟨xk, s1⟩, hs1⟩ : ∃ r, r = gN 8 (body, false) := ⟨_, rfl⟩
      obtain ⟨⟨xf, s2⟩, hs2⟩ : ∃ r, r = gN 7 s1 := ⟨_, rfl⟩
      obtain ⟨⟨xd, s3⟩, hs3⟩ : ∃ r, r = gN 7 s2 := ⟨_, rfl⟩
      obtain ⟨⟨xt, s4⟩, hs4⟩ : ∃ r, r = gN 1152921504606846976 s3 := ⟨_, rfl⟩
      have hl4 : s4.1.length ≤ 70000000000000 := by
        have a1 := gN_len 8 (body, false)
        rw [← hs1] at a1
        have a2 := gN_len 7 s1
        rw [← hs2] at a2
        have a3 := gN_len 7 s2
        rw [← hs3] at a3
        have a4 := gN_len 1152921504606846976 s3
        rw [← hs4] at a4
        simp only at a1 a2 a3 a4
        omega
      have hG : gMsg 7 (body, false) = gFields (mI xk xf xd xt) s4 := by
        unfold gMsg
        simp only [← hs1, ← hs2, ← hs3, ← hs4]
        rfl
      rw [hG] at HR2
      have hc1 := fun W (h : RdS 123 W2 W W2.heap.size (body, false)) hq => next_any 8 (by decide) (B := B) h hq
      rw [← hs1] at hc1
      have Hc1 := Lib.hid hc1
      have hc2 := fun W (h : RdS 123 W2 W W2.heap.size s1) hq => next_any 7 (by decide) (B := B) h hq
      rw [← hs2] at hc2
      have Hc2 := Lib.hid hc2
      have hc3 := fun W (h : RdS 123 W2 W W2.heap.size s2) hq => next_any 7 (by decide) (B := B) h hq
      rw [← hs3] at hc3
      have Hc3 := Lib.hid hc3
      have hc4 := fun W (h : RdS 123 W2 W W2.heap.size s3) => rds_num 1152921504606846976 (by decide) h
      rw [← hs4] at hc4
      have Hc4 := Lib.hid hc4
      have KeepB := Lib.hid keepB
      clear hc1 hc2 hc3 hc4 hs1 hs2 hs3 hs4 hG keepB
      simp only at Hc1 Hc2 Hc3 Hc4
      have cB4 : W4.cell? ⟨B, 0, none⟩ = some (.pointer (some ⟨W2.heap.size, 0, none⟩)) := block_cell kB 0
      have hdr : Below W4.heap.size W4 W4.drew := (Below.refl _ _).drew
      have hr := hrs4.below hdr
      have cq := (hdr.cell (p := ⟨B, 0, none⟩) (cell?_lt cB4)).trans cB4
      have kb := (hdr.block B (Array.getElem?_eq_some_iff.1 kB).1).trans kB
      go_cut [9] (fun v wx => ∃ q, v = .pointer (some ⟨q, 0, none⟩) ∧ W2.heap.size ≤ q ∧ q ≠ W2.heap.size ∧ q ≠ B ∧ MsgA 37 W2 wx q ⟨(xk : Int), (xf : Int), (xd : Int), (xt : Int), 0, 0, 0, 0, false, false, none, 0, [], 0, 0, none, 0, [], none, 0, []⟩ ∧ RdS 123 W2 wx W2.heap.size s4 ∧ wx.heap[B]? = some (.cells #[.pointer (some ⟨W2.heap.size, 0, none⟩)] 95 (0, 0)))
      case first =>
        clear cB4 kB hrs4 HR2 Hno Hres
        refine wp_region_held_drew (S := fun W' => W'.cell? ⟨B, 0, none⟩ = some (.pointer (some ⟨W2.heap.size, 0, none⟩))) (by kernel_rfl) cq (fun hHeld => ?_)
        obtain ⟨W5, hW5⟩ : ∃ W5, W5 = W4.drew := ⟨_, rfl⟩
        rw [← hW5] at hr cq kb ⊢
        clear hW5
        refine wpAnyH_take (i := 0) (v := ?_) rfl (by kernel_rfl) (by kernel_rfl) (by kernel_rfl) (fun _ _ _ h => h) (Or.inl ⟨by rfl, ?_⟩) (by assumption) ?_
        rotate_left
        · intro w8 hSw; (try dsimp only at hSw); go_simp; (try with_reducible rfl)
        simp only [Act.put, List.getElem_toArray, List.getElem_cons_zero, List.getElem_cons_succ, List.setIfInBounds_toArray, List.set_cons_zero, List.set_cons_succ]
        refine wpAnyH_take (i := 2) (v := ?_) rfl (by kernel_rfl) (by kernel_rfl) (by kernel_rfl) (fun _ _ _ h => h) (Or.inl ⟨by rfl, ?_⟩) (by assumption) ?_
        rotate_left
        · intro w8 hSw; (try dsimp only at hSw); go_simp; (try with_reducible rfl)
        simp only [Act.put, List.getElem_toArray, List.getElem_cons_zero, List.getElem_cons_succ, List.setIfInBounds_toArray, List.set_cons_zero, List.set_cons_succ]
        refine wpAnyH_take (i := 4) (v := ?_) rfl (by kernel_rfl) (by kernel_rfl) (by kernel_rfl) (fun _ _ _ h => h) (Or.inl ⟨by rfl, ?_⟩) (by assumption) ?_
        rotate_left
        · intro w8 hSw; (try dsimp only at hSw); go_simp; (try with_reducible rfl)
        simp only [Act.put, List.getElem_toArray, List.getElem_cons_zero, List.getElem_cons_succ, List.setIfInBounds_toArray, List.set_cons_zero, List.set_cons_succ]
        refine wpAnyH_take (i := 6) (v := .pointer (some ⟨W2.heap.size, 0, none⟩)) rfl (by kernel_rfl) (by kernel_rfl) (by kernel_rfl) (fun _ _ _ h => h) (Or.inl ⟨by rfl, ?_⟩) (by assumption) ?_
        · intro w8 hSw; (try dsimp only at hSw); go_simp; (try with_reducible rfl)
        simp only [Act.put, List.getElem_toArray, List.getElem_cons_zero, List.getElem_cons_succ, List.setIfInBounds_toArray, List.set_cons_zero, List.set_cons_succ]
        refine wpAnyH_ready (rs := [1, 9]) (by kernel_rfl) (by simp) ?_
        refine AllReadyH.cons rfl (fun K hK => ?_) (AllReadyH.cons rfl (fun K hK => ?_) AllReadyH.nil)
        · go_simp
          go_at_call 48
          refine (Hc1.out _ hr cq).mono ?_
          rintro e V1 ⟨rfl, hrn, hgn⟩
          have kbn := KeepB.out _ _ hgn kb
          have cqn : V1.cell? ⟨B, 0, none⟩ = some (.pointer (some ⟨W2.heap.size, 0, none⟩)) := block_cell kbn 0
          have hzn := hgn.size
          refine hK.out _ _ cqn (fun hHeld => ?_)
          clear hK K hgn hr cq kb
          have hr := hrn
          have cq := cqn
          have kb := kbn
          clear hrn cqn hzn kbn
          try simp only [Act.put, List.getElem_toArray, List.getElem_cons_zero, List.getElem_cons_succ, List.setIfInBounds_toArray, List.set_cons_zero, List.set_cons_succ]
          refine wpAnyH_ready (rs := [3, 9]) (by kernel_rfl) (by simp) ?_
          refine AllReadyH.cons rfl (fun K hK => ?_) (AllReadyH.cons rfl (fun K hK => ?_) AllReadyH.nil)
          · go_simp
            go_at_call 48
            refine (Hc2.out _ hr cq).mono ?_
            rintro e V2 ⟨rfl, hrn, hgn⟩
            have kbn := KeepB.out _ _ hgn kb
            have cqn : V2.cell? ⟨B, 0, none⟩ = some (.pointer (some ⟨W2.heap.size, 0, none⟩)) := block_cell kbn 0
            have hzn := hgn.size
            refine hK.out _ _ cqn (fun hHeld => ?_)
            clear hK K hgn hr cq kb
            have hr := hrn
            have cq := cqn
            have kb := kbn
            clear hrn cqn hzn kbn
            try simp only [Act.put, List.getElem_toArray, List.getElem_cons_zero, List.getElem_cons_succ, List.setIfInBounds_toArray, List.set_cons_zero, List.set_cons_succ]
            refine wpAnyH_ready (rs := [5, 9]) (by kernel_rfl) (by simp) ?_
            refine AllReadyH.cons rfl (fun K hK => ?_) (AllReadyH.cons rfl (fun K hK => ?_) AllReadyH.nil)
            · go_simp
              go_at_call 48
              refine (Hc3.out _ hr cq).mono ?_
              rintro e V3 ⟨rfl, hrn, hgn⟩
              have kbn := KeepB.out _ _ hgn kb
              have cqn : V3.cell? ⟨B, 0, none⟩ = some (.pointer (some ⟨W2.heap.size, 0, none⟩)) := block_cell kbn 0
              have hzn := hgn.size
              refine hK.out _ _ cqn (fun hHeld => ?_)
              clear hK K hgn hr cq kb
              have hr := hrn
              have cq := cqn
              have kb := kbn
              clear hrn cqn hzn kbn
              try simp only [Act.put, List.getElem_toArray, List.getElem_cons_zero, List.getElem_cons_succ, List.setIfInBounds_toArray, List.set_cons_zero, List.set_cons_succ]
              refine wpAnyH_ready (rs := [7, 9]) (by kernel_rfl) (by simp) ?_
              refine AllReadyH.cons rfl (fun K hK => ?_) (AllReadyH.cons rfl (fun K hK => ?_) AllReadyH.nil)
              · go_simp
                go_at_call 49
                refine (Hc4.out _ hr).mono ?_
                rintro e V4 ⟨rfl, hrn, hgn⟩
                have kbn := KeepB.out _ _ hgn kb
                have cqn : V4.cell? ⟨B, 0, none⟩ = some (.pointer (some ⟨W2.heap.size, 0, none⟩)) := block_cell kbn 0
                have hzn := hgn.size
                refine hK.out _ _ cqn (fun hHeld => ?_)
                clear hK K hgn hr cq kb
                have hr := hrn
                have cq := cqn
                have kb := kbn
                clear hrn cqn hzn kbn
                try simp only [Act.put, List.getElem_toArray, List.getElem_cons_zero, List.getElem_cons_succ, List.setIfInBounds_toArray, List.set_cons_zero, List.set_cons_succ]
                refine wpAnyH_take (i := 8) (v := ?_) rfl (by kernel_rfl) (by kernel_rfl) (by kernel_rfl) (fun _ _ _ h => h) (Or.inl ⟨by rfl, ?_⟩) (by assumption) ?_
                rotate_left
                · intro w8 hSw; (try dsimp only at hSw); go_simp; (try with_reducible rfl)
                simp only [Act.put, List.getElem_toArray, List.getElem_cons_zero, List.getElem_cons_succ, List.setIfInBounds_toArray, List.set_cons_zero, List.set_cons_succ]
                refine wpAnyH_ready (rs := [9]) (by kernel_rfl) (by simp) ?_
                refine AllReadyH.cons rfl (fun K hK => ?_) AllReadyH.nil
                go_simp
                obtain ⟨q, hq⟩ : ∃ q, q = V4.heap.size := ⟨_, rfl⟩
                obtain ⟨X, hX⟩ : ∃ X, X = V4.alloc (.cells #[.int .i64 0, .int .i64 0, .int .i64 0, .int .u64 0, .int .u64 0, .int .u64 0, .int .u64 0, .int .u64 0, .bool false, .bool false, .slice none 0 0, .int .u64 0, .int .u64 0, .slice none 0 0, .slice none 0 0] 37) := ⟨_, rfl⟩
                have hBx : Below V4.heap.size V4 X := by rw [hX]; exact below_new _ _
                have kq : X.heap[q]? = some (.cells #[.int .i64 0, .int .i64 0, .int .i64 0, .int .u64 0, .int .u64 0, .int .u64 0, .int .u64 0, .int .u64 0, .bool false, .bool false, .slice none 0 0, .int .u64 0, .int .u64 0, .slice none 0 0, .slice none 0 0] 37) := by rw [hX, hq]; exact heap_alloc_new _ _
                have hqz2 := (Array.getElem?_eq_some_iff.1 kq).1
                have hqW : W2.heap.size ≤ q := by rw [hq]; exact hr.bel.size
                have hqp : q ≠ W2.heap.size := by have := hr.lt; omega
                have hqB : q ≠ B := by have := cell?_lt cq; simp only at this; omega
                have hrx := hr.below hBx
                have kbx := (hBx.block B (cell?_lt cq)).trans kb
                have cqx : X.cell? ⟨B, 0, none⟩ = some (.pointer (some ⟨W2.heap.size, 0, none⟩)) := block_cell kbx 0
                first | rw [← hX, ← hq] | rw [← hq, ← hX] | (rw [show V4.alloc (.cells #[.int .i64 0, .int .i64 0, .int .i64 0, .int .u64 0, .int .u64 0, .int .u64 0, .int .u64 0, .int .u64 0, .bool false, .bool false, .slice none 0 0, .int .u64 0, .int .u64 0, .slice none 0 0, .slice none 0 0] 37) = X from hX.symm]; rw [← hq])
                refine hK.out _ _ cqx (fun hHeld => ?_)
                clear hK K hX hq hBx hr cq kb
                have hr := hrx
                have cq := cqx
                have kb := kbx
                clear hrx cqx kbx
                try simp only [Act.put, List.getElem_toArray, List.getElem_cons_zero, List.getElem_cons_succ, List.setIfInBounds_toArray, List.set_cons_zero, List.set_cons_succ]
                refine wpAnyH_ready (rs := [10]) (by kernel_rfl) (by simp) ?_
                refine AllReadyH.cons rfl (fun K hK => ?_) AllReadyH.nil
                have c0 := block_cell kq 0
                have f0 := block_free kq 0
                have c1 := block_cell kq 1
                have f1 := block_free kq 1
                have c2 := block_cell kq 2
                have f2 := block_free kq 2
                have c3 := block_cell kq 3
                have f3 := block_free kq 3
                have c4 := block_cell kq 4
                have f4 := block_free kq 4
                have c5 := block_cell kq 5
                have f5 := block_free kq 5
                have c6 := block_cell kq 6
                have f6 := block_free kq 6
                have c7 := block_cell kq 7
                have f7 := block_free kq 7
                have c8 := block_cell kq 8
                have f8 := block_free kq 8
                have c9 := block_cell kq 9
                have f9 := block_free kq 9
                have c10 := block_cell kq 10
                have f10 := block_free kq 10
                have c11 := block_cell kq 11
                have f11 := block_free kq 11
                have c12 := block_cell kq 12
                have f12 := block_free kq 12
                have c13 := block_cell kq 13
                have f13 := block_free kq 13
                have c14 := block_cell kq 14
                have f14 := block_free kq 14
                simp at c0 c1 c2 c3 c4 c5 c6 c7 c8 c9 c10 c11 c12 c13 c14
                obtain ⟨kS, hgS⟩ := set15 kq (.int .i64 (xk : Int)) (.int .i64 (xf : Int)) (.int .i64 (xd : Int)) (.int .u64 (xt : Int)) (.int .u64 0) (.int .u64 0) (.int .u64 0) (.int .u64 0) (.bool false) (.bool false) (.slice none 0 0) (.int .u64 0) (.int .u64 0) (.slice none 0 0) (.slice none 0 0)
                obtain ⟨Y, hY⟩ : ∃ Y, Y = (((((((((((((((X.setCell ⟨q, 0, none⟩ (.int .i64 (xk : Int))).setCell ⟨q, 1, none⟩ (.int .i64 (xf : Int))).setCell ⟨q, 2, none⟩ (.int .i64 (xd : Int))).setCell ⟨q, 3, none⟩ (.int .u64 (xt : Int))).setCell ⟨q, 4, none⟩ (.int .u64 0)).setCell ⟨q, 5, none⟩ (.int .u64 0)).setCell ⟨q, 6, none⟩ (.int .u64 0)).setCell ⟨q, 7, none⟩ (.int .u64 0)).setCell ⟨q, 8, none⟩ (.bool false)).setCell ⟨q, 9, none⟩ (.bool false)).setCell ⟨q, 10, none⟩ (.slice none 0 0)).setCell ⟨q, 11, none⟩ (.int .u64 0)).setCell ⟨q, 12, none⟩ (.int .u64 0)).setCell ⟨q, 13, none⟩ (.slice none 0 0)).setCell ⟨q, 14, none⟩ (.slice none 0 0)) := ⟨_, rfl⟩
                rw [← hY] at kS hgS
                have hrS := hr.grown hgS (fun k e => by cases e; exact ⟨hqW, hqp⟩)
                have kbS := (hgS.block B (cell?_lt cq) (by simp; omega)).trans kb
                have cqS : Y.cell? ⟨B, 0, none⟩ = some (.pointer (some ⟨W2.heap.size, 0, none⟩)) := block_cell kbS 0
                have hmS : MsgA 37 W2 Y q ⟨(xk : Int), (xf : Int), (xd : Int), (xt : Int), 0, 0, 0, 0, false, false, none, 0, [], 0, 0, none, 0, [], none, 0, []⟩ := ⟨kS, EnsO.nil _ _, IzT.nil _, ⟨Bs.nil _, fun b off s e => by cases e⟩⟩
                clear kS hgS hr cq kb
                go_simp
                rw [← hY]
                refine hK.out _ _ cqS (fun hHeld => ?_)
                clear hK K hY
                try simp only [Act.put, List.getElem_toArray, List.getElem_cons_zero, List.getElem_cons_succ, List.setIfInBounds_toArray, List.set_cons_zero, List.set_cons_succ]
                refine wpAnyH_done (by kernel_rfl) ?_ _
                go_wp2_with fail
                go_meet
                exact ⟨q, rfl, hqW, hqp, hqB, hmS, hrS, kbS⟩
              · go_simp
                obtain ⟨q, hq⟩ : ∃ q, q = V3.heap.size := ⟨_, rfl⟩
                obtain ⟨X, hX⟩ : ∃ X, X = V3.alloc (.cells #[.int .i64 0, .int .i64 0, .int .i64 0, .int .u64 0, .int .u64 0, .int .u64 0, .int .u64 0, .int .u64 0, .bool false, .bool false, .slice none 0 0, .int .u64 0, .int .u64 0, .slice none 0 0, .slice none 0 0] 37) := ⟨_, rfl⟩
                have hBx : Below V3.heap.size V3 X := by rw [hX]; exact below_new _ _
                have kq : X.heap[q]? = some (.cells #[.int .i64 0, .int .i64 0, .int .i64 0, .int .u64 0, .int .u64 0, .int .u64 0, .int .u64 0, .int .u64 0, .bool false, .bool false, .slice none 0 0, .int .u64 0, .int .u64 0, .slice none 0 0, .slice none 0 0] 37) := by rw [hX, hq]; exact heap_alloc_new _ _
                have hqz2 := (Array.getElem?_eq_some_iff.1 kq).1
                have hqW : W2.heap.size ≤ q := by rw [hq]; exact hr.bel.size
                have hqp : q ≠ W2.heap.size := by have := hr.lt; omega
                have hqB : q ≠ B := by have := cell?_lt cq; simp only at this; omega
                have hrx := hr.below hBx
                have kbx := (hBx.block B (cell?_lt cq)).trans kb
                have cqx : X.cell? ⟨B, 0, none⟩ = some (.pointer (some ⟨W2.heap.size, 0, none⟩)) := block_cell kbx 0
                first | rw [← hX, ← hq] | rw [← hq, ← hX] | (rw [show V3.alloc (.cells #[.int .i64 0, .int .i64 0, .int .i64 0, .int .u64 0, .int .u64 0, .int .u64 0, .int .u64 0, .int .u64 0, .bool false, .bool false, .slice none 0 0, .int .u64 0, .int .u64 0, .slice none 0 0, .slice none 0 0] 37) = X from hX.symm]; rw [← hq])
                refine hK.out _ _ cqx (fun hHeld => ?_)
                clear hK K hX hq hBx hr cq kb
                have hr := hrx
                have cq := cqx
                have kb := kbx
                clear hrx cqx kbx
                try simp only [Act.put, List.getElem_toArray, List.getElem_cons_zero, List.getElem_cons_succ, List.setIfInBounds_toArray, List.set_cons_zero, List.set_cons_succ]
                refine wpAnyH_ready (rs := [7]) (by kernel_rfl) (by simp) ?_
                refine AllReadyH.cons rfl (fun K hK => ?_) AllReadyH.nil
                go_simp
                go_at_call 49
                refine (Hc4.out _ hr).mono ?_
                rintro e Y4 ⟨rfl, hrn, hgn⟩
                have kbn := KeepB.out _ _ hgn kb
                have cqn : Y4.cell? ⟨B, 0, none⟩ = some (.pointer (some ⟨W2.heap.size, 0, none⟩)) := block_cell kbn 0
                have hzn := hgn.size
                have kqn := (hgn.block q hqz2 (by simp; omega)).trans kq
                have hqzn := (Array.getElem?_eq_some_iff.1 kqn).1
                refine hK.out _ _ cqn (fun hHeld => ?_)
                clear hK K hgn hr cq kb kq hqz2
                have hr := hrn
                have cq := cqn
                have kb := kbn
                have kq := kqn
                have hqz2 := hqzn
                clear hrn cqn hzn kbn kqn hqzn
                try simp only [Act.put, List.getElem_toArray, List.getElem_cons_zero, List.getElem_cons_succ, List.setIfInBounds_toArray, List.set_cons_zero, List.set_cons_succ]
                refine wpAnyH_take (i := 8) (v := ?_) rfl (by kernel_rfl) (by kernel_rfl) (by kernel_rfl) (fun _ _ _ h => h) (Or.inl ⟨by rfl, ?_⟩) (by assumption) ?_
                rotate_left
                · intro w8 hSw; (try dsimp only at hSw); go_simp; (try with_reducible rfl)
                simp only [Act.put, List.getElem_toArray, List.getElem_cons_zero, List.getElem_cons_succ, List.setIfInBounds_toArray, List.set_cons_zero, List.set_cons_succ]
                refine wpAnyH_ready (rs := [10]) (by kernel_rfl) (by simp) ?_
                refine AllReadyH.cons rfl (fun K hK => ?_) AllReadyH.nil
                have c0 := block_cell kq 0
                have f0 := block_free kq 0
                have c1 := block_cell kq 1
                have f1 := block_free kq 1
                have c2 := block_cell kq 2
                have f2 := block_free kq 2
                have c3 := block_cell kq 3
                have f3 := block_free kq 3
                have c4 := block_cell kq 4
                have f4 := block_free kq 4
                have c5 := block_cell kq 5
                have f5 := block_free kq 5
                have c6 := block_cell kq 6
                have f6 := block_free kq 6
                have c7 := block_cell kq 7
                have f7 := block_free kq 7
                have c8 := block_cell kq 8
                have f8 := block_free kq 8
                have c9 := block_cell kq 9
                have f9 := block_free kq 9
                have c10 := block_cell kq 10
                have f10 := block_free kq 10
                have c11 := block_cell kq 11
                have f11 := block_free kq 11
                have c12 := block_cell kq 12
                have f12 := block_free kq 12
                have c13 := block_cell kq 13
                have f13 := block_free kq 13
                have c14 := block_cell kq 14
                have f14 := block_free kq 14
                simp at c0 c1 c2 c3 c4 c5 c6 c7 c8 c9 c10 c11 c12 c13 c14
                obtain ⟨kS, hgS⟩ := set15 kq (.int .i64 (xk : Int)) (.int .i64 (xf : Int)) (.int .i64 (xd : Int)) (.int .u64 (xt : Int)) (.int .u64 0) (.int .u64 0) (.int .u64 0) (.int .u64 0) (.bool false) (.bool false) (.slice none 0 0) (.int .u64 0) (.int .u64 0) (.slice none 0 0) (.slice none 0 0)
                obtain ⟨Y, hY⟩ : ∃ Y, Y = (((((((((((((((Y4.setCell ⟨q, 0, none⟩ (.int .i64 (xk : Int))).setCell ⟨q, 1, none⟩ (.int .i64 (xf : Int))).setCell ⟨q, 2, none⟩ (.int .i64 (xd : Int))).setCell ⟨q, 3, none⟩ (.int .u64 (xt : Int))).setCell ⟨q, 4, none⟩ (.int .u64 0)).setCell ⟨q, 5, none⟩ (.int .u64 0)).setCell ⟨q, 6, none⟩ (.int .u64 0)).setCell ⟨q, 7, none⟩ (.int .u64 0)).setCell ⟨q, 8, none⟩ (.bool false)).setCell ⟨q, 9, none⟩ (.bool false)).setCell ⟨q, 10, none⟩ (.slice none 0 0)).setCell ⟨q, 11, none⟩ (.int .u64 0)).setCell ⟨q, 12, none⟩ (.int .u64 0)).setCell ⟨q, 13, none⟩ (.slice none 0 0)).setCell ⟨q, 14, none⟩ (.slice none 0 0)) := ⟨_, rfl⟩
                rw [← hY] at kS hgS
                have hrS := hr.grown hgS (fun k e => by cases e; exact ⟨hqW, hqp⟩)
                have kbS := (hgS.block B (cell?_lt cq) (by simp; omega)).trans kb
                have cqS : Y.cell? ⟨B, 0, none⟩ = some (.pointer (some ⟨W2.heap.size, 0, none⟩)) := block_cell kbS 0
                have hmS : MsgA 37 W2 Y q ⟨(xk : Int), (xf : Int), (xd : Int), (xt : Int), 0, 0, 0, 0, false, false, none, 0, [], 0, 0, none, 0, [], none, 0, []⟩ := ⟨kS, EnsO.nil _ _, IzT.nil _, ⟨Bs.nil _, fun b off s e => by cases e⟩⟩
                clear kS hgS hr cq kb
                go_simp
                rw [← hY]
                refine hK.out _ _ cqS (fun hHeld => ?_)
                clear hK K hY
                try simp only [Act.put, List.getElem_toArray, List.getElem_cons_zero, List.getElem_cons_succ, List.setIfInBounds_toArray, List.set_cons_zero, List.set_cons_succ]
                refine wpAnyH_done (by kernel_rfl) ?_ _
                go_wp2_with fail
                go_meet
                exact ⟨q, rfl, hqW, hqp, hqB, hmS, hrS, kbS⟩
            · go_simp
              obtain ⟨q, hq⟩ : ∃ q, q = V2.heap.size := ⟨_, rfl⟩
              obtain ⟨X, hX⟩ : ∃ X, X = V2.alloc (.cells #[.int .i64 0, .int .i64 0, .int .i64 0, .int .u64 0, .int .u64 0, .int .u64 0, .int .u64 0, .int .u64 0, .bool false, .bool false, .slice none 0 0, .int .u64 0, .int .u64 0, .slice none 0 0, .slice none 0 0] 37) := ⟨_, rfl⟩
              have hBx : Below V2.heap.size V2 X := by rw [hX]; exact below_new _ _
              have kq : X.heap[q]? = some (.cells #[.int .i64 0, .int .i64 0, .int .i64 0, .int .u64 0, .int .u64 0, .int .u64 0, .int .u64 0, .int .u64 0, .bool false, .bool false, .slice none 0 0, .int .u64 0, .int .u64 0, .slice none 0 0, .slice none 0 0] 37) := by rw [hX, hq]; exact heap_alloc_new _ _
              have hqz2 := (Array.getElem?_eq_some_iff.1 kq).1
              have hqW : W2.heap.size ≤ q := by rw [hq]; exact hr.bel.size
              have hqp : q ≠ W2.heap.size := by have := hr.lt; omega
              have hqB : q ≠ B := by have := cell?_lt cq; simp only at this; omega
              have hrx := hr.below hBx
              have kbx := (hBx.block B (cell?_lt cq)).trans kb
              have cqx : X.cell? ⟨B, 0, none⟩ = some (.pointer (some ⟨W2.heap.size, 0, none⟩)) := block_cell kbx 0
              first | rw [← hX, ← hq] | rw [← hq, ← hX] | (rw [show V2.alloc (.cells #[.int .i64 0, .int .i64 0, .int .i64 0, .int .u64 0, .int .u64 0, .int .u64 0, .int .u64 0, .int .u64 0, .bool false, .bool false, .slice none 0 0, .int .u64 0, .int .u64 0, .slice none 0 0, .slice none 0 0] 37) = X from hX.symm]; rw [← hq])
              refine hK.out _ _ cqx (fun hHeld => ?_)
              clear hK K hX hq hBx hr cq kb
              have hr := hrx
              have cq := cqx
              have kb := kbx
              clear hrx cqx kbx
              try simp only [Act.put, List.getElem_toArray, List.getElem_cons_zero, List.getElem_cons_succ, List.setIfInBounds_toArray, List.set_cons_zero, List.set_cons_succ]
              refine wpAnyH_ready (rs := [5]) (by kernel_rfl) (by simp) ?_
              refine AllReadyH.cons rfl (fun K hK => ?_) AllReadyH.nil
              go_simp
              go_at_call 48
              refine (Hc3.out _ hr cq).mono ?_
              rintro e Y3 ⟨rfl, hrn, hgn⟩
              have kbn := KeepB.out _ _ hgn kb
              have cqn : Y3.cell? ⟨B, 0, none⟩ = some (.pointer (some ⟨W2.heap.size, 0, none⟩)) := block_cell kbn 0
              have hzn := hgn.size
              have kqn := (hgn.block q hqz2 (by simp; omega)).trans kq
              have hqzn := (Array.getElem?_eq_some_iff.1 kqn).1
              refine hK.out _ _ cqn (fun hHeld => ?_)
              clear hK K hgn hr cq kb kq hqz2
              have hr := hrn
              have cq := cqn
              have kb := kbn
              have kq := kqn
              have hqz2 := hqzn
              clear hrn cqn hzn kbn kqn hqzn
              try simp only [Act.put, List.getElem_toArray, List.getElem_cons_zero, List.getElem_cons_succ, List.setIfInBounds_toArray, List.set_cons_zero, List.set_cons_succ]
              refine wpAnyH_ready (rs := [7]) (by kernel_rfl) (by simp) ?_
              refine AllReadyH.cons rfl (fun K hK => ?_) AllReadyH.nil
              go_simp
              go_at_call 49
              refine (Hc4.out _ hr).mono ?_
              rintro e Y4 ⟨rfl, hrn, hgn⟩
              have kbn := KeepB.out _ _ hgn kb
              have cqn : Y4.cell? ⟨B, 0, none⟩ = some (.pointer (some ⟨W2.heap.size, 0, none⟩)) := block_cell kbn 0
              have hzn := hgn.size
              have kqn := (hgn.block q hqz2 (by simp; omega)).trans kq
              have hqzn := (Array.getElem?_eq_some_iff.1 kqn).1
              refine hK.out _ _ cqn (fun hHeld => ?_)
              clear hK K hgn hr cq kb kq hqz2
              have hr := hrn
              have cq := cqn
              have kb := kbn
              have kq := kqn
              have hqz2 := hqzn
              clear hrn cqn hzn kbn kqn hqzn
              try simp only [Act.put, List.getElem_toArray, List.getElem_cons_zero, List.getElem_cons_succ, List.setIfInBounds_toArray, List.set_cons_zero, List.set_cons_succ]
              refine wpAnyH_take (i := 8) (v := ?_) rfl (by kernel_rfl) (by kernel_rfl) (by kernel_rfl) (fun _ _ _ h => h) (Or.inl ⟨by rfl, ?_⟩) (by assumption) ?_
              rotate_left
              · intro w8 hSw; (try dsimp only at hSw); go_simp; (try with_reducible rfl)
              simp only [Act.put, List.getElem_toArray, List.getElem_cons_zero, List.getElem_cons_succ, List.setIfInBounds_toArray, List.set_cons_zero, List.set_cons_succ]
              refine wpAnyH_ready (rs := [10]) (by kernel_rfl) (by simp) ?_
              refine AllReadyH.cons rfl (fun K hK => ?_) AllReadyH.nil
              have c0 := block_cell kq 0
              have f0 := block_free kq 0
              have c1 := block_cell kq 1
              have f1 := block_free kq 1
              have c2 := block_cell kq 2
              have f2 := block_free kq 2
              have c3 := block_cell kq 3
              have f3 := block_free kq 3
              have c4 := block_cell kq 4
              have f4 := block_free kq 4
              have c5 := block_cell kq 5
              have f5 := block_free kq 5
              have c6 := block_cell kq 6
              have f6 := block_free kq 6
              have c7 := block_cell kq 7
              have f7 := block_free kq 7
              have c8 := block_cell kq 8
              have f8 := block_free kq 8
              have c9 := block_cell kq 9
              have f9 := block_free kq 9
              have c10 := block_cell kq 10
              have f10 := block_free kq 10
              have c11 := block_cell kq 11
              have f11 := block_free kq 11
              have c12 := block_cell kq 12
              have f12 := block_free kq 12
              have c13 := block_cell kq 13
              have f13 := block_free kq 13
              have c14 := block_cell kq 14
              have f14 := block_free kq 14
              simp at c0 c1 c2 c3 c4 c5 c6 c7 c8 c9 c10 c11 c12 c13 c14
              obtain ⟨kS, hgS⟩ := set15 kq (.int .i64 (xk : Int)) (.int .i64 (xf : Int)) (.int .i64 (xd : Int)) (.int .u64 (xt : Int)) (.int .u64 0) (.int .u64 0) (.int .u64 0) (.int .u64 0) (.bool false) (.bool false) (.slice none 0 0) (.int .u64 0) (.int .u64 0) (.slice none 0 0) (.slice none 0 0)
              obtain ⟨Y, hY⟩ : ∃ Y, Y = (((((((((((((((Y4.setCell ⟨q, 0, none⟩ (.int .i64 (xk : Int))).setCell ⟨q, 1, none⟩ (.int .i64 (xf : Int))).setCell ⟨q, 2, none⟩ (.int .i64 (xd : Int))).setCell ⟨q, 3, none⟩ (.int .u64 (xt : Int))).setCell ⟨q, 4, none⟩ (.int .u64 0)).setCell ⟨q, 5, none⟩ (.int .u64 0)).setCell ⟨q, 6, none⟩ (.int .u64 0)).setCell ⟨q, 7, none⟩ (.int .u64 0)).setCell ⟨q, 8, none⟩ (.bool false)).setCell ⟨q, 9, none⟩ (.bool false)).setCell ⟨q, 10, none⟩ (.slice none 0 0)).setCell ⟨q, 11, none⟩ (.int .u64 0)).setCell ⟨q, 12, none⟩ (.int .u64 0)).setCell ⟨q, 13, none⟩ (.slice none 0 0)).setCell ⟨q, 14, none⟩ (.slice none 0 0)) := ⟨_, rfl⟩
              rw [← hY] at kS hgS
              have hrS := hr.grown hgS (fun k e => by cases e; exact ⟨hqW, hqp⟩)
              have kbS := (hgS.block B (cell?_lt cq) (by simp; omega)).trans kb
              have cqS : Y.cell? ⟨B, 0, none⟩ = some (.pointer (some ⟨W2.heap.size, 0, none⟩)) := block_cell kbS 0
              have hmS : MsgA 37 W2 Y q ⟨(xk : Int), (xf : Int), (xd : Int), (xt : Int), 0, 0, 0, 0, false, false, none, 0, [], 0, 0, none, 0, [], none, 0, []⟩ := ⟨kS, EnsO.nil _ _, IzT.nil _, ⟨Bs.nil _, fun b off s e => by cases e⟩⟩
              clear kS hgS hr cq kb
              go_simp
              rw [← hY]
              refine hK.out _ _ cqS (fun hHeld => ?_)
              clear hK K hY
              try simp only [Act.put, List.getElem_toArray, List.getElem_cons_zero, List.getElem_cons_succ, List.setIfInBounds_toArray, List.set_cons_zero, List.set_cons_succ]
              refine wpAnyH_done (by kernel_rfl) ?_ _
              go_wp2_with fail
              go_meet
              exact ⟨q, rfl, hqW, hqp, hqB, hmS, hrS, kbS⟩
          · go_simp
            obtain ⟨q, hq⟩ : ∃ q, q = V1.heap.size := ⟨_, rfl⟩
            obtain ⟨X, hX⟩ : ∃ X, X = V1.alloc (.cells #[.int .i64 0, .int .i64 0, .int .i64 0, .int .u64 0, .int .u64 0, .int .u64 0, .int .u64 0, .int .u64 0, .bool false, .bool false, .slice none 0 0, .int .u64 0, .int .u64 0, .slice none 0 0, .slice none 0 0] 37) := ⟨_, rfl⟩
            have hBx : Below V1.heap.size V1 X := by rw [hX]; exact below_new _ _
            have kq : X.heap[q]? = some (.cells #[.int .i64 0, .int .i64 0, .int .i64 0, .int .u64 0, .int .u64 0, .int .u64 0, .int .u64 0, .int .u64 0, .bool false, .bool false, .slice none 0 0, .int .u64 0, .int .u64 0, .slice none 0 0, .slice none 0 0] 37) := by rw [hX, hq]; exact heap_alloc_new _ _
            have hqz2 := (Array.getElem?_eq_some_iff.1 kq).1
            have hqW : W2.heap.size ≤ q := by rw [hq]; exact hr.bel.size
            have hqp : q ≠ W2.heap.size := by have := hr.lt; omega
            have hqB : q ≠ B := by have := cell?_lt cq; simp only at this; omega
            have hrx := hr.below hBx
            have kbx := (hBx.block B (cell?_lt cq)).trans kb
            have cqx : X.cell? ⟨B, 0, none⟩ = some (.pointer (some ⟨W2.heap.size, 0, none⟩)) := block_cell kbx 0
            first | rw [← hX, ← hq] | rw [← hq, ← hX] | (rw [show V1.alloc (.cells #[.int .i64 0, .int .i64 0, .int .i64 0, .int .u64 0, .int .u64 0, .int .u64 0, .int .u64 0, .int .u64 0, .bool false, .bool false, .slice none 0 0, .int .u64 0, .int .u64 0, .slice none 0 0, .slice none 0 0] 37) = X from hX.symm]; rw [← hq])
            refine hK.out _ _ cqx (fun hHeld => ?_)
            clear hK K hX hq hBx hr cq kb
            have hr := hrx
            have cq := cqx
            have kb := kbx
            clear hrx cqx kbx
            try simp only [Act.put, List.getElem_toArray, List.getElem_cons_zero, List.getElem_cons_succ, List.setIfInBounds_toArray, List.set_cons_zero, List.set_cons_succ]
            refine wpAnyH_ready (rs := [3]) (by kernel_rfl) (by simp) ?_
            refine AllReadyH.cons rfl (fun K hK => ?_) AllReadyH.nil
            go_simp
            go_at_call 48
            refine (Hc2.out _ hr cq).mono ?_
            rintro e Y2 ⟨rfl, hrn, hgn⟩
            have kbn := KeepB.out _ _ hgn kb
            have cqn : Y2.cell? ⟨B, 0, none⟩ = some (.pointer (some ⟨W2.heap.size, 0, none⟩)) := block_cell kbn 0
            have hzn := hgn.size
            have kqn := (hgn.block q hqz2 (by simp; omega)).trans kq
            have hqzn := (Array.getElem?_eq_some_iff.1 kqn).1
            refine hK.out _ _ cqn (fun hHeld => ?_)
            clear hK K hgn hr cq kb kq hqz2
            have hr := hrn
            have cq := cqn
            have kb := kbn
            have kq := kqn
            have hqz2 := hqzn
            clear hrn cqn hzn kbn kqn hqzn
            try simp only [Act.put, List.getElem_toArray, List.getElem_cons_zero, List.getElem_cons_succ, List.setIfInBounds_toArray, List.set_cons_zero, List.set_cons_succ]
            refine wpAnyH_ready (rs := [5]) (by kernel_rfl) (by simp) ?_
            refine AllReadyH.cons rfl (fun K hK => ?_) AllReadyH.nil
            go_simp
            go_at_call 48
            refine (Hc3.out _ hr cq).mono ?_
            rintro e Y3 ⟨rfl, hrn, hgn⟩
            have kbn := KeepB.out _ _ hgn kb
            have cqn : Y3.cell? ⟨B, 0, none⟩ = some (.pointer (some ⟨W2.heap.size, 0, none⟩)) := block_cell kbn 0
            have hzn := hgn.size
            have kqn := (hgn.block q hqz2 (by simp; omega)).trans kq
            have hqzn := (Array.getElem?_eq_some_iff.1 kqn).1
            refine hK.out _ _ cqn (fun hHeld => ?_)
            clear hK K hgn hr cq kb kq hqz2
            have hr := hrn
            have cq := cqn
            have kb := kbn
            have kq := kqn
            have hqz2 := hqzn
            clear hrn cqn hzn kbn kqn hqzn
            try simp only [Act.put, List.getElem_toArray, List.getElem_cons_zero, List.getElem_cons_succ, List.setIfInBounds_toArray, List.set_cons_zero, List.set_cons_succ]
            refine wpAnyH_ready (rs := [7]) (by kernel_rfl) (by simp) ?_
            refine AllReadyH.cons rfl (fun K hK => ?_) AllReadyH.nil
            go_simp
            go_at_call 49
            refine (Hc4.out _ hr).mono ?_
            rintro e Y4 ⟨rfl, hrn, hgn⟩
            have kbn := KeepB.out _ _ hgn kb
            have cqn : Y4.cell? ⟨B, 0, none⟩ = some (.pointer (some ⟨W2.heap.size, 0, none⟩)) := block_cell kbn 0
            have hzn := hgn.size
            have kqn := (hgn.block q hqz2 (by simp; omega)).trans kq
            have hqzn := (Array.getElem?_eq_some_iff.1 kqn).1
            refine hK.out _ _ cqn (fun hHeld => ?_)
            clear hK K hgn hr cq kb kq hqz2
            have hr := hrn
            have cq := cqn
            have kb := kbn
            have kq := kqn
            have hqz2 := hqzn
            clear hrn cqn hzn kbn kqn hqzn
            try simp only [Act.put, List.getElem_toArray, List.getElem_cons_zero, List.getElem_cons_succ, List.setIfInBounds_toArray, List.set_cons_zero, List.set_cons_succ]
            refine wpAnyH_take (i := 8) (v := ?_) rfl (by kernel_rfl) (by kernel_rfl) (by kernel_rfl) (fun _ _ _ h => h) (Or.inl ⟨by rfl, ?_⟩) (by assumption) ?_
            rotate_left
            · intro w8 hSw; (try dsimp only at hSw); go_simp; (try with_reducible rfl)
            simp only [Act.put, List.getElem_toArray, List.getElem_cons_zero, List.getElem_cons_succ, List.setIfInBounds_toArray, List.set_cons_zero, List.set_cons_succ]
            refine wpAnyH_ready (rs := [10]) (by kernel_rfl) (by simp) ?_
            refine AllReadyH.cons rfl (fun K hK => ?_) AllReadyH.nil
            have c0 := block_cell kq 0
            have f0 := block_free kq 0
            have c1 := block_cell kq 1
            have f1 := block_free kq 1
            have c2 := block_cell kq 2
            have f2 := block_free kq 2
            have c3 := block_cell kq 3
            have f3 := block_free kq 3
            have c4 := block_cell kq 4
            have f4 := block_free kq 4
            have c5 := block_cell kq 5
            have f5 := block_free kq 5
            have c6 := block_cell kq 6
            have f6 := block_free kq 6
            have c7 := block_cell kq 7
            have f7 := block_free kq 7
            have c8 := block_cell kq 8
            have f8 := block_free kq 8
            have c9 := block_cell kq 9
            have f9 := block_free kq 9
            have c10 := block_cell kq 10
            have f10 := block_free kq 10
            have c11 := block_cell kq 11
            have f11 := block_free kq 11
            have c12 := block_cell kq 12
            have f12 := block_free kq 12
            have c13 := block_cell kq 13
            have f13 := block_free kq 13
            have c14 := block_cell kq 14
            have f14 := block_free kq 14
            simp at c0 c1 c2 c3 c4 c5 c6 c7 c8 c9 c10 c11 c12 c13 c14
            obtain ⟨kS, hgS⟩ := set15 kq (.int .i64 (xk : Int)) (.int .i64 (xf : Int)) (.int .i64 (xd : Int)) (.int .u64 (xt : Int)) (.int .u64 0) (.int .u64 0) (.int .u64 0) (.int .u64 0) (.bool false) (.bool false) (.slice none 0 0) (.int .u64 0) (.int .u64 0) (.slice none 0 0) (.slice none 0 0)
            obtain ⟨Y, hY⟩ : ∃ Y, Y = (((((((((((((((Y4.setCell ⟨q, 0, none⟩ (.int .i64 (xk : Int))).setCell ⟨q, 1, none⟩ (.int .i64 (xf : Int))).setCell ⟨q, 2, none⟩ (.int .i64 (xd : Int))).setCell ⟨q, 3, none⟩ (.int .u64 (xt : Int))).setCell ⟨q, 4, none⟩ (.int .u64 0)).setCell ⟨q, 5, none⟩ (.int .u64 0)).setCell ⟨q, 6, none⟩ (.int .u64 0)).setCell ⟨q, 7, none⟩ (.int .u64 0)).setCell ⟨q, 8, none⟩ (.bool false)).setCell ⟨q, 9, none⟩ (.bool false)).setCell ⟨q, 10, none⟩ (.slice none 0 0)).setCell ⟨q, 11, none⟩ (.int .u64 0)).setCell ⟨q, 12, none⟩ (.int .u64 0)).setCell ⟨q, 13, none⟩ (.slice none 0 0)).setCell ⟨q, 14, none⟩ (.slice none 0 0)) := ⟨_, rfl⟩
            rw [← hY] at kS hgS
            have hrS := hr.grown hgS (fun k e => by cases e; exact ⟨hqW, hqp⟩)
            have kbS := (hgS.block B (cell?_lt cq) (by simp; omega)).trans kb
            have cqS : Y.cell? ⟨B, 0, none⟩ = some (.pointer (some ⟨W2.heap.size, 0, none⟩)) := block_cell kbS 0
            have hmS : MsgA 37 W2 Y q ⟨(xk : Int), (xf : Int), (xd : Int), (xt : Int), 0, 0, 0, 0, false, false, none, 0, [], 0, 0, none, 0, [], none, 0, []⟩ := ⟨kS, EnsO.nil _ _, IzT.nil _, ⟨Bs.nil _, fun b off s e => by cases e⟩⟩
            clear kS hgS hr cq kb
            go_simp
            rw [← hY]
            refine hK.out _ _ cqS (fun hHeld => ?_)
            clear hK K hY
            try simp only [Act.put, List.getElem_toArray, List.getElem_cons_zero, List.getElem_cons_succ, List.setIfInBounds_toArray, List.set_cons_zero, List.set_cons_succ]
            refine wpAnyH_done (by kernel_rfl) ?_ _
            go_wp2_with fail
            go_meet
            exact ⟨q, rfl, hqW, hqp, hqB, hmS, hrS, kbS⟩
        · go_simp
          obtain ⟨q, hq⟩ : ∃ q, q = W5.heap.size := ⟨_, rfl⟩
          obtain ⟨X, hX⟩ : ∃ X, X = W5.alloc (.cells #[.int .i64 0, .int .i64 0, .int .i64 0, .int .u64 0, .int .u64 0, .int .u64 0, .int .u64 0, .int .u64 0, .bool false, .bool false, .slice none 0 0, .int .u64 0, .int .u64 0, .slice none 0 0, .slice none 0 0] 37) := ⟨_, rfl⟩
          have hBx : Below W5.heap.size W5 X := by rw [hX]; exact below_new _ _
          have kq : X.heap[q]? = some (.cells #[.int .i64 0, .int .i64 0, .int .i64 0, .int .u64 0, .int .u64 0, .int .u64 0, .int .u64 0, .int .u64 0, .bool false, .bool false, .slice none 0 0, .int .u64 0, .int .u64 0, .slice none 0 0, .slice none 0 0] 37) := by rw [hX, hq]; exact heap_alloc_new _ _
          have hqz2 := (Array.getElem?_eq_some_iff.1 kq).1
          have hqW : W2.heap.size ≤ q := by rw [hq]; exact hr.bel.size
          have hqp : q ≠ W2.heap.size := by have := hr.lt; omega
          have hqB : q ≠ B := by have := cell?_lt cq; simp only at this; omega
          have hrx := hr.below hBx
          have kbx := (hBx.block B (cell?_lt cq)).trans kb
          have cqx : X.cell? ⟨B, 0, none⟩ = some (.pointer (some ⟨W2.heap.size, 0, none⟩)) := block_cell kbx 0
          first | rw [← hX, ← hq] | rw [← hq, ← hX] | (rw [show W5.alloc (.cells #[.int .i64 0, .int .i64 0, .int .i64 0, .int .u64 0, .int .u64 0, .int .u64 0, .int .u64 0, .int .u64 0, .bool false, .bool false, .slice none 0 0, .int .u64 0, .int .u64 0, .slice none 0 0, .slice none 0 0] 37) = X from hX.symm]; rw [← hq])
          refine hK.out _ _ cqx (fun hHeld => ?_)
          clear hK K hX hq hBx hr cq kb
          have hr := hrx
          have cq := cqx
          have kb := kbx
          clear hrx cqx kbx
          try simp only [Act.put, List.getElem_toArray, List.getElem_cons_zero, List.getElem_cons_succ, List.setIfInBounds_toArray, List.set_cons_zero, List.set_cons_succ]
          refine wpAnyH_ready (rs := [1]) (by kernel_rfl) (by simp) ?_
          refine AllReadyH.cons rfl (fun K hK => ?_) AllReadyH.nil
          go_simp
          go_at_call 48
          refine (Hc1.out _ hr cq).mono ?_
          rintro e Y1 ⟨rfl, hrn, hgn⟩
          have kbn := KeepB.out _ _ hgn kb
          have cqn : Y1.cell? ⟨B, 0, none⟩ = some (.pointer (some ⟨W2.heap.size, 0, none⟩)) := block_cell kbn 0
          have hzn := hgn.size
          have kqn := (hgn.block q hqz2 (by simp; omega)).trans kq
          have hqzn := (Array.getElem?_eq_some_iff.1 kqn).1
          refine hK.out _ _ cqn (fun hHeld => ?_)
          clear hK K hgn hr cq kb kq hqz2
          have hr := hrn
          have cq := cqn
          have kb := kbn
          have kq := kqn
          have hqz2 := hqzn
          clear hrn cqn hzn kbn kqn hqzn
          try simp only [Act.put, List.getElem_toArray, List.getElem_cons_zero, List.getElem_cons_succ, List.setIfInBounds_toArray, List.set_cons_zero, List.set_cons_succ]
          refine wpAnyH_ready (rs := [3]) (by kernel_rfl) (by simp) ?_
          refine AllReadyH.cons rfl (fun K hK => ?_) AllReadyH.nil
          go_simp
          go_at_call 48
          refine (Hc2.out _ hr cq).mono ?_
          rintro e Y2 ⟨rfl, hrn, hgn⟩
          have kbn := KeepB.out _ _ hgn kb
          have cqn : Y2.cell? ⟨B, 0, none⟩ = some (.pointer (some ⟨W2.heap.size, 0, none⟩)) := block_cell kbn 0
          have hzn := hgn.size
          have kqn := (hgn.block q hqz2 (by simp; omega)).trans kq
          have hqzn := (Array.getElem?_eq_some_iff.1 kqn).1
          refine hK.out _ _ cqn (fun hHeld => ?_)
          clear hK K hgn hr cq kb kq hqz2
          have hr := hrn
          have cq := cqn
          have kb := kbn
          have kq := kqn
          have hqz2 := hqzn
          clear hrn cqn hzn kbn kqn hqzn
          try simp only [Act.put, List.getElem_toArray, List.getElem_cons_zero, List.getElem_cons_succ, List.setIfInBounds_toArray, List.set_cons_zero, List.set_cons_succ]
          refine wpAnyH_ready (rs := [5]) (by kernel_rfl) (by simp) ?_
          refine AllReadyH.cons rfl (fun K hK => ?_) AllReadyH.nil
          go_simp
          go_at_call 48
          refine (Hc3.out _ hr cq).mono ?_
          rintro e Y3 ⟨rfl, hrn, hgn⟩
          have kbn := KeepB.out _ _ hgn kb
          have cqn : Y3.cell? ⟨B, 0, none⟩ = some (.pointer (some ⟨W2.heap.size, 0, none⟩)) := block_cell kbn 0
          have hzn := hgn.size
          have kqn := (hgn.block q hqz2 (by simp; omega)).trans kq
          have hqzn := (Array.getElem?_eq_some_iff.1 kqn).1
          refine hK.out _ _ cqn (fun hHeld => ?_)
          clear hK K hgn hr cq kb kq hqz2
          have hr := hrn
          have cq := cqn
          have kb := kbn
          have kq := kqn
          have hqz2 := hqzn
          clear hrn cqn hzn kbn kqn hqzn
          try simp only [Act.put, List.getElem_toArray, List.getElem_cons_zero, List.getElem_cons_succ, List.setIfInBounds_toArray, List.set_cons_zero, List.set_cons_succ]
          refine wpAnyH_ready (rs := [7]) (by kernel_rfl) (by simp) ?_
          refine AllReadyH.cons rfl (fun K hK => ?_) AllReadyH.nil
          go_simp
          go_at_call 49
          refine (Hc4.out _ hr).mono ?_
          rintro e Y4 ⟨rfl, hrn, hgn⟩
          have kbn := KeepB.out _ _ hgn kb
          have cqn : Y4.cell? ⟨B, 0, none⟩ = some (.pointer (some ⟨W2.heap.size, 0, none⟩)) := block_cell kbn 0
          have hzn := hgn.size
          have kqn := (hgn.block q hqz2 (by simp; omega)).trans kq
          have hqzn := (Array.getElem?_eq_some_iff.1 kqn).1
          refine hK.out _ _ cqn (fun hHeld => ?_)
          clear hK K hgn hr cq kb kq hqz2
          have hr := hrn
          have cq := cqn
          have kb := kbn
          have kq := kqn
          have hqz2 := hqzn
          clear hrn cqn hzn kbn kqn hqzn
          try simp only [Act.put, List.getElem_toArray, List.getElem_cons_zero, List.getElem_cons_succ, List.setIfInBounds_toArray, List.set_cons_zero, List.set_cons_succ]
          refine wpAnyH_take (i := 8) (v := ?_) rfl (by kernel_rfl) (by kernel_rfl) (by kernel_rfl) (fun _ _ _ h => h) (Or.inl ⟨by rfl, ?_⟩) (by assumption) ?_
          rotate_left
          · intro w8 hSw; (try dsimp only at hSw); go_simp; (try with_reducible rfl)
          simp only [Act.put, List.getElem_toArray, List.getElem_cons_zero, List.getElem_cons_succ, List.setIfInBounds_toArray, List.set_cons_zero, List.set_cons_succ]
          refine wpAnyH_ready (rs := [10]) (by kernel_rfl) (by simp) ?_
          refine AllReadyH.cons rfl (fun K hK => ?_) AllReadyH.nil
          have c0 := block_cell kq 0
          have f0 := block_free kq 0
          have c1 := block_cell kq 1
          have f1 := block_free kq 1
          have c2 := block_cell kq 2
          have f2 := block_free kq 2
          have c3 := block_cell kq 3
          have f3 := block_free kq 3
          have c4 := block_cell kq 4
          have f4 := block_free kq 4
          have c5 := block_cell kq 5
          have f5 := block_free kq 5
          have c6 := block_cell kq 6
          have f6 := block_free kq 6
          have c7 := block_cell kq 7
          have f7 := block_free kq 7
          have c8 := block_cell kq 8
          have f8 := block_free kq 8
          have c9 := block_cell kq 9
          have f9 := block_free kq 9
          have c10 := block_cell kq 10
          have f10 := block_free kq 10
          have c11 := block_cell kq 11
          have f11 := block_free kq 11
          have c12 := block_cell kq 12
          have f12 := block_free kq 12
          have c13 := block_cell kq 13
          have f13 := block_free kq 13
          have c14 := block_cell kq 14
          have f14 := block_free kq 14
          simp at c0 c1 c2 c3 c4 c5 c6 c7 c8 c9 c10 c11 c12 c13 c14
          obtain ⟨kS, hgS⟩ := set15 kq (.int .i64 (xk : Int)) (.int .i64 (xf : Int)) (.int .i64 (xd : Int)) (.int .u64 (xt : Int)) (.int .u64 0) (.int .u64 0) (.int .u64 0) (.int .u64 0) (.bool false) (.bool false) (.slice none 0 0) (.int .u64 0) (.int .u64 0) (.slice none 0 0) (.slice none 0 0)
          obtain ⟨Y, hY⟩ : ∃ Y, Y = (((((((((((((((Y4.setCell ⟨q, 0, none⟩ (.int .i64 (xk : Int))).setCell ⟨q, 1, none⟩ (.int .i64 (xf : Int))).setCell ⟨q, 2, none⟩ (.int .i64 (xd : Int))).setCell ⟨q, 3, none⟩ (.int .u64 (xt : Int))).setCell ⟨q, 4, none⟩ (.int .u64 0)).setCell ⟨q, 5, none⟩ (.int .u64 0)).setCell ⟨q, 6, none⟩ (.int .u64 0)).setCell ⟨q, 7, none⟩ (.int .u64 0)).setCell ⟨q, 8, none⟩ (.bool false)).setCell ⟨q, 9, none⟩ (.bool false)).setCell ⟨q, 10, none⟩ (.slice none 0 0)).setCell ⟨q, 11, none⟩ (.int .u64 0)).setCell ⟨q, 12, none⟩ (.int .u64 0)).setCell ⟨q, 13, none⟩ (.slice none 0 0)).setCell ⟨q, 14, none⟩ (.slice none 0 0)) := ⟨_, rfl⟩
          rw [← hY] at kS hgS
          have hrS := hr.grown hgS (fun k e => by cases e; exact ⟨hqW, hqp⟩)
          have kbS := (hgS.block B (cell?_lt cq) (by simp; omega)).trans kb
          have cqS : Y.cell? ⟨B, 0, none⟩ = some (.pointer (some ⟨W2.heap.size, 0, none⟩)) := block_cell kbS 0
          have hmS : MsgA 37 W2 Y q ⟨(xk : Int), (xf : Int), (xd : Int), (xt : Int), 0, 0, 0, 0, false, false, none, 0, [], 0, 0, none, 0, [], none, 0, []⟩ := ⟨kS, EnsO.nil _ _, IzT.nil _, ⟨Bs.nil _, fun b off s e => by cases e⟩⟩
          clear kS hgS hr cq kb
          go_simp
          rw [← hY]
          refine hK.out _ _ cqS (fun hHeld => ?_)
          clear hK K hY
          try simp only [Act.put, List.getElem_toArray, List.getElem_cons_zero, List.getElem_cons_succ, List.setIfInBounds_toArray, List.set_cons_zero, List.set_cons_succ]
          refine wpAnyH_done (by kernel_rfl) ?_ _
          go_wp2_with fail
          go_meet
          exact ⟨q, rfl, hqW, hqp, hqB, hmS, hrS, kbS⟩
      case rest =>
        clear hdr hr cq cB4 kB hrs4 Hc1 Hc2 Hc3 Hc4 KeepB
        clear kb
        obtain ⟨q, rfl, hqW, hqp, hqB, hm, hr, kb⟩ := hcut
        have cq := block_cell kb 0
        simp at cq
        obtain ⟨sml1, sml2, sml3⟩ := gFields_small (xk : Int) (xf : Int) (xd : Int) (xt : Int) s4
        have hfl := fill_any (xk : Int) (xf : Int) (xd : Int) (xt : Int) hm hr hl4 hqW hqp
        obtain ⟨G, hG⟩ : ∃ G, G = gFields (mI xk xf xd xt) s4 := ⟨_, rfl⟩
        rw [← hG] at hfl HR2 sml1 sml2 sml3
        have Hfl := Lib.hid hfl
        clear hfl hG hm
        go_upto_region 7 with fail
        go_wp2_with fail
        refine Hfl.out.mono ?_
        rintro e V1 ⟨rfl, x, hxv, hm1, hr1, hk1⟩
        have kb1 := (hk1 B (Array.getElem?_eq_some_iff.1 kb).1 hBp (fun e => hqB e.symm) (by rw [elem?_of kb]; decide)).trans kb
        have cq1 : V1.cell? ⟨B, 0, none⟩ = some (.pointer (some ⟨W2.heap.size, 0, none⟩)) := block_cell kb1 0
        clear hr hk1 cq kb kb1 Hfl hl4 hbl
        obtain ⟨s5, hs5⟩ : ∃ s5, s5 = G.2 := ⟨_, rfl⟩
        rw [← hs5] at HR2 hr1
        rw [← hxv] at HR2 sml1 sml2 sml3
        clear hs5 hxv
        have hel8 : x.el.length ≤ 8 := by simpa [Mp.v] using sml1
        have hml7 : x.ml.length ≤ 7 := sml2
        have hix : 0 ≤ x.index := sml3
        clear sml1 sml2 sml3
        have Hen := Lib.hid (rds_end hr1)
        have Hso := Lib.hid (wireSound_any x V1 hm1.at (by omega) (by omega) hix)
        obtain ⟨sv, hsv⟩ : ∃ sv, sv = soundM x.v := ⟨_, rfl⟩
        obtain ⟨dn, hdn⟩ : ∃ dn, dn = doneR s5 := ⟨_, rfl⟩
        rw [← hsv] at Hso
        rw [← hdn] at Hen
        have hR4 : R = if (dn && sv) = true then (x.v, true) else (ms0, false) := by rw [HR2.out, hdn, hsv]; simp
        have HR4 := Lib.hid hR4
        have hkx := hm1.blk
        have he1 := hm1.ens
        have hi1 := hm1.mem
        have hd1 := hm1.dat
        clear hsv hdn HR2 hR4 hm1
        obtain ⟨kind1, frm1, dst1, term1, index1, logTerm1, commit1, round1, ok1, force1, eo1, ec1, el1, si1, st1, mo1, mc1, ml1, ao1, ac1, d1⟩ := x
        dsimp only [mpA] at Hso hkx he1 hi1 hd1 HR4
        obtain ⟨vx, hvx⟩ : ∃ vx : Array Value, vx = #[.int .i64 kind1, .int .i64 frm1, .int .i64 dst1, .int .u64 term1, .int .u64 index1, .int .u64 logTerm1, .int .u64 commit1, .int .u64 round1, .bool ok1, .bool force1, .slice eo1 el1.length ec1, .int .u64 si1, .int .u64 st1, .slice mo1 ml1.length mc1, .slice ao1 d1.length ac1] := ⟨_, rfl⟩
        have p0 : V1.cell? ⟨q, 0, none⟩ = some (.int .i64 kind1) := block_cell hkx 0
        have p1 : V1.cell? ⟨q, 1, none⟩ = some (.int .i64 frm1) := block_cell hkx 1
        have p2 : V1.cell? ⟨q, 2, none⟩ = some (.int .i64 dst1) := block_cell hkx 2
        have p3 : V1.cell? ⟨q, 3, none⟩ = some (.int .u64 term1) := block_cell hkx 3
        have p4 : V1.cell? ⟨q, 4, none⟩ = some (.int .u64 index1) := block_cell hkx 4
        have p5 : V1.cell? ⟨q, 5, none⟩ = some (.int .u64 logTerm1) := block_cell hkx 5
        have p6 : V1.cell? ⟨q, 6, none⟩ = some (.int .u64 commit1) := block_cell hkx 6
        have p7 : V1.cell? ⟨q, 7, none⟩ = some (.int .u64 round1) := block_cell hkx 7
        have p8 : V1.cell? ⟨q, 8, none⟩ = some (.bool ok1) := block_cell hkx 8
        have p9 : V1.cell? ⟨q, 9, none⟩ = some (.bool force1) := block_cell hkx 9
        have p10 : V1.cell? ⟨q, 10, none⟩ = some (.slice eo1 el1.length ec1) := block_cell hkx 10
        have p11 : V1.cell? ⟨q, 11, none⟩ = some (.int .u64 si1) := block_cell hkx 11
        have p12 : V1.cell? ⟨q, 12, none⟩ = some (.int .u64 st1) := block_cell hkx 12
        have p13 : V1.cell? ⟨q, 13, none⟩ = some (.slice mo1 ml1.length mc1) := block_cell hkx 13
        have p14 : V1.cell? ⟨q, 14, none⟩ = some (.slice ao1 d1.length ac1) := block_cell hkx 14
        clear hvx vx
        go_upto_region 8 with fail
        have hb2 : (dn && sv) = true := by
          have h1 := Hres.out
          rw [HR4.out] at h1
          cases h : (dn && sv) with
          | true => rfl
          | false => rw [h] at h1; simp at h1
        obtain ⟨hb3, hb4⟩ := Bool.and_eq_true_iff.1 hb2
        subst hb3
        subst hb4
        go_cut [44] (fun v wx => v = .bool false ∧ Below V1.heap.size V1 wx)
        case first =>
          have hen := Hen.out
          simp only [if_true] at hen
          have Hen2 := Lib.hid hen
          clear hen Hen HR4 hb2
          go_wp2_with fail
          refine Hen2.out.mono ?_
          rintro e V2 ⟨rfl, rfl⟩
          go_wp2_with fail
          refine Hso.out.mono ?_
          rintro e V3 ⟨rfl, hB3⟩
          go_wp2_with fail
          go_meet
          exact ⟨rfl, hB3⟩
        case rest =>
          obtain ⟨rfl, hB3⟩ := hcut
          clear Hen Hso p0 p1 p2 p3 p4 p5 p6 p7 p8 p9 p10 p11 p12 p13 p14 cq1
          have hbel := below_on hr1.bel hB3 (Nat.le_refl _)
          have hyes := HR4.out
          simp at hyes
          have HyesR := Lib.hid hyes
          clear hyes HR4 hb2
          have hk3 := (hB3.block _ (Array.getElem?_eq_some_iff.1 hkx).1).trans hkx
          clear hkx
          have p0 : wc.cell? ⟨q, 0, none⟩ = some (.int .i64 kind1) := block_cell hk3 0
          have p1 : wc.cell? ⟨q, 1, none⟩ = some (.int .i64 frm1) := block_cell hk3 1
          have p2 : wc.cell? ⟨q, 2, none⟩ = some (.int .i64 dst1) := block_cell hk3 2
          have p3 : wc.cell? ⟨q, 3, none⟩ = some (.int .u64 term1) := block_cell hk3 3
          have p4 : wc.cell? ⟨q, 4, none⟩ = some (.int .u64 index1) := block_cell hk3 4
          have p5 : wc.cell? ⟨q, 5, none⟩ = some (.int .u64 logTerm1) := block_cell hk3 5
          have p6 : wc.cell? ⟨q, 6, none⟩ = some (.int .u64 commit1) := block_cell hk3 6
          have p7 : wc.cell? ⟨q, 7, none⟩ = some (.int .u64 round1) := block_cell hk3 7
          have p8 : wc.cell? ⟨q, 8, none⟩ = some (.bool ok1) := block_cell hk3 8
          have p9 : wc.cell? ⟨q, 9, none⟩ = some (.bool force1) := block_cell hk3 9
          have p10 : wc.cell? ⟨q, 10, none⟩ = some (.slice eo1 el1.length ec1) := block_cell hk3 10
          have p11 : wc.cell? ⟨q, 11, none⟩ = some (.int .u64 si1) := block_cell hk3 11
          have p12 : wc.cell? ⟨q, 12, none⟩ = some (.int .u64 st1) := block_cell hk3 12
          have p13 : wc.cell? ⟨q, 13, none⟩ = some (.slice mo1 ml1.length mc1) := block_cell hk3 13
          have p14 : wc.cell? ⟨q, 14, none⟩ = some (.slice ao1 d1.length ac1) := block_cell hk3 14
          have kR := (hbel.block _ z2).trans k2
          have cR0 : wc.cell? ⟨w.heap.size, 0, none⟩ = some (.int .i64 0) := block_cell kR 0
          have zR0 := block_free kR 0
          have cR1 : wc.cell? ⟨w.heap.size, 1, none⟩ = some (.int .i64 0) := block_cell kR 1
          have zR1 := block_free kR 1
          have cR2 : wc.cell? ⟨w.heap.size, 2, none⟩ = some (.int .i64 0) := block_cell kR 2
          have zR2 := block_free kR 2
          have cR3 : wc.cell? ⟨w.heap.size, 3, none⟩ = some (.int .u64 0) := block_cell kR 3
          have zR3 := block_free kR 3
          have cR4 : wc.cell? ⟨w.heap.size, 4, none⟩ = some (.int .u64 0) := block_cell kR 4
          have zR4 := block_free kR 4
          have cR5 : wc.cell? ⟨w.heap.size, 5, none⟩ = some (.int .u64 0) := block_cell kR 5
          have zR5 := block_free kR 5
          have cR6 : wc.cell? ⟨w.heap.size, 6, none⟩ = some (.int .u64 0) := block_cell kR 6
          have zR6 := block_free kR 6
          have cR7 : wc.cell? ⟨w.heap.size, 7, none⟩ = some (.int .u64 0) := block_cell kR 7
          have zR7 := block_free kR 7
          have cR8 : wc.cell? ⟨w.heap.size, 8, none⟩ = some (.bool false) := block_cell kR 8
          have zR8 := block_free kR 8
          have cR9 : wc.cell? ⟨w.heap.size, 9, none⟩ = some (.bool false) := block_cell kR 9
          have zR9 := block_free kR 9
          have cR10 : wc.cell? ⟨w.heap.size, 10, none⟩ = some (.slice none 0 0) := block_cell kR 10
          have zR10 := block_free kR 10
          have cR11 : wc.cell? ⟨w.heap.size, 11, none⟩ = some (.int .u64 0) := block_cell kR 11
          have zR11 := block_free kR 11
          have cR12 : wc.cell? ⟨w.heap.size, 12, none⟩ = some (.int .u64 0) := block_cell kR 12
          have zR12 := block_free kR 12
          have cR13 : wc.cell? ⟨w.heap.size, 13, none⟩ = some (.slice none 0 0) := block_cell kR 13
          have zR13 := block_free kR 13
          have cR14 : wc.cell? ⟨w.heap.size, 14, none⟩ = some (.slice none 0 0) := block_cell kR 14
          have zR14 := block_free kR 14
          have zR := (Array.getElem?_eq_some_iff.1 kR).1
          obtain ⟨kS, hgS⟩ := set15 kR (.int .i64 kind1) (.int .i64 frm1) (.int .i64 dst1) (.int .u64 term1) (.int .u64 index1) (.int .u64 logTerm1) (.int .u64 commit1) (.int .u64 round1) (.bool ok1) (.bool force1) (.slice eo1 el1.length ec1) (.int .u64 si1) (.int .u64 st1) (.slice mo1 ml1.length mc1) (.slice ao1 d1.length ac1)
          obtain ⟨Y, hY⟩ : ∃ Y, Y = (((((((((((((((wc.setCell ⟨w.heap.size, 0, none⟩ (.int .i64 kind1)).setCell ⟨w.heap.size, 1, none⟩ (.int .i64 frm1)).setCell ⟨w.heap.size, 2, none⟩ (.int .i64 dst1)).setCell ⟨w.heap.size, 3, none⟩ (.int .u64 term1)).setCell ⟨w.heap.size, 4, none⟩ (.int .u64 index1)).setCell ⟨w.heap.size, 5, none⟩ (.int .u64 logTerm1)).setCell ⟨w.heap.size, 6, none⟩ (.int .u64 commit1)).setCell ⟨w.heap.size, 7, none⟩ (.int .u64 round1)).setCell ⟨w.heap.size, 8, none⟩ (.bool ok1)).setCell ⟨w.heap.size, 9, none⟩ (.bool force1)).setCell ⟨w.heap.size, 10, none⟩ (.slice eo1 el1.length ec1)).setCell ⟨w.heap.size, 11, none⟩ (.int .u64 si1)).setCell ⟨w.heap.size, 12, none⟩ (.int .u64 st1)).setCell ⟨w.heap.size, 13, none⟩ (.slice mo1 ml1.length mc1)).setCell ⟨w.heap.size, 14, none⟩ (.slice ao1 d1.length ac1)) := ⟨_, rfl⟩
          rw [← hY] at kS hgS
          have u0 := block_cell kS 0
          have u1 := block_cell kS 1
          have u2 := block_cell kS 2
          have u3 := block_cell kS 3
          have u4 := block_cell kS 4
          have u5 := block_cell kS 5
          have u6 := block_cell kS 6
          have u7 := block_cell kS 7
          have u8 := block_cell kS 8
          have u9 := block_cell kS 9
          have u10 := block_cell kS 10
          have u11 := block_cell kS 11
          have u12 := block_cell kS 12
          have u13 := block_cell kS 13
          have u14 := block_cell kS 14
          simp at u0 u1 u2 u3 u4 u5 u6 u7 u8 u9 u10 u11 u12 u13 u14
          go_wp2_with fail
          rw [← hY]
          have hBy := grown_row (below_on hBw2 hbel (Nat.le_refl _)) hgS (Nat.le_refl _) (by omega)
          have hat : MpT Y ⟨kind1, frm1, dst1, term1, index1, logTerm1, commit1, round1, ok1, force1, eo1, ec1, el1, si1, st1, mo1, mc1, ml1, ao1, ac1, d1⟩ := ⟨⟨_, (he1.below hB3).grown hgS (elem?_of kR) (by decide) (by decide)⟩, (hi1.below hB3).grown hgS (elem?_of kR) (by decide), (hd1.below hB3).grown hgS (elem?_of kR) (by decide)⟩
          refine bodyPost_ret (v := .tuple #[.agg #[.int .i64 kind1, .int .i64 frm1, .int .i64 dst1, .int .u64 term1, .int .u64 index1, .int .u64 logTerm1, .int .u64 commit1, .int .u64 round1, .bool ok1, .bool force1, .slice eo1 el1.length ec1, .int .u64 si1, .int .u64 st1, .slice mo1 ml1.length mc1, .slice ao1 d1.length ac1], .bool true]) (by simp [results, Try.results32, go_sem, u0, u1, u2, u3, u4, u5, u6, u7, u8, u9, u10, u11, u12, u13, u14]) rfl ?_
          rw [HyesR.out]
          exact ⟨⟨kind1, frm1, dst1, term1, index1, logTerm1, commit1, round1, ok1, force1, eo1, ec1, el1, si1, st1, mo1, mc1, ml1, ao1, ac1, d1⟩, rfl, rfl, hat, hBy⟩
end Go.Proofs.Ytbmkgcoolofmpaa
