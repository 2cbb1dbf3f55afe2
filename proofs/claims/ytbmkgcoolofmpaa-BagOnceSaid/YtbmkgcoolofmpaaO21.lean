/- Lemmas for BagOnce (Bh Bv Bz Open OpenR OpenE OpenI OpenB Ca Cb BagPlays Co). No statement of the seat is proved here. -/
import Derived.ProofKit
import Derived.OpenShut
import Derived.ShutString
import Derived.ChangeOld
import Derived.Deep.Matrix
import Derived.Deep.Slices
import Derived.Deep.Fields
import Derived.Deep.Strs
import Derived.Deep.MidRow
import Derived.Great.Walk
import Derived.Test.YtbmkgcoolofmpaaO1
import Derived.Test.YtbmkgcoolofmpaaO4
import Derived.Test.YtbmkgcoolofmpaaO18
import Derived.Test.YtbmkgcoolofmpaaO20
namespace Go.Proofs.Ytbmkgcoolofmpaa
set_option linter.unusedVariables false
set_option linter.unusedSimpArgs false
set_option linter.unusedSectionVars false
open Go Go.RowKit Go.Maps Go.Shelf
section
variable {base : Nat} {W W' : World} {F : Nat → Prop} {b room : Nat} {T : Int → Bool} {l : List Lt}
set_option maxRecDepth 100000 in
theorem btake_no (h : Bg base W F b room T l) (k : Int) (hk : ¬ (0 ≤ k ∧ k < (l.length : Nat))) : Calls Try.prog 12 #[.pointer (some ⟨b, 0, none⟩), .int .i64 k] W fun e W' => TellM ms0 false e W' ∧ Below W.heap.size W W' := by
  have Hlk := Lib.hid (fun V (hb : Below W.heap.size W V) => blook_no (h.below hb) k hk)
  clear hk h
  go_enter Try.func12, Try.ntmps12
  go_wp2_with (refine wpl_alM rfl (.inl rfl) rfl ?_; intro p1 W1 hp1 hb1 hx1 hz1; clear hz1; have hp1' := Lib.hid (Nat.le_of_eq hp1.symm); clear hp1)
  refine (show Calls _ _ _ _ _ from Hlk.out _ hb1).mono ?_
  rintro e V1 ⟨⟨y, rfl, hy, hyt⟩, hb2⟩
  go_upto_region 2 with (first | (refine wpl_alM rfl (.inl rfl) rfl ?_; intro p2 V2 hp2 hb3 hx2 hz2; clear hz2; have hp2' := Lib.hid (Nat.le_of_eq hp2.symm); clear hp2) | (refine wpl_stM rfl (.inl rfl) rfl rfl rfl hx2 rfl ?_; intro V3 hx3 hg3 hz3; clear hz3))
  have hbV2 := below_on hb1 (below_on hb2 hb3 (Nat.le_refl _)) (Nat.le_refl _)
  have hB3 : Below W.heap.size W V3 := below_grown hbV2 hg3 (by have := hp2'.out; have := (below_on hb1 hb2 (Nat.le_refl _)).size; omega) hbV2.size
  have hx1' : V3.heap[p1]? = some (.cells (mC mp0) mgT (0, 0)) := (hg3.block p1 (Nat.lt_of_lt_of_le (bx_lt hx1) (below_on hb2 hb3 (Nat.le_refl _)).size) (fun e => by have := Option.some.inj e; have h1 := bx_lt hx1; have := hp2'.out; have := hb2.size; omega)).trans (bx_below (below_on hb2 hb3 (Nat.le_refl _)) hx1)
  have hyt3 : MpT V3 y := (hyt.below hb3).box hx2 (.inl rfl) hg3
  have l3 := ld_mbox mgT mgT (.inl rfl) hx3
  have HB3 := Lib.hid hB3
  have HY := Lib.hid (And.intro hy hyt3)
  clear hbV2 hB3 hyt3 hy hyt hb1 hb2 hb3 hg3
  go_wp2_with (first | ((with_reducible show wpList _ _ _ (⟨_, Op.load _ _, _, _, _, _⟩ :: _) _ _); refine wpl_ldT rfl rfl rfl (by assumption) ?_) | (refine wpl_stM rfl (.inl rfl) rfl rfl rfl hx1' rfl ?_; intro V4 hx4 hg4 hz4; clear hz4))
  exact bodyPost_ret (v := .tuple #[.agg (mC y), .bool false]) (results_2 Try.results12 rfl rfl (lv_mbox _ _ (.inl rfl) hx4)) rfl ⟨⟨y, rfl, HY.out.1, HY.out.2.box hx1' (.inl rfl) hg4⟩, below_grown HB3.out hg4 hp1'.out HB3.out.size⟩
theorem nums_take {k M N : Nat} (h1 : N = M + 1) (h2 : k ≤ M) (h3 : N ≤ 512) : k ≤ 10000 ∧ (N : Int) - 1 = (M : Int) ∧ N ≤ 1000000 ∧ wrap64 ((N : Int) - 1) = (M : Int) ∧ ¬ (k : Int) < 0 ∧ M ≤ 512 := by
  refine ⟨by omega, by omega, by omega, ?_, by omega, by omega⟩
  rw [IntWalk.wrap64_in _ (by omega)]; omega
set_option maxRecDepth 100000 in
set_option maxHeartbeats 4000000 in
theorem btake_yes (h : Bg base W F b room T l) (k : Nat) (hk : k < l.length) : Calls Try.prog 12 #[.pointer (some ⟨b, 0, none⟩), .int .i64 (k : Nat)] W fun e W' => TellM l[k].m true e W' ∧ Bgx base W F b room T (l.take k ++ l.drop (k + 1)) W' := by
  have Hlk := Lib.hid (fun V (hb : Below W.heap.size W V) => blook_yes (h.below hb) k hk)
  obtain ⟨mm, hmm⟩ : ∃ mm, mm = l[k].m := ⟨_, rfl⟩
  rw [← hmm] at Hlk ⊢
  have HBG := Lib.hid h
  have HK := Lib.hid hk
  clear hmm h hk
  go_enter Try.func12, Try.ntmps12
  go_wp2_with (refine wpl_alM rfl (.inl rfl) rfl ?_; intro p1 W1 hp1 hb1 hx1 hz1; clear hz1; have hp1' := Lib.hid (Nat.le_of_eq hp1.symm); clear hp1)
  refine (show Calls _ _ _ _ _ from Hlk.out _ hb1).mono ?_
  rintro e V1 ⟨⟨y, rfl, hy, hyt⟩, hb2⟩
  go_upto_region 2 with (first | (refine wpl_alM rfl (.inl rfl) rfl ?_; intro p2 V2 hp2 hb3 hx2 hz2; clear hz2; have hp2' := Lib.hid (Nat.le_of_eq hp2.symm); clear hp2) | (refine wpl_stM rfl (.inl rfl) rfl rfl rfl hx2 rfl ?_; intro V3 hx3 hg3 hz3; clear hz3))
  have hbV2 := below_on hb1 (below_on hb2 hb3 (Nat.le_refl _)) (Nat.le_refl _)
  have hB3 : Below W.heap.size W V3 := below_grown hbV2 hg3 (by have := hp2'.out; have := (below_on hb1 hb2 (Nat.le_refl _)).size; omega) hbV2.size
  have hx1' : V3.heap[p1]? = some (.cells (mC mp0) mgT (0, 0)) := (hg3.block p1 (Nat.lt_of_lt_of_le (bx_lt hx1) (below_on hb2 hb3 (Nat.le_refl _)).size) (fun e => by have := Option.some.inj e; have h1 := bx_lt hx1; have := hp2'.out; have := hb2.size; omega)).trans (bx_below (below_on hb2 hb3 (Nat.le_refl _)) hx1)
  have hyt3 : MpT V3 y := (hyt.below hb3).box hx2 (.inl rfl) hg3
  have hp12 : W.heap.size ≤ p1 ∧ W.heap.size ≤ p2 := ⟨hp1'.out, by have := hp2'.out; have := (below_on hb1 hb2 (Nat.le_refl _)).size; omega⟩
  have HB3 := Lib.hid hB3
  have HY := Lib.hid (And.intro hy hyt3)
  have HX1 := Lib.hid hx1'
  have HX3 := Lib.hid hx3
  have HP := Lib.hid hp12
  clear hbV2 hB3 hyt3 hy hyt hb1 hb2 hb3 hg3 hx1 hx2 hx3 hx1' hp1' hp2' hp12
  -- the memory of the cut
  obtain ⟨m, n, ao, cap, h1, h2, h3, h4, h5, h6, h7, h8, h9⟩ := HBG.out
  obtain ⟨g, fx, hao, hgl, -, -, -⟩ := lt_cells h2 k HK.out
  have hfx : fx = 0 := by
    rcases h2.2 with ⟨h0, _⟩ | ⟨g', cap', cur, hv, _⟩
    · simp only [Value.slice.injEq] at h0; rw [h0.1] at hao; cases hao
    · simp only [Value.slice.injEq] at hv; rw [hv.1] at hao; simp only [Option.some.injEq, Addr.mk.injEq] at hao; exact hao.2.1.symm
  subst hfx
  subst hao
  have hl5 : l.length ≤ 512 := Nat.le_trans h8 h9
  obtain ⟨M, hM⟩ : ∃ M, l.length = M + 1 := ⟨l.length - 1, by have := HK.out; omega⟩
  obtain ⟨N, hN⟩ : ∃ N, N = l.length := ⟨_, rfl⟩
  have hNM : N = M + 1 := hN.trans hM
  have hkM : k ≤ M := by have := HK.out; omega
  have h2' := own_below h2 HB3.out
  rw [← hN] at h2'
  obtain ⟨k4, hNM1, hN6, w1, i0, hM5⟩ := nums_take hNM hkM (hN ▸ hl5)
  obtain ⟨W4, W5, W6, dp2, sp3, m1, m2, m3, m4, m5, m6, hb6, ho6, hk4, hk5⟩ := drop_mem V3 base g cap N M k l hN hNM hkM hN6 h2'
  have hcc := cut_cells l k M hM hkM
  have hB6 : Below W.heap.size W W6 := below_on HB3.out hb6 (Nat.le_refl _)
  have hx1V := bx_below HB3.out h1
  have hx16 := bx_below hb6 hx1V
  have hx1p6 := bx_below hb6 HX1.out
  have hx3p6 := bx_below hb6 HX3.out
  have hlM : (l.take k ++ l.drop (k + 1)).length = M := hcc.len
  have hbg := bg_setrow (base := base) (m := m) (n := n) (T := T) (l := l.take k ++ l.drop (k + 1)) (ao := some ⟨V3.heap.size, 0, none⟩) (cap := M) hx16 (by rw [hlM]; exact own_base ho6 (Nat.le_trans h6 (Nat.le_trans (Nat.le_of_lt (bx_lt h1)) HB3.out.size))) (h3.1.below hB6) h3.2
    (fun x hx => by
      have hx2 : x ∈ l := by
        rcases List.mem_append.1 hx with hx | hx
        · exact List.mem_of_mem_take hx
        · exact List.mem_of_mem_drop hx
      exact ⟨(h4 x hx2).dat.below hB6, (h4 x hx2).fit⟩) h6 h7 (by rw [hlM]; exact Nat.le_trans (Nat.le_succ M) (Nat.le_trans (Nat.le_of_eq hM.symm) h8)) h9
  rw [hlM] at hbg
  have hgr : Gr F W (W6.setCell ⟨b, 2, none⟩ (.slice (some ⟨V3.heap.size, 0, none⟩) M M)) := (Gr.below hB6).then (Gr.one (F := fun i => i = b) (grown_set W6 b 2 _) (fun i e => (Option.some.inj e).symm)) (fun i hi => .inl ((h5 i).2 (.inl hi)))
  have hF' : ∀ i, (i = b ∨ i = m ∨ (Value.slice (some ⟨V3.heap.size, 0, none⟩) M M).ownBlock = some i) → F i ∨ W.heap.size ≤ i := by
    intro i hi
    rcases hi with hi | hi | hi
    · exact .inl ((h5 i).2 (.inl hi))
    · exact .inl ((h5 i).2 (.inr (.inl hi)))
    · refine .inr ?_
      simp only [Value.ownBlock, Option.some.injEq] at hi
      rw [← hi]; exact HB3.out.size
  have hnp : p1 ≠ b ∧ p2 ≠ b := by have := bx_lt h1; have := HP.out; omega
  have hnF : ∀ i, (i = b ∨ i = m ∨ (Value.slice (some ⟨V3.heap.size, 0, none⟩) M M).ownBlock = some i) → i ≠ p1 := by
    intro i hi e
    subst e
    rcases hi with hi | hi | hi
    · exact hnp.1 hi
    · have := h3.1.lt; have := HP.out; omega
    · simp only [Value.ownBlock, Option.some.injEq] at hi
      have := bx_lt HX1.out; omega
  have hy6 := HY.out.2.below hb6
  have hy7 : MpT (W6.setCell ⟨b, 2, none⟩ (.slice (some ⟨V3.heap.size, 0, none⟩) M M)) y := hy6.box hx16 (.inr (.inr (.inl rfl))) (grown_set _ _ _ _)
  have e6 := block_cell hx16 2
  have f6 := block_free hx16 2
  have l6 := bx_lt hx16
  have e3 := block_cell hx1V 2
  have le3 := bx_lt hx1V
  simp at e6 f6 e3
  rw [← hN] at e6 e3
  have hx1p7 := (heap_setCell_other W6 ⟨b, 2, none⟩ p1 (.slice (some ⟨V3.heap.size, 0, none⟩) M M) hnp.1).trans hx1p6
  have hx3p7 := (heap_setCell_other W6 ⟨b, 2, none⟩ p2 (.slice (some ⟨V3.heap.size, 0, none⟩) M M) hnp.2).trans hx3p6
  obtain ⟨W7, hW7⟩ : ∃ W7, W7 = W6.setCell ⟨b, 2, none⟩ (.slice (some ⟨V3.heap.size, 0, none⟩) M M) := ⟨_, rfl⟩
  rw [← hW7] at hbg hgr hy7 hx1p7 hx3p7
  have l7 := ld_mbox mgT mgT (.inl rfl) hx3p7
  have HF := Lib.hid (And.intro hbg (And.intro hgr (And.intro hF' (And.intro hnF hy7))))
  have Hld := Lib.hid (fun V (hv : V.heap[b]? = V3.heap[b]?) => ldSl (W := V) (b := b) (o := 2) (ao := some ⟨g, 0, none⟩) (n := N) (cap := cap) (by rw [World.cell?_of_block (w := V3) hv]; exact e3))
  have hb66 : W6.heap[b]? = V3.heap[b]? := hb6.block b le3
  have HH := Lib.hid (And.intro (hk4 b le3) (And.intro (hk5 b le3) hb66))
  have m1' := m1
  rw [hNM1] at m1'
  have Hm := Lib.hid (And.intro m2 (And.intro m3 (And.intro m4 (And.intro m5 m6))))
  have Hadd := Lib.hid (add_one k k4)
  have Hold := Lib.hid HBG.out
  have HX1P7 := Lib.hid hx1p7
  have HL7 := Lib.hid l7
  have HW7 := Lib.hid hW7
  have He6 := Lib.hid (And.intro e6 (And.intro f6 l6))
  clear hbg hgr hF' hnF hy7 hy6 hx1p7 hx3p7 hx1p6 hx3p6 hx1V hx16 h1 h2 h3 h4 h5 h6 h7 h8 h9 hlM hcc ho6 hb6 hB6 h2' hM hN hNM hkM hl5 hgl hnp hb66 l7 hNM1 m1 m2 m3 m4 m5 m6 e6 f6 l6 hW7 hk4 hk5 k4 hN6 hM5
  go_upto_region 4 with fail
  clear m1' w1 i0 e3 le3
  refine wp_region_held_drew (S := fun V => V.heap[b]? = V3.heap[b]?) (by kernel_rfl) HH.out.1 (fun hHeld => ?_)
  refine wpAnyH_take (i := 0) (v := ?_) rfl (by kernel_rfl) (by kernel_rfl) (by kernel_rfl) (fun _ _ _ h => h) (Or.inl ⟨by rfl, ?_⟩) (by assumption) ?_
  rotate_left
  · intro w8 hSw; clear hSw; go_simp; (try with_reducible rfl)
  simp only [Act.put, List.getElem_toArray, List.getElem_cons_zero, List.getElem_cons_succ, List.setIfInBounds_toArray, List.set_cons_zero, List.set_cons_succ]
  refine wpAnyH_take (i := 1) (v := ?_) rfl (by kernel_rfl) (by kernel_rfl) (by kernel_rfl) (fun _ _ _ h => h) (Or.inl ⟨by rfl, ?_⟩) (by assumption) ?_
  rotate_left
  · intro w8 hSw; clear hSw; go_simp; (try with_reducible rfl)
  simp only [Act.put, List.getElem_toArray, List.getElem_cons_zero, List.getElem_cons_succ, List.setIfInBounds_toArray, List.set_cons_zero, List.set_cons_succ]
  refine wpAnyH_take (i := 2) (v := ?_) rfl (by kernel_rfl) (by kernel_rfl) (by kernel_rfl) (fun _ _ _ h => h) (Or.inl ⟨by rfl, ?_⟩) (by assumption) ?_
  rotate_left
  · intro w8 hSw; clear hSw; go_simp; (try with_reducible rfl)
  simp only [Act.put, List.getElem_toArray, List.getElem_cons_zero, List.getElem_cons_succ, List.setIfInBounds_toArray, List.set_cons_zero, List.set_cons_succ]
  refine wpAnyH_take (i := 3) (v := ?_) rfl (by kernel_rfl) (by kernel_rfl) (by kernel_rfl) (fun _ _ _ h => h) (Or.inl ⟨by rfl, ?_⟩) (by assumption) ?_
  rotate_left
  · intro w8 hSw; clear hSw; go_simp; (try with_reducible rfl)
  simp only [Act.put, List.getElem_toArray, List.getElem_cons_zero, List.getElem_cons_succ, List.setIfInBounds_toArray, List.set_cons_zero, List.set_cons_succ]
  refine wpAnyH_take (i := 4) (v := ?_) rfl (by kernel_rfl) (by kernel_rfl) (by kernel_rfl) (fun _ _ _ h => h) (Or.inl ⟨by rfl, ?_⟩) (by assumption) ?_
  rotate_left
  · intro w8 hSw; clear hSw; go_simp; (try with_reducible rfl)
  simp only [Act.put, List.getElem_toArray, List.getElem_cons_zero, List.getElem_cons_succ, List.setIfInBounds_toArray, List.set_cons_zero, List.set_cons_succ]
  refine wpAnyH_take (i := 5) (v := .slice (some ⟨g, 0, none⟩) N cap) rfl (by kernel_rfl) (by kernel_rfl) (by kernel_rfl) (fun _ _ _ h => h) (Or.inl ⟨by rfl, ?_⟩) (by assumption) ?_
  · intro w8 hSw; exact ld_takeT rfl (Hld.out w8 hSw) rfl
  simp only [Act.put, List.getElem_toArray, List.getElem_cons_zero, List.getElem_cons_succ, List.setIfInBounds_toArray, List.set_cons_zero, List.set_cons_succ]
  refine wpAnyH_take (i := 6) (v := ?_) rfl (by kernel_rfl) (by kernel_rfl) (by kernel_rfl) (fun _ _ _ h => h) (Or.inl ⟨by rfl, ?_⟩) (by assumption) ?_
  rotate_left
  · intro w8 hSw; clear hSw; go_simp; (try with_reducible rfl)
  simp only [Act.put, List.getElem_toArray, List.getElem_cons_zero, List.getElem_cons_succ, List.setIfInBounds_toArray, List.set_cons_zero, List.set_cons_succ]
  refine wpAnyH_take (i := 7) (v := .slice (some ⟨g, 0, none⟩) k cap) rfl (by kernel_rfl) (by kernel_rfl) (by kernel_rfl) (fun _ _ _ h => h) (Or.inl ⟨by rfl, ?_⟩) (by assumption) ?_
  · intro w8 hSw; exact sl_hi rfl (Hm.out.1 w8) rfl rfl
  simp only [Act.put, List.getElem_toArray, List.getElem_cons_zero, List.getElem_cons_succ, List.setIfInBounds_toArray, List.set_cons_zero, List.set_cons_succ]
  refine wpAnyH_take (i := 10) (v := ?_) rfl (by kernel_rfl) (by kernel_rfl) (by kernel_rfl) (fun _ _ _ h => h) (Or.inl ⟨by rfl, ?_⟩) (by assumption) ?_
  rotate_left
  · intro w8 hSw; clear hSw; go_simp; (try with_reducible rfl)
  simp only [Act.put, List.getElem_toArray, List.getElem_cons_zero, List.getElem_cons_succ, List.setIfInBounds_toArray, List.set_cons_zero, List.set_cons_succ]
  refine wpAnyH_take (i := 11) (v := ?_) rfl (by kernel_rfl) (by kernel_rfl) (by kernel_rfl) (fun _ _ _ h => h) (Or.inl ⟨by rfl, ?_⟩) (by assumption) ?_
  rotate_left
  · intro w8 hSw; clear hSw; go_simp; (try with_reducible rfl)
  simp only [Act.put, List.getElem_toArray, List.getElem_cons_zero, List.getElem_cons_succ, List.setIfInBounds_toArray, List.set_cons_zero, List.set_cons_succ]
  refine wpAnyH_take (i := 12) (v := ?_) rfl (by kernel_rfl) (by kernel_rfl) (by kernel_rfl) (fun _ _ _ h => h) (Or.inl ⟨by rfl, ?_⟩) (by assumption) ?_
  rotate_left
  · intro w8 hSw; clear hSw; go_simp; (try with_reducible rfl)
  simp only [Act.put, List.getElem_toArray, List.getElem_cons_zero, List.getElem_cons_succ, List.setIfInBounds_toArray, List.set_cons_zero, List.set_cons_succ]
  refine wpAnyH_take (i := 13) (v := .slice (some ⟨g, 0, none⟩) N cap) rfl (by kernel_rfl) (by kernel_rfl) (by kernel_rfl) (fun _ _ _ h => h) (Or.inl ⟨by rfl, ?_⟩) (by assumption) ?_
  · intro w8 hSw; exact ld_takeT rfl (Hld.out w8 hSw) rfl
  simp only [Act.put, List.getElem_toArray, List.getElem_cons_zero, List.getElem_cons_succ, List.setIfInBounds_toArray, List.set_cons_zero, List.set_cons_succ]
  refine wpAnyH_take (i := 14) (v := ?_) rfl (by kernel_rfl) (by kernel_rfl) (by kernel_rfl) (fun _ _ _ h => h) (Or.inl ⟨by rfl, ?_⟩) (by assumption) ?_
  rotate_left
  · intro w8 hSw; clear hSw; go_simp; (try with_reducible rfl)
  simp only [Act.put, List.getElem_toArray, List.getElem_cons_zero, List.getElem_cons_succ, List.setIfInBounds_toArray, List.set_cons_zero, List.set_cons_succ]
  refine wpAnyH_take (i := 15) (v := .int .i64 ((k : Int) + 1)) rfl (by kernel_rfl) (by kernel_rfl) (by kernel_rfl) (fun _ _ _ h => h) (Or.inl ⟨by rfl, ?_⟩) (by assumption) ?_
  · intro w8 hSw; exact bin_take rfl rfl (Hadd.out w8) rfl rfl
  simp only [Act.put, List.getElem_toArray, List.getElem_cons_zero, List.getElem_cons_succ, List.setIfInBounds_toArray, List.set_cons_zero, List.set_cons_succ]
  refine wpAnyH_take (i := 16) (v := .slice sp3 (N - (k + 1)) (cap - (k + 1))) rfl (by kernel_rfl) (by kernel_rfl) (by kernel_rfl) (fun _ _ _ h => h) (Or.inl ⟨by rfl, ?_⟩) (by assumption) ?_
  · intro w8 hSw; exact sl_lo rfl (Hm.out.2.2.2.1 w8) rfl rfl
  simp only [Act.put, List.getElem_toArray, List.getElem_cons_zero, List.getElem_cons_succ, List.setIfInBounds_toArray, List.set_cons_zero, List.set_cons_succ]
  refine wpAnyH_ready (rs := [8]) (by kernel_rfl) (by simp) ?_
  refine AllReadyH.cons rfl (fun K hK => ?_) AllReadyH.nil
  refine cp_wpo rfl rfl rfl (Hm.out.2.1 _) ?_
  refine hK.out _ _ HH.out.2.1 (fun hHeld => ?_)
  clear hK K
  try simp only [Act.put, List.getElem_toArray, List.getElem_cons_zero, List.getElem_cons_succ, List.setIfInBounds_toArray, List.set_cons_zero, List.set_cons_succ]
  refine wpAnyH_take (i := 9) (v := .slice dp2 (M - k) (M - k)) rfl (by kernel_rfl) (by kernel_rfl) (by kernel_rfl) (fun _ _ _ h => h) (Or.inl ⟨by rfl, ?_⟩) (by assumption) ?_
  · intro w8 hSw; exact sl_lo rfl (Hm.out.2.2.1 w8) rfl rfl
  simp only [Act.put, List.getElem_toArray, List.getElem_cons_zero, List.getElem_cons_succ, List.setIfInBounds_toArray, List.set_cons_zero, List.set_cons_succ]
  refine wpAnyH_ready (rs := [17]) (by kernel_rfl) (by simp) ?_
  refine AllReadyH.cons rfl (fun K hK => ?_) AllReadyH.nil
  refine cp_wpo rfl rfl rfl (Hm.out.2.2.2.2 _) ?_
  refine hK.out _ _ HH.out.2.2 (fun hHeld => ?_)
  clear hK K
  try simp only [Act.put, List.getElem_toArray, List.getElem_cons_zero, List.getElem_cons_succ, List.setIfInBounds_toArray, List.set_cons_zero, List.set_cons_succ]
  refine wpAnyH_done (by kernel_rfl) ?_ _
  obtain ⟨e6, f6, l6⟩ := He6.out
  go_upto_region 6 with fail
  rw [← HW7.out]
  clear e6 f6 l6
  have l7 := HL7.out
  go_wp2_with (first | ((with_reducible show wpList _ _ _ (⟨_, Op.load _ _, _, _, _, _⟩ :: _) _ _); refine wpl_ldT rfl rfl rfl (by assumption) ?_) | (refine wpl_stM rfl (.inl rfl) rfl rfl rfl HX1P7.out rfl ?_; intro V4 hx4 hg4 hz4; clear hz4))
  have hg4' : Gr (fun i => i = p1) W7 V4 := Gr.one hg4 (fun i e => (Option.some.inj e).symm)
  exact bodyPost_ret (v := .tuple #[.agg (mC y), .bool true]) (results_2 Try.results12 rfl rfl (lv_mbox _ _ (.inl rfl) hx4)) rfl ⟨⟨y, rfl, HY.out.1, HF.out.2.2.2.2.box HX1P7.out (.inl rfl) hg4⟩, _, HF.out.1.beside hg4' (fun i hi => HF.out.2.2.2.1 i hi) (fun i hi e => by subst hi; rw [elem?_of HX1P7.out] at e; exact absurd e (by decide)), HF.out.2.1.then hg4' (fun i hi => .inr (by subst hi; exact HP.out.1)), HF.out.2.2.1⟩
end
end Go.Proofs.Ytbmkgcoolofmpaa
namespace Go.Proofs.Ytbmkgcoolofmpaa
set_option linter.unusedVariables false
set_option linter.unusedSimpArgs false
set_option linter.unusedSectionVars false
open Go Go.RowKit Go.Maps Go.Shelf
abbrev boT : TypeId := 39
/-- a call of a bag -/
structure BOp where
  kind : Int
  k : Int
  dst : Int
  m : Mp
  la : Option Addr
  lcap : Nat
  ls : List Int
/-- its cells, closed -/
def oC (o : BOp) : Array Value := #[.int .i64 o.kind, .int .i64 o.k, .int .i64 o.dst, .int .i64 o.m.kind, .int .i64 o.m.frm, .int .i64 o.m.dst, .int .u64 o.m.term, .int .u64 o.m.index, .int .u64 o.m.logTerm, .int .u64 o.m.commit, .int .u64 o.m.round, .bool o.m.ok, .bool o.m.force, .slice o.m.eo o.m.el.length o.m.ec, .int .u64 o.m.si, .int .u64 o.m.st, .slice o.m.mo o.m.ml.length o.m.mc, .slice o.m.ao o.m.d.length o.m.ac, .slice o.la o.ls.length o.lcap]
theorem oC_msg (o : BOp) : ∀ j u, (mpA o.m)[j]? = some u → (oC o)[3 + j]? = some u := by
  intro j u hu
  have hj : j < 15 := (Array.getElem?_eq_some_iff.1 hu).1
  match j, hj with
  | 0, _ => exact hu
  | 1, _ => exact hu
  | 2, _ => exact hu
  | 3, _ => exact hu
  | 4, _ => exact hu
  | 5, _ => exact hu
  | 6, _ => exact hu
  | 7, _ => exact hu
  | 8, _ => exact hu
  | 9, _ => exact hu
  | 10, _ => exact hu
  | 11, _ => exact hu
  | 12, _ => exact hu
  | 13, _ => exact hu
  | 14, _ => exact hu
structure OpBox (W : World) (p : Nat) (o : BOp) : Prop where
  kind : W.cell? ⟨p, 0, none⟩ = some (.int .i64 o.kind)
  k : W.cell? ⟨p, 1, none⟩ = some (.int .i64 o.k)
  dst : W.cell? ⟨p, 2, none⟩ = some (.int .i64 o.dst)
  ls : W.cell? ⟨p, 18, none⟩ = some (.slice o.la o.ls.length o.lcap)
  msg : (Instr.loadAt mgT (.pointer (some ⟨p, 3, none⟩))).run Try.prog W = .ok (.agg (mC o.m)) W
  lt : p < W.heap.size
theorem OpBox.of {W : World} {p : Nat} {o : BOp} {T : TypeId} (h : W.heap[p]? = some (.cells (oC o) T (0, 0))) : OpBox W p o :=
  ⟨block_cell h 0, block_cell h 1, block_cell h 2, block_cell h 18, ld_mg (p := 0) mgT (.inl rfl) (fun j u hu => by rw [block_cell h]; exact oC_msg o j u hu), bx_lt h⟩
/-! boxes of the reference's bag -/
section
variable {ops : Array Oper} {rest : List Oper} {o : Oper} {a : Act} {W : World} {Q : Exit → Act → World → Prop}
end
/-! what calls do, wherever they point -/
def inR {α : Type} (l : List α) (k : Int) : Bool := decide (0 ≤ k ∧ k < (l.length : Nat))
def takeL {α : Type} (l : List α) (k : Int) : List α := if inR l k = true then l.take k.toNat ++ l.drop (k.toNat + 1) else l
def moveLk {α : Type} (l : List α) (k t : Int) : List α := if h : (0 ≤ k ∧ k < (l.length : Nat)) ∧ 0 ≤ t ∧ t < (l.length : Nat) then moveL l k.toNat t.toNat (by omega) else l
def inM {α : Type} (l : List α) (k t : Int) : Bool := decide ((0 ≤ k ∧ k < (l.length : Nat)) ∧ 0 ≤ t ∧ t < (l.length : Nat))
section
variable {base : Nat} {W W' : World} {F : Nat → Prop} {b room : Nat} {T : Int → Bool} {l : List Lt}
theorem btake_any (h : Bg base W F b room T l) (k : Int) : Calls Try.prog 12 #[.pointer (some ⟨b, 0, none⟩), .int .i64 k] W fun e W' => TellM (lookM l k) (inR l k) e W' ∧ Bgx base W F b room T (takeL l k) W' := by
  by_cases hk : 0 ≤ k ∧ k < (l.length : Nat)
  · obtain ⟨n, rfl⟩ : ∃ n : Nat, k = (n : Int) := ⟨k.toNat, by omega⟩
    have hn : n < l.length := by omega
    have e : inR l (n : Int) = true := decide_eq_true hk
    unfold takeL
    rw [e, if_pos rfl, lookM_yes hn]
    exact btake_yes h n hn
  · have e : inR l k = false := decide_eq_false hk
    unfold takeL
    rw [e, if_neg (by simp), lookM_no hk]
    exact (btake_no h k hk).mono fun e W' hp => ⟨hp.1, Bgx.same h hp.2⟩
theorem bmove_any (h : Bg base W F b room T l) (k t : Int) : Calls Try.prog 15 #[.pointer (some ⟨b, 0, none⟩), .int .i64 k, .int .i64 t] W fun e W' => e = .returned (.bool (inM l k t)) ∧ Bgx base W F b room T (moveLk l k t) W' := by
  by_cases hk : (0 ≤ k ∧ k < (l.length : Nat)) ∧ 0 ≤ t ∧ t < (l.length : Nat)
  · obtain ⟨n, rfl⟩ : ∃ n : Nat, k = (n : Int) := ⟨k.toNat, by omega⟩
    obtain ⟨m, rfl⟩ : ∃ m : Nat, t = (m : Int) := ⟨t.toNat, by omega⟩
    have e : inM l (n : Int) (m : Int) = true := decide_eq_true hk
    unfold moveLk
    rw [e, dif_pos hk]
    exact bmove_yes h n m (by omega) (by omega)
  · have e : inM l k t = false := decide_eq_false hk
    unfold moveLk
    rw [e, dif_neg hk]
    exact (bmove_no h k t hk).mono fun e W' hp => ⟨hp.1, by rw [hp.2]; exact Bgx.same h (Below.refl _ _)⟩
end
end Go.Proofs.Ytbmkgcoolofmpaa
namespace Go.Proofs.Ytbmkgcoolofmpaa
set_option linter.unusedVariables false
set_option linter.unusedSimpArgs false
set_option linter.unusedSectionVars false
open Go Go.RowKit Go.Maps Go.Shelf
/-- a call that may be made -/
structure OpOk (Wb : World) (o : BOp) : Prop where
  msg : MgA Wb o.m
  ls : Iz Wb .i64 o.la o.lcap o.ls
  keys : ∀ a ∈ o.ls, KeyOk a
  few : o.ls.length ≤ 500
theorem neq_self (c : Bool) (V : World) : (binOp .neq 4 (.bool c) (.bool c)).run Try.prog V = .ok (.bool false) V := by
  cases c <;> kernel_rfl
end Go.Proofs.Ytbmkgcoolofmpaa
namespace Go.Proofs.Ytbmkgcoolofmpaa
set_option linter.unusedVariables false
set_option linter.unusedSimpArgs false
set_option linter.unusedSectionVars false
open Go Go.ChangeShapes Go.WideShapes Go.ChangeAt Go.RowKit
theorem u8_list (zs : List Int) (h : ∀ n ∈ zs, (Lit.int .u8 n).wf = true) : zs.map (Value.int .u8) = (zs.map fun z => UInt8.ofNat z.toNat).map u8 := by
  rw [List.map_map]
  apply List.map_congr_left
  intro z hz
  have := bounds_u8 (h z hz)
  simp only [Function.comp, u8]
  congr 1
  simp only [UInt8.toNat_ofNat', Nat.reducePow]
  omega
theorem bs_of {w : World} {a : Option Addr} {len cap : Nat} {zs : List Int} (hl : len ≤ cap) (hm : cap ≤ maxLen) (hz : zs.length = cap) (hw : ∀ n ∈ zs, (Lit.int .u8 n).wf = true) (hn : a = none → cap = 0)
    (hc : ∀ x, a = some x → ∀ i, i < cap → w.cell? (x.add i) = some (.int .u8 (zs.getD i 0))) : ∃ l : List UInt8, len = l.length ∧ Bs w a cap l := by
  have hw' : ∀ n ∈ zs.take len, (Lit.int .u8 n).wf = true := fun n hn => hw n (List.mem_of_mem_take hn)
  refine ⟨(zs.take len).map fun z => UInt8.ofNat z.toNat, by simp; omega, ?_⟩
  unfold Bs
  rw [← u8_list _ hw']
  have hlen : (List.map (fun z => UInt8.ofNat z.toNat) (List.take len zs)).length = len := by simp; omega
  rw [hlen]
  refine ⟨by simp; omega, hl, hm, hn, fun j u hu => ?_⟩
  rw [List.getElem?_map] at hu
  have hj : j < len := by
    apply Classical.byContradiction
    intro h
    rw [List.getElem?_eq_none (by simp; omega)] at hu
    cases hu
  cases a with
  | none => have := hn rfl; omega
  | some x =>
    have h0 := hc x rfl 0 (by omega)
    obtain ⟨b, off, sp⟩ := x
    have hsp : sp = none := by simpa [Addr.add] using World.cell?_spot h0
    subst hsp
    refine ⟨b, off, rfl, ?_⟩
    have h1 := hc _ rfl j (by omega)
    rw [Addr.add_none] at h1
    rw [h1, ← hu, List.getElem?_take, if_pos hj, List.getElem?_eq_getElem (by omega)]
    simp [List.getD, List.getElem?_eq_getElem (show j < zs.length by omega)]
section
variable {H : Type} {enc : TypeId × Value → H} {P : Program} {w : World} {base : Nat} {held : Bool}
theorem open_bs {t e : TypeId} {fuel : Nat} {ao : Option Addr} {len cap : Nat} {x : DataW H × List MemPlace} (ht : P.underlying t = some (.slice e)) (he : P.underlying e = some (.int .u8)) (ce : P.cellsOf e = 1)
    (h : DataW.trod enc P w base (fun _ => true) held fuel t (Value.slice ao len cap).cells.toList = some x) : ∃ l : List UInt8, len = l.length ∧ Bs w ao cap l := by
  rcases open_ints ht he ce h with ⟨hcs, _⟩ | ⟨a, l, c, zs, hcs, _, hl, hm, hz, _, hcell, hwz⟩
  · simp [Value.cells] at hcs
    obtain ⟨rfl, rfl, rfl⟩ := hcs
    exact ⟨[], rfl, by simp, by simp, by decide, fun _ => rfl, fun j u hu => by simp at hu⟩
  · simp [Value.cells] at hcs
    obtain ⟨rfl, rfl, rfl⟩ := hcs
    simp only [if_true] at hz
    refine bs_of hl hm hz hwz (by simp) fun x hx i hi => ?_
    simp only [Option.some.injEq] at hx
    subst hx
    exact hcell i (by omega)
end
end Go.Proofs.Ytbmkgcoolofmpaa
namespace Go.Proofs.Ytbmkgcoolofmpaa
set_option linter.unusedVariables false
set_option linter.unusedSimpArgs false
set_option linter.unusedSectionVars false
open Go Go.ChangeShapes Go.WideShapes Go.ChangeAt Go.RowKit Go.Deep
theorem rows_len {α : Type} {cells : α → List Value} {k : Nat} (hl : ∀ a, (cells a).length = k) (l : List α) : (l.map cells).flatten.length = l.length * k := by
  induction l with
  | nil => simp
  | cons a l ih => simp only [List.map_cons, List.flatten_cons, List.length_append, ih, hl, List.length_cons, Nat.succ_mul]; omega
/-- what a cell of rows is -/
theorem rows_get {α : Type} {cells : α → List Value} {k : Nat} (hl : ∀ a, (cells a).length = k) (hk : 0 < k) (l : List α) (j : Nat) (u : Value) (h : (l.map cells).flatten[j]? = some u) :
    ∃ (hi : j / k < l.length), (cells l[j / k])[j % k]? = some u := by
  have hj : j < (l.map cells).flatten.length := (List.getElem?_eq_some_iff.1 h).1
  rw [rows_len hl] at hj
  have hi : j / k < l.length := Nat.div_lt_of_lt_mul (by rw [Nat.mul_comm]; exact hj)
  refine ⟨hi, ?_⟩
  have hm : j % k < k := Nat.mod_lt _ hk
  have := flatten_get (rows := l.map cells) (k := k) (by intro r hr; obtain ⟨x, _, rfl⟩ := List.mem_map.1 hr; exact hl x) (j / k) (j % k) (by simpa using hi) (by simp [hl]; exact hm)
  rw [show j / k * k + j % k = j from by rw [Nat.mul_comm]; exact Nat.div_add_mod j k, h] at this
  rw [this, List.getElem?_eq_getElem (by rw [hl]; exact hm)]
  simp
section
variable {H : Type} {enc : TypeId × Value → H} {P : Program} {w : World} {base : Nat} {held : Bool}
theorem open_rows {α : Type} [Inhabited α] (cells : α → List Value) (good : α → Prop) {k : Nat} (hl : ∀ a, (cells a).length = k) (hk : 0 < k) {t e : TypeId} {fuel : Nat} {ao : Option Addr} {len cap : Nat} {x : DataW H × List MemPlace}
    (ht : P.underlying t = some (.slice e)) (hC : P.cellsOf e = k)
    (hrow : ∀ (n : Nat) (cs : List Value) (y : DataW H × List MemPlace), cs.length = k → DataW.trod enc P w base (fun _ => true) held n e cs = some y → ∃ a, cs = cells a ∧ good a)
    (h : DataW.trod enc P w base (fun _ => true) held fuel t (Value.slice ao len cap).cells.toList = some x) : ∃ l : List α, len = l.length ∧ Sl w k ao l.length cap (l.map cells).flatten ∧ ∀ a ∈ l, good a := by
  rcases open_slice ht h with ⟨hcs, _⟩ | ⟨a, len', cap', m, n, D, Pl, hcs, _, hle, hmax, hmm, _, hx⟩
  · simp [Value.cells] at hcs
    obtain ⟨rfl, rfl, rfl⟩ := hcs
    exact ⟨[], rfl, ⟨by simp, by simp, by decide, fun _ => rfl, fun j u hu => by simp at hu⟩, by simp⟩
  · simp [Value.cells] at hcs
    obtain ⟨rfl, rfl, rfl⟩ := hcs
    simp only [if_true] at hmm
    subst hmm
    have each : ∀ i, i < len → ∃ q : α, (∀ j, j < k → w.cell? (a.add (i * k + j)) = (cells q)[j]?) ∧ good q := by
      intro i hi
      obtain ⟨cs', h1, h2⟩ := hx i (by omega)
      rw [hC] at h1
      obtain ⟨_, hlen, hcell⟩ := World.cells?_some h1
      obtain ⟨q, rfl, hq⟩ := hrow _ _ _ hlen h2
      refine ⟨q, fun j hj => ?_, hq⟩
      rw [← add_add]; exact hcell j hj
    obtain ⟨y, hy⟩ := choose_lt each
    refine ⟨(List.range len).map y, by simp, ⟨by simpa using rows_len hl ((List.range len).map y), by simpa using hle, hmax, by simp, fun j u hu => ?_⟩, ?_⟩
    · obtain ⟨hi, hu'⟩ := rows_get hl hk _ j u hu
      have hi' : j / k < len := by simpa using hi
      have hm : j % k < k := Nat.mod_lt _ hk
      have hc := (hy _ hi').1 _ hm
      rw [show j / k * k + j % k = j from by rw [Nat.mul_comm]; exact Nat.div_add_mod j k] at hc
      simp only [List.getElem_map, List.getElem_range] at hu'
      rw [hu'] at hc
      obtain ⟨b, off, sp⟩ := a
      have hcz := (hy 0 (Nat.lt_of_le_of_lt (Nat.zero_le _) hi')).1 0 hk
      rw [List.getElem?_eq_getElem (by rw [hl]; exact hk)] at hcz
      have hsp : sp = none := by simpa [Addr.add] using World.cell?_spot hcz
      subst hsp
      refine ⟨b, off, rfl, ?_⟩
      rwa [Addr.add_none] at hc
    · intro q hq
      obtain ⟨i, hi, rfl⟩ := List.mem_map.1 hq
      exact (hy i (List.mem_range.1 hi)).2
end
end Go.Proofs.Ytbmkgcoolofmpaa
namespace Go.Proofs.Ytbmkgcoolofmpaa
set_option linter.unusedVariables false
set_option linter.unusedSimpArgs false
set_option linter.unusedSectionVars false
open Go Go.ChangeShapes Go.WideShapes Go.ChangeAt Go.RowKit Go.Deep
instance : Inhabited Ep := ⟨⟨⟨0, 0, []⟩, none, 0⟩⟩
section
variable {H : Type} {enc : TypeId × Value → H} {w : World} {base : Nat} {held : Bool}
def EpOk (w : World) (a : Ep) : Prop := Bs w a.ao a.cap a.e.data ∧ (Lit.int .u64 a.e.term).wf = true ∧ (Lit.int .i64 a.e.kind).wf = true
set_option maxRecDepth 100000 in
theorem row_ep (n : Nat) (cs : List Value) (y : DataW H × List MemPlace) (hcs : cs.length = 3) (h : DataW.trod enc Try.prog w base (fun _ => true) held n 88 cs = some y) : ∃ a : Ep, cs = epCells a ∧ EpOk w a := by
  obtain ⟨xs, m, _, hx, _, hlen, hg⟩ := DataW.trod_struct Try.underlying88 h
  match cs, hcs with
  | [c0, c1, c2], _ =>
    match xs, hlen with
    | [y0, y1, y2], _ =>
      have hone : oneCellFields Try.prog _ = true := (by kernel_rfl : oneCellFields Try.prog (match Try.prog.underlying 88 with | some (.struct fs) => fs | _ => #[]) = true)
      rw [Try.underlying88] at hone
      obtain ⟨o0, k0⟩ := hone_of hone 0 _ rfl
      obtain ⟨o1, k1⟩ := hone_of hone 1 _ rfl
      obtain ⟨o2, k2⟩ := hone_of hone 2 _ rfl
      have t0 := hg 0 _ rfl
      have t1 := hg 1 _ rfl
      have t2 := hg 2 _ rfl
      rw [o0, k0] at t0
      rw [o1, k1] at t1
      rw [o2, k2] at t2
      obtain ⟨n0, e0, d0, w0⟩ := DataW.trod_int (k := .u64) Try.underlying31 t0
      obtain ⟨n1, e1, d1, w1⟩ := DataW.trod_int (k := .i64) Try.underlying3 t1
      simp at e0 e1 t2
      subst e0; subst e1
      have key : ∃ (ao : Option Addr) (len cap : Nat), c2 = .slice ao len cap := by
        rcases open_ints Try.underlying33 Try.underlying5 (by kernel_rfl) t2 with ⟨hcs, _⟩ | ⟨a, l, c, zs, hcs, _⟩
        · simp [Value.cells] at hcs; exact ⟨_, _, _, hcs⟩
        · simp [Value.cells] at hcs; exact ⟨_, _, _, hcs⟩
      obtain ⟨ao, len, cap, rfl⟩ := key
      obtain ⟨l, rfl, hb⟩ := open_bs Try.underlying33 Try.underlying5 (by kernel_rfl) (by simpa [Value.cells] using t2)
      exact ⟨⟨⟨n0, n1, l⟩, ao, cap⟩, rfl, hb, w0, w1⟩
theorem open_eps {fuel : Nat} {ao : Option Addr} {len cap : Nat} {x : DataW H × List MemPlace} (h : DataW.trod enc Try.prog w base (fun _ => true) held fuel 32 (Value.slice ao len cap).cells.toList = some x) :
    ∃ l : List Ep, len = l.length ∧ Ens w ao cap l ∧ ∀ a ∈ l, EpOk w a := by
  obtain ⟨l, h1, h2, h3⟩ := open_rows epCells (EpOk w) (fun _ => rfl) (by decide) Try.underlying32 (by kernel_rfl) (fun n cs y hcs hy => row_ep n cs y hcs hy) h
  exact ⟨l, h1, ⟨h2, fun a ha => (h3 a ha).1⟩, h3⟩
end
end Go.Proofs.Ytbmkgcoolofmpaa
namespace Go.Proofs.Ytbmkgcoolofmpaa
set_option linter.unusedVariables false
set_option linter.unusedSimpArgs false
set_option linter.unusedSectionVars false
open Go Go.ChangeShapes Go.WideShapes Go.ChangeAt Go.RowKit Go.Deep
theorem ints_flat (k : IntKind) (l : List Int) : (l.map fun a => [Value.int k a]).flatten = l.map (Value.int k) := by
  induction l with
  | nil => rfl
  | cons a l ih => simp only [List.map_cons, List.flatten_cons, ih]; rfl
section
variable {H : Type} {enc : TypeId × Value → H} {P : Program} {w : World} {base : Nat} {held : Bool}
theorem open_is {t e : TypeId} {k : IntKind} {fuel : Nat} {ao : Option Addr} {len cap : Nat} {x : DataW H × List MemPlace} (ht : P.underlying t = some (.slice e)) (he : P.underlying e = some (.int k)) (hC : P.cellsOf e = 1)
    (h : DataW.trod enc P w base (fun _ => true) held fuel t (Value.slice ao len cap).cells.toList = some x) : ∃ l : List Int, len = l.length ∧ Sl w 1 ao l.length cap (l.map (Value.int k)) ∧ ∀ a ∈ l, (Lit.int k a).wf = true := by
  obtain ⟨l, h1, h2, h3⟩ := open_rows (fun a : Int => [Value.int k a]) (fun a => (Lit.int k a).wf = true) (fun _ => rfl) (by decide) ht hC (fun n cs y hcs hy => by
    obtain ⟨a, e0, _, w0⟩ := DataW.trod_int he hy
    exact ⟨a, e0, w0⟩) h
  exact ⟨l, h1, by rw [← ints_flat]; exact h2, h3⟩
end
end Go.Proofs.Ytbmkgcoolofmpaa
namespace Go.Proofs.Ytbmkgcoolofmpaa
set_option linter.unusedVariables false
set_option linter.unusedSimpArgs false
set_option linter.unusedSectionVars false
open Go Go.ChangeShapes Go.WideShapes Go.ChangeAt Go.RowKit Go.Deep
instance : Inhabited Mp := ⟨mp0⟩
instance : Inhabited BOp := ⟨⟨0, 0, 0, mp0, none, 0, []⟩⟩
section
variable {H : Type} {enc : TypeId × Value → H} {w : World} {base : Nat} {held : Bool}
theorem slice_of {t e : TypeId} {fuel : Nat} {c : Value} {x : DataW H × List MemPlace} (ht : Try.prog.underlying t = some (.slice e)) (h : DataW.trod enc Try.prog w base (fun _ => true) held fuel t [c] = some x) : ∃ (ao : Option Addr) (len cap : Nat), c = .slice ao len cap := by
  rcases open_slice ht h with ⟨hcs, _⟩ | ⟨a, len', cap', m, n, D, Pl, hcs, _⟩
  · simp [Value.cells] at hcs; exact ⟨_, _, _, hcs⟩
  · simp [Value.cells] at hcs; exact ⟨_, _, _, hcs⟩
set_option maxRecDepth 100000 in
set_option maxHeartbeats 4000000 in
theorem row_msg (n : Nat) (cs : List Value) (y : DataW H × List MemPlace) (hcs : cs.length = 15) (h : DataW.trod enc Try.prog w base (fun _ => true) held n 37 cs = some y) : ∃ x : Mp, cs = (mpA x).toList ∧ MpAt w x ∧ MsgOk x := by
  obtain ⟨xs, m, _, hx, _, hlen, hg⟩ := DataW.trod_struct Try.underlying37 h
  match cs, hcs with
  | [c0, c1, c2, c3, c4, c5, c6, c7, c8, c9, c10, c11, c12, c13, c14], _ =>
    match xs, hlen with
    | [y0, y1, y2, y3, y4, y5, y6, y7, y8, y9, y10, y11], _ =>
      have t0 := hg 0 _ rfl
      have t1 := hg 1 _ rfl
      have t2 := hg 2 _ rfl
      have t3 := hg 3 _ rfl
      have t4 := hg 4 _ rfl
      have t5 := hg 5 _ rfl
      have t6 := hg 6 _ rfl
      have t7 := hg 7 _ rfl
      have t8 := hg 8 _ rfl
      have t9 := hg 9 _ rfl
      have t10 := hg 10 _ rfl
      have t11 := hg 11 _ rfl
      have ki : Try.prog.cellsOf 3 = 1 := by kernel_rfl
      have ku : Try.prog.cellsOf 31 = 1 := by kernel_rfl
      have kb : Try.prog.cellsOf 4 = 1 := by kernel_rfl
      have ke : Try.prog.cellsOf 32 = 1 := by kernel_rfl
      have kl : Try.prog.cellsOf 27 = 1 := by kernel_rfl
      have kd : Try.prog.cellsOf 33 = 1 := by kernel_rfl
      have ks : Try.prog.cellsOf 35 = 4 := by kernel_rfl
      simp [ki, ku, kb, ke, ks] at t0 t1 t2 t3 t4 t5 t6 t7 t8 t9 t10 t11
      obtain ⟨n0, e0, d0, w0⟩ := DataW.trod_int (k := .i64) Try.underlying3 t0
      simp at e0
      subst e0
      obtain ⟨n1, e1, d1, w1⟩ := DataW.trod_int (k := .i64) Try.underlying3 t1
      simp at e1
      subst e1
      obtain ⟨n2, e2, d2, w2⟩ := DataW.trod_int (k := .i64) Try.underlying3 t2
      simp at e2
      subst e2
      obtain ⟨n3, e3, d3, w3⟩ := DataW.trod_int (k := .u64) Try.underlying31 t3
      simp at e3
      subst e3
      obtain ⟨n4, e4, d4, w4⟩ := DataW.trod_int (k := .u64) Try.underlying31 t4
      simp at e4
      subst e4
      obtain ⟨n5, e5, d5, w5⟩ := DataW.trod_int (k := .u64) Try.underlying31 t5
      simp at e5
      subst e5
      obtain ⟨n6, e6, d6, w6⟩ := DataW.trod_int (k := .u64) Try.underlying31 t6
      simp at e6
      subst e6
      obtain ⟨n7, e7, d7, w7⟩ := DataW.trod_int (k := .u64) Try.underlying31 t7
      simp at e7
      subst e7
      obtain ⟨n8, e8, d8⟩ := DataW.trod_bool Try.underlying4 t8
      simp at e8
      subst e8
      obtain ⟨n9, e9, d9⟩ := DataW.trod_bool Try.underlying4 t9
      simp at e9
      subst e9
      obtain ⟨ao10, len10, cap10, rfl⟩ := slice_of Try.underlying32 t10
      obtain ⟨el, hel, hens, _⟩ := open_eps (by simpa [Value.cells] using t10)
      subst hel
      obtain ⟨xs2, nn2, _, hx2, _, hlen2, hg2⟩ := DataW.trod_struct Try.underlying35 t11
      match xs2, hlen2 with
      | [z0, z1, z2, z3], _ =>
        have s0 := hg2 0 _ rfl
        have s1 := hg2 1 _ rfl
        have s2 := hg2 2 _ rfl
        have s3 := hg2 3 _ rfl
        simp [ku, kl, kd] at s0 s1 s2 s3
        obtain ⟨m0, f0, g0, v0⟩ := DataW.trod_int (k := .u64) Try.underlying31 s0
        obtain ⟨m1, f1, g1, v1⟩ := DataW.trod_int (k := .u64) Try.underlying31 s1
        simp at f0 f1
        subst f0; subst f1
        obtain ⟨ao13, len13, cap13, rfl⟩ := slice_of Try.underlying27 s2
        obtain ⟨ao14, len14, cap14, rfl⟩ := slice_of Try.underlying33 s3
        obtain ⟨ml, hml, hmem, _⟩ := open_is Try.underlying27 Try.underlying3 (by kernel_rfl) (by simpa [Value.cells] using s2)
        subst hml
        obtain ⟨dl, hdl, hdat⟩ := open_bs Try.underlying33 Try.underlying5 (by kernel_rfl) (by simpa [Value.cells] using s3)
        subst hdl
        exact ⟨⟨n0, n1, n2, n3, n4, n5, n6, n7, n8, n9, ao10, cap10, el, m0, m1, ao13, cap13, ml, ao14, cap14, dl⟩, rfl, ⟨hens, hmem, hdat⟩, (bounds_u64 w4).1, (bounds_u64 w5).1, (bounds_u64 w6).1, (bounds_u64 w7).1⟩
/-- a call that came in -/
def BOpOk (w : World) (o : BOp) : Prop := MpAt w o.m ∧ MsgOk o.m ∧ Iz w .i64 o.la o.lcap o.ls ∧ ∀ a ∈ o.ls, KeyOk a
def bopCells (o : BOp) : List Value := (oC o).toList
set_option maxRecDepth 100000 in
set_option maxHeartbeats 4000000 in
theorem row_bop (n : Nat) (cs : List Value) (y : DataW H × List MemPlace) (hcs : cs.length = 19) (h : DataW.trod enc Try.prog w base (fun _ => true) held n 39 cs = some y) : ∃ a : BOp, cs = bopCells a ∧ BOpOk w a := by
  obtain ⟨xs, m, _, hx, _, hlen, hg⟩ := DataW.trod_struct Try.underlying39 h
  match xs, hlen with
  | [y0, y1, y2, y3, y4], _ =>
    have t0 := hg 0 _ rfl
    have t1 := hg 1 _ rfl
    have t2 := hg 2 _ rfl
    have t3 := hg 3 _ rfl
    have t4 := hg 4 _ rfl
    have ki : Try.prog.cellsOf 3 = 1 := by kernel_rfl
    have km : Try.prog.cellsOf 37 = 15 := by kernel_rfl
    have kl : Try.prog.cellsOf 27 = 1 := by kernel_rfl
    match cs, hcs with
    | [c0, c1, c2, c3, c4, c5, c6, c7, c8, c9, c10, c11, c12, c13, c14, c15, c16, c17, c18], _ =>
      simp [ki, km, kl] at t0 t1 t2 t3 t4
      obtain ⟨n0, e0, d0, w0⟩ := DataW.trod_int (k := .i64) Try.underlying3 t0
      simp at e0
      subst e0
      obtain ⟨n1, e1, d1, w1⟩ := DataW.trod_int (k := .i64) Try.underlying3 t1
      simp at e1
      subst e1
      obtain ⟨n2, e2, d2, w2⟩ := DataW.trod_int (k := .i64) Try.underlying3 t2
      simp at e2
      subst e2
      obtain ⟨x, ex, hx1, hx2⟩ := row_msg _ _ _ rfl t3
      simp only [mpA, List.cons.injEq, and_true] at ex
      obtain ⟨rfl, rfl, rfl, rfl, rfl, rfl, rfl, rfl, rfl, rfl, rfl, rfl, rfl, rfl, rfl⟩ := ex
      obtain ⟨la, ln, lcap, rfl⟩ := slice_of Try.underlying27 t4
      obtain ⟨ls, hls, hiz, hk⟩ := open_is Try.underlying27 Try.underlying3 (by kernel_rfl) (by simpa [Value.cells] using t4)
      subst hls
      exact ⟨⟨n0, n1, n2, x, la, lcap, ls⟩, rfl, hx1, hx2, hiz, hk⟩
def BOps (w : World) (ao : Option Addr) (cap : Nat) (l : List BOp) : Prop := Sl w 19 ao l.length cap (l.map bopCells).flatten
set_option maxRecDepth 100000 in
theorem open_bops {fuel : Nat} {ao : Option Addr} {len cap : Nat} {x : DataW H × List MemPlace} (h : DataW.trod enc Try.prog w base (fun _ => true) held fuel 22 (Value.slice ao len cap).cells.toList = some x) :
    ∃ l : List BOp, len = l.length ∧ BOps w ao cap l ∧ ∀ a ∈ l, BOpOk w a :=
  open_rows bopCells (BOpOk w) (fun _ => rfl) (by decide) Try.underlying22 (by kernel_rfl) (fun n cs y hcs hy => row_bop n cs y hcs hy) h
end
end Go.Proofs.Ytbmkgcoolofmpaa
namespace Go.Proofs.Ytbmkgcoolofmpaa
set_option linter.unusedVariables false
set_option linter.unusedSimpArgs false
set_option linter.unusedSectionVars false
open Go Go.RowKit Go.Maps Go.Shelf
theorem ld_op {W : World} {op : BOp} {b o : Nat} (h : ∀ j u, (oC op)[j]? = some u → W.cell? ⟨b, o + j, none⟩ = some u) : (Instr.loadAt boT (.pointer (some ⟨b, o, none⟩))).run Try.prog W = .ok (.agg (oC op)) W := by
  obtain ⟨d, hu, hd⟩ := Option.map_eq_some_iff.1 (show (Try.prog.underlying boT).map TypeDesc.isRow = some true by kernel_rfl)
  have := run_loadAt_mid W b o boT (oC op).toList d (fun j v hv => h j v (by rw [← Array.getElem?_toList]; exact hv)) hu hd (show (Try.prog.info? boT).map (·.size) = some 19 by kernel_rfl)
  rwa [Array.toArray_toList] at this
def bo0 : BOp := ⟨0, 0, 0, mp0, none, 0, []⟩
theorem oC_one (o : BOp) : (oC o).all (·.oneCell') = true := by simp [oC, Value.oneCell']
section
variable {ops : Array Oper} {rest : List Oper} {o : Oper} {a : Act} {W : World} {Q : Exit → Act → World → Prop}
theorem wpl_stO (hg : o.guard = none) {x y : Operand} (hop : o.op = .store boT x y) {b : Nat} {z : BOp} (hx : a.eval x = .pointer (some ⟨b, 0, none⟩)) (hy : a.eval y = .agg (oC z))
    {old : Array Value} (hb : W.heap[b]? = some (.cells old boT (0, 0))) (hold : old.size = 19)
    (h : ∀ W', W'.heap[b]? = some (.cells (oC z) boT (0, 0)) → W.grownBy W' (some b) → W'.heap.size = W.heap.size → wpList Try.prog ops Q rest (a.put o.dst undef) W') : wpList Try.prog ops Q (o :: rest) a W := by
  refine wpList_store_row hg boT x y hop b (oC z) hx hy boT old hb (by kernel_rfl) (by rw [hold]; rfl) (oC_one z) (h _ (setRow_heap W b old _ boT _ hb) ⟨rfl, rfl, rfl, by simp, fun k _ hk => setRow_other W b k _ (fun e => hk (by simp [e]))⟩ (by simp))
theorem wpl_alO (hg : o.guard = none) (hop : o.op = .alloc boT)
    (h : ∀ p W', p = W.heap.size → Below W.heap.size W W' → W'.heap[p]? = some (.cells (oC bo0) boT (0, 0)) → W'.heap.size = W.heap.size + 1 → wpList Try.prog ops Q rest (a.put o.dst (.pointer (some ⟨p, 0, none⟩))) W') : wpList Try.prog ops Q (o :: rest) a W := by
  refine wpList_plain hg fun K hK => ?_
  have hz : (zeroValue boT).run Try.prog W = .ok (.agg (oC bo0)) W := by kernel_rfl
  unfold Oper.wp
  simp [execOp, hop, Result.andThen, go_sem, hz, Value.cells]
  exact hK _ _ (h W.heap.size _ rfl (below_new _ _) (heap_alloc_new _ _) (by simp))
end
theorem BOps.below {w w' : World} {ao : Option Addr} {cap : Nat} {l : List BOp} (h : BOps w ao cap l) (hb : Below w.heap.size w w') : BOps w' ao cap l := Sl.below h hb
theorem BOps.load {W : World} {ao : Option Addr} {cap : Nat} {l : List BOp} (h : BOps W ao cap l) (i : Nat) (hi : i < l.length) : ∃ g o, ao = some ⟨g, o, none⟩ ∧ g < W.heap.size ∧ (Instr.loadAt boT (.pointer (some ⟨g, o + i * 19, none⟩))).run Try.prog W = .ok (.agg (oC l[i])) W := by
  have key : ∀ j u, (oC l[i])[j]? = some u → (l.map bopCells).flatten[i * 19 + j]? = some u := by
    intro j u hu
    have hj : j < 19 := (Array.getElem?_eq_some_iff.1 hu).1
    have := flatten_get (rows := l.map bopCells) (k := 19) (by intro r hr; obtain ⟨x, _, rfl⟩ := List.mem_map.1 hr; rfl) i j (by simpa using hi) (by rw [List.getElem_map]; exact hj)
    rw [this]
    have e0 : (l.map bopCells)[i]'(by simpa using hi) = bopCells l[i] := by simp
    have e : ((l.map bopCells)[i]'(by simpa using hi))[j]? = some u := by rw [e0]; unfold bopCells; rw [Array.getElem?_toList]; exact hu
    obtain ⟨hj2, e1⟩ := List.getElem?_eq_some_iff.1 e
    rw [← e1]
  obtain ⟨b, off, e, hc0⟩ := h.cell _ _ (key 0 _ rfl)
  have hcells : ∀ j u, (oC l[i])[j]? = some u → W.cell? ⟨b, (off + i * 19) + j, none⟩ = some u := fun j u hu => by
    obtain ⟨b', off', e', hc⟩ := h.cell _ _ (key j u hu)
    rw [e] at e'
    simp only [Option.some.injEq, Addr.mk.injEq] at e'
    obtain ⟨rfl, rfl, -⟩ := e'
    rw [Nat.add_assoc]; exact hc
  exact ⟨b, off, e, cell?_lt hc0, ld_op hcells⟩
theorem li_nums {i n : Nat} (h : i < n) (h2 : n ≤ maxLen) : (0 : Int) ≤ (i : Int) ∧ (i : Int) < (n : Int) ∧ wrap64 ((i : Int) + 1) = (i : Int) + 1 := by
  unfold maxLen at h2
  refine ⟨by omega, by omega, ?_⟩
  rw [IntWalk.wrap64_in _ (by omega)]
/-- are calls looked at? -/
def LightB (l : List BOp) : Prop := (∀ o ∈ l, o.ls.length ≤ 40 ∧ LightM o.m) ∧ l.length ≤ 80
instance (l : List BOp) : Decidable (LightB l) := by unfold LightB; exact inferInstance
set_option maxRecDepth 100000 in
set_option maxHeartbeats 4000000 in
theorem light36_o (W : World) (ao : Option Addr) (cap : Nat) (l : List BOp) (h : BOps W ao cap l) (hm : ∀ o ∈ l, MpAt W o.m) :
    Calls Try.prog 6 #[.slice ao l.length cap] W fun e W' => e = .returned (.bool (decide (LightB l))) ∧ Below W.heap.size W W' := by
  obtain ⟨c, hc⟩ : ∃ c, c = decide (LightB l) := ⟨_, rfl⟩
  rw [← hc]
  have hiff : c = true ↔ ((∀ o ∈ l, o.ls.length ≤ 40 ∧ LightM o.m) ∧ l.length ≤ 80) := by rw [hc]; exact decide_eq_true_iff
  have hmx : l.length ≤ maxLen := Nat.le_trans h.le h.max
  have Hc := Lib.hid hiff
  have Hs := Lib.hid h
  have Hm := Lib.hid hm
  have Hmx := Lib.hid hmx
  clear hc hiff h hm hmx
  go_enter Try.func6, Try.ntmps6
  go_wp2_with fail
  go_loopw [7] (fun u wr => ∃ i : Nat, u = .int .i64 (i : Nat) ∧ i ≤ l.length ∧ Hid (∀ o ∈ l.take i, o.ls.length ≤ 40 ∧ LightM o.m) ∧ Hid (Below W.heap.size W wr)) (fun u _ => l.length - (intOf u).toNat)
  case atStart => exact ⟨0, rfl, Nat.zero_le _, Lib.hid (by simp), Lib.hid (Below.refl _ _)⟩
  case round =>
    obtain ⟨i, rfl, hi, Hinv, Hb⟩ := hrel
    by_cases hlt : i < l.length
    · obtain ⟨g, o, rfl, hgl, l10⟩ := (Hs.out.below Hb.out).load i hlt
      obtain ⟨i0, i1, w1⟩ := li_nums hlt Hmx.out
      have hma := Hm.out _ (List.getElem_mem hlt)
      have hno : ¬ (l[i].ls.length ≤ 40 ∧ LightM l[i].m) → c = false := fun hn => by
        rw [Bool.eq_false_iff, ne_eq, Hc.out]
        exact fun hh => hn (hh.1 _ (List.getElem_mem hlt))
      have hnx : (l[i].ls.length ≤ 40 ∧ LightM l[i].m) → ∀ o ∈ l.take (i + 1), o.ls.length ≤ 40 ∧ LightM o.m := fun hn o ho => by
        rw [List.take_succ_eq_append_getElem hlt] at ho
        rcases List.mem_append.1 ho with ho | ho
        · exact Hinv.out o ho
        · simp only [List.mem_singleton] at ho; subst ho; exact hn
      obtain ⟨op, hop⟩ : ∃ op, op = l[i] := ⟨_, rfl⟩
      rw [← hop] at l10 hma hno hnx
      have Hma := Lib.hid hma
      have Hno := Lib.hid hno
      have Hnx := Lib.hid hnx
      have Hlt := Lib.hid hlt
      clear hop hma hno hnx hlt hgl
      go_upto_region 4 with (first
        | ((with_reducible show wpList _ _ _ (⟨_, Op.load _ _, _, _, _, _⟩ :: _) _ _); refine wpl_ldT rfl rfl rfl (by assumption) ?_)
        | (refine wpl_alO rfl rfl ?_
           intro p4 V2 hp4 hb2 hx2 hz2
           clear hz2
           have hp4' := Lib.hid (Nat.le_of_eq hp4.symm)
           clear hp4)
        | (refine wpl_stO rfl rfl rfl rfl hx2 rfl ?_
           intro V3 hx3 hg3 hz3
           clear hz3))
      have hB3 : Below wr.heap.size wr V3 := below_grown hb2 hg3 hp4'.out hb2.size
      have HB3 := Lib.hid (below_on Hb.out hB3 (Nat.le_refl _))
      obtain ⟨-, -, -, k18, kmsg, kl⟩ := OpBox.of hx3
      have Hlm := Lib.hid (light30_any op.m V3 (Hma.out.below (below_on Hb.out hB3 (Nat.le_refl _))))
      clear hB3 hb2 hg3 hx2 hx3 l10
      by_cases h40 : op.ls.length ≤ 40
      · have c40 : ¬ ((op.ls.length : Int) > 40) := by omega
        by_cases hlm : LightM op.m
        · have hn := Lib.hid (Hnx.out ⟨h40, hlm⟩)
          rw [decide_eq_true hlm] at Hlm
          clear h40 hlm
          go_wp2_with ((with_reducible show wpList _ _ _ (⟨_, Op.load 37 _, _, _, _, _⟩ :: _) _ _); refine wpl_ldT rfl rfl rfl (by assumption) ?_)
          refine (show Calls _ _ _ _ _ from Hlm.out).mono ?_
          rintro e V4 ⟨rfl, hb4⟩
          have HB4 := Lib.hid (below_on HB3.out hb4 (Nat.le_refl _))
          clear hb4 k18 kmsg kl
          go_wp2_with fail
          go_roundw
          case rel => exact ⟨i + 1, by first | (rw [w1]; simp) | simp, Hlt.out, hn, HB4⟩
          case measure => first | exact meas_w Hlt.out w1 | exact meas_p Hlt.out
        · have hf := Lib.hid (Hno.out (fun hh => hlm hh.2))
          rw [decide_eq_false hlm] at Hlm
          clear h40 hlm
          go_wp2_with ((with_reducible show wpList _ _ _ (⟨_, Op.load 37 _, _, _, _, _⟩ :: _) _ _); refine wpl_ldT rfl rfl rfl (by assumption) ?_)
          refine (show Calls _ _ _ _ _ from Hlm.out).mono ?_
          rintro e V4 ⟨rfl, hb4⟩
          have HB4 := Lib.hid (below_on HB3.out hb4 (Nat.le_refl _))
          clear hb4 k18 kmsg kl
          go_wp2_with fail
          go_ret
          exact ⟨by rw [hf.out]; rfl, HB4.out⟩
      · have c40 : (op.ls.length : Int) > 40 := by omega
        have hf := Lib.hid (Hno.out (fun hh => h40 hh.1))
        clear h40
        go_wp2_with fail
        go_ret
        exact ⟨by rw [hf.out]; rfl, HB3.out⟩
    · have hii : i = l.length := Nat.le_antisymm hi (Nat.not_lt.1 hlt)
      have hall := Hinv.out
      rw [hii, List.take_length] at hall
      subst hii
      by_cases h80 : l.length ≤ 80
      · have c80 : (l.length : Int) ≤ 80 := by omega
        have hct := Lib.hid (Hc.out.2 ⟨hall, h80⟩)
        clear hlt hi hall h80
        go_wp2_with fail
        go_ret
        exact ⟨by rw [hct.out]; rfl, Hb.out⟩
      · have c80 : ¬ (l.length : Int) ≤ 80 := by omega
        have hct : Hid (c = false) := (by rw [Bool.eq_false_iff, ne_eq, Hc.out]; exact fun hh => h80 hh.2 : c = false)
        clear hlt hi hall h80
        go_wp2_with fail
        go_ret
        exact ⟨by rw [hct.out]; rfl, Hb.out⟩
end Go.Proofs.Ytbmkgcoolofmpaa
namespace Go.Proofs.Ytbmkgcoolofmpaa
set_option linter.unusedVariables false
set_option linter.unusedSimpArgs false
set_option linter.unusedSectionVars false
open Go Go.RowKit Go.Maps Go.Shelf Go.Great
def exB : Mp := ⟨8, 1, 2, 4, 0, 0, 0, 0, false, false, none, 0, [], 0, 0, none, 0, [], none, 0, []⟩
theorem exB_sound : soundM exB.v = true := by decide +kernel
theorem exA_at (W : World) : MpAt W exM := ⟨⟨(Bs.nil W).1 ▸ (⟨by simp [exM], by simp [exM], by decide, fun _ => rfl, fun j u hu => by simp [exM] at hu⟩), fun x hx => by simp [exM] at hx⟩, Iz.nil W .i64, Bs.nil W⟩
theorem exB_at (W : World) : MpAt W exB := ⟨⟨(Bs.nil W).1 ▸ (⟨by simp [exB], by simp [exB], by decide, fun _ => rfl, fun j u hu => by simp [exB] at hu⟩), fun x hx => by simp [exB] at hx⟩, Iz.nil W .i64, Bs.nil W⟩
theorem ex_args (W : World) : ∀ x ∈ [exM, exB], MgA W x := by
  intro x hx
  simp only [List.mem_cons, List.not_mem_nil, or_false] at hx
  rcases hx with rfl | rfl
  · exact ⟨exA_at W, by decide, by decide, ⟨by decide, by decide, by decide, by decide⟩⟩
  · exact ⟨exB_at W, by decide, by decide, ⟨by decide, by decide, by decide, by decide⟩⟩
theorem ex_puts : putsM 9 (fun _ => false) [] ([exM, exB].map Mp.v) = [exM.v, exB.v] := by
  simp [putsM, putOk, exM_sound, exB_sound]
theorem ex_row (W : World) : MgRow (W.alloc (.cells (mC exM ++ mC exB) mgT)) mgT (some ⟨W.heap.size, 0, none⟩) 2 [exM, exB] := by
  have hb : (W.alloc (.cells (mC exM ++ mC exB) mgT)).heap[W.heap.size]? = some (.cells (mC exM ++ mC exB) mgT (0, 0)) := heap_alloc_new _ _
  refine ⟨rfl, by simp [mRow, mC], ⟨by rfl, by simp, by unfold maxLen; omega, by simp, fun j u hu => ?_⟩, fun b off s e => ?_⟩
  · refine ⟨_, _, rfl, ?_⟩
    rw [Nat.zero_add, block_cell hb j]
    rw [show (([exM, exB].map mRow).flatten) = (mC exM ++ mC exB).toList from rfl, Array.getElem?_toList] at hu
    exact hu
  · cases e; exact elem?_of hb
section
variable {ops : Array Oper} {rest : List Oper} {o : Oper} {a : Act} {W : World} {Q : Exit → Act → World → Prop}
end
theorem ex_ints {V : World} {g : Nat} {n : Int} (hb : V.heap[g]? = some (.cells #[.int .i64 n] 3 (0, 0))) : Iz V .i64 (some ⟨g, 0, none⟩) 1 [n] := by
  refine ⟨by simp, by simp, by unfold maxLen; omega, by simp, fun j u hu => ⟨_, _, rfl, ?_⟩⟩
  rw [Nat.zero_add, block_cell hb j]
  simpa using hu
theorem ex_keep (l : List Lt) (h : l.map Lt.m = [exM.v, exB.v]) : ∃ y, keepL (inL [0]) l = [y] ∧ y.m = exB.v ∧ l.length = 2 := by
  rcases l with _ | ⟨x, _ | ⟨y, _ | ⟨z, t⟩⟩⟩
  · cases h
  · simp at h
  · simp only [List.map_cons, List.map_nil, List.cons.injEq, and_true] at h
    obtain ⟨hx, hy⟩ := h
    refine ⟨y, ?_, hy, rfl⟩
    have c1 : crB (inL [0]) x = true := by unfold crB inL; rw [hx]; decide
    have c2 : crB (inL [0]) y = false := by unfold crB inL; rw [hy]; decide
    simp [keepL, c1, c2]
  · simp at h
set_option maxRecDepth 100000 in
set_option maxHeartbeats 8000000 in
theorem lives36_any (W : World) : Calls Try.prog 7 #[] W fun e W' => e = .returned (.bool true) ∧ Below W.heap.size W W' := by
  have Hnew := Lib.hid (fun V (hb : W.heap.size ≤ V.heap.size) => bnew_o W.heap.size V 9 (by decide) hb)
  go_enter Try.func7, Try.ntmps7
  go_wp2_with fail
  refine (show Calls _ _ _ _ _ from Hnew.out _ (Nat.le_refl _)).mono ?_
  rintro e W1 ⟨b, F, rfl, hbg, hb1, hFn⟩
  have HB1 := Lib.hid hb1
  have Hbg1 := Lib.hid hbg
  have HF1 := Lib.hid hFn
  clear hbg hb1 hFn
  go_wp2_with fail
  change Calls _ _ _ (W1.alloc (.cells (mC exM ++ mC exB) mgT)) _
  have hbr := below_new W1 (.cells (mC exM ++ mC exB) mgT (0, 0))
  obtain ⟨W2, hW2⟩ : ∃ W2, W2 = W1.alloc (.cells (mC exM ++ mC exB) mgT) := ⟨_, rfl⟩
  have HR := Lib.hid (ex_row W1)
  rw [← hW2] at hbr HR ⊢
  have HB2 := Lib.hid (below_on HB1.out hbr (Nat.le_refl _))
  have Hput := Lib.hid (bput_o (Wb := W) (Hbg1.out.below hbr) HB2.out [exM, exB] _ 2 HR.out (ex_args W) (by decide))
  have HUP := Lib.hid (fun i hi => (((Hbg1.out.below hbr).elem i hi).2.1 : W.heap.size ≤ i))
  clear hbr hW2
  refine (show Calls _ _ _ _ _ from Hput.out).mono ?_
  rintro e W3 ⟨l, n, rfl, hl, hn, F3, hbg3, hG3, hF3⟩
  rw [List.map_nil, ex_puts] at hl
  obtain ⟨y, hky, hy, hl2⟩ := ex_keep l hl
  obtain rfl : n = 2 := by simp at hn; omega
  have HB3 := Lib.hid (HB2.out.trans (hG3.above HB2.out.size HUP.out))
  have HBg3 := Lib.hid hbg3
  have HY := Lib.hid (And.intro hky (And.intro hy hl2))
  clear hl hn hbg3 hG3 hF3 hky hy hl2 Hput HUP HR
  go_wp2_with fail
  change Calls _ _ _ (W3.alloc (.cells #[.int .i64 0] 3)) _
  have hbr := below_new W3 (.cells #[.int .i64 0] 3 (0, 0))
  obtain ⟨W4, hW4⟩ : ∃ W4, W4 = W3.alloc (.cells #[.int .i64 0] 3) := ⟨_, rfl⟩
  have HI : Hid (W4.heap[W3.heap.size]? = some (.cells #[.int .i64 0] 3 (0, 0))) := (by rw [hW4]; exact heap_alloc_new _ _ : W4.heap[W3.heap.size]? = some (.cells #[.int .i64 0] 3 (0, 0)))
  rw [← hW4] at hbr ⊢
  have HB4 := Lib.hid (below_on HB3.out hbr (Nat.le_refl _))
  have hwl := bwall_o (HBg3.out.below hbr) HB4.out.size [0] (some ⟨W3.heap.size, 0, none⟩) 1 (fun V hV => ex_ints ((hV.block _ (bx_lt HI.out) (fun hF => absurd (HBg3.out.elem _ hF).1 (Nat.lt_irrefl _))).trans HI.out)) (by intro n hn; simp at hn; subst hn; exact key_small ⟨by decide, by decide⟩) (by decide)
  rw [HY.out.1, HY.out.2.2] at hwl
  have Hwl := Lib.hid hwl
  have HUP := Lib.hid (fun i hi => (((HBg3.out.below hbr).elem i hi).2.1 : W.heap.size ≤ i))
  clear hbr hW4 hwl
  refine (show Calls _ _ _ _ _ from Hwl.out).mono ?_
  rintro e W5 ⟨rfl, F5, hbg5, hG5, hF5⟩
  have HB5 := Lib.hid (HB4.out.trans (hG5.above HB4.out.size HUP.out))
  have HBg5 := Lib.hid hbg5
  clear hbg5 hG5 hF5 Hwl HUP HI HBg3
  go_wp2_with fail
  have htk := btake_yes HBg5.out 0 (by simp)
  have HUP := Lib.hid (fun i hi => ((HBg5.out.elem i hi).2.1 : W.heap.size ≤ i))
  refine (show Calls _ _ _ _ _ from htk).mono ?_
  rintro e W6 ⟨⟨z, rfl, hz, hzt⟩, F6, hbg6, hG6, hF6⟩
  have hz2 : z.term = 4 := by
    have : z.v = exB.v := hz.trans HY.out.2.1
    exact congrArg Ms.term this
  have HZ := Lib.hid hz2
  have HB6 := Lib.hid (HB5.out.trans (hG6.above HB5.out.size HUP.out))
  have HBg6 := Lib.hid hbg6
  clear hbg6 hG6 hF6 HUP htk hz hzt hz2
  go_upto_region 5 with (first
    | (refine wpl_alM rfl (.inl rfl) rfl ?_
       intro p4 V2 hp4 hb2 hx2 hz2
       clear hz2
       have hp4' := Lib.hid (Nat.le_of_eq hp4.symm)
       clear hp4)
    | (refine wpl_stM rfl (.inl rfl) rfl rfl rfl hx2 rfl ?_
       intro V3 hx3 hg3 hz3
       clear hz3))
  have hB3 : Below W6.heap.size W6 V3 := below_grown hb2 hg3 hp4'.out hb2.size
  have Hg7 := Lib.hid (HBg6.out.below hB3)
  have HB7 := Lib.hid (below_on HB6.out hB3 (Nat.le_refl _))
  have hc : V3.cell? ⟨p4, 3, none⟩ = some (.int .u64 4) := by rw [block_cell hx3 3, ← HZ.out]; rfl
  have hl := bx_lt hx3
  clear hB3 hx3 hg3 hb2 hx2 HBg6 HB6
  go_wp2_with fail
  refine (show Calls _ _ _ _ _ from blen_o Hg7.out).mono ?_
  rintro e W8 ⟨rfl, hW8⟩
  subst W8
  go_wp2_with fail
  go_ret
  exact ⟨rfl, HB7.out⟩
end Go.Proofs.Ytbmkgcoolofmpaa
namespace Go.Proofs.Ytbmkgcoolofmpaa
set_option linter.unusedVariables false
set_option linter.unusedSimpArgs false
set_option linter.unusedSectionVars false
open Go Go.RowKit Go.Maps Go.Shelf
theorem opok_of {Wb : World} {o : BOp} (h : BOpOk Wb o) (hl : o.ls.length ≤ 40 ∧ LightM o.m) : OpOk Wb o := ⟨⟨h.1, hl.2.2.1, hl.2.2.2.1, h.2.1⟩, h.2.2.1, h.2.2.2, Nat.le_trans hl.1 (by decide)⟩
end Go.Proofs.Ytbmkgcoolofmpaa
namespace Go.Proofs.Ytbmkgcoolofmpaa
set_option linter.unusedVariables false
set_option linter.unusedSimpArgs false
set_option linter.unusedSectionVars false
open Go Go.RowKit Go.Maps Go.Shelf Go.Great
/-- a row of parts that are at hand -/
theorem wpo_bsAny {t e : TypeId} {len : Nat} {parts : Array (Nat × Operand)} {W : World} {o : Oper} {a : Act} {K : Act → World → Prop} {Q : Exit → Act → World → Prop} (hop : o.op = .buildSlice t len parts) (hu : Try.prog.underlying t = some (.slice e)) {cells : Array Value} {l : List (Nat × Value)} (hl : (parts.map fun (i, x) => (i, a.eval x)).toList = l) (hb : Try.prog.builtSlice e len l = some cells)
    (h : K (a.put o.dst (.slice (some ⟨W.heap.size, 0, none⟩) len len)) (W.alloc (.cells cells e))) : o.wp Try.prog a W K Q := by
  unfold Program.builtSlice at hb
  cases hie : Try.prog.info? e with
  | none => simp [hie] at hb
  | some ie =>
    simp only [hie] at hb
    cases hz : ie.zero with
    | none => simp [hz] at hb
    | some z =>
      simp only [hz] at hb
      by_cases hc : len * ie.size > 2 ^ 24 ∨ len * ie.size = 0
      · rw [if_pos hc] at hb; cases hb
      · rw [if_neg hc] at hb
        refine wp_buildSlice t e len parts hop cells ie z hu hie hz (fun h' => hc (Or.inl h')) (fun h' => hc (Or.inr h')) ?_ h
        rw [hl]; exact hb
theorem wpl_bsAny {t e : TypeId} {len : Nat} {parts : Array (Nat × Operand)} {ops : Array Oper} {rest : List Oper} {W : World} {o : Oper} {a : Act} {Q : Exit → Act → World → Prop} (hw : Region.wanted o (yielded ops a.tmps) = true) (hop : o.op = .buildSlice t len parts) (hu : Try.prog.underlying t = some (.slice e)) {cells : Array Value} {l : List (Nat × Value)} (hl : (parts.map fun (i, x) => (i, a.eval x)).toList = l) (hb : Try.prog.builtSlice e len l = some cells)
    (h : wpList Try.prog ops Q rest (a.put o.dst (.slice (some ⟨W.heap.size, 0, none⟩) len len)) (W.alloc (.cells cells e))) : wpList Try.prog ops Q (o :: rest) a W :=
  wpl_of hw fun K hK => wpo_bsAny hop hu hl hb (hK _ _ h)
section
variable {t e : TypeId} {ops : Array Oper} {rest : List Oper} {W : World} {o : Oper} {a : Act} {Q : Exit → Act → World → Prop}
theorem wpl_bs1V {x : Operand} {u : Value} {cells : Array Value} (hw : Region.wanted o (yielded ops a.tmps) = true) (hop : o.op = .buildSlice t 1 #[(0, x)]) (hu : Try.prog.underlying t = some (.slice e)) (hb : Try.prog.builtSlice e 1 [(0, u)] = some cells) (hx : a.eval x = u)
    (h : wpList Try.prog ops Q rest (a.put o.dst (.slice (some ⟨W.heap.size, 0, none⟩) 1 1)) (W.alloc (.cells cells e))) : wpList Try.prog ops Q (o :: rest) a W :=
  wpl_bsAny hw hop hu (by simp [hx]) hb h
end
theorem bs1M (x : Mp) : Try.prog.builtSlice mgT 1 [(0, .agg (mC x))] = some (mC x) := by
  obtain ⟨x0, x1, x2, x3, x4, x5, x6, x7, x8, x9, x10, x11, x12, x13, x14, x15, x16, x17, x18, x19, x20⟩ := x
  kernel_rfl
end Go.Proofs.Ytbmkgcoolofmpaa
