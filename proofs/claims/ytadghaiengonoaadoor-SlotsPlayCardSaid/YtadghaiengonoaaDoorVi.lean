/- slots: one operation of the law: Drop. No statement of the seat is proved here. -/
import Derived.Test.YtadghaiengonoaaDoorVg
import Derived.Test.YtadghaiengonoaaDoorVh
namespace Go.Proofs.YtadghaiengonoaaDoor
set_option linter.unusedVariables false
set_option linter.unusedSimpArgs false
set_option linter.unusedSectionVars false
open Go Go.RowKit Go.Maps

/-- the reference's row behind a change of the ring -/
theorem Rt.gr {W W' : World} {F : Nat → Prop} {ao : Option Addr} {cap : Nat} {l : RLs} (h : Rt W ao cap l) (hg : Gr F W W') (hA : ∀ a, ao = some a → a.block < W.heap.size ∧ ¬ F a.block) : Rt W' ao cap l := by
  refine ⟨h.num, h.each, ⟨h.sl.len, h.sl.le, h.sl.max, h.sl.none, fun j u hu => ?_⟩, fun b off s e => ?_⟩
  · obtain ⟨b, off, e, hc⟩ := h.sl.cell j u hu
    have := hA _ e
    exact ⟨b, off, e, (World.cell?_of_block (a := ⟨b, off + j, none⟩) (hg.block _ this.1 this.2)).trans hc⟩
  · have := hA _ e
    have ht := h.typ b off s e
    unfold elem? at ht ⊢
    rw [hg.block _ this.1 this.2]; exact ht
set_option maxRecDepth 100000 in
set_option maxHeartbeats 4000000 in
theorem do_drop (W : World) (F : Nat → Prop) (r n : Nat) (L : RLs) (ao : Option Addr) (cap : Nat) (o : SOp) (hk : o.kind = 1) (hR : Rng W F r n L) (hRt : Rt W ao cap L) (hA : Apart W F ao) (hl : L.length ≤ 10000) (hn : n ≤ 1000000) (hid : IdOk o.t.id) :
    Calls Tryd.prog 14 #[.pointer (some ⟨r, 0, none⟩), .slice ao L.length cap, sopVal o] W (Done W F r n) := by
  obtain ⟨ok, os, ⟨ti, tg, td⟩⟩ := o
  simp only at hk
  subst hk
  obtain ⟨b, hbd⟩ : ∃ b, b = W.heap.size := ⟨_, rfl⟩
  obtain ⟨W1, hW1⟩ : ∃ W1, W1 = W.alloc (.cells #[.int .i64 1, .int .i64 os, .int .u64 ti, .int .u64 tg, .int .i64 td] opT) := ⟨_, rfl⟩
  have hB1 : Below W.heap.size W W1 := by rw [hW1]; exact below_new _ _
  have hc : W1.heap[b]? = some (.cells #[.int .i64 1, .int .i64 os, .int .u64 ti, .int .u64 tg, .int .i64 td] opT (0, 0)) := by rw [hW1, hbd]; exact heap_alloc_new _ _
  have hcs : ∀ W', Below W1.heap.size W1 W' → W'.cell? ⟨b, 0, none⟩ = some (.int .i64 1) ∧ W'.cell? ⟨b, 1, none⟩ = some (.int .i64 os) ∧ W'.cell? ⟨b, 2, none⟩ = some (.int .u64 ti) ∧ W'.cell? ⟨b, 3, none⟩ = some (.int .u64 tg) ∧ W'.cell? ⟨b, 4, none⟩ = some (.int .i64 td) ∧ b < W'.heap.size := fun W' hw => by
    have a := (hw.block _ (Array.getElem?_eq_some_iff.1 hc).1).trans hc
    have a0 := block_cell a 0
    have a1 := block_cell a 1
    have a2 := block_cell a 2
    have a3 := block_cell a 3
    have a4 := block_cell a 4
    simp at a0 a1 a2 a3 a4
    exact ⟨a0, a1, a2, a3, a4, (Array.getElem?_eq_some_iff.1 a).1⟩
  have Hcs := Lib.hid hcs
  have HRt := Lib.hid hRt
  have HL := Lib.hid hl
  have Hfd := Lib.hid (find_any W1 ao cap L ti (hRt.below hB1) hl)
  obtain ⟨c0, c1, c2, c3, c4, hbl⟩ := hcs W1 (Below.refl _ _)
  have HB1 := Lib.hid hB1
  have Hbd := Lib.hid hbd
  have hz1 : W.heap.size = b := hbd.symm
  clear hcs hRt hl hc hB1 hbd c0 c1 c3 c4
  unfold sopVal
  go_enter Tryd.func14, Tryd.ntmps14
  go_upto_region 1 with fail
  rw [← hW1]
  clear hW1 hz1
  go_wp2_with fail
  refine Hfd.out.mono ?_
  rintro e W2 ⟨rfl, hB2⟩
  obtain ⟨c0, c1, c2, c3, c4, hbl⟩ := Hcs.out W2 hB2
  have HB2 := Lib.hid (below_on HB1.out hB2 (Nat.le_refl _))
  have Hb2 := Lib.hid hB2
  clear hB2 Hfd HB1
  have hid : IdOk ti := hid
  have hR2 := hR.below HB2.out
  have hRt2 := HRt.out.below HB2.out
  have hD : ∀ W', Below W.heap.size W W' → Done W F r n (.returned (.tuple #[.slice ao L.length cap, .bool true])) W' := fun W' hw => ⟨F, n, ao, cap, L, rfl, Nat.le_succ _, hR.below hw, HRt.out.below hw, fun a ha => ⟨Nat.lt_of_lt_of_le (hA a ha).1 hw.size, (hA a ha).2⟩, Gr.below hw, fun i hi => .inl hi⟩
  have HD := Lib.hid hD
  have hA2 : ∀ a, ao = some a → a.block < W2.heap.size ∧ ¬ F a.block := fun a ha => ⟨Nat.lt_of_lt_of_le (hA a ha).1 HB2.out.size, (hA a ha).2⟩
  have HFW := Lib.hid hR.bd
  have hok := hR.ok
  clear hA hD
  cases hf : findI L ti with
  | none =>
    have hv : findV L ti = -1 := by unfold findV; rw [hf]
    rw [hv]
    have Hgt := Lib.hid (drop_no W2 F r n L hR2 ti hid (findI_none hf))
    unfold thVal at Hgt
    clear hf hv hR hR2 hRt2 hid hn hA2 hok
    go_wp2_with fail
    refine Hgt.out.mono ?_
    rintro e W3 ⟨rfl, hB3⟩
    have HB3 := Lib.hid (below_on HB2.out hB3 (Nat.le_refl _))
    clear hB3 c0 c1 c2 c3 c4
    go_wp2_with fail
    obtain ⟨p, hp⟩ : ∃ p, p = W3.heap.size := ⟨_, rfl⟩
    obtain ⟨W4, hW4⟩ : ∃ W4, W4 = W3.alloc (.cells #[.int .u64 0, .int .u64 0, .int .i64 0] thT) := ⟨_, rfl⟩
    have hB4 := below_on HB3.out (below_new W3 (.cells #[.int .u64 0, .int .u64 0, .int .i64 0] thT)) (Nat.le_refl _)
    have hcp : W4.heap[p]? = some (.cells #[.int .u64 0, .int .u64 0, .int .i64 0] thT (0, 0)) := by rw [hW4, hp]; exact heap_alloc_new _ _
    rw [← hW4] at hB4
    first | rw [← hW4, ← hp] | rw [← hp, ← hW4]
    have e0 := block_cell hcp 0
    have e1 := block_cell hcp 1
    have e2 := block_cell hcp 2
    simp at e0 e1 e2
    have hldp : ∀ W', Below W4.heap.size W4 W' → (Instr.loadAt thT (.pointer (some ⟨p, 0, none⟩))).run Tryd.prog W' = .ok (thVal ⟨0, 0, 0⟩) W' := fun W' hw => by
      have hpl : p < W4.heap.size := (Array.getElem?_eq_some_iff.1 hcp).1
      exact loadTh (t := ⟨0, 0, 0⟩) ((hw.cell (p := ⟨p, 0, none⟩) hpl).trans e0) ((hw.cell (p := ⟨p, 1, none⟩) hpl).trans e1) ((hw.cell (p := ⟨p, 2, none⟩) hpl).trans e2)
    have Hldp := Lib.hid hldp
    have HB4 := Lib.hid hB4
    clear hldp hB4 hcp hW4 hp e0 e1 e2 HB3
    refine wp_region_held_drew (S := fun W' => Below W4.heap.size W4 W') (by kernel_rfl) (Below.refl _ W4).drew (fun hHeld => ?_)
    refine wpAnyH_take (i := 0) (v := ?_) rfl (by kernel_rfl) (by kernel_rfl) (by kernel_rfl) (fun _ _ _ h => h) (Or.inl ⟨by rfl, ?_⟩) (by assumption) ?_
    rotate_left
    · intro w8 hSw; clear hSw; go_simp; (try with_reducible rfl)
    simp only [Act.put, List.getElem_toArray, List.getElem_cons_zero, List.getElem_cons_succ, List.setIfInBounds_toArray, List.set_cons_zero, List.set_cons_succ]
    refine wpAnyH_take (i := 1) (v := ?_) rfl (by kernel_rfl) (by kernel_rfl) (by kernel_rfl) (fun _ _ _ h => h) (Or.inl ⟨by rfl, ?_⟩) (by assumption) ?_
    rotate_left
    · intro w8 hSw; clear hSw; go_simp; (try with_reducible rfl)
    simp only [Act.put, List.getElem_toArray, List.getElem_cons_zero, List.getElem_cons_succ, List.setIfInBounds_toArray, List.set_cons_zero, List.set_cons_succ]
    refine wpAnyH_take (i := 2) (v := ?_) rfl (by kernel_rfl) (by kernel_rfl) (by kernel_rfl) (fun _ _ _ h => h) (Or.inl ⟨by rfl, ?_⟩) (by assumption) ?_
    rotate_left
    · intro w8 hSw; clear hSw; go_simp; (try with_reducible rfl)
    simp only [Act.put, List.getElem_toArray, List.getElem_cons_zero, List.getElem_cons_succ, List.setIfInBounds_toArray, List.set_cons_zero, List.set_cons_succ]
    refine wpAnyH_take (i := 3) (v := ?_) rfl (by kernel_rfl) (by kernel_rfl) (by kernel_rfl) (fun _ _ _ h => h) (Or.inl ⟨by rfl, ?_⟩) (by assumption) ?_
    rotate_left
    · intro w8 hSw; clear hSw; go_simp; (try with_reducible rfl)
    simp only [Act.put, List.getElem_toArray, List.getElem_cons_zero, List.getElem_cons_succ, List.setIfInBounds_toArray, List.set_cons_zero, List.set_cons_succ]
    refine wpAnyH_take (i := 4) (v := thVal ⟨0, 0, 0⟩) rfl (by kernel_rfl) (by kernel_rfl) (by kernel_rfl) (fun _ _ _ h => h) (Or.inl ⟨by rfl, ?_⟩) (by assumption) ?_
    · intro w8 hSw; exact ld_takeT rfl (Hldp.out w8 hSw) rfl
    simp only [Act.put, List.getElem_toArray, List.getElem_cons_zero, List.getElem_cons_succ, List.setIfInBounds_toArray, List.set_cons_zero, List.set_cons_succ]
    try unfold thVal
    refine wpAnyH_take (i := 5) (v := ?_) rfl (by kernel_rfl) (by kernel_rfl) (by kernel_rfl) (fun _ _ _ h => h) (Or.inl ⟨by rfl, ?_⟩) (by assumption) ?_
    rotate_left
    · intro w8 hSw; clear hSw; go_simp; (try with_reducible rfl)
    simp only [Act.put, List.getElem_toArray, List.getElem_cons_zero, List.getElem_cons_succ, List.setIfInBounds_toArray, List.set_cons_zero, List.set_cons_succ]
    refine wpAnyH_take (i := 6) (v := ?_) rfl (by kernel_rfl) (by kernel_rfl) (by kernel_rfl) (fun _ _ _ h => h) (Or.inl ⟨by rfl, ?_⟩) (by assumption) ?_
    rotate_left
    · intro w8 hSw; clear hSw; go_simp; (try with_reducible rfl)
    simp only [Act.put, List.getElem_toArray, List.getElem_cons_zero, List.getElem_cons_succ, List.setIfInBounds_toArray, List.set_cons_zero, List.set_cons_succ]
    refine wpAnyH_take (i := 7) (v := ?_) rfl (by kernel_rfl) (by kernel_rfl) (by kernel_rfl) (fun _ _ _ h => h) (Or.inl ⟨by rfl, ?_⟩) (by assumption) ?_
    rotate_left
    · intro w8 hSw; clear hSw; go_simp; (try with_reducible rfl)
    simp only [Act.put, List.getElem_toArray, List.getElem_cons_zero, List.getElem_cons_succ, List.setIfInBounds_toArray, List.set_cons_zero, List.set_cons_succ]
    refine wpAnyH_take (i := 8) (v := ?_) rfl (by kernel_rfl) (by kernel_rfl) (by kernel_rfl) (fun _ _ _ h => h) (Or.inl ⟨by rfl, ?_⟩) (by assumption) ?_
    rotate_left
    · intro w8 hSw; clear hSw; go_simp; (try with_reducible rfl)
    simp only [Act.put, List.getElem_toArray, List.getElem_cons_zero, List.getElem_cons_succ, List.setIfInBounds_toArray, List.set_cons_zero, List.set_cons_succ]
    refine wpAnyH_take (i := 9) (v := ?_) rfl (by kernel_rfl) (by kernel_rfl) (by kernel_rfl) (fun _ _ _ h => h) (Or.inl ⟨by rfl, ?_⟩) (by assumption) ?_
    rotate_left
    · intro w8 hSw; clear hSw; go_simp; (try with_reducible rfl)
    simp only [Act.put, List.getElem_toArray, List.getElem_cons_zero, List.getElem_cons_succ, List.setIfInBounds_toArray, List.set_cons_zero, List.set_cons_succ]
    refine wpAnyH_done (by kernel_rfl) ?_ _
    go_wp2_with fail
    go_ret2
    exact HD.out _ HB4.out.drew
  | some i =>
    obtain ⟨hi, hi1, -⟩ := findI_some hf
    have hv : findV L ti = (i : Int) := by unfold findV; rw [hf]
    rw [hv]
    have hgt := drop_yes W2 F r n L hR2 L[i] (List.getElem_mem hi) hn
    obtain ⟨bx, fx, rfl, -, -, -, -, -⟩ := Rt.cells hRt2 i hi
    have hgo := gone_at L hok i hi
    have hsr := cut1_run W2 hRt2 i hi
    obtain ⟨y, hy⟩ : ∃ y, y = L[i] := ⟨_, rfl⟩
    have hct : ∀ W', Rt W' (some ⟨bx, fx, none⟩) cap L → Rt W' (some ⟨bx, fx + i * 4, none⟩) (cap - i) [y] := fun W' h => by rw [hy]; exact Rt.cut1 h i hi
    rw [← hy] at hgt hi1 hgo
    obtain ⟨⟨yi, yg, yd⟩, yk⟩ := y
    simp only at hi1 hgt hgo
    subst hi1
    unfold thVal at hgt
    have n1 : ¬ (i : Int) < 0 := by omega
    have HW17 := Lib.hid (wrap_s i (Nat.le_trans (Nat.le_of_lt hi) HL.out))
    have Hwo := Lib.hid (fun (W' : World) (h : Rt W' (some ⟨bx, fx, none⟩) cap L) => without_any W' (some ⟨bx, fx, none⟩) cap L i h HL.out hi)
    rw [hgo] at Hwo
    have Hgt := Lib.hid hgt
    have Hct := Lib.hid hct
    have HRt2 := Lib.hid hRt2
    have HA2 := Lib.hid hA2
    have hgl : (gone L yi).length = L.length - 1 := by rw [← hgo]; simp; omega
    have Hgl := Lib.hid hgl
    clear hf hv hR hR2 hRt2 hid hn hgt hct hy hi hA2 hok hgo hgl
    go_wp2_with fail
    refine Hgt.out.mono ?_
    rintro e W3 ⟨rfl, hR3, hG3⟩
    have hRt3 := Rt.gr HRt2.out hG3 HA2.out
    have HR3 := Lib.hid hR3
    have HG3 := Lib.hid hG3
    have HRt3 := Lib.hid hRt3
    have hfin : ∀ (ao' : Option Addr) (cap' B : Nat) (V : World), V.ownsRow B rtT 4 (.slice ao' (L.length - 1) cap') (L.length - 1) (rtFlat (gone L yi)) → W3.heap.size ≤ B → Below W3.heap.size W3 V → Done W F r n (.returned (.tuple #[.slice ao' (L.length - 1) cap', .bool true])) V := fun ao' cap' B V ho hE hb => by
      refine ⟨More F W2 W3, n, ao', cap', gone L yi, by rw [Hgl.out], Nat.le_succ _, hR3.below hb, Rt.of_own (by rw [Hgl.out]; exact ho), fun a ha => ?_, ((Gr.below HB2.out).then hG3 (fun i hi => .inl hi)).trans (Gr.below hb), fun i hi => ?_⟩
      · subst ha
        have h1 := ho.lt a.block rfl
        refine ⟨h1.2, fun hF => ?_⟩
        have h2 := HB2.out.size
        have h3 := hG3.size
        rcases hF with hF | hF
        · have := HFW.out _ hF; omega
        · omega
      · rcases hi with hi | hi
        · exact .inl hi
        · exact .inr (Nat.le_trans HB2.out.size hi.1)
    have HFin := Lib.hid hfin
    clear hR3 hG3 hRt3 hfin c0 c1 c2 c3 c4
    go_wp2_with fail
    obtain ⟨p, hp⟩ : ∃ p, p = W3.heap.size := ⟨_, rfl⟩
    obtain ⟨W4, hW4⟩ : ∃ W4, W4 = W3.alloc (.cells #[.int .u64 yi, .int .u64 yg, .int .i64 yd] thT) := ⟨_, rfl⟩
    have hB4 := below_new W3 (.cells #[.int .u64 yi, .int .u64 yg, .int .i64 yd] thT)
    have hcp : W4.heap[p]? = some (.cells #[.int .u64 yi, .int .u64 yg, .int .i64 yd] thT (0, 0)) := by rw [hW4, hp]; exact heap_alloc_new _ _
    rw [← hW4] at hB4
    first | rw [← hW4, ← hp] | rw [← hp, ← hW4]
    have e0 := block_cell hcp 0
    have e1 := block_cell hcp 1
    have e2 := block_cell hcp 2
    simp at e0 e1 e2
    have hldp : ∀ W', Below W4.heap.size W4 W' → (Instr.loadAt thT (.pointer (some ⟨p, 0, none⟩))).run Tryd.prog W' = .ok (thVal ⟨yi, yg, yd⟩) W' := fun W' hw => by
      have hpl : p < W4.heap.size := (Array.getElem?_eq_some_iff.1 hcp).1
      exact loadTh (t := ⟨yi, yg, yd⟩) ((hw.cell (p := ⟨p, 0, none⟩) hpl).trans e0) ((hw.cell (p := ⟨p, 1, none⟩) hpl).trans e1) ((hw.cell (p := ⟨p, 2, none⟩) hpl).trans e2)
    have Hldp := Lib.hid hldp
    have HB4 := Lib.hid hB4
    clear hldp hB4 hcp hW4 hp e0 e1 e2
    refine wp_region_held_drew (S := fun W' => Below W4.heap.size W4 W') (by kernel_rfl) (Below.refl _ W4).drew (fun hHeld => ?_)
    obtain ⟨V0, hV0⟩ : ∃ V0, V0 = W4.drew := ⟨_, rfl⟩
    rw [← hV0] at hHeld ⊢
    have hE0 : W3.heap.size ≤ V0.heap.size := Nat.le_trans HB4.out.size (by rw [hV0]; exact Nat.le_refl _)
    clear hV0
    have hB5 := hHeld
    refine wpAnyH_take (i := 0) (v := ?_) rfl (by kernel_rfl) (by kernel_rfl) (by kernel_rfl) (fun _ _ _ h => h) (Or.inl ⟨by rfl, ?_⟩) (by assumption) ?_
    rotate_left
    · intro w8 hSw; clear hSw; go_simp; (try with_reducible rfl)
    simp only [Act.put, List.getElem_toArray, List.getElem_cons_zero, List.getElem_cons_succ, List.setIfInBounds_toArray, List.set_cons_zero, List.set_cons_succ]
    refine wpAnyH_take (i := 1) (v := ?_) rfl (by kernel_rfl) (by kernel_rfl) (by kernel_rfl) (fun _ _ _ h => h) (Or.inl ⟨by rfl, ?_⟩) (by assumption) ?_
    rotate_left
    · intro w8 hSw; clear hSw; go_simp; (try with_reducible rfl)
    simp only [Act.put, List.getElem_toArray, List.getElem_cons_zero, List.getElem_cons_succ, List.setIfInBounds_toArray, List.set_cons_zero, List.set_cons_succ]
    refine wpAnyH_take (i := 3) (v := ?_) rfl (by kernel_rfl) (by kernel_rfl) (by kernel_rfl) (fun _ _ _ h => h) (Or.inl ⟨by rfl, ?_⟩) (by assumption) ?_
    rotate_left
    · intro w8 hSw; clear hSw; go_simp; (try with_reducible rfl)
    simp only [Act.put, List.getElem_toArray, List.getElem_cons_zero, List.getElem_cons_succ, List.setIfInBounds_toArray, List.set_cons_zero, List.set_cons_succ]
    refine wpAnyH_ready (rs := [2]) (by kernel_rfl) (by simp) ?_
    refine AllReadyH.cons rfl (fun K hK => ?_) AllReadyH.nil
    go_simp
    go_at_call 28
    refine (Hwo.out _ (HRt3.out.below (below_on HB4.out hB5 (Nat.le_refl _)))).mono ?_
    rintro e V1 ⟨ao', cap', rfl, hown, hBw⟩
    have hB6 := below_on hB5 hBw (Nat.le_refl _)
    refine hK.out _ _ hB6 (fun hHeld => ?_)
    clear hK K
    try simp only [Act.put, List.getElem_toArray, List.getElem_cons_zero, List.getElem_cons_succ, List.setIfInBounds_toArray, List.set_cons_zero, List.set_cons_succ]
    refine wpAnyH_take (i := 4) (v := ?_) rfl (by kernel_rfl) (by kernel_rfl) (by kernel_rfl) (fun _ _ _ h => h) (Or.inl ⟨by rfl, ?_⟩) (by assumption) ?_
    rotate_left
    · intro w8 hSw; clear hSw; go_simp; (try with_reducible rfl)
    simp only [Act.put, List.getElem_toArray, List.getElem_cons_zero, List.getElem_cons_succ, List.setIfInBounds_toArray, List.set_cons_zero, List.set_cons_succ]
    refine wpAnyH_take (i := 5) (v := thVal ⟨yi, yg, yd⟩) rfl (by kernel_rfl) (by kernel_rfl) (by kernel_rfl) (fun _ _ _ h => h) (Or.inl ⟨by rfl, ?_⟩) (by assumption) ?_
    · intro w8 hSw; exact ld_takeT rfl (Hldp.out w8 hSw) rfl
    simp only [Act.put, List.getElem_toArray, List.getElem_cons_zero, List.getElem_cons_succ, List.setIfInBounds_toArray, List.set_cons_zero, List.set_cons_succ]
    unfold thVal
    refine wpAnyH_take (i := 7) (v := ?_) rfl (by kernel_rfl) (by kernel_rfl) (by kernel_rfl) (fun _ _ _ h => h) (Or.inl ⟨by rfl, ?_⟩) (by assumption) ?_
    rotate_left
    · intro w8 hSw; clear hSw; go_simp; (try with_reducible rfl)
    simp only [Act.put, List.getElem_toArray, List.getElem_cons_zero, List.getElem_cons_succ, List.setIfInBounds_toArray, List.set_cons_zero, List.set_cons_succ]
    refine wpAnyH_take (i := 8) (v := ?_) rfl (by kernel_rfl) (by kernel_rfl) (by kernel_rfl) (fun _ _ _ h => h) (Or.inl ⟨by rfl, ?_⟩) (by assumption) ?_
    rotate_left
    · intro w8 hSw; clear hSw; go_simp; (try with_reducible rfl)
    simp only [Act.put, List.getElem_toArray, List.getElem_cons_zero, List.getElem_cons_succ, List.setIfInBounds_toArray, List.set_cons_zero, List.set_cons_succ]
    refine wpAnyH_take (i := 9) (v := ?_) rfl (by kernel_rfl) (by kernel_rfl) (by kernel_rfl) (fun _ _ _ h => h) (Or.inl ⟨by rfl, ?_⟩) (by assumption) ?_
    rotate_left
    · intro w8 hSw; clear hSw; go_simp; (try with_reducible rfl)
    simp only [Act.put, List.getElem_toArray, List.getElem_cons_zero, List.getElem_cons_succ, List.setIfInBounds_toArray, List.set_cons_zero, List.set_cons_succ]
    refine wpAnyH_take (i := 10) (v := .int .i64 ((i : Int) + 1)) rfl (by kernel_rfl) (by kernel_rfl) (by kernel_rfl) (fun _ _ _ h => h) (Or.inl ⟨by rfl, ?_⟩) (by assumption) ?_
    · intro w8 hSw; clear hSw; go_simp; exact HW17.out
    simp only [Act.put, List.getElem_toArray, List.getElem_cons_zero, List.getElem_cons_succ, List.setIfInBounds_toArray, List.set_cons_zero, List.set_cons_succ]
    refine wpAnyH_take (i := 11) (v := .slice (some ⟨bx, fx + i * 4, none⟩) 1 (cap - i)) rfl (by kernel_rfl) (by kernel_rfl) (by kernel_rfl) (fun _ _ _ h => h) (Or.inl ⟨by rfl, ?_⟩) (by assumption) ?_
    · intro w8 hSw; clear hSw; have h8 := hsr w8; exact sl_take rfl h8 rfl rfl rfl
    simp only [Act.put, List.getElem_toArray, List.getElem_cons_zero, List.getElem_cons_succ, List.setIfInBounds_toArray, List.set_cons_zero, List.set_cons_succ]
    refine wpAnyH_ready (rs := [6]) (by kernel_rfl) (by simp) ?_
    refine AllReadyH.cons rfl (fun K hK => ?_) AllReadyH.nil
    go_simp
    obtain ⟨V2, hX⟩ : ∃ X, X = V1.alloc (.cells #[.int .u64 yi, .int .u64 yg, .int .i64 yd] thT) := ⟨_, rfl⟩
    have own1 := own_th1 V1 0 ⟨yi, yg, yd⟩ (Nat.zero_le _)
    have hBx := below_on hB6 (below_new V1 (.cells #[.int .u64 yi, .int .u64 yg, .int .i64 yd] thT)) (Nat.le_refl _)
    have hBy := below_new V1 (.cells #[.int .u64 yi, .int .u64 yg, .int .i64 yd] thT)
    obtain ⟨g1, hg⟩ : ∃ g, g = V1.heap.size := ⟨_, rfl⟩
    simp only at own1
    rw [← hX] at own1 hBx hBy
    rw [← hg] at own1
    have HX := Lib.hid hX
    have HG := Lib.hid hg
    clear hX hg
    rw [show V1.alloc (.cells #[.int .u64 yi, .int .u64 yg, .int .i64 yd] thT) = V2 from HX.out.symm, ← HG.out]
    refine hK.out _ _ hBx (fun hHeld => ?_)
    clear hK K HX HG
    try simp only [Act.put, List.getElem_toArray, List.getElem_cons_zero, List.getElem_cons_succ, List.setIfInBounds_toArray, List.set_cons_zero, List.set_cons_succ]
    have hown := own_below hown hBy
    have Hsm : Hid (Calls Tryd.prog 11 #[.slice (some ⟨g1, 0, none⟩) 1 1, .slice (some ⟨bx, fx + i * 4, none⟩) 1 (cap - i)] V2 fun e W' => e = .returned (.bool true) ∧ Below V2.heap.size V2 W') := by
      have := same_any V2 (some ⟨g1, 0, none⟩) 1 [⟨yi, yg, yd⟩] (some ⟨bx, fx + i * 4, none⟩) (cap - i) [((⟨yi, yg, yd⟩ : Th), yk)] (Tt.of_own own1) (Hct.out _ (HRt3.out.below (below_on HB4.out hBx (Nat.le_refl _)))) (by simp) (by simp)
      simp at this; exact this
    clear own1
    refine wpAnyH_ready (rs := [12]) (by kernel_rfl) (by simp) ?_
    refine AllReadyH.cons rfl (fun K hK => ?_) AllReadyH.nil
    go_simp
    go_at_call 11
    refine Hsm.out.mono ?_
    rintro e V3 ⟨rfl, hBs⟩
    have hB8 := below_on hBx hBs (Nat.le_refl _)
    refine hK.out _ _ hB8 (fun hHeld => ?_)
    clear hK K
    try simp only [Act.put, List.getElem_toArray, List.getElem_cons_zero, List.getElem_cons_succ, List.setIfInBounds_toArray, List.set_cons_zero, List.set_cons_succ]
    refine wpAnyH_take (i := 13) (v := ?_) rfl (by kernel_rfl) (by kernel_rfl) (by kernel_rfl) (fun _ _ _ h => h) (Or.inl ⟨by rfl, ?_⟩) (by assumption) ?_
    rotate_left
    · intro w8 hSw; clear hSw; go_simp; (try with_reducible rfl)
    simp only [Act.put, List.getElem_toArray, List.getElem_cons_zero, List.getElem_cons_succ, List.setIfInBounds_toArray, List.set_cons_zero, List.set_cons_succ]
    refine wpAnyH_take (i := 14) (v := ?_) rfl (by kernel_rfl) (by kernel_rfl) (by kernel_rfl) (fun _ _ _ h => h) (Or.inl ⟨by rfl, ?_⟩) (by assumption) ?_
    rotate_left
    · intro w8 hSw; clear hSw; go_simp; (try with_reducible rfl)
    simp only [Act.put, List.getElem_toArray, List.getElem_cons_zero, List.getElem_cons_succ, List.setIfInBounds_toArray, List.set_cons_zero, List.set_cons_succ]
    refine wpAnyH_take (i := 15) (v := ?_) rfl (by kernel_rfl) (by kernel_rfl) (by kernel_rfl) (fun _ _ _ h => h) (Or.inl ⟨by rfl, ?_⟩) (by assumption) ?_
    rotate_left
    · intro w8 hSw; clear hSw; go_simp; (try with_reducible rfl)
    simp only [Act.put, List.getElem_toArray, List.getElem_cons_zero, List.getElem_cons_succ, List.setIfInBounds_toArray, List.set_cons_zero, List.set_cons_succ]
    refine wpAnyH_done (by kernel_rfl) ?_ _
    go_wp2_with fail
    go_ret2
    exact HFin.out _ _ _ _ (own_below hown hBs) hE0 (below_on HB4.out hB8 (Nat.le_refl _))
end Go.Proofs.YtadghaiengonoaaDoor
