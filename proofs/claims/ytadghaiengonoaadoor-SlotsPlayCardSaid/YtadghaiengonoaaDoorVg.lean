/- slots: one operation of the law, kind by kind. No statement of the seat is proved here. -/
import Derived.Test.YtadghaiengonoaaDoorVf
import Derived.Test.YtadghaiengonoaaDoorVc
import Derived.Test.YtadghaiengonoaaDoorOpenP
namespace Go.Proofs.YtadghaiengonoaaDoor
set_option linter.unusedVariables false
set_option linter.unusedSimpArgs false
set_option linter.unusedSectionVars false
open Go Go.RowKit Go.Maps

abbrev opT : TypeId := 41
/-- the reference's row stands apart from the ring -/
def Apart (W : World) (F : Nat → Prop) (ao : Option Addr) : Prop := ∀ a, ao = some a → a.block < W.heap.size ∧ ¬ F a.block
/-- what an operation leaves -/
def Done (W : World) (F : Nat → Prop) (r n : Nat) (e : Ending) (W' : World) : Prop :=
  ∃ F' n' ao' cap' L', e = .returned (.tuple #[.slice ao' L'.length cap', .bool true]) ∧ n' ≤ n + 1 ∧ Rng W' F' r n' L' ∧ Rt W' ao' cap' L' ∧ Apart W' F' ao' ∧ Gr F W W' ∧ ∀ i, F' i → F i ∨ W.heap.size ≤ i
set_option maxRecDepth 100000 in
set_option maxHeartbeats 4000000 in
theorem do_next (W : World) (F : Nat → Prop) (r n : Nat) (L : RLs) (ao : Option Addr) (cap : Nat) (o : SOp) (hk : o.kind = 3) (hR : Rng W F r n L) (hT : Tab W) (hRt : Rt W ao cap L) (hA : Apart W F ao) (hl : L.length ≤ 10000) :
    Calls Tryd.prog 14 #[.pointer (some ⟨r, 0, none⟩), .slice ao L.length cap, sopVal o] W (Done W F r n) := by
  obtain ⟨ok, os, ⟨ti, tg, td⟩⟩ := o
  simp only at hk
  subst hk
  obtain ⟨b, hbd⟩ : ∃ b, b = W.heap.size := ⟨_, rfl⟩
  obtain ⟨W1, hW1⟩ : ∃ W1, W1 = W.alloc (.cells #[.int .i64 3, .int .i64 os, .int .u64 ti, .int .u64 tg, .int .i64 td] opT) := ⟨_, rfl⟩
  have hB1 : Below W.heap.size W W1 := by rw [hW1]; exact below_new _ _
  have hc : W1.heap[b]? = some (.cells #[.int .i64 3, .int .i64 os, .int .u64 ti, .int .u64 tg, .int .i64 td] opT (0, 0)) := by rw [hW1, hbd]; exact heap_alloc_new _ _
  have hcs : ∀ W', Below W1.heap.size W1 W' → W'.cell? ⟨b, 0, none⟩ = some (.int .i64 3) ∧ W'.cell? ⟨b, 1, none⟩ = some (.int .i64 os) ∧ W'.cell? ⟨b, 2, none⟩ = some (.int .u64 ti) ∧ W'.cell? ⟨b, 3, none⟩ = some (.int .u64 tg) ∧ W'.cell? ⟨b, 4, none⟩ = some (.int .i64 td) ∧ b < W'.heap.size := fun W' hw => by
    have a := (hw.block _ (Array.getElem?_eq_some_iff.1 hc).1).trans hc
    have a0 := block_cell a 0
    have a1 := block_cell a 1
    have a2 := block_cell a 2
    have a3 := block_cell a 3
    have a4 := block_cell a 4
    simp at a0 a1 a2 a3 a4
    exact ⟨a0, a1, a2, a3, a4, (Array.getElem?_eq_some_iff.1 a).1⟩
  have Hcs := Lib.hid hcs
  have HRt := Lib.hid hRt
  have HL := Lib.hid hl
  have Hfd := Lib.hid (find_any W1 ao cap L ti (hRt.below hB1) hl)
  obtain ⟨c0, c1, c2, c3, c4, hbl⟩ := hcs W1 (Below.refl _ _)
  have HB1 := Lib.hid hB1
  have Hbd := Lib.hid hbd
  have hz1 : W.heap.size = b := hbd.symm
  clear hcs hRt hl hc hB1 hbd c0 c1 c3 c4
  unfold sopVal
  go_enter Tryd.func14, Tryd.ntmps14
  go_upto_region 1 with fail
  rw [← hW1]
  clear hW1 hz1
  go_wp2_with fail
  refine Hfd.out.mono ?_
  rintro e W2 ⟨rfl, hB2⟩
  obtain ⟨c0, c1, c2, c3, c4, hbl⟩ := Hcs.out W2 hB2
  have HB2 := Lib.hid (below_on HB1.out hB2 (Nat.le_refl _))
  have Hb2 := Lib.hid hB2
  clear hB2 Hfd HB1
  have hR2 := hR.below HB2.out
  have hT2 := hT.below HB2.out hT.pos
  have hRt2 := HRt.out.below HB2.out
  have hok := hR.ok
  have Hrn := Lib.hid (refNext_any W2 ao cap L os hRt2 hok HL.out)
  have hD : Done W F r n (.returned (.tuple #[.slice ao L.length cap, .bool true])) W2 := ⟨F, n, ao, cap, L, rfl, Nat.le_succ _, hR2, hRt2, fun a ha => ⟨Nat.lt_of_lt_of_le (hA a ha).1 HB2.out.size, (hA a ha).2⟩, Gr.below HB2.out, fun i hi => .inl hi⟩
  have HD := Lib.hid hD
  by_cases hne : L = []
  · have hnx := next_empty W2 F r n os (hne ▸ hR2)
    have Hnx := Lib.hid hnx
    have Hne := Lib.hid hne
    clear hnx hne hR hR2 hT hT2 hRt2 hA hok hD
    go_wp2_with fail
    refine Hnx.out.mono ?_
    rintro e W3 ⟨rfl, hW3⟩
    subst hW3
    go_wp2_with fail
    refine Hrn.out.mono ?_
    rintro e W4 ⟨hor, hW4⟩
    subst hW4
    rcases hor with ⟨st, hst, -⟩ | ⟨-, rfl⟩
    · obtain ⟨p, hp, -⟩ := hst.yes
      rw [Hne.out] at hp
      cases hp
    · go_wp2_with fail
      go_ret2
      exact HD.out
  · have hnx := next_ring W2 F r n L os hR2 hne hT2
    have Hnx := Lib.hid hnx
    have Hne := Lib.hid hne
    clear hnx hne hR hR2 hT hT2 hRt2 hA hok hD
    go_wp2_with fail
    refine Hnx.out.mono ?_
    rintro e W3 ⟨⟨st, hst, rfl⟩, hW3⟩
    subst hW3
    have Hst := Lib.hid hst
    obtain ⟨m, hm⟩ : ∃ m, m = (atM os + st) % 64 := ⟨_, rfl⟩
    rw [← hm]
    have HM := Lib.hid hm
    clear hst hm
    go_wp2_with fail
    refine Hrn.out.mono ?_
    rintro e W4 ⟨hor, hW4⟩
    subst hW4
    rcases hor with ⟨st2, hst2, rfl⟩ | ⟨hn, -⟩
    · have e2 := Hst.out.uniq hst2
      subst e2
      rw [← HM.out]
      clear hst2
      go_wp2_with fail
      go_ret2
      exact HD.out
    · exact absurd hn Hne.out
theorem loadI {W : World} {b o : Nat} {v : Int} (c : W.cell? ⟨b, o, none⟩ = some (.int .i64 v)) : (Instr.loadAt 3 (.pointer (some ⟨b, o, none⟩))).run Tryd.prog W = .ok (.int .i64 v) W := by go_simp
theorem loadTh {W : World} {b o : Nat} {t : Th} (h0 : W.cell? ⟨b, o, none⟩ = some (.int .u64 t.id)) (h1 : W.cell? ⟨b, o + 1, none⟩ = some (.int .u64 t.gen)) (h2 : W.cell? ⟨b, o + 2, none⟩ = some (.int .i64 t.due)) : (Instr.loadAt thT (.pointer (some ⟨b, o, none⟩))).run Tryd.prog W = .ok (thVal t) W := by
  unfold thVal
  go_simp
set_option maxRecDepth 100000 in
set_option maxHeartbeats 4000000 in
theorem do_put (W : World) (F : Nat → Prop) (r n : Nat) (L : RLs) (ao : Option Addr) (cap : Nat) (o : SOp) (hk : o.kind ≠ 1 ∧ o.kind ≠ 2 ∧ o.kind ≠ 3 ∧ o.kind ≠ 4) (hR : Rng W F r n L) (hRt : Rt W ao cap L) (hA : Apart W F ao) (hl : L.length ≤ 10000) (hn : n < 1000000) (hid : IdOk o.t.id) :
    Calls Tryd.prog 14 #[.pointer (some ⟨r, 0, none⟩), .slice ao L.length cap, sopVal o] W (Done W F r n) := by
  obtain ⟨ok, os, ⟨ti, tg, td⟩⟩ := o
  simp only at hk
  obtain ⟨b, hbd⟩ : ∃ b, b = W.heap.size := ⟨_, rfl⟩
  obtain ⟨W1, hW1⟩ : ∃ W1, W1 = W.alloc (.cells #[.int .i64 ok, .int .i64 os, .int .u64 ti, .int .u64 tg, .int .i64 td] opT) := ⟨_, rfl⟩
  have hB1 : Below W.heap.size W W1 := by rw [hW1]; exact below_new _ _
  have hc : W1.heap[b]? = some (.cells #[.int .i64 ok, .int .i64 os, .int .u64 ti, .int .u64 tg, .int .i64 td] opT (0, 0)) := by rw [hW1, hbd]; exact heap_alloc_new _ _
  have hcs : ∀ W', Below W1.heap.size W1 W' → W'.cell? ⟨b, 0, none⟩ = some (.int .i64 ok) ∧ W'.cell? ⟨b, 1, none⟩ = some (.int .i64 os) ∧ W'.cell? ⟨b, 2, none⟩ = some (.int .u64 ti) ∧ W'.cell? ⟨b, 3, none⟩ = some (.int .u64 tg) ∧ W'.cell? ⟨b, 4, none⟩ = some (.int .i64 td) ∧ b < W'.heap.size := fun W' hw => by
    have a := (hw.block _ (Array.getElem?_eq_some_iff.1 hc).1).trans hc
    have a0 := block_cell a 0
    have a1 := block_cell a 1
    have a2 := block_cell a 2
    have a3 := block_cell a 3
    have a4 := block_cell a 4
    simp at a0 a1 a2 a3 a4
    exact ⟨a0, a1, a2, a3, a4, (Array.getElem?_eq_some_iff.1 a).1⟩
  have Hcs := Lib.hid hcs
  have HRt := Lib.hid hRt
  have HL := Lib.hid hl
  have Hfd := Lib.hid (find_any W1 ao cap L ti (hRt.below hB1) hl)
  obtain ⟨c0, c1, c2, c3, c4, hbl⟩ := hcs W1 (Below.refl _ _)
  have HB1 := Lib.hid hB1
  have Hbd := Lib.hid hbd
  have hz1 : W.heap.size = b := hbd.symm
  clear hcs hRt hl hc hB1 hbd c0 c1 c3 c4
  unfold sopVal
  go_enter Tryd.func14, Tryd.ntmps14
  go_upto_region 1 with fail
  rw [← hW1]
  clear hW1 hz1
  go_wp2_with fail
  refine Hfd.out.mono ?_
  rintro e W2 ⟨rfl, hB2⟩
  obtain ⟨c0, c1, c2, c3, c4, hbl⟩ := Hcs.out W2 hB2
  have HB2 := Lib.hid (below_on HB1.out hB2 (Nat.le_refl _))
  have Hb2 := Lib.hid hB2
  clear hB2 Hfd HB1
  obtain ⟨hk1, hk2, hk3, hk4⟩ := hk
  have hid : IdOk ti := hid
  have hR2 := hR.below HB2.out
  have hRt2 := HRt.out.below HB2.out
  have hfA : ∀ a, ao = some a → a.block < W2.heap.size ∧ ¬ F a.block := fun a ha => ⟨Nat.lt_of_lt_of_le (hA a ha).1 HB2.out.size, (hA a ha).2⟩
  have hld : ∀ W', Below W2.heap.size W2 W' → (Instr.loadAt 3 (.pointer (some ⟨b, 1, none⟩))).run Tryd.prog W' = .ok (.int .i64 os) W' ∧ (Instr.loadAt thT (.pointer (some ⟨b, 2, none⟩))).run Tryd.prog W' = .ok (thVal ⟨ti, tg, td⟩) W' := fun W' hw => by
    obtain ⟨a0, a1, a2, a3, a4, -⟩ := Hcs.out W' (below_on Hb2.out hw (Nat.le_refl _))
    exact ⟨loadI a1, loadTh (t := ⟨ti, tg, td⟩) a2 a3 a4⟩
  have Hld := Lib.hid hld
  have HA2 := Lib.hid hfA
  have HR2 := Lib.hid hR2
  have HRt2 := Lib.hid hRt2
  have Hpl := Lib.hid (fun W => plain_any W ⟨ti, tg, td⟩)
  have Hid2 := Lib.hid hid
  have HN := Lib.hid hn
  obtain ⟨fv, hfv⟩ : ∃ fv, fv = findV L ti := ⟨_, rfl⟩
  rw [← hfv]
  clear hR hR2 hRt2 hA hfA hld hid hn hfv
  by_cases hs : os < 0 ∨ 64 ≤ os
  · have Hs := Lib.hid hs
    clear hs
    go_upto_region 3 with fail
    refine wp_region_held_drew (S := fun W' => Below W2.heap.size W2 W') (by kernel_rfl) (Below.refl _ W2).drew (fun hHeld => ?_)
    obtain ⟨V0, hV0⟩ : ∃ V0, V0 = W2.drew := ⟨_, rfl⟩
    rw [← hV0] at hHeld ⊢
    clear hV0
    refine wpAnyH_take (i := 0) (v := ?_) rfl (by kernel_rfl) (by kernel_rfl) (by kernel_rfl) (fun _ _ _ h => h) (Or.inl ⟨by rfl, ?_⟩) (by assumption) ?_
    rotate_left
    · intro w8 hSw; clear hSw; go_simp; (try with_reducible rfl)
    simp only [Act.put, List.getElem_toArray, List.getElem_cons_zero, List.getElem_cons_succ, List.setIfInBounds_toArray, List.set_cons_zero, List.set_cons_succ]
    refine wpAnyH_take (i := 1) (v := ?_) rfl (by kernel_rfl) (by kernel_rfl) (by kernel_rfl) (fun _ _ _ h => h) (Or.inl ⟨by rfl, ?_⟩) (by assumption) ?_
    rotate_left
    · intro w8 hSw; clear hSw; go_simp; (try with_reducible rfl)
    simp only [Act.put, List.getElem_toArray, List.getElem_cons_zero, List.getElem_cons_succ, List.setIfInBounds_toArray, List.set_cons_zero, List.set_cons_succ]
    refine wpAnyH_take (i := 2) (v := .int .i64 os) rfl (by kernel_rfl) (by kernel_rfl) (by kernel_rfl) (fun _ _ _ h => h) (Or.inl ⟨by rfl, ?_⟩) (by assumption) ?_
    · intro w8 hSw; exact ld_takeT rfl (Hld.out w8 hSw).1 rfl
    simp only [Act.put, List.getElem_toArray, List.getElem_cons_zero, List.getElem_cons_succ, List.setIfInBounds_toArray, List.set_cons_zero, List.set_cons_succ]
    refine wpAnyH_take (i := 3) (v := ?_) rfl (by kernel_rfl) (by kernel_rfl) (by kernel_rfl) (fun _ _ _ h => h) (Or.inl ⟨by rfl, ?_⟩) (by assumption) ?_
    rotate_left
    · intro w8 hSw; clear hSw; go_simp; (try with_reducible rfl)
    simp only [Act.put, List.getElem_toArray, List.getElem_cons_zero, List.getElem_cons_succ, List.setIfInBounds_toArray, List.set_cons_zero, List.set_cons_succ]
    refine wpAnyH_take (i := 4) (v := thVal ⟨ti, tg, td⟩) rfl (by kernel_rfl) (by kernel_rfl) (by kernel_rfl) (fun _ _ _ h => h) (Or.inl ⟨by rfl, ?_⟩) (by assumption) ?_
    · intro w8 hSw; exact ld_takeT rfl (Hld.out w8 hSw).2 rfl
    simp only [Act.put, List.getElem_toArray, List.getElem_cons_zero, List.getElem_cons_succ, List.setIfInBounds_toArray, List.set_cons_zero, List.set_cons_succ]
    refine wpAnyH_ready (rs := [5]) (by kernel_rfl) (by simp) ?_
    refine AllReadyH.cons rfl (fun K hK => ?_) AllReadyH.nil
    go_simp
    go_at_call 7
    refine (Hpl.out _).mono ?_
    rintro e V1 ⟨rfl, hB5'⟩; have hB5 := below_on hHeld hB5' (Nat.le_refl _)
    refine hK.out _ _ hB5 (fun hHeld => ?_)
    clear hK K
    try simp only [Act.put, List.getElem_toArray, List.getElem_cons_zero, List.getElem_cons_succ, List.setIfInBounds_toArray, List.set_cons_zero, List.set_cons_succ]
    refine wpAnyH_ready (rs := [6]) (by kernel_rfl) (by simp) ?_
    refine AllReadyH.cons rfl (fun K hK => ?_) AllReadyH.nil
    go_simp
    go_at_call 30
    refine (refPut_out V1 ao cap L os ⟨ti, tg, td⟩ (by have := Hs.out; omega)).mono ?_
    rintro e V2 ⟨rfl, hB6'⟩; have hB6 := below_on hB5 hB6' (Nat.le_refl _)
    refine hK.out _ _ hB6 (fun hHeld => ?_)
    clear hK K
    try simp only [Act.put, List.getElem_toArray, List.getElem_cons_zero, List.getElem_cons_succ, List.setIfInBounds_toArray, List.set_cons_zero, List.set_cons_succ]
    refine wpAnyH_take (i := 7) (v := ?_) rfl (by kernel_rfl) (by kernel_rfl) (by kernel_rfl) (fun _ _ _ h => h) (Or.inl ⟨by rfl, ?_⟩) (by assumption) ?_
    rotate_left
    · intro w8 hSw; clear hSw; go_simp; (try with_reducible rfl)
    simp only [Act.put, List.getElem_toArray, List.getElem_cons_zero, List.getElem_cons_succ, List.setIfInBounds_toArray, List.set_cons_zero, List.set_cons_succ]
    refine wpAnyH_take (i := 8) (v := ?_) rfl (by kernel_rfl) (by kernel_rfl) (by kernel_rfl) (fun _ _ _ h => h) (Or.inl ⟨by rfl, ?_⟩) (by assumption) ?_
    rotate_left
    · intro w8 hSw; clear hSw; go_simp; (try with_reducible rfl)
    simp only [Act.put, List.getElem_toArray, List.getElem_cons_zero, List.getElem_cons_succ, List.setIfInBounds_toArray, List.set_cons_zero, List.set_cons_succ]
    refine wpAnyH_take (i := 9) (v := ?_) rfl (by kernel_rfl) (by kernel_rfl) (by kernel_rfl) (fun _ _ _ h => h) (Or.inl ⟨by rfl, ?_⟩) (by assumption) ?_
    rotate_left
    · intro w8 hSw; clear hSw; go_simp; (try with_reducible rfl)
    simp only [Act.put, List.getElem_toArray, List.getElem_cons_zero, List.getElem_cons_succ, List.setIfInBounds_toArray, List.set_cons_zero, List.set_cons_succ]
    refine wpAnyH_take (i := 10) (v := ?_) rfl (by kernel_rfl) (by kernel_rfl) (by kernel_rfl) (fun _ _ _ h => h) (Or.inl ⟨by rfl, ?_⟩) (by assumption) ?_
    rotate_left
    · intro w8 hSw; clear hSw; go_simp; (try with_reducible rfl)
    simp only [Act.put, List.getElem_toArray, List.getElem_cons_zero, List.getElem_cons_succ, List.setIfInBounds_toArray, List.set_cons_zero, List.set_cons_succ]
    refine wpAnyH_take (i := 11) (v := ?_) rfl (by kernel_rfl) (by kernel_rfl) (by kernel_rfl) (fun _ _ _ h => h) (Or.inl ⟨by rfl, ?_⟩) (by assumption) ?_
    rotate_left
    · intro w8 hSw; clear hSw; go_simp; (try with_reducible rfl)
    simp only [Act.put, List.getElem_toArray, List.getElem_cons_zero, List.getElem_cons_succ, List.setIfInBounds_toArray, List.set_cons_zero, List.set_cons_succ]
    refine wpAnyH_done (by kernel_rfl) ?_ _
    have hR3 := HR2.out.below hB6
    have hBt := below_on HB2.out hB6 (Nat.le_refl _)
    have Hpt := Lib.hid (put_range V2 F r n L os ⟨ti, tg, td⟩ hR3 Hs.out)
    unfold thVal at Hpt
    obtain ⟨d0, d1, d2, d3, d4, dl⟩ := Hcs.out V2 (below_on Hb2.out hB6 (Nat.le_refl _))
    have HBt := Lib.hid hBt
    clear hR3 hBt c0 c1 c2 c3 c4
    go_wp2_with fail
    refine Hpt.out.mono ?_
    rintro e V3 ⟨rfl, hB7⟩
    go_wp2_with fail
    go_ret2
    have hBf := below_on HBt.out hB7 (Nat.le_refl _)
    have hB23 := below_on hB6 hB7 (Nat.le_refl _)
    exact ⟨F, n, ao, cap, L, rfl, Nat.le_succ _, HR2.out.below hB23, HRt2.out.below hB23, fun a ha => ⟨Nat.lt_of_lt_of_le (HA2.out a ha).1 hB23.size, (HA2.out a ha).2⟩, Gr.below hBf, fun i hi => .inl hi⟩
  · obtain ⟨k, rfl, hk64⟩ : ∃ k : Nat, os = (k : Int) ∧ k < 64 := ⟨os.toNat, by omega, by omega⟩
    clear hs
    cases hf : findI L ti with
    | some i =>
      obtain ⟨hi, hi1, -⟩ := findI_some hf
      have hm : ∃ p ∈ L, p.1.id = ti := ⟨_, List.getElem_mem hi, hi1⟩
      have Hm := Lib.hid hm
      have Hf := Lib.hid hf
      have Hk := Lib.hid hk64
      clear hf hi hi1 hm hk64
      go_upto_region 3 with fail
      refine wp_region_held_drew (S := fun W' => Below W2.heap.size W2 W') (by kernel_rfl) (Below.refl _ W2).drew (fun hHeld => ?_)
      obtain ⟨V0, hV0⟩ : ∃ V0, V0 = W2.drew := ⟨_, rfl⟩
      rw [← hV0] at hHeld ⊢
      clear hV0
      refine wpAnyH_take (i := 0) (v := ?_) rfl (by kernel_rfl) (by kernel_rfl) (by kernel_rfl) (fun _ _ _ h => h) (Or.inl ⟨by rfl, ?_⟩) (by assumption) ?_
      rotate_left
      · intro w8 hSw; clear hSw; go_simp; (try with_reducible rfl)
      simp only [Act.put, List.getElem_toArray, List.getElem_cons_zero, List.getElem_cons_succ, List.setIfInBounds_toArray, List.set_cons_zero, List.set_cons_succ]
      refine wpAnyH_take (i := 1) (v := ?_) rfl (by kernel_rfl) (by kernel_rfl) (by kernel_rfl) (fun _ _ _ h => h) (Or.inl ⟨by rfl, ?_⟩) (by assumption) ?_
      rotate_left
      · intro w8 hSw; clear hSw; go_simp; (try with_reducible rfl)
      simp only [Act.put, List.getElem_toArray, List.getElem_cons_zero, List.getElem_cons_succ, List.setIfInBounds_toArray, List.set_cons_zero, List.set_cons_succ]
      refine wpAnyH_take (i := 2) (v := .int .i64 (k : Nat)) rfl (by kernel_rfl) (by kernel_rfl) (by kernel_rfl) (fun _ _ _ h => h) (Or.inl ⟨by rfl, ?_⟩) (by assumption) ?_
      · intro w8 hSw; exact ld_takeT rfl (Hld.out w8 hSw).1 rfl
      simp only [Act.put, List.getElem_toArray, List.getElem_cons_zero, List.getElem_cons_succ, List.setIfInBounds_toArray, List.set_cons_zero, List.set_cons_succ]
      refine wpAnyH_take (i := 3) (v := ?_) rfl (by kernel_rfl) (by kernel_rfl) (by kernel_rfl) (fun _ _ _ h => h) (Or.inl ⟨by rfl, ?_⟩) (by assumption) ?_
      rotate_left
      · intro w8 hSw; clear hSw; go_simp; (try with_reducible rfl)
      simp only [Act.put, List.getElem_toArray, List.getElem_cons_zero, List.getElem_cons_succ, List.setIfInBounds_toArray, List.set_cons_zero, List.set_cons_succ]
      refine wpAnyH_take (i := 4) (v := thVal ⟨ti, tg, td⟩) rfl (by kernel_rfl) (by kernel_rfl) (by kernel_rfl) (fun _ _ _ h => h) (Or.inl ⟨by rfl, ?_⟩) (by assumption) ?_
      · intro w8 hSw; exact ld_takeT rfl (Hld.out w8 hSw).2 rfl
      simp only [Act.put, List.getElem_toArray, List.getElem_cons_zero, List.getElem_cons_succ, List.setIfInBounds_toArray, List.set_cons_zero, List.set_cons_succ]
      refine wpAnyH_ready (rs := [5]) (by kernel_rfl) (by simp) ?_
      refine AllReadyH.cons rfl (fun K hK => ?_) AllReadyH.nil
      go_simp
      go_at_call 7
      refine (Hpl.out _).mono ?_
      rintro e V1 ⟨rfl, hB5'⟩; have hB5 := below_on hHeld hB5' (Nat.le_refl _)
      refine hK.out _ _ hB5 (fun hHeld => ?_)
      clear hK K
      try simp only [Act.put, List.getElem_toArray, List.getElem_cons_zero, List.getElem_cons_succ, List.setIfInBounds_toArray, List.set_cons_zero, List.set_cons_succ]
      refine wpAnyH_ready (rs := [6]) (by kernel_rfl) (by simp) ?_
      refine AllReadyH.cons rfl (fun K hK => ?_) AllReadyH.nil
      go_simp
      go_at_call 30
      refine (refPut_dup V1 ao cap L k i ⟨ti, tg, td⟩ (HRt2.out.below hB5) HL.out Hk.out Hf.out).mono ?_
      rintro e V2 ⟨rfl, hB6'⟩; have hB6 := below_on hB5 hB6' (Nat.le_refl _)
      refine hK.out _ _ hB6 (fun hHeld => ?_)
      clear hK K
      try simp only [Act.put, List.getElem_toArray, List.getElem_cons_zero, List.getElem_cons_succ, List.setIfInBounds_toArray, List.set_cons_zero, List.set_cons_succ]
      refine wpAnyH_take (i := 7) (v := ?_) rfl (by kernel_rfl) (by kernel_rfl) (by kernel_rfl) (fun _ _ _ h => h) (Or.inl ⟨by rfl, ?_⟩) (by assumption) ?_
      rotate_left
      · intro w8 hSw; clear hSw; go_simp; (try with_reducible rfl)
      simp only [Act.put, List.getElem_toArray, List.getElem_cons_zero, List.getElem_cons_succ, List.setIfInBounds_toArray, List.set_cons_zero, List.set_cons_succ]
      refine wpAnyH_take (i := 8) (v := ?_) rfl (by kernel_rfl) (by kernel_rfl) (by kernel_rfl) (fun _ _ _ h => h) (Or.inl ⟨by rfl, ?_⟩) (by assumption) ?_
      rotate_left
      · intro w8 hSw; clear hSw; go_simp; (try with_reducible rfl)
      simp only [Act.put, List.getElem_toArray, List.getElem_cons_zero, List.getElem_cons_succ, List.setIfInBounds_toArray, List.set_cons_zero, List.set_cons_succ]
      refine wpAnyH_take (i := 9) (v := ?_) rfl (by kernel_rfl) (by kernel_rfl) (by kernel_rfl) (fun _ _ _ h => h) (Or.inl ⟨by rfl, ?_⟩) (by assumption) ?_
      rotate_left
      · intro w8 hSw; clear hSw; go_simp; (try with_reducible rfl)
      simp only [Act.put, List.getElem_toArray, List.getElem_cons_zero, List.getElem_cons_succ, List.setIfInBounds_toArray, List.set_cons_zero, List.set_cons_succ]
      refine wpAnyH_take (i := 10) (v := ?_) rfl (by kernel_rfl) (by kernel_rfl) (by kernel_rfl) (fun _ _ _ h => h) (Or.inl ⟨by rfl, ?_⟩) (by assumption) ?_
      rotate_left
      · intro w8 hSw; clear hSw; go_simp; (try with_reducible rfl)
      simp only [Act.put, List.getElem_toArray, List.getElem_cons_zero, List.getElem_cons_succ, List.setIfInBounds_toArray, List.set_cons_zero, List.set_cons_succ]
      refine wpAnyH_take (i := 11) (v := ?_) rfl (by kernel_rfl) (by kernel_rfl) (by kernel_rfl) (fun _ _ _ h => h) (Or.inl ⟨by rfl, ?_⟩) (by assumption) ?_
      rotate_left
      · intro w8 hSw; clear hSw; go_simp; (try with_reducible rfl)
      simp only [Act.put, List.getElem_toArray, List.getElem_cons_zero, List.getElem_cons_succ, List.setIfInBounds_toArray, List.set_cons_zero, List.set_cons_succ]
      refine wpAnyH_done (by kernel_rfl) ?_ _
      have hR3 := HR2.out.below hB6
      have hBt := below_on HB2.out hB6 (Nat.le_refl _)
      have hpt : ∃ p ∈ L, p.1.id = ti := Hm.out
      obtain ⟨p, hp, hpi⟩ := hpt
      have Hpt := Lib.hid (put_there V2 F r n L k ⟨ti, tg, td⟩ hR3 Hk.out p hp hpi)
      unfold thVal at Hpt
      obtain ⟨d0, d1, d2, d3, d4, dl⟩ := Hcs.out V2 (below_on Hb2.out hB6 (Nat.le_refl _))
      have HBt := Lib.hid hBt
      clear hR3 hBt c0 c1 c2 c3 c4 hp hpi
      go_wp2_with fail
      refine Hpt.out.mono ?_
      rintro e V3 ⟨rfl, hB7⟩
      go_wp2_with fail
      go_ret2
      have hBf := below_on HBt.out hB7 (Nat.le_refl _)
      have hB23 := below_on hB6 hB7 (Nat.le_refl _)
      exact ⟨F, n, ao, cap, L, rfl, Nat.le_succ _, HR2.out.below hB23, HRt2.out.below hB23, fun a ha => ⟨Nat.lt_of_lt_of_le (HA2.out a ha).1 hB23.size, (HA2.out a ha).2⟩, Gr.below hBf, fun i hi => .inl hi⟩
    | none =>
      have Hf := Lib.hid hf
      have Hk := Lib.hid hk64
      clear hf hk64
      go_upto_region 3 with fail
      refine wp_region_held_drew (S := fun W' => Below W2.heap.size W2 W') (by kernel_rfl) (Below.refl _ W2).drew (fun hHeld => ?_)
      obtain ⟨V0, hV0⟩ : ∃ V0, V0 = W2.drew := ⟨_, rfl⟩
      rw [← hV0] at hHeld ⊢
      clear hV0
      refine wpAnyH_take (i := 0) (v := ?_) rfl (by kernel_rfl) (by kernel_rfl) (by kernel_rfl) (fun _ _ _ h => h) (Or.inl ⟨by rfl, ?_⟩) (by assumption) ?_
      rotate_left
      · intro w8 hSw; clear hSw; go_simp; (try with_reducible rfl)
      simp only [Act.put, List.getElem_toArray, List.getElem_cons_zero, List.getElem_cons_succ, List.setIfInBounds_toArray, List.set_cons_zero, List.set_cons_succ]
      refine wpAnyH_take (i := 1) (v := ?_) rfl (by kernel_rfl) (by kernel_rfl) (by kernel_rfl) (fun _ _ _ h => h) (Or.inl ⟨by rfl, ?_⟩) (by assumption) ?_
      rotate_left
      · intro w8 hSw; clear hSw; go_simp; (try with_reducible rfl)
      simp only [Act.put, List.getElem_toArray, List.getElem_cons_zero, List.getElem_cons_succ, List.setIfInBounds_toArray, List.set_cons_zero, List.set_cons_succ]
      refine wpAnyH_take (i := 2) (v := .int .i64 (k : Nat)) rfl (by kernel_rfl) (by kernel_rfl) (by kernel_rfl) (fun _ _ _ h => h) (Or.inl ⟨by rfl, ?_⟩) (by assumption) ?_
      · intro w8 hSw; exact ld_takeT rfl (Hld.out w8 hSw).1 rfl
      simp only [Act.put, List.getElem_toArray, List.getElem_cons_zero, List.getElem_cons_succ, List.setIfInBounds_toArray, List.set_cons_zero, List.set_cons_succ]
      refine wpAnyH_take (i := 3) (v := ?_) rfl (by kernel_rfl) (by kernel_rfl) (by kernel_rfl) (fun _ _ _ h => h) (Or.inl ⟨by rfl, ?_⟩) (by assumption) ?_
      rotate_left
      · intro w8 hSw; clear hSw; go_simp; (try with_reducible rfl)
      simp only [Act.put, List.getElem_toArray, List.getElem_cons_zero, List.getElem_cons_succ, List.setIfInBounds_toArray, List.set_cons_zero, List.set_cons_succ]
      refine wpAnyH_take (i := 4) (v := thVal ⟨ti, tg, td⟩) rfl (by kernel_rfl) (by kernel_rfl) (by kernel_rfl) (fun _ _ _ h => h) (Or.inl ⟨by rfl, ?_⟩) (by assumption) ?_
      · intro w8 hSw; exact ld_takeT rfl (Hld.out w8 hSw).2 rfl
      simp only [Act.put, List.getElem_toArray, List.getElem_cons_zero, List.getElem_cons_succ, List.setIfInBounds_toArray, List.set_cons_zero, List.set_cons_succ]
      refine wpAnyH_ready (rs := [5]) (by kernel_rfl) (by simp) ?_
      refine AllReadyH.cons rfl (fun K hK => ?_) AllReadyH.nil
      go_simp
      go_at_call 7
      refine (Hpl.out _).mono ?_
      rintro e V1 ⟨rfl, hB5'⟩; have hB5 := below_on hHeld hB5' (Nat.le_refl _)
      refine hK.out _ _ hB5 (fun hHeld => ?_)
      clear hK K
      try simp only [Act.put, List.getElem_toArray, List.getElem_cons_zero, List.getElem_cons_succ, List.setIfInBounds_toArray, List.set_cons_zero, List.set_cons_succ]
      refine wpAnyH_ready (rs := [6]) (by kernel_rfl) (by simp) ?_
      refine AllReadyH.cons rfl (fun K hK => ?_) AllReadyH.nil
      go_simp
      go_at_call 30
      refine (refPut_new V1 ao cap L k ⟨ti, tg, td⟩ (HRt2.out.below hB5) HL.out Hk.out Hf.out).mono ?_
      rintro e V2 ⟨ao', cap', rfl, hown, hB6'⟩; have hB6 := below_on hB5 hB6' (Nat.le_refl _)
      refine hK.out _ _ hB6 (fun hHeld => ?_)
      clear hK K
      try simp only [Act.put, List.getElem_toArray, List.getElem_cons_zero, List.getElem_cons_succ, List.setIfInBounds_toArray, List.set_cons_zero, List.set_cons_succ]
      refine wpAnyH_take (i := 7) (v := ?_) rfl (by kernel_rfl) (by kernel_rfl) (by kernel_rfl) (fun _ _ _ h => h) (Or.inl ⟨by rfl, ?_⟩) (by assumption) ?_
      rotate_left
      · intro w8 hSw; clear hSw; go_simp; (try with_reducible rfl)
      simp only [Act.put, List.getElem_toArray, List.getElem_cons_zero, List.getElem_cons_succ, List.setIfInBounds_toArray, List.set_cons_zero, List.set_cons_succ]
      refine wpAnyH_take (i := 8) (v := ?_) rfl (by kernel_rfl) (by kernel_rfl) (by kernel_rfl) (fun _ _ _ h => h) (Or.inl ⟨by rfl, ?_⟩) (by assumption) ?_
      rotate_left
      · intro w8 hSw; clear hSw; go_simp; (try with_reducible rfl)
      simp only [Act.put, List.getElem_toArray, List.getElem_cons_zero, List.getElem_cons_succ, List.setIfInBounds_toArray, List.set_cons_zero, List.set_cons_succ]
      refine wpAnyH_take (i := 9) (v := ?_) rfl (by kernel_rfl) (by kernel_rfl) (by kernel_rfl) (fun _ _ _ h => h) (Or.inl ⟨by rfl, ?_⟩) (by assumption) ?_
      rotate_left
      · intro w8 hSw; clear hSw; go_simp; (try with_reducible rfl)
      simp only [Act.put, List.getElem_toArray, List.getElem_cons_zero, List.getElem_cons_succ, List.setIfInBounds_toArray, List.set_cons_zero, List.set_cons_succ]
      refine wpAnyH_take (i := 10) (v := ?_) rfl (by kernel_rfl) (by kernel_rfl) (by kernel_rfl) (fun _ _ _ h => h) (Or.inl ⟨by rfl, ?_⟩) (by assumption) ?_
      rotate_left
      · intro w8 hSw; clear hSw; go_simp; (try with_reducible rfl)
      simp only [Act.put, List.getElem_toArray, List.getElem_cons_zero, List.getElem_cons_succ, List.setIfInBounds_toArray, List.set_cons_zero, List.set_cons_succ]
      refine wpAnyH_take (i := 11) (v := ?_) rfl (by kernel_rfl) (by kernel_rfl) (by kernel_rfl) (fun _ _ _ h => h) (Or.inl ⟨by rfl, ?_⟩) (by assumption) ?_
      rotate_left
      · intro w8 hSw; clear hSw; go_simp; (try with_reducible rfl)
      simp only [Act.put, List.getElem_toArray, List.getElem_cons_zero, List.getElem_cons_succ, List.setIfInBounds_toArray, List.set_cons_zero, List.set_cons_succ]
      refine wpAnyH_done (by kernel_rfl) ?_ _
      have hR3 := HR2.out.below hB6
      have hBt := below_on HB2.out hB6 (Nat.le_refl _)
      have Hpt := Lib.hid (put_ok V2 F r n k L ⟨ti, tg, td⟩ hR3 Hk.out (findI_none Hf.out) Hid2.out HN.out)
      unfold thVal at Hpt
      obtain ⟨d0, d1, d2, d3, d4, dl⟩ := Hcs.out V2 (below_on Hb2.out hB6 (Nat.le_refl _))
      have HBt := Lib.hid hBt
      have Hown := Lib.hid hown
      clear hR3 hBt c0 c1 c2 c3 c4 hown
      go_wp2_with fail
      refine Hpt.out.mono ?_
      rintro e V3 ⟨rfl, hR4, hG4⟩
      go_wp2_with fail
      go_ret2
      have hFlt : ∀ i, F i → i < W2.heap.size := HR2.out.bd
      have hnF : ∀ g, (Value.slice ao' (L.length + 1) cap').ownBlock = some g → ¬ F g := fun g hg hF => by
        have h1 := (Hown.out.lt g hg).1
        have h2 := hFlt g hF
        have h3 := hB5.size
        omega
      have hown3 := own_gr Hown.out hG4 (fun i hi => Nat.lt_of_lt_of_le (hFlt i hi) hB5.size)
      have hlen : (L ++ [((⟨ti, tg, td⟩ : Th), k)]).length = L.length + 1 := by simp
      refine ⟨_, n + 1, ao', cap', L ++ [((⟨ti, tg, td⟩ : Th), k)], by rw [hlen]; rfl, Nat.le_refl _, hR4, Rt.of_own (by rw [hlen]; exact hown3), fun a ha => ?_, (Gr.below HBt.out).then hG4 (fun i hi => .inl hi), fun i hi => ?_⟩
      · subst ha
        have h1 := hown3.lt a.block rfl
        have h2 := Hown.out.lt a.block rfl
        refine ⟨h1.2, fun hF => ?_⟩
        rcases hF with hF | hF
        · exact hnF a.block rfl hF
        · omega
      · rcases hi with hi | hi
        · exact .inl hi
        · exact .inr (Nat.le_trans HBt.out.size hi.1)
theorem took_len (L : RLs) (s : Int) : (Sta.srt leP (tookI L s)).length = (tookI L s).length := Sta.srt_len _ _
theorem took_row (L : RLs) (k : Nat) : (Sta.srt leP (tookI L (k : Nat))).map (·.1) = Sta.srt thLe (rowOf L k) := by rw [srt_map, tookI_nat]
theorem lookI (W : World) (F : Nat → Prop) (r n : Nat) (L : RLs) (s : Int) (h : Rng W F r n L) (hn : n ≤ 1000000) :
    Calls Tryd.prog 24 #[.pointer (some ⟨r, 0, none⟩), .int .i64 s] W fun e W' => ∃ (a : Option Addr) (c : Nat) (l : List Th), e = .returned (.slice a l.length c) ∧ Hid (l = (Sta.srt leP (tookI L s)).map (·.1)) ∧ Tt W' a c l ∧ Below W.heap.size W W' := by
  by_cases hs : s < 0 ∨ 64 ≤ s
  · refine (look_range W F r n L s h hs).mono ?_
    rintro e W' ⟨rfl, hb⟩
    exact ⟨none, 0, [], rfl, by show _ = _; rw [tookI_out L h.ok s hs]; rfl, Tt.nil _, hb⟩
  · obtain ⟨k, rfl, hk⟩ : ∃ k : Nat, s = (k : Int) ∧ k < 64 := ⟨s.toNat, by omega, by omega⟩
    refine (look_ok W F r n k L h hk hn).mono ?_
    rintro e W' ⟨v, rfl, hv, hb⟩
    obtain ⟨a, c, rfl⟩ := own_slice hv
    exact ⟨a, c, _, rfl, (took_row L k).symm, Tt.of_own hv, hb⟩
theorem takeI (W : World) (F : Nat → Prop) (r n : Nat) (L : RLs) (s : Int) (h : Rng W F r n L) (hn : n ≤ 1000000) :
    Calls Tryd.prog 19 #[.pointer (some ⟨r, 0, none⟩), .int .i64 s] W fun e W' => ∃ (a : Option Addr) (c : Nat) (l : List Th), e = .returned (.slice a l.length c) ∧ Hid (l = (Sta.srt leP (tookI L s)).map (·.1)) ∧ Tt W' a c l ∧ Rng W' F r n (leftI L s) ∧ Gr F W W' := by
  by_cases hs : s < 0 ∨ 64 ≤ s
  · refine (take_range W F r n L s h hs).mono ?_
    rintro e W' ⟨rfl, hb⟩
    exact ⟨none, 0, [], rfl, by show _ = _; rw [tookI_out L h.ok s hs]; rfl, Tt.nil _, by rw [leftI_out L h.ok s hs]; exact h.below hb, Gr.below hb⟩
  · obtain ⟨k, rfl, hk⟩ : ∃ k : Nat, s = (k : Int) ∧ k < 64 := ⟨s.toNat, by omega, by omega⟩
    refine (take_ok W F r n k L h hk hn).mono ?_
    rintro e W' ⟨v, rfl, hv, hr, hg⟩
    have hlen : (Sta.srt thLe (rowOf L k)).length = (rowOf L k).length := Sta.srt_len _ _
    rw [← hlen] at hv
    obtain ⟨a, c, rfl⟩ := own_slice hv
    exact ⟨a, c, _, rfl, (took_row L k).symm, Tt.of_own hv, by rw [leftI_nat]; exact hr, hg⟩
set_option maxRecDepth 100000 in
set_option maxHeartbeats 4000000 in
theorem do_take (W : World) (F : Nat → Prop) (r n : Nat) (L : RLs) (ao : Option Addr) (cap : Nat) (o : SOp) (hk : o.kind = 2) (hR : Rng W F r n L) (hRt : Rt W ao cap L) (hl : L.length ≤ 10000) (hn : n ≤ 1000000) :
    Calls Tryd.prog 14 #[.pointer (some ⟨r, 0, none⟩), .slice ao L.length cap, sopVal o] W (Done W F r n) := by
  obtain ⟨ok, os, ⟨ti, tg, td⟩⟩ := o
  simp only at hk
  subst hk
  obtain ⟨b, hbd⟩ : ∃ b, b = W.heap.size := ⟨_, rfl⟩
  obtain ⟨W1, hW1⟩ : ∃ W1, W1 = W.alloc (.cells #[.int .i64 2, .int .i64 os, .int .u64 ti, .int .u64 tg, .int .i64 td] opT) := ⟨_, rfl⟩
  have hB1 : Below W.heap.size W W1 := by rw [hW1]; exact below_new _ _
  have hc : W1.heap[b]? = some (.cells #[.int .i64 2, .int .i64 os, .int .u64 ti, .int .u64 tg, .int .i64 td] opT (0, 0)) := by rw [hW1, hbd]; exact heap_alloc_new _ _
  have hcs : ∀ W', Below W1.heap.size W1 W' → W'.cell? ⟨b, 0, none⟩ = some (.int .i64 2) ∧ W'.cell? ⟨b, 1, none⟩ = some (.int .i64 os) ∧ W'.cell? ⟨b, 2, none⟩ = some (.int .u64 ti) ∧ W'.cell? ⟨b, 3, none⟩ = some (.int .u64 tg) ∧ W'.cell? ⟨b, 4, none⟩ = some (.int .i64 td) ∧ b < W'.heap.size := fun W' hw => by
    have a := (hw.block _ (Array.getElem?_eq_some_iff.1 hc).1).trans hc
    have a0 := block_cell a 0
    have a1 := block_cell a 1
    have a2 := block_cell a 2
    have a3 := block_cell a 3
    have a4 := block_cell a 4
    simp at a0 a1 a2 a3 a4
    exact ⟨a0, a1, a2, a3, a4, (Array.getElem?_eq_some_iff.1 a).1⟩
  have Hcs := Lib.hid hcs
  have HRt := Lib.hid hRt
  have HL := Lib.hid hl
  have Hfd := Lib.hid (find_any W1 ao cap L ti (hRt.below hB1) hl)
  obtain ⟨c0, c1, c2, c3, c4, hbl⟩ := hcs W1 (Below.refl _ _)
  have HB1 := Lib.hid hB1
  have Hbd := Lib.hid hbd
  have hz1 : W.heap.size = b := hbd.symm
  clear hcs hRt hl hc hB1 hbd c0 c1 c3 c4
  unfold sopVal
  go_enter Tryd.func14, Tryd.ntmps14
  go_upto_region 1 with fail
  rw [← hW1]
  clear hW1 hz1
  go_wp2_with fail
  refine Hfd.out.mono ?_
  rintro e W2 ⟨rfl, hB2⟩
  obtain ⟨c0, c1, c2, c3, c4, hbl⟩ := Hcs.out W2 hB2
  have HB2 := Lib.hid (below_on HB1.out hB2 (Nat.le_refl _))
  have Hb2 := Lib.hid hB2
  clear hB2 Hfd HB1
  have hR2 := hR.below HB2.out
  have Hrt := Lib.hid (refTake_any W2 ao cap L os (HRt.out.below HB2.out) HL.out)
  have HR2 := Lib.hid hR2
  have HN := Lib.hid hn
  have hb0 : W.heap.size ≤ W2.heap.size := HB2.out.size
  have HFW := Lib.hid hR.bd
  obtain ⟨fv, hfv⟩ : ∃ fv, fv = findV L ti := ⟨_, rfl⟩
  rw [← hfv]
  clear hR hR2 hn hfv
  go_wp2_with fail
  refine Hrt.out.mono ?_
  rintro e W3 ⟨o1, c1', o2, c2', rfl, ho1, ho2, hB3⟩
  obtain ⟨d0, d1, d2, d3, d4, dl⟩ := Hcs.out W3 (below_on Hb2.out hB3 (Nat.le_refl _))
  have Hlk := Lib.hid (lookI W3 F r n L os (HR2.out.below hB3) HN.out)
  rw [← took_len] at ho2 ⊢
  have Ho1 := Lib.hid ho1
  have Ho2 := Lib.hid ho2
  have HB3 := Lib.hid hB3
  clear ho1 ho2 hB3 c0 c1 c2 c3 c4
  go_wp2_with fail
  refine Hlk.out.mono ?_
  rintro e W4 ⟨a4, c4', l4, rfl, hl4, ht4, hB4⟩
  obtain ⟨g0, g1, g2, g3, g4, gl⟩ := Hcs.out W4 (below_on (below_on Hb2.out HB3.out (Nat.le_refl _)) hB4 (Nat.le_refl _))
  have hll : (Sta.srt leP (tookI L os)).length ≤ 10000 := by rw [took_len]; exact Nat.le_trans (List.length_filter_le _ _) HL.out
  have hl4l : l4.length ≤ 10000 := by rw [hl4.out, List.length_map]; exact hll
  have hRt4 : Rt W4 o2 c2' (Sta.srt leP (tookI L os)) := (Rt.of_own Ho2.out).below hB4
  have Hsm := Lib.hid (same_any W4 a4 c4' l4 o2 c2' _ ht4 hRt4 (by omega) (by omega))
  have HB4 := Lib.hid hB4
  have HLL := Lib.hid hll
  have HRt4 := Lib.hid hRt4
  clear hB4 ht4 hll hl4l hRt4 d0 d1 d2 d3 d4
  go_wp2_with fail
  refine Hsm.out.mono ?_
  rintro e W5 ⟨rfl, hB5⟩
  have hdec : decide (l4 = (Sta.srt leP (tookI L os)).map (·.1)) = true := decide_eq_true hl4.out
  rw [hdec]
  obtain ⟨f0, f1, f2, f3, f4, fl⟩ := Hcs.out W5 (below_on (below_on (below_on Hb2.out HB3.out (Nat.le_refl _)) HB4.out (Nat.le_refl _)) hB5 (Nat.le_refl _))
  have hB25 := below_on (below_on HB3.out HB4.out (Nat.le_refl _)) hB5 (Nat.le_refl _)
  have Htk := Lib.hid (takeI W5 F r n L os (HR2.out.below hB25) HN.out)
  have HB5 := Lib.hid hB5
  have HB25 := Lib.hid hB25
  clear hB5 hB25 hdec g0 g1 g2 g3 g4
  go_wp2_with fail
  refine Htk.out.mono ?_
  rintro e W6 ⟨a6, c6', l6, rfl, hl6, ht6, hR6, hG6⟩
  have hF5 : ∀ i, F i → i < W2.heap.size := fun i hi => Nat.lt_of_lt_of_le (HFW.out i hi) hb0
  have hown2 : W6.ownsRow W2.heap.size rtT 4 (.slice o2 (Sta.srt leP (tookI L os)).length c2') (Sta.srt leP (tookI L os)).length (rtFlat (Sta.srt leP (tookI L os))) := own_gr (own_below (own_below Ho2.out HB4.out) HB5.out) hG6 hF5
  have hown1 := own_gr (own_below (own_below Ho1.out HB4.out) HB5.out) hG6 hF5
  have hl6l : l6.length ≤ 10000 := by rw [hl6.out, List.length_map]; exact HLL.out
  have Hsm2 := Lib.hid (same_any W6 a6 c6' l6 o2 c2' _ ht6 (Rt.of_own hown2) (by omega) (by have := HLL.out; omega))
  have HG6 := Lib.hid hG6
  have HR6 := Lib.hid hR6
  have Hw1 := Lib.hid hown1
  clear hG6 hR6 hown1 hown2 ht6 hl6l hF5 f0 f1 f2 f3 f4
  go_wp2_with fail
  refine Hsm2.out.mono ?_
  rintro e W7 ⟨rfl, hB7⟩
  have hdec : decide (l6 = (Sta.srt leP (tookI L os)).map (·.1)) = true := decide_eq_true hl6.out
  rw [hdec]
  go_wp2_with fail
  go_ret2
  have hw7 := own_below Hw1.out hB7
  refine ⟨F, n, o1, c1', leftI L os, rfl, Nat.le_succ _, HR6.out.below hB7, Rt.of_own hw7, fun a ha => ?_, ((Gr.below (below_on HB2.out HB25.out (Nat.le_refl _))).then HG6.out (fun i hi => .inl hi)).trans (Gr.below hB7), fun i hi => .inl hi⟩
  subst ha
  have h1 := hw7.lt a.block rfl
  exact ⟨h1.2, fun hF => by have := HFW.out _ hF; omega⟩
theorem Rt.cut1 {W : World} {bx fx cap : Nat} {L : RLs} (h : Rt W (some ⟨bx, fx, none⟩) cap L) (i : Nat) (hi : i < L.length) : Rt W (some ⟨bx, fx + i * 4, none⟩) (cap - i) [L[i]] := by
  have hp := h.piece i (i + 1) (Nat.le_succ _) hi
  have hle := h.sl.le
  have hne : cap ≠ i := by omega
  have e1 : (L.take (i + 1)).drop i = [L[i]] := by
    rw [← List.take_append_getElem hi, List.drop_append, List.drop_of_length_le (by rw [List.length_take]; omega), List.length_take, show i - min i L.length = 0 from by omega]
    rfl
  have e2 : (⟨bx, fx, none⟩ : Addr).add (i * 4) = ⟨bx, fx + i * 4, none⟩ := Addr.add_none _ _ _
  rw [if_neg hne, e1, show i + 1 - i = 1 from by omega, Option.map_some, e2] at hp
  exact ⟨rfl, by intro r hr; simp at hr; subst hr; rfl, hp, fun b off s e => by
    simp only [Option.some.injEq, Addr.mk.injEq] at e
    obtain ⟨rfl, -, -⟩ := e
    exact h.typ _ _ _ rfl⟩
theorem cut1_run (W : World) {bx fx cap : Nat} {L : RLs} (h : Rt W (some ⟨bx, fx, none⟩) cap L) (i : Nat) (hi : i < L.length) (W' : World) :
    (Instr.sliceAt 24 (.slice (some ⟨bx, fx, none⟩) L.length cap) (some (.int .i64 (i : Nat))) (some (.int .i64 ((i : Int) + 1))) none).run Tryd.prog W' = .ok (.slice (some ⟨bx, fx + i * 4, none⟩) 1 (cap - i)) W' := by
  have hle := h.sl.le
  have hne : cap ≠ i := by omega
  have := run_slice_sl (P := Tryd.prog) (w := W') Tryd.underlying24 szRt (some ⟨bx, fx, none⟩) L.length cap (some (.int .i64 (i : Nat))) (some (.int .i64 ((i + 1 : Nat) : Int))) i (i + 1) (.inl rfl) (.inl rfl) (Nat.le_succ _) (by omega)
  rw [if_neg hne, show i + 1 - i = 1 from by omega, Option.map_some, Addr.add_none] at this
  simpa using this
theorem sl_take {P : Program} {T : TypeId} {v a b c : Value} {W : World} {ρ : Operand → Value} {o : Oper} {x y z : Operand} (ho : o.op = .slice T x (some y) (some z) none) (h : (Instr.sliceAt T a (some b) (some c) none).run P W = .ok v W) (hx : ρ x = a) (hy : ρ y = b) (hz : ρ z = c) : (execOp ρ o).run P W = .ok (.value v) W := by
  unfold execOp
  simp [ho, hx, hy, hz, h]
theorem wrap_s (i : Nat) (h : i ≤ 10000) : IntKind.i64.wrap ((i : Int) + 1) = (i : Int) + 1 := by simp [IntKind.wrap, IntKind.signed, IntKind.bits]; omega
theorem own_th1 (w : World) (base : Nat) (t : Th) (hb : base ≤ w.heap.size) : (w.alloc (.cells #[.int .u64 t.id, .int .u64 t.gen, .int .i64 t.due] thT)).ownsRow base thT 3 (.slice (some ⟨w.heap.size, 0, .none⟩) 1 1) 1 (thFlat [t]) :=
  ⟨by simp [thFlat, thCells], .inr ⟨w.heap.size, 1, _, rfl, hb, heap_alloc_new w _, Nat.le_refl _, by unfold maxLen; omega, by simp, by simp [thFlat, thCells]⟩⟩
set_option maxRecDepth 100000 in
set_option maxHeartbeats 4000000 in
theorem do_get (W : World) (F : Nat → Prop) (r n : Nat) (L : RLs) (ao : Option Addr) (cap : Nat) (o : SOp) (hk : o.kind = 4) (hR : Rng W F r n L) (hRt : Rt W ao cap L) (hA : Apart W F ao) (hl : L.length ≤ 10000) (hn : n ≤ 1000000) (hid : IdOk o.t.id) :
    Calls Tryd.prog 14 #[.pointer (some ⟨r, 0, none⟩), .slice ao L.length cap, sopVal o] W (Done W F r n) := by
  obtain ⟨ok, os, ⟨ti, tg, td⟩⟩ := o
  simp only at hk
  subst hk
  obtain ⟨b, hbd⟩ : ∃ b, b = W.heap.size := ⟨_, rfl⟩
  obtain ⟨W1, hW1⟩ : ∃ W1, W1 = W.alloc (.cells #[.int .i64 4, .int .i64 os, .int .u64 ti, .int .u64 tg, .int .i64 td] opT) := ⟨_, rfl⟩
  have hB1 : Below W.heap.size W W1 := by rw [hW1]; exact below_new _ _
  have hc : W1.heap[b]? = some (.cells #[.int .i64 4, .int .i64 os, .int .u64 ti, .int .u64 tg, .int .i64 td] opT (0, 0)) := by rw [hW1, hbd]; exact heap_alloc_new _ _
  have hcs : ∀ W', Below W1.heap.size W1 W' → W'.cell? ⟨b, 0, none⟩ = some (.int .i64 4) ∧ W'.cell? ⟨b, 1, none⟩ = some (.int .i64 os) ∧ W'.cell? ⟨b, 2, none⟩ = some (.int .u64 ti) ∧ W'.cell? ⟨b, 3, none⟩ = some (.int .u64 tg) ∧ W'.cell? ⟨b, 4, none⟩ = some (.int .i64 td) ∧ b < W'.heap.size := fun W' hw => by
    have a := (hw.block _ (Array.getElem?_eq_some_iff.1 hc).1).trans hc
    have a0 := block_cell a 0
    have a1 := block_cell a 1
    have a2 := block_cell a 2
    have a3 := block_cell a 3
    have a4 := block_cell a 4
    simp at a0 a1 a2 a3 a4
    exact ⟨a0, a1, a2, a3, a4, (Array.getElem?_eq_some_iff.1 a).1⟩
  have Hcs := Lib.hid hcs
  have HRt := Lib.hid hRt
  have HL := Lib.hid hl
  have Hfd := Lib.hid (find_any W1 ao cap L ti (hRt.below hB1) hl)
  obtain ⟨c0, c1, c2, c3, c4, hbl⟩ := hcs W1 (Below.refl _ _)
  have HB1 := Lib.hid hB1
  have Hbd := Lib.hid hbd
  have hz1 : W.heap.size = b := hbd.symm
  clear hcs hRt hl hc hB1 hbd c0 c1 c3 c4
  unfold sopVal
  go_enter Tryd.func14, Tryd.ntmps14
  go_upto_region 1 with fail
  rw [← hW1]
  clear hW1 hz1
  go_wp2_with fail
  refine Hfd.out.mono ?_
  rintro e W2 ⟨rfl, hB2⟩
  obtain ⟨c0, c1, c2, c3, c4, hbl⟩ := Hcs.out W2 hB2
  have HB2 := Lib.hid (below_on HB1.out hB2 (Nat.le_refl _))
  have Hb2 := Lib.hid hB2
  clear hB2 Hfd HB1
  have hid : IdOk ti := hid
  have hR2 := hR.below HB2.out
  have hRt2 := HRt.out.below HB2.out
  have hD : ∀ W', Below W.heap.size W W' → Done W F r n (.returned (.tuple #[.slice ao L.length cap, .bool true])) W' := fun W' hw => ⟨F, n, ao, cap, L, rfl, Nat.le_succ _, hR.below hw, HRt.out.below hw, fun a ha => ⟨Nat.lt_of_lt_of_le (hA a ha).1 hw.size, (hA a ha).2⟩, Gr.below hw, fun i hi => .inl hi⟩
  have HD := Lib.hid hD
  clear hA hD
  cases hf : findI L ti with
  | none =>
    have hv : findV L ti = -1 := by unfold findV; rw [hf]
    rw [hv]
    have Hgt := Lib.hid (get_no W2 F r n L hR2 ti hid (findI_none hf))
    unfold thVal at Hgt
    clear hf hv hR hR2 hRt2 hid hn
    go_wp2_with fail
    refine Hgt.out.mono ?_
    rintro e W3 ⟨rfl, hB3⟩
    have HB3 := Lib.hid (below_on HB2.out hB3 (Nat.le_refl _))
    clear hB3 c0 c1 c2 c3 c4
    go_wp2_with fail
    obtain ⟨p, hp⟩ : ∃ p, p = W3.heap.size := ⟨_, rfl⟩
    obtain ⟨W4, hW4⟩ : ∃ W4, W4 = W3.alloc (.cells #[.int .u64 0, .int .u64 0, .int .i64 0] thT) := ⟨_, rfl⟩
    have hB4 := below_on HB3.out (below_new W3 (.cells #[.int .u64 0, .int .u64 0, .int .i64 0] thT)) (Nat.le_refl _)
    have hcp : W4.heap[p]? = some (.cells #[.int .u64 0, .int .u64 0, .int .i64 0] thT (0, 0)) := by rw [hW4, hp]; exact heap_alloc_new _ _
    rw [← hW4] at hB4
    first | rw [← hW4, ← hp] | rw [← hp, ← hW4]
    have e0 := block_cell hcp 0
    have e1 := block_cell hcp 1
    have e2 := block_cell hcp 2
    simp at e0 e1 e2
    have hldp : ∀ W', Below W4.heap.size W4 W' → (Instr.loadAt thT (.pointer (some ⟨p, 0, none⟩))).run Tryd.prog W' = .ok (thVal ⟨0, 0, 0⟩) W' := fun W' hw => by
      have hpl : p < W4.heap.size := (Array.getElem?_eq_some_iff.1 hcp).1
      exact loadTh (t := ⟨0, 0, 0⟩) ((hw.cell (p := ⟨p, 0, none⟩) hpl).trans e0) ((hw.cell (p := ⟨p, 1, none⟩) hpl).trans e1) ((hw.cell (p := ⟨p, 2, none⟩) hpl).trans e2)
    have Hldp := Lib.hid hldp
    have HB4 := Lib.hid hB4
    clear hldp hB4 hcp hW4 hp e0 e1 e2 HB3
    refine wp_region_held_drew (S := fun W' => Below W4.heap.size W4 W') (by kernel_rfl) (Below.refl _ W4).drew (fun hHeld => ?_)
    refine wpAnyH_take (i := 0) (v := ?_) rfl (by kernel_rfl) (by kernel_rfl) (by kernel_rfl) (fun _ _ _ h => h) (Or.inl ⟨by rfl, ?_⟩) (by assumption) ?_
    rotate_left
    · intro w8 hSw; clear hSw; go_simp; (try with_reducible rfl)
    simp only [Act.put, List.getElem_toArray, List.getElem_cons_zero, List.getElem_cons_succ, List.setIfInBounds_toArray, List.set_cons_zero, List.set_cons_succ]
    refine wpAnyH_take (i := 1) (v := ?_) rfl (by kernel_rfl) (by kernel_rfl) (by kernel_rfl) (fun _ _ _ h => h) (Or.inl ⟨by rfl, ?_⟩) (by assumption) ?_
    rotate_left
    · intro w8 hSw; clear hSw; go_simp; (try with_reducible rfl)
    simp only [Act.put, List.getElem_toArray, List.getElem_cons_zero, List.getElem_cons_succ, List.setIfInBounds_toArray, List.set_cons_zero, List.set_cons_succ]
    refine wpAnyH_take (i := 2) (v := ?_) rfl (by kernel_rfl) (by kernel_rfl) (by kernel_rfl) (fun _ _ _ h => h) (Or.inl ⟨by rfl, ?_⟩) (by assumption) ?_
    rotate_left
    · intro w8 hSw; clear hSw; go_simp; (try with_reducible rfl)
    simp only [Act.put, List.getElem_toArray, List.getElem_cons_zero, List.getElem_cons_succ, List.setIfInBounds_toArray, List.set_cons_zero, List.set_cons_succ]
    refine wpAnyH_take (i := 3) (v := ?_) rfl (by kernel_rfl) (by kernel_rfl) (by kernel_rfl) (fun _ _ _ h => h) (Or.inl ⟨by rfl, ?_⟩) (by assumption) ?_
    rotate_left
    · intro w8 hSw; clear hSw; go_simp; (try with_reducible rfl)
    simp only [Act.put, List.getElem_toArray, List.getElem_cons_zero, List.getElem_cons_succ, List.setIfInBounds_toArray, List.set_cons_zero, List.set_cons_succ]
    refine wpAnyH_take (i := 4) (v := ?_) rfl (by kernel_rfl) (by kernel_rfl) (by kernel_rfl) (fun _ _ _ h => h) (Or.inl ⟨by rfl, ?_⟩) (by assumption) ?_
    rotate_left
    · intro w8 hSw; clear hSw; go_simp; (try with_reducible rfl)
    simp only [Act.put, List.getElem_toArray, List.getElem_cons_zero, List.getElem_cons_succ, List.setIfInBounds_toArray, List.set_cons_zero, List.set_cons_succ]
    refine wpAnyH_take (i := 5) (v := ?_) rfl (by kernel_rfl) (by kernel_rfl) (by kernel_rfl) (fun _ _ _ h => h) (Or.inl ⟨by rfl, ?_⟩) (by assumption) ?_
    rotate_left
    · intro w8 hSw; clear hSw; go_simp; (try with_reducible rfl)
    simp only [Act.put, List.getElem_toArray, List.getElem_cons_zero, List.getElem_cons_succ, List.setIfInBounds_toArray, List.set_cons_zero, List.set_cons_succ]
    refine wpAnyH_take (i := 6) (v := ?_) rfl (by kernel_rfl) (by kernel_rfl) (by kernel_rfl) (fun _ _ _ h => h) (Or.inl ⟨by rfl, ?_⟩) (by assumption) ?_
    rotate_left
    · intro w8 hSw; clear hSw; go_simp; (try with_reducible rfl)
    simp only [Act.put, List.getElem_toArray, List.getElem_cons_zero, List.getElem_cons_succ, List.setIfInBounds_toArray, List.set_cons_zero, List.set_cons_succ]
    refine wpAnyH_take (i := 7) (v := ?_) rfl (by kernel_rfl) (by kernel_rfl) (by kernel_rfl) (fun _ _ _ h => h) (Or.inl ⟨by rfl, ?_⟩) (by assumption) ?_
    rotate_left
    · intro w8 hSw; clear hSw; go_simp; (try with_reducible rfl)
    simp only [Act.put, List.getElem_toArray, List.getElem_cons_zero, List.getElem_cons_succ, List.setIfInBounds_toArray, List.set_cons_zero, List.set_cons_succ]
    refine wpAnyH_take (i := 8) (v := thVal ⟨0, 0, 0⟩) rfl (by kernel_rfl) (by kernel_rfl) (by kernel_rfl) (fun _ _ _ h => h) (Or.inl ⟨by rfl, ?_⟩) (by assumption) ?_
    · intro w8 hSw; exact ld_takeT rfl (Hldp.out w8 hSw) rfl
    simp only [Act.put, List.getElem_toArray, List.getElem_cons_zero, List.getElem_cons_succ, List.setIfInBounds_toArray, List.set_cons_zero, List.set_cons_succ]
    try unfold thVal
    refine wpAnyH_take (i := 9) (v := ?_) rfl (by kernel_rfl) (by kernel_rfl) (by kernel_rfl) (fun _ _ _ h => h) (Or.inl ⟨by rfl, ?_⟩) (by assumption) ?_
    rotate_left
    · intro w8 hSw; clear hSw; go_simp; (try with_reducible rfl)
    simp only [Act.put, List.getElem_toArray, List.getElem_cons_zero, List.getElem_cons_succ, List.setIfInBounds_toArray, List.set_cons_zero, List.set_cons_succ]
    refine wpAnyH_take (i := 10) (v := ?_) rfl (by kernel_rfl) (by kernel_rfl) (by kernel_rfl) (fun _ _ _ h => h) (Or.inl ⟨by rfl, ?_⟩) (by assumption) ?_
    rotate_left
    · intro w8 hSw; clear hSw; go_simp; (try with_reducible rfl)
    simp only [Act.put, List.getElem_toArray, List.getElem_cons_zero, List.getElem_cons_succ, List.setIfInBounds_toArray, List.set_cons_zero, List.set_cons_succ]
    refine wpAnyH_take (i := 11) (v := ?_) rfl (by kernel_rfl) (by kernel_rfl) (by kernel_rfl) (fun _ _ _ h => h) (Or.inl ⟨by rfl, ?_⟩) (by assumption) ?_
    rotate_left
    · intro w8 hSw; clear hSw; go_simp; (try with_reducible rfl)
    simp only [Act.put, List.getElem_toArray, List.getElem_cons_zero, List.getElem_cons_succ, List.setIfInBounds_toArray, List.set_cons_zero, List.set_cons_succ]
    refine wpAnyH_take (i := 12) (v := ?_) rfl (by kernel_rfl) (by kernel_rfl) (by kernel_rfl) (fun _ _ _ h => h) (Or.inl ⟨by rfl, ?_⟩) (by assumption) ?_
    rotate_left
    · intro w8 hSw; clear hSw; go_simp; (try with_reducible rfl)
    simp only [Act.put, List.getElem_toArray, List.getElem_cons_zero, List.getElem_cons_succ, List.setIfInBounds_toArray, List.set_cons_zero, List.set_cons_succ]
    refine wpAnyH_take (i := 13) (v := ?_) rfl (by kernel_rfl) (by kernel_rfl) (by kernel_rfl) (fun _ _ _ h => h) (Or.inl ⟨by rfl, ?_⟩) (by assumption) ?_
    rotate_left
    · intro w8 hSw; clear hSw; go_simp; (try with_reducible rfl)
    simp only [Act.put, List.getElem_toArray, List.getElem_cons_zero, List.getElem_cons_succ, List.setIfInBounds_toArray, List.set_cons_zero, List.set_cons_succ]
    refine wpAnyH_done (by kernel_rfl) ?_ _
    go_wp2_with fail
    go_ret2
    exact HD.out _ HB4.out.drew
  | some i =>
    obtain ⟨hi, hi1, -⟩ := findI_some hf
    have hv : findV L ti = (i : Int) := by unfold findV; rw [hf]
    rw [hv]
    have hgt := get_yes W2 F r n L hR2 L[i] (List.getElem_mem hi) hn
    obtain ⟨bx, fx, rfl, hbx, -, -, -, k3⟩ := Rt.cells hRt2 i hi
    have hct := Rt.cut1 hRt2 i hi
    have hsr := cut1_run W2 hRt2 i hi
    obtain ⟨⟨⟨yi, yg, yd⟩, yk⟩, hy⟩ : ∃ y, y = L[i] := ⟨_, rfl⟩
    rw [← hy] at hgt hi1 hct k3
    simp only at hi1 hgt k3
    subst hi1
    unfold thVal at hgt
    obtain ⟨x1, x2⟩ := i_nums i L.length hi
    have n1 : ¬ (i : Int) < 0 := by omega
    have w1 : wrap64 ((i : Int) + 1) = (i : Int) + 1 := IntWalk.wrap64_in _ (by have := HL.out; omega)
    have HW17 := Lib.hid (wrap_s i (Nat.le_trans (Nat.le_of_lt hi) HL.out))
    have Hgt := Lib.hid hgt
    have Hct := Lib.hid hct
    have Hk3 := Lib.hid k3
    have Hbx := Lib.hid hbx
    clear hf hv hR hR2 hRt2 hid hn hgt hct k3 hbx hy hi
    go_wp2_with fail
    refine Hgt.out.mono ?_
    rintro e W3 ⟨rfl, hB3⟩
    have HB3 := Lib.hid (below_on HB2.out hB3 (Nat.le_refl _))
    have Hb23 := Lib.hid hB3
    clear hB3 c0 c1 c2 c3 c4
    go_wp2_with fail
    obtain ⟨p, hp⟩ : ∃ p, p = W3.heap.size := ⟨_, rfl⟩
    obtain ⟨W4, hW4⟩ : ∃ W4, W4 = W3.alloc (.cells #[.int .u64 yi, .int .u64 yg, .int .i64 yd] thT) := ⟨_, rfl⟩
    have hB4 := below_on HB3.out (below_new W3 (.cells #[.int .u64 yi, .int .u64 yg, .int .i64 yd] thT)) (Nat.le_refl _)
    have hB24 := below_on Hb23.out (below_new W3 (.cells #[.int .u64 yi, .int .u64 yg, .int .i64 yd] thT)) (Nat.le_refl _)
    have hcp : W4.heap[p]? = some (.cells #[.int .u64 yi, .int .u64 yg, .int .i64 yd] thT (0, 0)) := by rw [hW4, hp]; exact heap_alloc_new _ _
    rw [← hW4] at hB4 hB24
    first | rw [← hW4, ← hp] | rw [← hp, ← hW4]
    have e0 := block_cell hcp 0
    have e1 := block_cell hcp 1
    have e2 := block_cell hcp 2
    simp at e0 e1 e2
    have hldp : ∀ W', Below W4.heap.size W4 W' → (Instr.loadAt thT (.pointer (some ⟨p, 0, none⟩))).run Tryd.prog W' = .ok (thVal ⟨yi, yg, yd⟩) W' ∧ (Instr.loadAt 3 (.pointer (some ⟨bx, fx + i * 4 + 3, none⟩))).run Tryd.prog W' = .ok (.int .i64 (yk : Nat)) W' := fun W' hw => by
      have hpl : p < W4.heap.size := (Array.getElem?_eq_some_iff.1 hcp).1
      exact ⟨loadTh (t := ⟨yi, yg, yd⟩) ((hw.cell (p := ⟨p, 0, none⟩) hpl).trans e0) ((hw.cell (p := ⟨p, 1, none⟩) hpl).trans e1) ((hw.cell (p := ⟨p, 2, none⟩) hpl).trans e2), loadI (((below_on hB24 hw (Nat.le_refl _)).cell (p := ⟨bx, fx + i * 4 + 3, none⟩) Hbx.out).trans Hk3.out)⟩
    have hct4 : ∀ W', Below W4.heap.size W4 W' → Rt W' (some ⟨bx, fx + i * 4, none⟩) (cap - i) [((⟨yi, yg, yd⟩ : Th), yk)] := fun W' hw => Hct.out.below (below_on hB24 hw (Nat.le_refl _))
    have Hct4 := Lib.hid hct4
    have Hldp := Lib.hid hldp
    have HB4 := Lib.hid hB4
    clear hldp hB4 hB24 hcp hW4 hp e0 e1 e2 HB3 hct4
    refine wp_region_held_drew (S := fun W' => Below W4.heap.size W4 W') (by kernel_rfl) (Below.refl _ W4).drew (fun hHeld => ?_)
    obtain ⟨V0, hV0⟩ : ∃ V0, V0 = W4.drew := ⟨_, rfl⟩
    rw [← hV0] at hHeld ⊢
    clear hV0
    have hB5 := hHeld
    refine wpAnyH_take (i := 0) (v := ?_) rfl (by kernel_rfl) (by kernel_rfl) (by kernel_rfl) (fun _ _ _ h => h) (Or.inl ⟨by rfl, ?_⟩) (by assumption) ?_
    rotate_left
    · intro w8 hSw; clear hSw; go_simp; (try with_reducible rfl)
    simp only [Act.put, List.getElem_toArray, List.getElem_cons_zero, List.getElem_cons_succ, List.setIfInBounds_toArray, List.set_cons_zero, List.set_cons_succ]
    refine wpAnyH_take (i := 1) (v := ?_) rfl (by kernel_rfl) (by kernel_rfl) (by kernel_rfl) (fun _ _ _ h => h) (Or.inl ⟨by rfl, ?_⟩) (by assumption) ?_
    rotate_left
    · intro w8 hSw; clear hSw; go_simp; (try with_reducible rfl)
    simp only [Act.put, List.getElem_toArray, List.getElem_cons_zero, List.getElem_cons_succ, List.setIfInBounds_toArray, List.set_cons_zero, List.set_cons_succ]
    refine wpAnyH_take (i := 2) (v := ?_) rfl (by kernel_rfl) (by kernel_rfl) (by kernel_rfl) (fun _ _ _ h => h) (Or.inl ⟨by rfl, ?_⟩) (by assumption) ?_
    rotate_left
    · intro w8 hSw; clear hSw; go_simp; (try with_reducible rfl)
    simp only [Act.put, List.getElem_toArray, List.getElem_cons_zero, List.getElem_cons_succ, List.setIfInBounds_toArray, List.set_cons_zero, List.set_cons_succ]
    refine wpAnyH_take (i := 3) (v := ?_) rfl (by kernel_rfl) (by kernel_rfl) (by kernel_rfl) (fun _ _ _ h => h) (Or.inl ⟨by rfl, ?_⟩) (by assumption) ?_
    rotate_left
    · intro w8 hSw; clear hSw; go_simp; (try with_reducible rfl)
    simp only [Act.put, List.getElem_toArray, List.getElem_cons_zero, List.getElem_cons_succ, List.setIfInBounds_toArray, List.set_cons_zero, List.set_cons_succ]
    refine wpAnyH_take (i := 4) (v := ?_) rfl (by kernel_rfl) (by kernel_rfl) (by kernel_rfl) (fun _ _ _ h => h) (Or.inl ⟨by rfl, ?_⟩) (by assumption) ?_
    rotate_left
    · intro w8 hSw; clear hSw; go_simp; (try with_reducible rfl)
    simp only [Act.put, List.getElem_toArray, List.getElem_cons_zero, List.getElem_cons_succ, List.setIfInBounds_toArray, List.set_cons_zero, List.set_cons_succ]
    refine wpAnyH_take (i := 5) (v := ?_) rfl (by kernel_rfl) (by kernel_rfl) (by kernel_rfl) (fun _ _ _ h => h) (Or.inl ⟨by rfl, ?_⟩) (by assumption) ?_
    rotate_left
    · intro w8 hSw; clear hSw; go_simp; (try with_reducible rfl)
    simp only [Act.put, List.getElem_toArray, List.getElem_cons_zero, List.getElem_cons_succ, List.setIfInBounds_toArray, List.set_cons_zero, List.set_cons_succ]
    refine wpAnyH_take (i := 6) (v := ?_) rfl (by kernel_rfl) (by kernel_rfl) (by kernel_rfl) (fun _ _ _ h => h) (Or.inl ⟨by rfl, ?_⟩) (by assumption) ?_
    rotate_left
    · intro w8 hSw; clear hSw; go_simp; (try with_reducible rfl)
    simp only [Act.put, List.getElem_toArray, List.getElem_cons_zero, List.getElem_cons_succ, List.setIfInBounds_toArray, List.set_cons_zero, List.set_cons_succ]
    refine wpAnyH_take (i := 7) (v := ?_) rfl (by kernel_rfl) (by kernel_rfl) (by kernel_rfl) (fun _ _ _ h => h) (Or.inl ⟨by rfl, ?_⟩) (by assumption) ?_
    rotate_left
    · intro w8 hSw; clear hSw; go_simp; (try with_reducible rfl)
    simp only [Act.put, List.getElem_toArray, List.getElem_cons_zero, List.getElem_cons_succ, List.setIfInBounds_toArray, List.set_cons_zero, List.set_cons_succ]
    refine wpAnyH_take (i := 8) (v := .int .i64 (yk : Nat)) rfl (by kernel_rfl) (by kernel_rfl) (by kernel_rfl) (fun _ _ _ h => h) (Or.inl ⟨by rfl, ?_⟩) (by assumption) ?_
    · intro w8 hSw; exact ld_takeT rfl (Hldp.out w8 hSw).2 rfl
    simp only [Act.put, List.getElem_toArray, List.getElem_cons_zero, List.getElem_cons_succ, List.setIfInBounds_toArray, List.set_cons_zero, List.set_cons_succ]
    refine wpAnyH_take (i := 9) (v := ?_) rfl (by kernel_rfl) (by kernel_rfl) (by kernel_rfl) (fun _ _ _ h => h) (Or.inl ⟨by rfl, ?_⟩) (by assumption) ?_
    rotate_left
    · intro w8 hSw; clear hSw; go_simp; (try with_reducible rfl)
    simp only [Act.put, List.getElem_toArray, List.getElem_cons_zero, List.getElem_cons_succ, List.setIfInBounds_toArray, List.set_cons_zero, List.set_cons_succ]
    refine wpAnyH_take (i := 10) (v := ?_) rfl (by kernel_rfl) (by kernel_rfl) (by kernel_rfl) (fun _ _ _ h => h) (Or.inl ⟨by rfl, ?_⟩) (by assumption) ?_
    rotate_left
    · intro w8 hSw; clear hSw; go_simp; (try with_reducible rfl)
    simp only [Act.put, List.getElem_toArray, List.getElem_cons_zero, List.getElem_cons_succ, List.setIfInBounds_toArray, List.set_cons_zero, List.set_cons_succ]
    refine wpAnyH_take (i := 11) (v := ?_) rfl (by kernel_rfl) (by kernel_rfl) (by kernel_rfl) (fun _ _ _ h => h) (Or.inl ⟨by rfl, ?_⟩) (by assumption) ?_
    rotate_left
    · intro w8 hSw; clear hSw; go_simp; (try with_reducible rfl)
    simp only [Act.put, List.getElem_toArray, List.getElem_cons_zero, List.getElem_cons_succ, List.setIfInBounds_toArray, List.set_cons_zero, List.set_cons_succ]
    refine wpAnyH_take (i := 12) (v := thVal ⟨yi, yg, yd⟩) rfl (by kernel_rfl) (by kernel_rfl) (by kernel_rfl) (fun _ _ _ h => h) (Or.inl ⟨by rfl, ?_⟩) (by assumption) ?_
    · intro w8 hSw; exact ld_takeT rfl (Hldp.out w8 hSw).1 rfl
    simp only [Act.put, List.getElem_toArray, List.getElem_cons_zero, List.getElem_cons_succ, List.setIfInBounds_toArray, List.set_cons_zero, List.set_cons_succ]
    unfold thVal
    refine wpAnyH_take (i := 14) (v := ?_) rfl (by kernel_rfl) (by kernel_rfl) (by kernel_rfl) (fun _ _ _ h => h) (Or.inl ⟨by rfl, ?_⟩) (by assumption) ?_
    rotate_left
    · intro w8 hSw; clear hSw; go_simp; (try with_reducible rfl)
    simp only [Act.put, List.getElem_toArray, List.getElem_cons_zero, List.getElem_cons_succ, List.setIfInBounds_toArray, List.set_cons_zero, List.set_cons_succ]
    refine wpAnyH_take (i := 15) (v := ?_) rfl (by kernel_rfl) (by kernel_rfl) (by kernel_rfl) (fun _ _ _ h => h) (Or.inl ⟨by rfl, ?_⟩) (by assumption) ?_
    rotate_left
    · intro w8 hSw; clear hSw; go_simp; (try with_reducible rfl)
    simp only [Act.put, List.getElem_toArray, List.getElem_cons_zero, List.getElem_cons_succ, List.setIfInBounds_toArray, List.set_cons_zero, List.set_cons_succ]
    refine wpAnyH_take (i := 16) (v := ?_) rfl (by kernel_rfl) (by kernel_rfl) (by kernel_rfl) (fun _ _ _ h => h) (Or.inl ⟨by rfl, ?_⟩) (by assumption) ?_
    rotate_left
    · intro w8 hSw; clear hSw; go_simp; (try with_reducible rfl)
    simp only [Act.put, List.getElem_toArray, List.getElem_cons_zero, List.getElem_cons_succ, List.setIfInBounds_toArray, List.set_cons_zero, List.set_cons_succ]
    refine wpAnyH_take (i := 17) (v := .int .i64 ((i : Int) + 1)) rfl (by kernel_rfl) (by kernel_rfl) (by kernel_rfl) (fun _ _ _ h => h) (Or.inl ⟨by rfl, ?_⟩) (by assumption) ?_
    · intro w8 hSw; clear hSw; go_simp; exact HW17.out
    simp only [Act.put, List.getElem_toArray, List.getElem_cons_zero, List.getElem_cons_succ, List.setIfInBounds_toArray, List.set_cons_zero, List.set_cons_succ]
    refine wpAnyH_take (i := 18) (v := .slice (some ⟨bx, fx + i * 4, none⟩) 1 (cap - i)) rfl (by kernel_rfl) (by kernel_rfl) (by kernel_rfl) (fun _ _ _ h => h) (Or.inl ⟨by rfl, ?_⟩) (by assumption) ?_
    · intro w8 hSw; clear hSw; have h8 := hsr w8; exact sl_take rfl h8 rfl rfl rfl
    simp only [Act.put, List.getElem_toArray, List.getElem_cons_zero, List.getElem_cons_succ, List.setIfInBounds_toArray, List.set_cons_zero, List.set_cons_succ]
    refine wpAnyH_ready (rs := [13]) (by kernel_rfl) (by simp) ?_
    refine AllReadyH.cons rfl (fun K hK => ?_) AllReadyH.nil
    go_simp
    obtain ⟨V1, hX⟩ : ∃ X, X = V0.alloc (.cells #[.int .u64 yi, .int .u64 yg, .int .i64 yd] thT) := ⟨_, rfl⟩
    have own1 := own_th1 V0 0 ⟨yi, yg, yd⟩ (Nat.zero_le _)
    have hBx := below_on hB5 (below_new V0 (.cells #[.int .u64 yi, .int .u64 yg, .int .i64 yd] thT)) (Nat.le_refl _)
    obtain ⟨g1, hg⟩ : ∃ g, g = V0.heap.size := ⟨_, rfl⟩
    simp only at own1
    rw [← hX] at own1 hBx
    rw [← hg] at own1
    have HX := Lib.hid hX
    have HG := Lib.hid hg
    clear hX hg
    rw [show V0.alloc (.cells #[.int .u64 yi, .int .u64 yg, .int .i64 yd] thT) = V1 from HX.out.symm, ← HG.out]
    refine hK.out _ _ hBx (fun hHeld => ?_)
    clear hK K HX HG
    try simp only [Act.put, List.getElem_toArray, List.getElem_cons_zero, List.getElem_cons_succ, List.setIfInBounds_toArray, List.set_cons_zero, List.set_cons_succ]
    have Hsm : Hid (Calls Tryd.prog 11 #[.slice (some ⟨g1, 0, none⟩) 1 1, .slice (some ⟨bx, fx + i * 4, none⟩) 1 (cap - i)] V1 fun e W' => e = .returned (.bool true) ∧ Below V1.heap.size V1 W') := by
      have := same_any V1 (some ⟨g1, 0, none⟩) 1 [⟨yi, yg, yd⟩] (some ⟨bx, fx + i * 4, none⟩) (cap - i) [((⟨yi, yg, yd⟩ : Th), yk)] (Tt.of_own own1) (Hct4.out _ hBx) (by simp) (by simp)
      simp at this; exact this
    clear own1
    refine wpAnyH_ready (rs := [19]) (by kernel_rfl) (by simp) ?_
    refine AllReadyH.cons rfl (fun K hK => ?_) AllReadyH.nil
    go_simp
    go_at_call 11
    refine (Hsm.out).mono ?_
    rintro e V2 ⟨rfl, hB6'⟩; have hB6 := below_on hBx hB6' (Nat.le_refl _)
    refine hK.out _ _ hB6 (fun hHeld => ?_)
    clear hK K
    try simp only [Act.put, List.getElem_toArray, List.getElem_cons_zero, List.getElem_cons_succ, List.setIfInBounds_toArray, List.set_cons_zero, List.set_cons_succ]
    refine wpAnyH_take (i := 20) (v := ?_) rfl (by kernel_rfl) (by kernel_rfl) (by kernel_rfl) (fun _ _ _ h => h) (Or.inl ⟨by rfl, ?_⟩) (by assumption) ?_
    rotate_left
    · intro w8 hSw; clear hSw; go_simp; (try with_reducible rfl)
    simp only [Act.put, List.getElem_toArray, List.getElem_cons_zero, List.getElem_cons_succ, List.setIfInBounds_toArray, List.set_cons_zero, List.set_cons_succ]
    refine wpAnyH_take (i := 21) (v := ?_) rfl (by kernel_rfl) (by kernel_rfl) (by kernel_rfl) (fun _ _ _ h => h) (Or.inl ⟨by rfl, ?_⟩) (by assumption) ?_
    rotate_left
    · intro w8 hSw; clear hSw; go_simp; (try with_reducible rfl)
    simp only [Act.put, List.getElem_toArray, List.getElem_cons_zero, List.getElem_cons_succ, List.setIfInBounds_toArray, List.set_cons_zero, List.set_cons_succ]
    refine wpAnyH_take (i := 22) (v := ?_) rfl (by kernel_rfl) (by kernel_rfl) (by kernel_rfl) (fun _ _ _ h => h) (Or.inl ⟨by rfl, ?_⟩) (by assumption) ?_
    rotate_left
    · intro w8 hSw; clear hSw; go_simp; (try with_reducible rfl)
    simp only [Act.put, List.getElem_toArray, List.getElem_cons_zero, List.getElem_cons_succ, List.setIfInBounds_toArray, List.set_cons_zero, List.set_cons_succ]
    refine wpAnyH_done (by kernel_rfl) ?_ _
    go_wp2_with fail
    go_ret2
    exact HD.out _ (below_on HB4.out hB6 (Nat.le_refl _))
end Go.Proofs.YtadghaiengonoaaDoor
