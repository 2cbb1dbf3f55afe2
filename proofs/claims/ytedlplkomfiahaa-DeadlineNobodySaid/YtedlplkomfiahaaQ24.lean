/- Lemmas for DeadlinePlays (Dk). No statement of the seat is proved here. -/
import Derived.Test.YtedlplkomfiahaaQ23
namespace Go.Proofs.Ytedlplkomfiahaa
set_option linter.unusedVariables false
set_option linter.unusedSimpArgs false
set_option linter.unusedSectionVars false
open Go Go.RowKit Go.Maps Go.Deep
theorem guard_thv13 (op : BinOp) (p q : Operand) (x y : Th) (w : World) : (eqGuard op thT p q (thVal x) (thVal y)).run Try.prog w = .ok () w := run_eqGuard_agg w op _ p q _ _ (by kernel_rfl)
set_option maxRecDepth 100000 in
set_option maxHeartbeats 8000000 in
theorem ddo_get (Wb W : World) (G : Nat → Prop) (b : Nat) (now last : Int) (X : List Th) (ao : Option Addr) (cap : Nat) (o : DOp) (hk : o.kind = 3) (hW : Bk Wb W G b now last X) (hR : Rt W ao cap (slot0 X)) (hA : RAp W G ao) (hid : IdOk o.id) :
    Calls Try.prog 18 #[.pointer (some ⟨b, 0, none⟩), dsV now last ao X.length cap, dopVal o] W (DDone Wb W G b ao) := by
  obtain ⟨ok, oi, oa⟩ := o
  unfold dsV dopVal
  simp only at hk hid
  subst hk
  obtain ⟨W1, hW1⟩ : ∃ W1, W1 = W.alloc (.cells #[.int .i64 now, .int .u64 last, .slice ao X.length cap] rsT) := ⟨_, rfl⟩
  obtain ⟨W2, hW2⟩ : ∃ W2, W2 = W1.alloc (.cells #[.int .i64 3, .int .u64 oi, .int .i64 oa] dopT) := ⟨_, rfl⟩
  obtain ⟨W3, hW3⟩ : ∃ W3, W3 = W2.alloc (.cells #[.int .i64 0, .int .u64 0, .slice none 0 0] rsT) := ⟨_, rfl⟩
  obtain ⟨b1, hb1⟩ : ∃ b, b = W.heap.size := ⟨_, rfl⟩
  obtain ⟨b2, hb2⟩ : ∃ b, b = W.heap.size + 1 := ⟨_, rfl⟩
  obtain ⟨b3, hb3⟩ : ∃ b, b = W.heap.size + 1 + 1 := ⟨_, rfl⟩
  have z1 : W1.heap.size = W.heap.size + 1 := by rw [hW1]; simp
  have z2 : W2.heap.size = W.heap.size + 1 + 1 := by rw [hW2]; simp [z1]
  have B1 : Below W.heap.size W W1 := by rw [hW1]; exact below_new _ _
  have B2 : Below W1.heap.size W1 W2 := by rw [hW2]; exact below_new _ _
  have B3 : Below W2.heap.size W2 W3 := by rw [hW3]; exact below_new _ _
  have hB3 := below_on (below_on B1 B2 (Nat.le_refl _)) B3 (Nat.le_refl _)
  have t1 : W3.heap[b1]? = some (.cells #[.int .i64 now, .int .u64 last, .slice ao X.length cap] rsT (0, 0)) := by
    rw [B3.block b1 (by omega), B2.block b1 (by omega), hW1, hb1]; exact heap_alloc_new _ _
  have t2 : W3.heap[b2]? = some (.cells #[.int .i64 3, .int .u64 oi, .int .i64 oa] dopT (0, 0)) := by
    rw [B3.block b2 (by omega), hW2, hb2, ← z1]; exact heap_alloc_new _ _
  have t3 : W3.heap[b3]? = some (.cells #[.int .i64 0, .int .u64 0, .slice none 0 0] rsT (0, 0)) := by
    rw [hW3, hb3, ← z2]; exact heap_alloc_new _ _
  have Hup : Hid (W.heap.size ≤ b1 ∧ W.heap.size ≤ b2 ∧ W.heap.size ≤ b3) := ⟨by omega, by omega, by omega⟩
  have Hap : Hid (b1 ≠ b2 ∧ b1 ≠ b3 ∧ b2 ≠ b3) := ⟨by omega, by omega, by omega⟩
  have HB3 := Lib.hid hB3
  have T1 := Lib.hid t1
  have T2 := Lib.hid t2
  have T3 := Lib.hid t3
  clear z1 z2 B1 B2 B3 hB3 t1 t2 t3
  have p0 := block_cell T1.out 0
  have p1 := block_cell T1.out 1
  have p2 := block_cell T1.out 2
  have c0 := block_cell T2.out 0
  have c1 := block_cell T2.out 1
  have c2 := block_cell T2.out 2
  have l1 := (Array.getElem?_eq_some_iff.1 T1.out).1
  have l2 := (Array.getElem?_eq_some_iff.1 T2.out).1
  simp at p0 p1 p2 c0 c1 c2
  have HWo := Lib.hid hW
  have HRt := Lib.hid hR
  have HA := Lib.hid hA
  have Hid2 := Lib.hid hid
  have HRt4 := Lib.hid (hR.below HB3.out)
  have Hx := Lib.hid (And.intro hW.okX.2.2.2.2 hW.okX.2.2.1)
  have HF : Hid (∀ i, W.heap.size ≤ i → ¬ G i) := (fun i hi h => by have := hW.bd i h; omega : ∀ i, W.heap.size ≤ i → ¬ G i)
  have Hl3 := Lib.hid (Array.getElem?_eq_some_iff.1 T3.out).1
  clear hW hR hA hid
  go_enter Try.func18, Try.ntmps18
  go_upto_region 1 with fail
  rw [← hW1, ← hW2, ← hW3, ← hb3, ← hb2, ← hb1]
  clear hW1 hW2 hW3 hb1 hb2 hb3
  have Hg := Lib.hid (bget_o (HWo.out.below HB3.out) oi Hid2.out)
  go_wp2_with fail
  refine (show Calls _ _ _ _ _ from Hg.out).mono ?_
  rintro e V1 ⟨rfl, hb⟩
  obtain ⟨⟨yi, yg, yd⟩, hy⟩ : ∃ y, y = canT X oi := ⟨_, rfl⟩
  obtain ⟨bo, hbo⟩ : ∃ bo, bo = canB X oi := ⟨_, rfl⟩
  rw [← hy, ← hbo]
  unfold thVal
  have d1 := bx_below hb T1.out
  have d2 := bx_below hb T2.out
  have p0 := block_cell d1 0
  have p1 := block_cell d1 1
  have p2 := block_cell d1 2
  have c0 := block_cell d2 0
  have c1 := block_cell d2 1
  have c2 := block_cell d2 2
  have l1 := (Array.getElem?_eq_some_iff.1 d1).1
  have l2 := (Array.getElem?_eq_some_iff.1 d2).1
  simp at p0 p1 p2 c0 c1 c2
  clear d1 d2
  have HY := Lib.hid (And.intro hy hbo)
  have HV1 := Lib.hid hb
  clear hy hbo hb
  obtain ⟨Z, hZ⟩ : ∃ Z, Z = V1.alloc (.cells #[.int .u64 yi, .int .u64 yg, .int .i64 yd] thT) := ⟨_, rfl⟩
  obtain ⟨b5, hb5⟩ : ∃ b, b = V1.heap.size := ⟨_, rfl⟩
  have hBZ : Below V1.heap.size V1 Z := by rw [hZ]; exact below_new _ _
  have x5 : Z.heap[b5]? = some (.cells #[.int .u64 yi, .int .u64 yg, .int .i64 yd] thT (0, 0)) := by rw [hZ, hb5]; exact heap_alloc_new _ _
  have hn5 : V1.heap.size ≤ b5 := by omega
  have X5 := Lib.hid x5
  have HN := Lib.hid hn5
  have HBZ := Lib.hid (below_on HV1.out hBZ (Nat.le_refl _))
  clear hBZ x5 hn5
  have hfi := find_any Z ao cap (slot0 X) oi (HRt4.out.below HBZ.out) (by rw [slot0_len]; have := Hx.out.1; omega)
  rw [slot0_len] at hfi
  have Hfi := Lib.hid hfi
  clear hfi
  go_wp2_with fail
  rw [← hZ, ← hb5]
  clear hZ hb5
  refine Hfi.out.mono ?_
  rintro e V9 ⟨rfl, hb9⟩
  have HB9 := Lib.hid (below_on HBZ.out hb9 (Nat.le_refl _))
  have Y5 := Lib.hid (bx_below hb9 X5.out)
  have Y1 := Lib.hid (bx_below (below_on HBZ.out hb9 (Nat.le_refl _)) T1.out)
  have Hne : Hid (b1 ≠ b3 ∧ b5 ≠ b3) := (by have h7 := Hl3.out; have h8 := HV1.out.size; have h9 := HN.out; have h6 := Hap.out; exact ⟨by omega, by omega⟩ : b1 ≠ b3 ∧ b5 ≠ b3)
  clear hb9 p0 p1 p2 c0 c1 c2 l1 l2
  by_cases hin : ∃ u ∈ X, u.id = oi
  · obtain ⟨k, hk, hki, hv⟩ := findV_yes hin
    rw [hv]
    have hcy := can_yes Hx.out.2 (List.getElem_mem hk)
    rw [hki] at hcy
    have hyk : (⟨yi, yg, yd⟩ : Th) = X[k] := HY.out.1.trans hcy.1
    obtain rfl : bo = true := HY.out.2.trans hcy.2
    obtain ⟨bx, fx, rfl, hbx, c0', c1', c2', c3'⟩ := rx_cells (HRt4.out.below HB9.out) k hk
    have hbxF := HA.out _ rfl
    rw [← hyk] at c0' c1' c2'
    simp only at c0' c1' c2'
    have hneq : bx ≠ b3 := fun e => by have h1 := hbxF.1; have h2 := Hup.out.2.2; simp only at h1; omega
    have Hst : Hid (∀ U V10 : World, (V10.heap[b1]? = V9.heap[b1]? ∧ V10.heap[b5]? = V9.heap[b5]? ∧ V10.heap[bx]? = V9.heap[bx]?) → (∀ i, i ≠ b3 → U.heap[i]? = V10.heap[i]?) → U.heap[b1]? = V9.heap[b1]? ∧ U.heap[b5]? = V9.heap[b5]? ∧ U.heap[bx]? = V9.heap[bx]?) := (fun U V10 h hU => ⟨(hU b1 Hne.out.1).trans h.1, (hU b5 Hne.out.2).trans h.2.1, (hU bx hneq).trans h.2.2⟩ : ∀ U V10 : World, (V10.heap[b1]? = V9.heap[b1]? ∧ V10.heap[b5]? = V9.heap[b5]? ∧ V10.heap[bx]? = V9.heap[bx]?) → (∀ i, i ≠ b3 → U.heap[i]? = V10.heap[i]?) → U.heap[b1]? = V9.heap[b1]? ∧ U.heap[b5]? = V9.heap[b5]? ∧ U.heap[bx]? = V9.heap[bx]?)
    have hld : ∀ W', (W'.heap[b1]? = V9.heap[b1]? ∧ W'.heap[b5]? = V9.heap[b5]? ∧ W'.heap[bx]? = V9.heap[bx]?) → (Instr.loadAt rsT (.pointer (some ⟨b1, 0, none⟩))).run Try.prog W' = .ok (.agg #[.int .i64 now, .int .u64 last, .slice (some ⟨bx, fx, none⟩) X.length cap]) W' ∧ (Instr.loadAt thT (.pointer (some ⟨b5, 0, none⟩))).run Try.prog W' = .ok (thVal ⟨yi, yg, yd⟩) W' ∧ (Instr.loadAt rtsT (.pointer (some ⟨b1, 2, none⟩))).run Try.prog W' = .ok (.slice (some ⟨bx, fx, none⟩) X.length cap) W' ∧ (Instr.loadAt rtT (.pointer (some ⟨bx, fx + k * 4, none⟩))).run Try.prog W' = .ok (rtVal (⟨yi, yg, yd⟩, 0)) W' := fun W' hw => by
      have p2 := block_cell (hw.1.trans Y1.out) 2
      simp at p2
      exact ⟨ldDs (hw.1.trans Y1.out) _ _ _ rfl, ldTb ⟨yi, yg, yd⟩ (hw.2.1.trans Y5.out), ldS p2, ldRt ⟨yi, yg, yd⟩ 0 ((World.cell?_of_block (a := ⟨bx, fx + k * 4, none⟩) hw.2.2).trans c0') ((World.cell?_of_block (a := ⟨bx, fx + k * 4 + 1, none⟩) hw.2.2).trans c1') ((World.cell?_of_block (a := ⟨bx, fx + k * 4 + 2, none⟩) hw.2.2).trans c2') ((World.cell?_of_block (a := ⟨bx, fx + k * 4 + 3, none⟩) hw.2.2).trans c3')⟩
    have HldU := Lib.hid hld
    have Hlt := Lib.hid (And.intro (Array.getElem?_eq_some_iff.1 Y1.out).1 (And.intro (Array.getElem?_eq_some_iff.1 Y5.out).1 hbx))
    have heq := eq_rtv ⟨yi, yg, yd⟩
    have hgd : ∀ p q V, (eqGuard .eql rtT p q (rtVal (⟨yi, yg, yd⟩, 0)) (rtVal (⟨yi, yg, yd⟩, 0))).run Try.prog V = .ok () V := fun p q V => guard_rt .eql p q _ _ V
    have n1 : ¬ (k : Int) < 0 := by omega
    have n2 : (k : Int) ≥ 0 := by omega
    have n3 : (k : Int) < (X.length : Int) := by omega
    have Hk := Lib.hid hk
    clear hv hcy hyk hki hin hbxF c0' c1' c2' c3' hneq hld hbx hk
    go_upto_region 16 with fail
    refine wp_region_held_drew (S := fun W' => W'.heap[b1]? = V9.heap[b1]? ∧ W'.heap[b5]? = V9.heap[b5]? ∧ W'.heap[bx]? = V9.heap[bx]?) (by kernel_rfl) ⟨rfl, rfl, rfl⟩ (fun hHeld => ?_)
    refine wpAnyH_take (i := 0) (v := .agg #[.int .i64 now, .int .u64 last, .slice (some ⟨bx, fx, none⟩) X.length cap]) rfl (by kernel_rfl) (by kernel_rfl) (by kernel_rfl) (fun _ _ _ h => h) (Or.inl ⟨by rfl, ?_⟩) (by assumption) ?_
    · intro w8 hSw; exact ld_takeT rfl (HldU.out w8 hSw).1 rfl
    simp only [Act.put, List.getElem_toArray, List.getElem_cons_zero, List.getElem_cons_succ, List.setIfInBounds_toArray, List.set_cons_zero, List.set_cons_succ]
    refine wpAnyH_take (i := 1) (v := ?_) rfl (by kernel_rfl) (by kernel_rfl) (by kernel_rfl) (fun _ _ _ h => h) (Or.inl ⟨by rfl, ?_⟩) (by assumption) ?_
    rotate_left
    · intro w8 hSw; clear hSw; go_simp; (try with_reducible rfl)
    simp only [Act.put, List.getElem_toArray, List.getElem_cons_zero, List.getElem_cons_succ, List.setIfInBounds_toArray, List.set_cons_zero, List.set_cons_succ]
    refine wpAnyH_take (i := 2) (v := ?_) rfl (by kernel_rfl) (by kernel_rfl) (by kernel_rfl) (fun _ _ _ h => h) (Or.inl ⟨by rfl, ?_⟩) (by assumption) ?_
    rotate_left
    · intro w8 hSw; clear hSw; go_simp; (try with_reducible rfl)
    simp only [Act.put, List.getElem_toArray, List.getElem_cons_zero, List.getElem_cons_succ, List.setIfInBounds_toArray, List.set_cons_zero, List.set_cons_succ]
    refine wpAnyH_take (i := 3) (v := ?_) rfl (by kernel_rfl) (by kernel_rfl) (by kernel_rfl) (fun _ _ _ h => h) (Or.inl ⟨by rfl, ?_⟩) (by assumption) ?_
    rotate_left
    · intro w8 hSw; clear hSw; go_simp; (try with_reducible rfl)
    simp only [Act.put, List.getElem_toArray, List.getElem_cons_zero, List.getElem_cons_succ, List.setIfInBounds_toArray, List.set_cons_zero, List.set_cons_succ]
    refine wpAnyH_take (i := 4) (v := ?_) rfl (by kernel_rfl) (by kernel_rfl) (by kernel_rfl) (fun _ _ _ h => h) (Or.inl ⟨by rfl, ?_⟩) (by assumption) ?_
    rotate_left
    · intro w8 hSw; clear hSw; go_simp; (try with_reducible rfl)
    simp only [Act.put, List.getElem_toArray, List.getElem_cons_zero, List.getElem_cons_succ, List.setIfInBounds_toArray, List.set_cons_zero, List.set_cons_succ]
    refine wpAnyH_take (i := 5) (v := ?_) rfl (by kernel_rfl) (by kernel_rfl) (by kernel_rfl) (fun _ _ _ h => h) (Or.inl ⟨by rfl, ?_⟩) (by assumption) ?_
    rotate_left
    · intro w8 hSw; clear hSw; go_simp; (try with_reducible rfl)
    simp only [Act.put, List.getElem_toArray, List.getElem_cons_zero, List.getElem_cons_succ, List.setIfInBounds_toArray, List.set_cons_zero, List.set_cons_succ]
    refine wpAnyH_take (i := 6) (v := ?_) rfl (by kernel_rfl) (by kernel_rfl) (by kernel_rfl) (fun _ _ _ h => h) (Or.inl ⟨by rfl, ?_⟩) (by assumption) ?_
    rotate_left
    · intro w8 hSw; clear hSw; go_simp; (try with_reducible rfl)
    simp only [Act.put, List.getElem_toArray, List.getElem_cons_zero, List.getElem_cons_succ, List.setIfInBounds_toArray, List.set_cons_zero, List.set_cons_succ]
    refine wpAnyH_take (i := 7) (v := .bool false) rfl (by kernel_rfl) (by kernel_rfl) (by kernel_rfl) (fun _ _ _ h => h) (Or.inl ⟨by rfl, ?_⟩) (by assumption) ?_
    · intro w8 hSw; clear hSw; go_simp; (try omega)
    simp only [Act.put, List.getElem_toArray, List.getElem_cons_zero, List.getElem_cons_succ, List.setIfInBounds_toArray, List.set_cons_zero, List.set_cons_succ]
    refine wpAnyH_take (i := 8) (v := ?_) rfl (by kernel_rfl) (by kernel_rfl) (by kernel_rfl) (fun _ _ _ h => h) (Or.inl ⟨by rfl, ?_⟩) (by assumption) ?_
    rotate_left
    · intro w8 hSw; clear hSw; go_simp; (try with_reducible rfl)
    simp only [Act.put, List.getElem_toArray, List.getElem_cons_zero, List.getElem_cons_succ, List.setIfInBounds_toArray, List.set_cons_zero, List.set_cons_succ]
    refine wpAnyH_take (i := 9) rfl (by kernel_rfl) (by kernel_rfl) (by kernel_rfl) (fun _ _ _ h => h) (Or.inr ⟨by rfl, rfl⟩) (by assumption) ?_
    simp only [Act.put, List.getElem_toArray, List.getElem_cons_zero, List.getElem_cons_succ, List.setIfInBounds_toArray, List.set_cons_zero, List.set_cons_succ]
    refine wpAnyH_take (i := 10) rfl (by kernel_rfl) (by kernel_rfl) (by kernel_rfl) (fun _ _ _ h => h) (Or.inr ⟨by rfl, rfl⟩) (by assumption) ?_
    simp only [Act.put, List.getElem_toArray, List.getElem_cons_zero, List.getElem_cons_succ, List.setIfInBounds_toArray, List.set_cons_zero, List.set_cons_succ]
    refine wpAnyH_take (i := 11) rfl (by kernel_rfl) (by kernel_rfl) (by kernel_rfl) (fun _ _ _ h => h) (Or.inr ⟨by rfl, rfl⟩) (by assumption) ?_
    simp only [Act.put, List.getElem_toArray, List.getElem_cons_zero, List.getElem_cons_succ, List.setIfInBounds_toArray, List.set_cons_zero, List.set_cons_succ]
    refine wpAnyH_take (i := 12) (v := ?_) rfl (by kernel_rfl) (by kernel_rfl) (by kernel_rfl) (fun _ _ _ h => h) (Or.inl ⟨by rfl, ?_⟩) (by assumption) ?_
    rotate_left
    · intro w8 hSw; clear hSw; go_simp; (try with_reducible rfl)
    simp only [Act.put, List.getElem_toArray, List.getElem_cons_zero, List.getElem_cons_succ, List.setIfInBounds_toArray, List.set_cons_zero, List.set_cons_succ]
    refine wpAnyH_take (i := 13) (v := ?_) rfl (by kernel_rfl) (by kernel_rfl) (by kernel_rfl) (fun _ _ _ h => h) (Or.inl ⟨by rfl, ?_⟩) (by assumption) ?_
    rotate_left
    · intro w8 hSw; clear hSw; go_simp; (try with_reducible rfl)
    simp only [Act.put, List.getElem_toArray, List.getElem_cons_zero, List.getElem_cons_succ, List.setIfInBounds_toArray, List.set_cons_zero, List.set_cons_succ]
    refine wpAnyH_take (i := 14) (v := ?_) rfl (by kernel_rfl) (by kernel_rfl) (by kernel_rfl) (fun _ _ _ h => h) (Or.inl ⟨by rfl, ?_⟩) (by assumption) ?_
    rotate_left
    · intro w8 hSw; clear hSw; go_simp; (try with_reducible rfl)
    simp only [Act.put, List.getElem_toArray, List.getElem_cons_zero, List.getElem_cons_succ, List.setIfInBounds_toArray, List.set_cons_zero, List.set_cons_succ]
    refine wpAnyH_take (i := 15) (v := ?_) rfl (by kernel_rfl) (by kernel_rfl) (by kernel_rfl) (fun _ _ _ h => h) (Or.inl ⟨by rfl, ?_⟩) (by assumption) ?_
    rotate_left
    · intro w8 hSw; clear hSw; go_simp; (try with_reducible rfl)
    simp only [Act.put, List.getElem_toArray, List.getElem_cons_zero, List.getElem_cons_succ, List.setIfInBounds_toArray, List.set_cons_zero, List.set_cons_succ]
    refine wpAnyH_take (i := 16) (v := ?_) rfl (by kernel_rfl) (by kernel_rfl) (by kernel_rfl) (fun _ _ _ h => h) (Or.inl ⟨by rfl, ?_⟩) (by assumption) ?_
    rotate_left
    · intro w8 hSw; clear hSw; go_simp; (try with_reducible rfl)
    simp only [Act.put, List.getElem_toArray, List.getElem_cons_zero, List.getElem_cons_succ, List.setIfInBounds_toArray, List.set_cons_zero, List.set_cons_succ]
    refine wpAnyH_take (i := 17) (v := thVal ⟨yi, yg, yd⟩) rfl (by kernel_rfl) (by kernel_rfl) (by kernel_rfl) (fun _ _ _ h => h) (Or.inl ⟨by rfl, ?_⟩) (by assumption) ?_
    · intro w8 hSw; exact ld_takeT rfl (HldU.out w8 hSw).2.1 rfl
    simp only [Act.put, List.getElem_toArray, List.getElem_cons_zero, List.getElem_cons_succ, List.setIfInBounds_toArray, List.set_cons_zero, List.set_cons_succ]
    refine wpAnyH_take (i := 19) (v := ?_) rfl (by kernel_rfl) (by kernel_rfl) (by kernel_rfl) (fun _ _ _ h => h) (Or.inl ⟨by rfl, ?_⟩) (by assumption) ?_
    rotate_left
    · intro w8 hSw; clear hSw; go_simp; (try with_reducible rfl)
    simp only [Act.put, List.getElem_toArray, List.getElem_cons_zero, List.getElem_cons_succ, List.setIfInBounds_toArray, List.set_cons_zero, List.set_cons_succ]
    refine wpAnyH_take (i := 20) (v := .slice (some ⟨bx, fx, none⟩) X.length cap) rfl (by kernel_rfl) (by kernel_rfl) (by kernel_rfl) (fun _ _ _ h => h) (Or.inl ⟨by rfl, ?_⟩) (by assumption) ?_
    · intro w8 hSw; exact ld_takeT rfl (HldU.out w8 hSw).2.2.1 rfl
    simp only [Act.put, List.getElem_toArray, List.getElem_cons_zero, List.getElem_cons_succ, List.setIfInBounds_toArray, List.set_cons_zero, List.set_cons_succ]
    refine wpAnyH_take (i := 21) (v := ?_) rfl (by kernel_rfl) (by kernel_rfl) (by kernel_rfl) (fun _ _ _ h => h) (Or.inl ⟨by rfl, ?_⟩) (by assumption) ?_
    rotate_left
    · intro w8 hSw; clear hSw; go_simp; (try with_reducible rfl)
    simp only [Act.put, List.getElem_toArray, List.getElem_cons_zero, List.getElem_cons_succ, List.setIfInBounds_toArray, List.set_cons_zero, List.set_cons_succ]
    refine wpAnyH_take (i := 22) (v := ?_) rfl (by kernel_rfl) (by kernel_rfl) (by kernel_rfl) (fun _ _ _ h => h) (Or.inl ⟨by rfl, ?_⟩) (by assumption) ?_
    rotate_left
    · intro w8 hSw; clear hSw; go_simp; (try with_reducible rfl)
    simp only [Act.put, List.getElem_toArray, List.getElem_cons_zero, List.getElem_cons_succ, List.setIfInBounds_toArray, List.set_cons_zero, List.set_cons_succ]
    refine wpAnyH_take (i := 23) (v := rtVal (⟨yi, yg, yd⟩, 0)) rfl (by kernel_rfl) (by kernel_rfl) (by kernel_rfl) (fun _ _ _ h => h) (Or.inl ⟨by rfl, ?_⟩) (by assumption) ?_
    · intro w8 hSw; exact ld_takeT rfl (HldU.out w8 hSw).2.2.2 rfl
    simp only [Act.put, List.getElem_toArray, List.getElem_cons_zero, List.getElem_cons_succ, List.setIfInBounds_toArray, List.set_cons_zero, List.set_cons_succ]
    refine wpAnyH_ready (rs := [18]) (by kernel_rfl) (by simp) ?_
    refine AllReadyH.cons rfl (fun K hK => ?_) AllReadyH.nil
    go_simp
    go_at_call 41
    refine (plain_any V9.drew ⟨yi, yg, yd⟩).mono ?_
    rintro e V10 ⟨rfl, hb10⟩
    refine hK.out _ _ ⟨hb10.block b1 Hlt.out.1, hb10.block b5 Hlt.out.2.1, hb10.block bx Hlt.out.2.2⟩ (fun hHeld => ?_)
    clear hK K
    try simp only [Act.put, List.getElem_toArray, List.getElem_cons_zero, List.getElem_cons_succ, List.setIfInBounds_toArray, List.set_cons_zero, List.set_cons_succ]
    refine wpAnyH_take (i := 24) (v := ?_) rfl (by kernel_rfl) (by kernel_rfl) (by kernel_rfl) (fun _ _ _ h => h) (Or.inl ⟨by rfl, ?_⟩) (by assumption) ?_
    rotate_left
    · intro w8 hSw; clear hSw; go_simp; (try with_reducible rfl)
    simp only [Act.put, List.getElem_toArray, List.getElem_cons_zero, List.getElem_cons_succ, List.setIfInBounds_toArray, List.set_cons_zero, List.set_cons_succ]
    refine wpAnyH_take (i := 25) (v := ?_) rfl (by kernel_rfl) (by kernel_rfl) (by kernel_rfl) (fun _ _ _ h => h) (Or.inl ⟨by rfl, ?_⟩) (by assumption) ?_
    rotate_left
    · intro w8 hSw; clear hSw; go_simp; (try with_reducible rfl)
    simp only [Act.put, List.getElem_toArray, List.getElem_cons_zero, List.getElem_cons_succ, List.setIfInBounds_toArray, List.set_cons_zero, List.set_cons_succ]
    refine wpAnyH_take (i := 26) (v := ?_) rfl (by kernel_rfl) (by kernel_rfl) (by kernel_rfl) (fun _ _ _ h => h) (Or.inl ⟨by rfl, ?_⟩) (by assumption) ?_
    rotate_left
    · intro w8 hSw; clear hSw; go_simp; (try with_reducible rfl)
    simp only [Act.put, List.getElem_toArray, List.getElem_cons_zero, List.getElem_cons_succ, List.setIfInBounds_toArray, List.set_cons_zero, List.set_cons_succ]
    refine wpAnyH_take (i := 27) (v := ?_) rfl (by kernel_rfl) (by kernel_rfl) (by kernel_rfl) (fun _ _ _ h => h) (Or.inl ⟨by rfl, ?_⟩) (by assumption) ?_
    rotate_left
    · intro w8 hSw; clear hSw; go_simp; (try with_reducible rfl)
    simp only [Act.put, List.getElem_toArray, List.getElem_cons_zero, List.getElem_cons_succ, List.setIfInBounds_toArray, List.set_cons_zero, List.set_cons_succ]
    have HB10 := Lib.hid (below_on HB9.out (below_on (Below.refl _ V9).drew hb10 (Nat.le_refl _)) (Nat.le_refl _))
    have x39 := bx_below HB10.out T3.out
    have y0 := block_cell x39 0
    have y1 := block_cell x39 1
    have y2 := block_cell x39 2
    have f0 := block_free x39 0
    have f1 := block_free x39 1
    have f2 := block_free x39 2
    have l3 := (Array.getElem?_eq_some_iff.1 x39).1
    simp at y0 y1 y2 f0 f1 f2
    obtain ⟨U, hU⟩ := ddone_sets HWo.out.bel.size HB3.out HRt4.out (HA.out.up HB3.out.size) ((HWo.out.below HB3.out).below HB10.out) (Gr.below HB10.out) (fun i hi => .inl hi) T3.out Hup.out.2.2 (HF.out _ Hup.out.2.2) (.int .i64 now) (.int .u64 last) (.slice (some ⟨bx, fx, none⟩) X.length cap)
    have HU := Lib.hid hU
    have HS9 := Lib.hid hHeld
    clear hU x39
    refine wpAnyH_ready (rs := [28]) (by kernel_rfl) (by simp) ?_
    refine AllReadyH.cons rfl (fun K hK => ?_) AllReadyH.nil
    go_simp
    rw [← HU.out.1]
    refine hK.out _ _ (Hst.out U V10 HS9.out HU.out.2.2.2) (fun hHeld => ?_)
    clear hK K y0 y1 y2 f0 f1 f2 l3
    try simp only [Act.put, List.getElem_toArray, List.getElem_cons_zero, List.getElem_cons_succ, List.setIfInBounds_toArray, List.set_cons_zero, List.set_cons_succ]
    refine wpAnyH_take (i := 29) (v := ?_) rfl (by kernel_rfl) (by kernel_rfl) (by kernel_rfl) (fun _ _ _ h => h) (Or.inl ⟨by rfl, ?_⟩) (by assumption) ?_
    rotate_left
    · intro w8 hSw; clear hSw; go_simp; (try with_reducible rfl)
    simp only [Act.put, List.getElem_toArray, List.getElem_cons_zero, List.getElem_cons_succ, List.setIfInBounds_toArray, List.set_cons_zero, List.set_cons_succ]
    refine wpAnyH_done (by kernel_rfl) ?_ _
    have u3 := HU.out.2.2.1
    have u0 := block_cell u3 0
    have u1 := block_cell u3 1
    have u2 := block_cell u3 2
    have ul := (Array.getElem?_eq_some_iff.1 u3).1
    simp at u0 u1 u2
    clear u3
    go_wp2_with fail
    refine bodyPost_ret (v := .tuple #[.agg #[.int .i64 now, .int .u64 last, .slice (some ⟨bx, fx, none⟩) X.length cap], .bool true]) ?_ rfl ⟨now, last, X, G, some ⟨bx, fx, none⟩, cap, (.inl rfl), rfl, HU.out.2.1⟩
    simp [results, Try.results18, go_sem, u0, u1, u2, ul]
  · have hno : ∀ u ∈ X, u.id ≠ oi := fun u hu e => hin ⟨u, hu, e⟩
    rw [findV_no hno]
    have hcn := can_no hno
    have h3 := HY.out.1.trans hcn.1
    simp only [Th.mk.injEq] at h3
    obtain ⟨rfl, rfl, rfl⟩ := h3
    obtain rfl : bo = false := HY.out.2.trans hcn.2
    obtain ⟨V10, hV10⟩ : ∃ V10, V10 = V9.drew := ⟨_, rfl⟩
    have HB10 : Hid (Below W3.heap.size W3 V10) := (by rw [hV10]; exact HB9.out.drew : Below W3.heap.size W3 V10)
    have Hst : Hid (∀ U V10 : World, (V10.heap[b1]? = V9.heap[b1]? ∧ V10.heap[b5]? = V9.heap[b5]?) → (∀ i, i ≠ b3 → U.heap[i]? = V10.heap[i]?) → U.heap[b1]? = V9.heap[b1]? ∧ U.heap[b5]? = V9.heap[b5]?) := (fun U V10 h hU => ⟨(hU b1 Hne.out.1).trans h.1, (hU b5 Hne.out.2).trans h.2⟩ : ∀ U V10 : World, (V10.heap[b1]? = V9.heap[b1]? ∧ V10.heap[b5]? = V9.heap[b5]?) → (∀ i, i ≠ b3 → U.heap[i]? = V10.heap[i]?) → U.heap[b1]? = V9.heap[b1]? ∧ U.heap[b5]? = V9.heap[b5]?)
    have hld : ∀ W', (W'.heap[b1]? = V9.heap[b1]? ∧ W'.heap[b5]? = V9.heap[b5]?) → (Instr.loadAt rsT (.pointer (some ⟨b1, 0, none⟩))).run Try.prog W' = .ok (.agg #[.int .i64 now, .int .u64 last, .slice ao X.length cap]) W' ∧ (Instr.loadAt thT (.pointer (some ⟨b5, 0, none⟩))).run Try.prog W' = .ok (thVal ⟨0, 0, 0⟩) W' := fun W' hw => ⟨ldDs (hw.1.trans Y1.out) _ _ _ rfl, ldTb ⟨0, 0, 0⟩ (hw.2.trans Y5.out)⟩
    have HldU := Lib.hid hld
    have heq := eq_th ⟨0, 0, 0⟩
    have hgd : ∀ p q V, (eqGuard .eql thT p q (thVal ⟨0, 0, 0⟩) (thVal ⟨0, 0, 0⟩)).run Try.prog V = .ok () V := fun p q V => guard_thv13 .eql p q _ _ V
    clear hno hcn hin hld
    go_upto_region 16 with fail
    refine wp_region_held_drew (S := fun W' => W'.heap[b1]? = V9.heap[b1]? ∧ W'.heap[b5]? = V9.heap[b5]?) (by kernel_rfl) ⟨rfl, rfl⟩ (fun hHeld => ?_)
    rw [← hV10] at hHeld ⊢
    clear hV10
    refine wpAnyH_take (i := 0) (v := .agg #[.int .i64 now, .int .u64 last, .slice ao X.length cap]) rfl (by kernel_rfl) (by kernel_rfl) (by kernel_rfl) (fun _ _ _ h => h) (Or.inl ⟨by rfl, ?_⟩) (by assumption) ?_
    · intro w8 hSw; exact ld_takeT rfl (HldU.out w8 hSw).1 rfl
    simp only [Act.put, List.getElem_toArray, List.getElem_cons_zero, List.getElem_cons_succ, List.setIfInBounds_toArray, List.set_cons_zero, List.set_cons_succ]
    refine wpAnyH_take (i := 1) (v := ?_) rfl (by kernel_rfl) (by kernel_rfl) (by kernel_rfl) (fun _ _ _ h => h) (Or.inl ⟨by rfl, ?_⟩) (by assumption) ?_
    rotate_left
    · intro w8 hSw; clear hSw; go_simp; (try with_reducible rfl)
    simp only [Act.put, List.getElem_toArray, List.getElem_cons_zero, List.getElem_cons_succ, List.setIfInBounds_toArray, List.set_cons_zero, List.set_cons_succ]
    refine wpAnyH_take (i := 2) (v := ?_) rfl (by kernel_rfl) (by kernel_rfl) (by kernel_rfl) (fun _ _ _ h => h) (Or.inl ⟨by rfl, ?_⟩) (by assumption) ?_
    rotate_left
    · intro w8 hSw; clear hSw; go_simp; (try with_reducible rfl)
    simp only [Act.put, List.getElem_toArray, List.getElem_cons_zero, List.getElem_cons_succ, List.setIfInBounds_toArray, List.set_cons_zero, List.set_cons_succ]
    refine wpAnyH_take (i := 3) (v := ?_) rfl (by kernel_rfl) (by kernel_rfl) (by kernel_rfl) (fun _ _ _ h => h) (Or.inl ⟨by rfl, ?_⟩) (by assumption) ?_
    rotate_left
    · intro w8 hSw; clear hSw; go_simp; (try with_reducible rfl)
    simp only [Act.put, List.getElem_toArray, List.getElem_cons_zero, List.getElem_cons_succ, List.setIfInBounds_toArray, List.set_cons_zero, List.set_cons_succ]
    refine wpAnyH_take (i := 4) (v := ?_) rfl (by kernel_rfl) (by kernel_rfl) (by kernel_rfl) (fun _ _ _ h => h) (Or.inl ⟨by rfl, ?_⟩) (by assumption) ?_
    rotate_left
    · intro w8 hSw; clear hSw; go_simp; (try with_reducible rfl)
    simp only [Act.put, List.getElem_toArray, List.getElem_cons_zero, List.getElem_cons_succ, List.setIfInBounds_toArray, List.set_cons_zero, List.set_cons_succ]
    refine wpAnyH_take (i := 5) (v := ?_) rfl (by kernel_rfl) (by kernel_rfl) (by kernel_rfl) (fun _ _ _ h => h) (Or.inl ⟨by rfl, ?_⟩) (by assumption) ?_
    rotate_left
    · intro w8 hSw; clear hSw; go_simp; (try with_reducible rfl)
    simp only [Act.put, List.getElem_toArray, List.getElem_cons_zero, List.getElem_cons_succ, List.setIfInBounds_toArray, List.set_cons_zero, List.set_cons_succ]
    refine wpAnyH_take (i := 6) (v := ?_) rfl (by kernel_rfl) (by kernel_rfl) (by kernel_rfl) (fun _ _ _ h => h) (Or.inl ⟨by rfl, ?_⟩) (by assumption) ?_
    rotate_left
    · intro w8 hSw; clear hSw; go_simp; (try with_reducible rfl)
    simp only [Act.put, List.getElem_toArray, List.getElem_cons_zero, List.getElem_cons_succ, List.setIfInBounds_toArray, List.set_cons_zero, List.set_cons_succ]
    refine wpAnyH_take (i := 7) (v := ?_) rfl (by kernel_rfl) (by kernel_rfl) (by kernel_rfl) (fun _ _ _ h => h) (Or.inl ⟨by rfl, ?_⟩) (by assumption) ?_
    rotate_left
    · intro w8 hSw; clear hSw; go_simp; (try with_reducible rfl)
    simp only [Act.put, List.getElem_toArray, List.getElem_cons_zero, List.getElem_cons_succ, List.setIfInBounds_toArray, List.set_cons_zero, List.set_cons_succ]
    refine wpAnyH_take (i := 8) (v := ?_) rfl (by kernel_rfl) (by kernel_rfl) (by kernel_rfl) (fun _ _ _ h => h) (Or.inl ⟨by rfl, ?_⟩) (by assumption) ?_
    rotate_left
    · intro w8 hSw; clear hSw; go_simp; (try with_reducible rfl)
    simp only [Act.put, List.getElem_toArray, List.getElem_cons_zero, List.getElem_cons_succ, List.setIfInBounds_toArray, List.set_cons_zero, List.set_cons_succ]
    refine wpAnyH_take (i := 9) (v := thVal ⟨0, 0, 0⟩) rfl (by kernel_rfl) (by kernel_rfl) (by kernel_rfl) (fun _ _ _ h => h) (Or.inl ⟨by rfl, ?_⟩) (by assumption) ?_
    · intro w8 hSw; exact ld_takeT rfl (HldU.out w8 hSw).2 rfl
    simp only [Act.put, List.getElem_toArray, List.getElem_cons_zero, List.getElem_cons_succ, List.setIfInBounds_toArray, List.set_cons_zero, List.set_cons_succ]
    refine wpAnyH_take (i := 10) (v := thVal ⟨0, 0, 0⟩) rfl (by kernel_rfl) (by kernel_rfl) (by kernel_rfl) (fun _ _ _ h => h) (Or.inl ⟨by rfl, ?_⟩) (by assumption) ?_
    · intro w8 hSw; clear hSw; unfold thVal; go_simp
    simp only [Act.put, List.getElem_toArray, List.getElem_cons_zero, List.getElem_cons_succ, List.setIfInBounds_toArray, List.set_cons_zero, List.set_cons_succ]
    refine wpAnyH_take (i := 11) (v := ?_) rfl (by kernel_rfl) (by kernel_rfl) (by kernel_rfl) (fun _ _ _ h => h) (Or.inl ⟨by rfl, ?_⟩) (by assumption) ?_
    rotate_left
    · intro w8 hSw; clear hSw; go_simp; (try with_reducible rfl)
    simp only [Act.put, List.getElem_toArray, List.getElem_cons_zero, List.getElem_cons_succ, List.setIfInBounds_toArray, List.set_cons_zero, List.set_cons_succ]
    refine wpAnyH_take (i := 12) (v := ?_) rfl (by kernel_rfl) (by kernel_rfl) (by kernel_rfl) (fun _ _ _ h => h) (Or.inl ⟨by rfl, ?_⟩) (by assumption) ?_
    rotate_left
    · intro w8 hSw; clear hSw; go_simp; (try with_reducible rfl)
    simp only [Act.put, List.getElem_toArray, List.getElem_cons_zero, List.getElem_cons_succ, List.setIfInBounds_toArray, List.set_cons_zero, List.set_cons_succ]
    refine wpAnyH_take (i := 13) (v := ?_) rfl (by kernel_rfl) (by kernel_rfl) (by kernel_rfl) (fun _ _ _ h => h) (Or.inl ⟨by rfl, ?_⟩) (by assumption) ?_
    rotate_left
    · intro w8 hSw; clear hSw; go_simp; (try with_reducible rfl)
    simp only [Act.put, List.getElem_toArray, List.getElem_cons_zero, List.getElem_cons_succ, List.setIfInBounds_toArray, List.set_cons_zero, List.set_cons_succ]
    refine wpAnyH_take (i := 14) rfl (by kernel_rfl) (by kernel_rfl) (by kernel_rfl) (fun _ _ _ h => h) (Or.inr ⟨by rfl, rfl⟩) (by assumption) ?_
    simp only [Act.put, List.getElem_toArray, List.getElem_cons_zero, List.getElem_cons_succ, List.setIfInBounds_toArray, List.set_cons_zero, List.set_cons_succ]
    refine wpAnyH_take (i := 15) rfl (by kernel_rfl) (by kernel_rfl) (by kernel_rfl) (fun _ _ _ h => h) (Or.inr ⟨by rfl, rfl⟩) (by assumption) ?_
    simp only [Act.put, List.getElem_toArray, List.getElem_cons_zero, List.getElem_cons_succ, List.setIfInBounds_toArray, List.set_cons_zero, List.set_cons_succ]
    refine wpAnyH_take (i := 16) rfl (by kernel_rfl) (by kernel_rfl) (by kernel_rfl) (fun _ _ _ h => h) (Or.inr ⟨by rfl, rfl⟩) (by assumption) ?_
    simp only [Act.put, List.getElem_toArray, List.getElem_cons_zero, List.getElem_cons_succ, List.setIfInBounds_toArray, List.set_cons_zero, List.set_cons_succ]
    refine wpAnyH_take (i := 17) rfl (by kernel_rfl) (by kernel_rfl) (by kernel_rfl) (fun _ _ _ h => h) (Or.inr ⟨by rfl, rfl⟩) (by assumption) ?_
    simp only [Act.put, List.getElem_toArray, List.getElem_cons_zero, List.getElem_cons_succ, List.setIfInBounds_toArray, List.set_cons_zero, List.set_cons_succ]
    refine wpAnyH_take (i := 18) rfl (by kernel_rfl) (by kernel_rfl) (by kernel_rfl) (fun _ _ _ h => h) (Or.inr ⟨by rfl, rfl⟩) (by assumption) ?_
    simp only [Act.put, List.getElem_toArray, List.getElem_cons_zero, List.getElem_cons_succ, List.setIfInBounds_toArray, List.set_cons_zero, List.set_cons_succ]
    refine wpAnyH_take (i := 19) rfl (by kernel_rfl) (by kernel_rfl) (by kernel_rfl) (fun _ _ _ h => h) (Or.inr ⟨by rfl, rfl⟩) (by assumption) ?_
    simp only [Act.put, List.getElem_toArray, List.getElem_cons_zero, List.getElem_cons_succ, List.setIfInBounds_toArray, List.set_cons_zero, List.set_cons_succ]
    refine wpAnyH_take (i := 20) rfl (by kernel_rfl) (by kernel_rfl) (by kernel_rfl) (fun _ _ _ h => h) (Or.inr ⟨by rfl, rfl⟩) (by assumption) ?_
    simp only [Act.put, List.getElem_toArray, List.getElem_cons_zero, List.getElem_cons_succ, List.setIfInBounds_toArray, List.set_cons_zero, List.set_cons_succ]
    refine wpAnyH_take (i := 21) rfl (by kernel_rfl) (by kernel_rfl) (by kernel_rfl) (fun _ _ _ h => h) (Or.inr ⟨by rfl, rfl⟩) (by assumption) ?_
    simp only [Act.put, List.getElem_toArray, List.getElem_cons_zero, List.getElem_cons_succ, List.setIfInBounds_toArray, List.set_cons_zero, List.set_cons_succ]
    refine wpAnyH_take (i := 22) rfl (by kernel_rfl) (by kernel_rfl) (by kernel_rfl) (fun _ _ _ h => h) (Or.inr ⟨by rfl, rfl⟩) (by assumption) ?_
    simp only [Act.put, List.getElem_toArray, List.getElem_cons_zero, List.getElem_cons_succ, List.setIfInBounds_toArray, List.set_cons_zero, List.set_cons_succ]
    refine wpAnyH_take (i := 23) rfl (by kernel_rfl) (by kernel_rfl) (by kernel_rfl) (fun _ _ _ h => h) (Or.inr ⟨by rfl, rfl⟩) (by assumption) ?_
    simp only [Act.put, List.getElem_toArray, List.getElem_cons_zero, List.getElem_cons_succ, List.setIfInBounds_toArray, List.set_cons_zero, List.set_cons_succ]
    refine wpAnyH_take (i := 24) rfl (by kernel_rfl) (by kernel_rfl) (by kernel_rfl) (fun _ _ _ h => h) (Or.inr ⟨by rfl, rfl⟩) (by assumption) ?_
    simp only [Act.put, List.getElem_toArray, List.getElem_cons_zero, List.getElem_cons_succ, List.setIfInBounds_toArray, List.set_cons_zero, List.set_cons_succ]
    refine wpAnyH_take (i := 25) rfl (by kernel_rfl) (by kernel_rfl) (by kernel_rfl) (fun _ _ _ h => h) (Or.inr ⟨by rfl, rfl⟩) (by assumption) ?_
    simp only [Act.put, List.getElem_toArray, List.getElem_cons_zero, List.getElem_cons_succ, List.setIfInBounds_toArray, List.set_cons_zero, List.set_cons_succ]
    refine wpAnyH_take (i := 26) (v := ?_) rfl (by kernel_rfl) (by kernel_rfl) (by kernel_rfl) (fun _ _ _ h => h) (Or.inl ⟨by rfl, ?_⟩) (by assumption) ?_
    rotate_left
    · intro w8 hSw; clear hSw; go_simp; (try with_reducible rfl)
    simp only [Act.put, List.getElem_toArray, List.getElem_cons_zero, List.getElem_cons_succ, List.setIfInBounds_toArray, List.set_cons_zero, List.set_cons_succ]
    refine wpAnyH_take (i := 27) (v := ?_) rfl (by kernel_rfl) (by kernel_rfl) (by kernel_rfl) (fun _ _ _ h => h) (Or.inl ⟨by rfl, ?_⟩) (by assumption) ?_
    rotate_left
    · intro w8 hSw; clear hSw; go_simp; (try with_reducible rfl)
    simp only [Act.put, List.getElem_toArray, List.getElem_cons_zero, List.getElem_cons_succ, List.setIfInBounds_toArray, List.set_cons_zero, List.set_cons_succ]
    have x39 := bx_below HB10.out T3.out
    have y0 := block_cell x39 0
    have y1 := block_cell x39 1
    have y2 := block_cell x39 2
    have f0 := block_free x39 0
    have f1 := block_free x39 1
    have f2 := block_free x39 2
    have l3 := (Array.getElem?_eq_some_iff.1 x39).1
    simp at y0 y1 y2 f0 f1 f2
    obtain ⟨U, hU⟩ := ddone_sets HWo.out.bel.size HB3.out HRt4.out (HA.out.up HB3.out.size) ((HWo.out.below HB3.out).below HB10.out) (Gr.below HB10.out) (fun i hi => .inl hi) T3.out Hup.out.2.2 (HF.out _ Hup.out.2.2) (.int .i64 now) (.int .u64 last) (.slice ao X.length cap)
    have HU := Lib.hid hU
    have HS9 := Lib.hid hHeld
    clear hU x39
    refine wpAnyH_ready (rs := [28]) (by kernel_rfl) (by simp) ?_
    refine AllReadyH.cons rfl (fun K hK => ?_) AllReadyH.nil
    go_simp
    rw [← HU.out.1]
    refine hK.out _ _ (Hst.out U V10 HS9.out HU.out.2.2.2) (fun hHeld => ?_)
    clear hK K y0 y1 y2 f0 f1 f2 l3
    try simp only [Act.put, List.getElem_toArray, List.getElem_cons_zero, List.getElem_cons_succ, List.setIfInBounds_toArray, List.set_cons_zero, List.set_cons_succ]
    refine wpAnyH_take (i := 29) (v := ?_) rfl (by kernel_rfl) (by kernel_rfl) (by kernel_rfl) (fun _ _ _ h => h) (Or.inl ⟨by rfl, ?_⟩) (by assumption) ?_
    rotate_left
    · intro w8 hSw; clear hSw; go_simp; (try with_reducible rfl)
    simp only [Act.put, List.getElem_toArray, List.getElem_cons_zero, List.getElem_cons_succ, List.setIfInBounds_toArray, List.set_cons_zero, List.set_cons_succ]
    refine wpAnyH_done (by kernel_rfl) ?_ _
    have u3 := HU.out.2.2.1
    have u0 := block_cell u3 0
    have u1 := block_cell u3 1
    have u2 := block_cell u3 2
    have ul := (Array.getElem?_eq_some_iff.1 u3).1
    simp at u0 u1 u2
    clear u3
    go_wp2_with fail
    refine bodyPost_ret (v := .tuple #[.agg #[.int .i64 now, .int .u64 last, .slice ao X.length cap], .bool true]) ?_ rfl ⟨now, last, X, G, ao, cap, (.inl rfl), rfl, HU.out.2.1⟩
    simp [results, Try.results18, go_sem, u0, u1, u2, ul]
end Go.Proofs.Ytedlplkomfiahaa
