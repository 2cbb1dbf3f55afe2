/- wheel: Now, Spread, Len. No statement of the seat is proved here. -/
import Derived.Test.YtadghaiengonoaaXd
namespace Go.Proofs.Ytadghaiengonoaa
set_option linter.unusedVariables false
set_option linter.unusedSimpArgs false
set_option linter.unusedSectionVars false
open Go Go.RowKit Go.Maps

theorem wnow_any (W : World) (F : Nat → Prop) (G : Nat → Nat → Prop) (w : Nat) (now : Int) (rs : Nat → Nat) (pf mf n : Nat) (R : Nat → RLs) (far : List Th) (h : Whm W F G w now rs pf mf n R far) :
    Calls Try.prog 18 #[.pointer (some ⟨w, 0, none⟩)] W fun e W' => e = .returned (.int .i64 now) ∧ W' = W := by
  obtain ⟨a0, a1, a2, a3, a4, a5, b0, hwl, hfl⟩ := h.cells
  have Hno := Lib.hid (wnone_no W w pf a5 hwl)
  clear h
  go_enter Try.func18, Try.ntmps18
  go_wp2_with fail
  refine Hno.out.mono ?_
  rintro e W2 ⟨rfl, rfl⟩
  go_wp2_with fail
  go_ret
  exact ⟨rfl, rfl⟩
theorem wnow_none (W : World) (q : Option Addr) (hno : WNone W q) : Calls Try.prog 18 #[.pointer q] W fun e W' => e = .returned (.int .i64 0) ∧ W' = W := by
  have Hno := Lib.hid (hno W (Below.refl _ _))
  go_enter Try.func18, Try.ntmps18
  go_wp2_with fail
  refine Hno.out.mono ?_
  rintro e W2 ⟨rfl, rfl⟩
  go_wp2_with fail
  go_ret
  exact ⟨rfl, rfl⟩
abbrev fiT : TypeId := 38
abbrev raT : TypeId := 62
theorem idx4 (a b c d : Option Addr) (V : World) : (Instr.index raT (.agg #[.pointer a, .pointer b, .pointer c, .pointer d]) (.int .i64 0)).run Try.prog V = .ok (.pointer a) V ∧ (Instr.index raT (.agg #[.pointer a, .pointer b, .pointer c, .pointer d]) (.int .i64 1)).run Try.prog V = .ok (.pointer b) V ∧ (Instr.index raT (.agg #[.pointer a, .pointer b, .pointer c, .pointer d]) (.int .i64 2)).run Try.prog V = .ok (.pointer c) V ∧ (Instr.index raT (.agg #[.pointer a, .pointer b, .pointer c, .pointer d]) (.int .i64 3)).run Try.prog V = .ok (.pointer d) V := ⟨by kernel_rfl, by kernel_rfl, by kernel_rfl, by kernel_rfl⟩
def fiVal (a : Nat → Nat) : Value := .agg #[.int .i64 (a 0 : Nat), .int .i64 (a 1 : Nat), .int .i64 (a 2 : Nat), .int .i64 (a 3 : Nat), .int .i64 (a 4 : Nat)]
/-- how many wait in each ring -/
def spr (R : Nat → RLs) (far : List Th) : Nat → Nat := fun k => if k = 4 then far.length else (R k).length
theorem WNone.below {W W' : World} {q : Option Addr} (h : WNone W q) (hb : Below W.heap.size W W') : WNone W' q := fun W2 h2 => h W2 (below_on hb h2 (Nat.le_refl _))
set_option maxRecDepth 100000 in
set_option maxHeartbeats 4000000 in
theorem spread_any (W : World) (F : Nat → Prop) (G : Nat → Nat → Prop) (w : Nat) (now : Int) (rs : Nat → Nat) (pf mf n : Nat) (R : Nat → RLs) (far : List Th) (h : Whm W F G w now rs pf mf n R far) :
    Calls Try.prog 14 #[.pointer (some ⟨w, 0, none⟩)] W fun e W' => e = .returned (fiVal (spr R far)) ∧ Below W.heap.size W W' := by
  have Hlen := Lib.hid (fun (W' : World) (hb : Below W.heap.size W W') (k : Nat) (hk : k < 4) => len_ring W' (G k) (rs k) n (R k) ((h.below hb).ring k hk))
  obtain ⟨W1, hW1⟩ : ∃ W1, W1 = W.alloc (.cells #[.int .i64 0, .int .i64 0, .int .i64 0, .int .i64 0, .int .i64 0] fiT) := ⟨_, rfl⟩
  obtain ⟨b, hb⟩ : ∃ b, b = W.heap.size := ⟨_, rfl⟩
  have hB1 : Below W.heap.size W W1 := by rw [hW1]; exact below_new _ _
  have ht1 : W1.heap[b]? = some (.cells #[.int .i64 0, .int .i64 0, .int .i64 0, .int .i64 0, .int .i64 0] fiT (0, 0)) := by rw [hW1, hb]; exact heap_alloc_new _ _
  have hbl := (Array.getElem?_eq_some_iff.1 ht1).1
  have hfz := block_free ht1
  have h1 := h.below hB1
  obtain ⟨a0, a1, a2, a3, a4, a5, b0, hwl, hfl⟩ := h1.cells
  have hwb : w ≠ b := by have := h.bd w h.fw; omega
  have hpb : pf ≠ b := by have := h.bd pf h.ff; omega
  have hfw : ∀ W', Below W.heap.size W W' → Whm W' F G w now rs pf mf n R far := fun W' h' => h.below h'
  have Hfw := Lib.hid hfw
  have Hno := Lib.hid (wnone_no W1 w pf a5 hwl)
  have HB1 := Lib.hid hB1
  have Ht1 := Lib.hid ht1
  have Hb := Lib.hid hb
  have hst : ∀ (V : World) (i : Nat) (v : Value), Below W.heap.size W V → Below W.heap.size W (V.setCell ⟨b, i, none⟩ v) := fun V i v hV => below_grown hV (grown_set V b i v) (Nat.le_of_eq hb.symm) hV.size
  have Hst := Lib.hid hst
  have ix0 := fun V => (idx4 (some ⟨rs 0, 0, none⟩) (some ⟨rs 1, 0, none⟩) (some ⟨rs 2, 0, none⟩) (some ⟨rs 3, 0, none⟩) V).1
  have ix1 := fun V => (idx4 (some ⟨rs 0, 0, none⟩) (some ⟨rs 1, 0, none⟩) (some ⟨rs 2, 0, none⟩) (some ⟨rs 3, 0, none⟩) V).2.1
  have ix2 := fun V => (idx4 (some ⟨rs 0, 0, none⟩) (some ⟨rs 1, 0, none⟩) (some ⟨rs 2, 0, none⟩) (some ⟨rs 3, 0, none⟩) V).2.2.1
  have ix3 := fun V => (idx4 (some ⟨rs 0, 0, none⟩) (some ⟨rs 1, 0, none⟩) (some ⟨rs 2, 0, none⟩) (some ⟨rs 3, 0, none⟩) V).2.2.2
  clear h h1 hB1 ht1 hfw hst
  go_enter Try.func14, Try.ntmps14
  go_wp2_with fail
  rw [← hW1, ← hb]
  clear hW1 hb
  refine Hno.out.mono ?_
  rintro e V0 ⟨rfl, hV0⟩
  subst hV0
  have HB0 := HB1
  have Ht0 := Ht1
  clear HB1 Ht1 hbl hfz
  go_wp2_with fail
  refine wp_loop_rounds 5 ?_
  rw [rounds_succ]
  go_wp2_with fail
  refine (Hlen.out _ HB0.out 0 (by decide)).mono ?_
  rintro e Y ⟨rfl, hY⟩
  replace hY := hY.symm
  subst hY
  have f0 := block_free Ht0.out 0
  have e0 := block_cell Ht0.out 0
  simp at e0
  have hbl := (Array.getElem?_eq_some_iff.1 Ht0.out).1
  go_wp2_with fail
  obtain ⟨V1, hV1⟩ : ∃ X, X = V0.setCell ⟨b, 0, none⟩ (.int .i64 ((R 0).length : Nat)) := ⟨_, rfl⟩
  have ht1 : V1.heap[b]? = some (.cells #[.int .i64 ((R 0).length : Nat), .int .i64 0, .int .i64 0, .int .i64 0, .int .i64 0] fiT (0, 0)) := by
    have := block_set Ht0.out 0 (.int .i64 ((R 0).length : Nat))
    simp only [List.setIfInBounds_toArray, List.set_cons_zero, List.set_cons_succ] at this
    rw [hV1]; exact this
  have hB1 : Below W.heap.size W V1 := by rw [hV1]; exact Hst.out _ _ _ HB0.out
  rw [← hV1]
  have Ht1 := Lib.hid ht1
  have HB1 := Lib.hid hB1
  clear hV1 ht1 hB1 e0 f0 hbl
  rw [rounds_succ]
  go_wp2_with fail
  refine (Hlen.out _ HB1.out 1 (by decide)).mono ?_
  rintro e Y ⟨rfl, hY⟩
  replace hY := hY.symm
  subst hY
  have f1 := block_free Ht1.out 1
  have e1 := block_cell Ht1.out 1
  simp at e1
  have hbl := (Array.getElem?_eq_some_iff.1 Ht1.out).1
  go_wp2_with fail
  obtain ⟨V2, hV2⟩ : ∃ X, X = V1.setCell ⟨b, 1, none⟩ (.int .i64 ((R 1).length : Nat)) := ⟨_, rfl⟩
  have ht2 : V2.heap[b]? = some (.cells #[.int .i64 ((R 0).length : Nat), .int .i64 ((R 1).length : Nat), .int .i64 0, .int .i64 0, .int .i64 0] fiT (0, 0)) := by
    have := block_set Ht1.out 1 (.int .i64 ((R 1).length : Nat))
    simp only [List.setIfInBounds_toArray, List.set_cons_zero, List.set_cons_succ] at this
    rw [hV2]; exact this
  have hB2 : Below W.heap.size W V2 := by rw [hV2]; exact Hst.out _ _ _ HB1.out
  rw [← hV2]
  have Ht2 := Lib.hid ht2
  have HB2 := Lib.hid hB2
  clear hV2 ht2 hB2 e1 f1 hbl
  rw [rounds_succ]
  go_wp2_with fail
  refine (Hlen.out _ HB2.out 2 (by decide)).mono ?_
  rintro e Y ⟨rfl, hY⟩
  replace hY := hY.symm
  subst hY
  have f2 := block_free Ht2.out 2
  have e2 := block_cell Ht2.out 2
  simp at e2
  have hbl := (Array.getElem?_eq_some_iff.1 Ht2.out).1
  go_wp2_with fail
  obtain ⟨V3, hV3⟩ : ∃ X, X = V2.setCell ⟨b, 2, none⟩ (.int .i64 ((R 2).length : Nat)) := ⟨_, rfl⟩
  have ht3 : V3.heap[b]? = some (.cells #[.int .i64 ((R 0).length : Nat), .int .i64 ((R 1).length : Nat), .int .i64 ((R 2).length : Nat), .int .i64 0, .int .i64 0] fiT (0, 0)) := by
    have := block_set Ht2.out 2 (.int .i64 ((R 2).length : Nat))
    simp only [List.setIfInBounds_toArray, List.set_cons_zero, List.set_cons_succ] at this
    rw [hV3]; exact this
  have hB3 : Below W.heap.size W V3 := by rw [hV3]; exact Hst.out _ _ _ HB2.out
  rw [← hV3]
  have Ht3 := Lib.hid ht3
  have HB3 := Lib.hid hB3
  clear hV3 ht3 hB3 e2 f2 hbl
  rw [rounds_succ]
  go_wp2_with fail
  refine (Hlen.out _ HB3.out 3 (by decide)).mono ?_
  rintro e Y ⟨rfl, hY⟩
  replace hY := hY.symm
  subst hY
  have f3 := block_free Ht3.out 3
  have e3 := block_cell Ht3.out 3
  simp at e3
  have hbl := (Array.getElem?_eq_some_iff.1 Ht3.out).1
  go_wp2_with fail
  obtain ⟨V4, hV4⟩ : ∃ X, X = V3.setCell ⟨b, 3, none⟩ (.int .i64 ((R 3).length : Nat)) := ⟨_, rfl⟩
  have ht4 : V4.heap[b]? = some (.cells #[.int .i64 ((R 0).length : Nat), .int .i64 ((R 1).length : Nat), .int .i64 ((R 2).length : Nat), .int .i64 ((R 3).length : Nat), .int .i64 0] fiT (0, 0)) := by
    have := block_set Ht3.out 3 (.int .i64 ((R 3).length : Nat))
    simp only [List.setIfInBounds_toArray, List.set_cons_zero, List.set_cons_succ] at this
    rw [hV4]; exact this
  have hB4 : Below W.heap.size W V4 := by rw [hV4]; exact Hst.out _ _ _ HB3.out
  rw [← hV4]
  have Ht4 := Lib.hid ht4
  have HB4 := Lib.hid hB4
  clear hV4 ht4 hB4 e3 f3 hbl
  rw [rounds_succ]
  have h4 := Hfw.out _ HB4.out
  obtain ⟨a0, a1, a2, a3, a4, a5, b0, hwl, hfl⟩ := h4.cells
  obtain ⟨D, hD, hE⟩ := h4.map
  have hlm := hD.len Try.underlying69 3
  rw [hE.size, show (fpairs far).length = far.length from by simp [fpairs]] at hlm
  have f0 := block_free Ht4.out 0
  have f1 := block_free Ht4.out 1
  have f2 := block_free Ht4.out 2
  have f3 := block_free Ht4.out 3
  have f4 := block_free Ht4.out 4
  have e0 := block_cell Ht4.out 0
  have e1 := block_cell Ht4.out 1
  have e2 := block_cell Ht4.out 2
  have e3 := block_cell Ht4.out 3
  have e4 := block_cell Ht4.out 4
  simp at e0 e1 e2 e3 e4
  have hbl := (Array.getElem?_eq_some_iff.1 Ht4.out).1
  clear hD hE h4
  go_wp2_with fail
  refine bodyPost_ret (v := fiVal (spr R far)) ?_ rfl ⟨rfl, Hst.out _ _ _ (Hst.out _ _ _ (Hst.out _ _ _ (Hst.out _ _ _ (Hst.out _ _ _ (Hst.out _ _ _ HB4.out)))))⟩
  simp [results, Try.results14, go_sem, fiVal, spr, e0, e1, e2, e3, e4, hbl]
set_option maxRecDepth 100000 in
theorem spread_none (W : World) (q : Option Addr) (hno : WNone W q) : Calls Try.prog 14 #[.pointer q] W fun e W' => e = .returned (fiVal fun _ => 0) ∧ Below W.heap.size W W' := by
  obtain ⟨W1, hW1⟩ : ∃ W1, W1 = W.alloc (.cells #[.int .i64 0, .int .i64 0, .int .i64 0, .int .i64 0, .int .i64 0] fiT) := ⟨_, rfl⟩
  obtain ⟨b, hb⟩ : ∃ b, b = W.heap.size := ⟨_, rfl⟩
  have hB1 : Below W.heap.size W W1 := by rw [hW1]; exact below_new _ _
  have ht1 : W1.heap[b]? = some (.cells #[.int .i64 0, .int .i64 0, .int .i64 0, .int .i64 0, .int .i64 0] fiT (0, 0)) := by rw [hW1, hb]; exact heap_alloc_new _ _
  have hbl := (Array.getElem?_eq_some_iff.1 ht1).1
  have f0 := block_free ht1 0
  have f1 := block_free ht1 1
  have f2 := block_free ht1 2
  have f3 := block_free ht1 3
  have f4 := block_free ht1 4
  have e0 := block_cell ht1 0
  have e1 := block_cell ht1 1
  have e2 := block_cell ht1 2
  have e3 := block_cell ht1 3
  have e4 := block_cell ht1 4
  simp at e0 e1 e2 e3 e4
  have Hno := Lib.hid (hno W1 hB1)
  have hst : ∀ (V : World) (i : Nat) (v : Value), Below W.heap.size W V → Below W.heap.size W (V.setCell ⟨b, i, none⟩ v) := fun V i v hV => below_grown hV (grown_set V b i v) (Nat.le_of_eq hb.symm) hV.size
  have Hst := Lib.hid hst
  have HB1 := Lib.hid hB1
  clear ht1 hno hB1 hst
  go_enter Try.func14, Try.ntmps14
  go_wp2_with fail
  rw [← hW1, ← hb]
  clear hW1 hb
  refine Hno.out.mono ?_
  rintro e V0 ⟨rfl, hV0⟩
  subst hV0
  go_wp2_with fail
  refine bodyPost_ret (v := fiVal fun _ => 0) ?_ rfl ⟨rfl, Hst.out _ _ _ (Hst.out _ _ _ (Hst.out _ _ _ (Hst.out _ _ _ (Hst.out _ _ _ HB1.out))))⟩
  simp [results, Try.results14, go_sem, fiVal, e0, e1, e2, e3, e4, hbl]
theorem idx5 (a b c d x : Int) (V : World) : (Instr.index fiT (.agg #[.int .i64 a, .int .i64 b, .int .i64 c, .int .i64 d, .int .i64 x]) (.int .i64 0)).run Try.prog V = .ok (.int .i64 a) V ∧ (Instr.index fiT (.agg #[.int .i64 a, .int .i64 b, .int .i64 c, .int .i64 d, .int .i64 x]) (.int .i64 1)).run Try.prog V = .ok (.int .i64 b) V ∧ (Instr.index fiT (.agg #[.int .i64 a, .int .i64 b, .int .i64 c, .int .i64 d, .int .i64 x]) (.int .i64 2)).run Try.prog V = .ok (.int .i64 c) V ∧ (Instr.index fiT (.agg #[.int .i64 a, .int .i64 b, .int .i64 c, .int .i64 d, .int .i64 x]) (.int .i64 3)).run Try.prog V = .ok (.int .i64 d) V ∧ (Instr.index fiT (.agg #[.int .i64 a, .int .i64 b, .int .i64 c, .int .i64 d, .int .i64 x]) (.int .i64 4)).run Try.prog V = .ok (.int .i64 x) V := ⟨by kernel_rfl, by kernel_rfl, by kernel_rfl, by kernel_rfl, by kernel_rfl⟩
theorem wsum0 (a : Nat) (h : a ≤ 1000000) : wrap64 (a : Int) = (a : Nat) := IntWalk.wrap64_in _ (by omega)
theorem wsum (a b s : Nat) (hs : s = a + b) (h : s ≤ 1000000) : wrap64 ((a : Int) + (b : Int)) = (s : Nat) := by
  subst hs
  have e : ((a + b : Nat) : Int) = (a : Int) + (b : Int) := by omega
  rw [e]
  exact IntWalk.wrap64_in _ (by omega)
set_option maxRecDepth 100000 in
theorem wlen_of (W : World) (q : Option Addr) (a : Nat → Nat) (hs : a 0 + a 1 + a 2 + a 3 + a 4 ≤ 1000000) (hsp : Calls Try.prog 14 #[.pointer q] W fun e W' => e = .returned (fiVal a) ∧ Below W.heap.size W W') :
    Calls Try.prog 15 #[.pointer q] W fun e W' => e = .returned (.int .i64 (a 0 + a 1 + a 2 + a 3 + a 4 : Nat)) ∧ Below W.heap.size W W' := by
  have Hsp := Lib.hid hsp
  obtain ⟨x0, h0⟩ : ∃ x, x = a 0 := ⟨_, rfl⟩
  obtain ⟨x1, h1⟩ : ∃ x, x = a 1 := ⟨_, rfl⟩
  obtain ⟨x2, h2⟩ : ∃ x, x = a 2 := ⟨_, rfl⟩
  obtain ⟨x3, h3⟩ : ∃ x, x = a 3 := ⟨_, rfl⟩
  obtain ⟨x4, h4⟩ : ∃ x, x = a 4 := ⟨_, rfl⟩
  rw [← h0, ← h1, ← h2, ← h3, ← h4] at hs ⊢
  have hv : fiVal a = .agg #[.int .i64 (x0 : Nat), .int .i64 (x1 : Nat), .int .i64 (x2 : Nat), .int .i64 (x3 : Nat), .int .i64 (x4 : Nat)] := by unfold fiVal; rw [h0, h1, h2, h3, h4]
  rw [hv] at Hsp
  have i0 := fun V => (idx5 (x0 : Nat) (x1 : Nat) (x2 : Nat) (x3 : Nat) (x4 : Nat) V).1
  have i1 := fun V => (idx5 (x0 : Nat) (x1 : Nat) (x2 : Nat) (x3 : Nat) (x4 : Nat) V).2.1
  have i2 := fun V => (idx5 (x0 : Nat) (x1 : Nat) (x2 : Nat) (x3 : Nat) (x4 : Nat) V).2.2.1
  have i3 := fun V => (idx5 (x0 : Nat) (x1 : Nat) (x2 : Nat) (x3 : Nat) (x4 : Nat) V).2.2.2.1
  have i4 := fun V => (idx5 (x0 : Nat) (x1 : Nat) (x2 : Nat) (x3 : Nat) (x4 : Nat) V).2.2.2.2
  obtain ⟨s1, e1⟩ : ∃ s, s = x0 + x1 := ⟨_, rfl⟩
  rw [← e1] at hs ⊢
  obtain ⟨s2, e2⟩ : ∃ s, s = s1 + x2 := ⟨_, rfl⟩
  rw [← e2] at hs ⊢
  obtain ⟨s3, e3⟩ : ∃ s, s = s2 + x3 := ⟨_, rfl⟩
  rw [← e3] at hs ⊢
  obtain ⟨s4, e4⟩ : ∃ s, s = s3 + x4 := ⟨_, rfl⟩
  rw [← e4] at hs ⊢
  have w0 : wrap64 (x0 : Int) = (x0 : Nat) := wsum0 x0 (by omega)
  have w1 : wrap64 ((x0 : Int) + (x1 : Int)) = (s1 : Nat) := wsum x0 x1 s1 e1 (by omega)
  have w2 : wrap64 ((s1 : Int) + (x2 : Int)) = (s2 : Nat) := wsum s1 x2 s2 e2 (by omega)
  have w3 : wrap64 ((s2 : Int) + (x3 : Int)) = (s3 : Nat) := wsum s2 x3 s3 e3 (by omega)
  have w4 : wrap64 ((s3 : Int) + (x4 : Int)) = (s4 : Nat) := wsum s3 x4 s4 e4 hs
  clear e1 e2 e3 e4 h0 h1 h2 h3 h4 hsp hs hv
  go_enter Try.func15, Try.ntmps15
  go_wp2_with fail
  refine Hsp.out.mono ?_
  rintro e W2 ⟨rfl, hB⟩
  have HB := Lib.hid hB
  clear hB
  go_wp2_with fail
  refine wp_loop_rounds 6 ?_
  rw [rounds_succ]
  go_wp2_with fail
  rw [rounds_succ]
  go_wp2_with fail
  rw [rounds_succ]
  go_wp2_with fail
  rw [rounds_succ]
  go_wp2_with fail
  rw [rounds_succ]
  go_wp2_with fail
  rw [rounds_succ]
  go_wp2_with fail
  go_ret
  exact ⟨by simp [w4], HB.out⟩
theorem wlen_any (W : World) (F : Nat → Prop) (G : Nat → Nat → Prop) (w : Nat) (now : Int) (rs : Nat → Nat) (pf mf n : Nat) (R : Nat → RLs) (far : List Th) (h : Whm W F G w now rs pf mf n R far) (hs : (Tot R far).length ≤ 1000000) :
    Calls Try.prog 15 #[.pointer (some ⟨w, 0, none⟩)] W fun e W' => e = .returned (.int .i64 ((Tot R far).length : Nat)) ∧ Below W.heap.size W W' := by
  have e : (Tot R far).length = spr R far 0 + spr R far 1 + spr R far 2 + spr R far 3 + spr R far 4 := by simp [Tot, spr]; omega
  rw [e] at hs ⊢
  exact wlen_of W _ _ hs (spread_any W F G w now rs pf mf n R far h)
theorem wlen_none (W : World) (q : Option Addr) (hno : WNone W q) : Calls Try.prog 15 #[.pointer q] W fun e W' => e = .returned (.int .i64 0) ∧ Below W.heap.size W W' :=
  wlen_of W q (fun _ => 0) (by simp) (spread_none W q hno)
end Go.Proofs.Ytadghaiengonoaa
