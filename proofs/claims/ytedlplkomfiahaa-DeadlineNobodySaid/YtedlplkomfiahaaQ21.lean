/- Lemmas for DeadlinePlays (Df). No statement of the seat is proved here. -/
import Derived.Test.YtedlplkomfiahaaQ20
namespace Go.Proofs.Ytedlplkomfiahaa
set_option linter.unusedVariables false
set_option linter.unusedSimpArgs false
set_option linter.unusedSectionVars false
open Go Go.RowKit Go.Maps Go.Deep
/-- stores into boxes of one's own -/
theorem rt_sets {V : World} {p : Nat} {T : TypeId} {cs : Array Value} {a : Option Addr} {c : Nat} {l : RLs} (h : Rt V a c l) (hx : V.heap[p]? = some (.cells cs T (0, 0))) (hT : T ≠ rtT) (i : Nat) (v : Value) : Rt (V.setCell ⟨p, i, none⟩ v) a c l :=
  Rw.grown h (grown_set V p i v) (T := T) (by unfold elem?; rw [hx]) hT
theorem rt_keep {V U : World} {a : Option Addr} {c : Nat} {l : RLs} {H : Nat → Prop} (h : Rt V a c l) (hg : Gr H V U) (hA : ∀ x, a = some x → ¬ H x.block) : Rt U a c l := rt_gr h hg (fun x e => ⟨h.lt x e, hA x e⟩)
/-- a box of another type is not the row's block -/
theorem rt_off {V : World} {p : Nat} {T : TypeId} {cs : Array Value} {a : Option Addr} {c : Nat} {l : RLs} (h : Rt V a c l) (hx : V.heap[p]? = some (.cells cs T (0, 0))) (hT : T ≠ rtT) : ∀ x, a = some x → x.block ≠ p := fun x e e2 => by
  obtain ⟨b, off, s⟩ := x
  have ht := h.typ b off s e
  simp only at e2
  subst e2
  unfold elem? at ht
  rw [hx] at ht
  exact hT (Option.some.inj ht)
theorem gr_set4 (V : World) (p : Nat) (v0 v1 v2 v3 : Value) : Gr (fun i => i = p) V ((((V.setCell ⟨p, 0, none⟩ v0).setCell ⟨p, 1, none⟩ v1).setCell ⟨p, 2, none⟩ v2).setCell ⟨p, 3, none⟩ v3) :=
  (gr_set3 V p v0 v1 v2).trans (Gr.one (grown_set _ p 3 v3) (fun b e => (Option.some.inj e).symm))
theorem bx_set4 {V : World} {p : Nat} {T : TypeId} {x0 x1 x2 x3 : Value} (h : V.heap[p]? = some (.cells #[x0, x1, x2, x3] T (0, 0))) (v0 v1 v2 v3 : Value) : ((((V.setCell ⟨p, 0, none⟩ v0).setCell ⟨p, 1, none⟩ v1).setCell ⟨p, 2, none⟩ v2).setCell ⟨p, 3, none⟩ v3).heap[p]? = some (.cells #[v0, v1, v2, v3] T (0, 0)) := by
  have := block_set (block_set (block_set (block_set h 0 v0) 1 v1) 2 v2) 3 v3
  simpa only [List.setIfInBounds_toArray, List.set_cons_zero, List.set_cons_succ] using this
theorem ldDs {W : World} {b : Nat} {now last : Int} {v : Value} (h : W.heap[b]? = some (.cells #[.int .i64 now, .int .u64 last, v] rsT (0, 0))) (ao : Option Addr) (n cap : Nat) (hv : v = .slice ao n cap) : (Instr.loadAt rsT (.pointer (some ⟨b, 0, none⟩))).run Try.prog W = .ok (.agg #[.int .i64 now, .int .u64 last, v]) W := by
  subst hv
  have p0 := block_cell h 0
  have p1 := block_cell h 1
  have p2 := block_cell h 2
  simp at p0 p1 p2
  go_simp
def RClrIs (W : World) (now last : Int) (ao : Option Addr) (X : List Th) (id : Int) (e : Ending) (W' : World) : Prop := ∃ a c, e = .returned (.tuple #[dsV now last a (lessId X id).length c, rtVal (canT X id, 0), .bool (canB X id)]) ∧ Rt W' a c (slot0 (lessId X id)) ∧ (a = ao ∨ Lie W a) ∧ Below W.heap.size W W'
set_option maxRecDepth 100000 in
set_option maxHeartbeats 8000000 in
theorem rclear13 (W : World) (now last : Int) (ao : Option Addr) (cap : Nat) (X : List Th) (id : Int) (h : Rt W ao cap (slot0 X)) (hl : X.length ≤ 256) (hi : Ids X) :
    Calls Try.prog 43 #[dsV now last ao X.length cap, .int .u64 id] W (RClrIs W now last ao X id) := by
  unfold dsV
  obtain ⟨W1, hW1⟩ : ∃ W1, W1 = W.alloc (.cells #[.int .i64 now, .int .u64 last, .slice ao X.length cap] rsT) := ⟨_, rfl⟩
  obtain ⟨W2, hW2⟩ : ∃ W2, W2 = W1.alloc (.cells #[.int .i64 0, .int .u64 0, .slice none 0 0] rsT) := ⟨_, rfl⟩
  obtain ⟨W3, hW3⟩ : ∃ W3, W3 = W2.alloc (.cells #[.int .u64 0, .int .u64 0, .int .i64 0, .int .i64 0] rtT) := ⟨_, rfl⟩
  obtain ⟨b1, hb1⟩ : ∃ b, b = W.heap.size := ⟨_, rfl⟩
  obtain ⟨b2, hb2⟩ : ∃ b, b = W.heap.size + 1 := ⟨_, rfl⟩
  obtain ⟨b3, hb3⟩ : ∃ b, b = W.heap.size + 1 + 1 := ⟨_, rfl⟩
  have z1 : W1.heap.size = W.heap.size + 1 := by rw [hW1]; simp
  have z2 : W2.heap.size = W.heap.size + 1 + 1 := by rw [hW2]; simp [z1]
  have B1 : Below W.heap.size W W1 := by rw [hW1]; exact below_new _ _
  have B2 : Below W1.heap.size W1 W2 := by rw [hW2]; exact below_new _ _
  have B3 : Below W2.heap.size W2 W3 := by rw [hW3]; exact below_new _ _
  have hB3 := below_on (below_on B1 B2 (Nat.le_refl _)) B3 (Nat.le_refl _)
  have t1 : W3.heap[b1]? = some (.cells #[.int .i64 now, .int .u64 last, .slice ao X.length cap] rsT (0, 0)) := by
    rw [B3.block b1 (by omega), B2.block b1 (by omega), hW1, hb1]; exact heap_alloc_new _ _
  have t2 : W3.heap[b2]? = some (.cells #[.int .i64 0, .int .u64 0, .slice none 0 0] rsT (0, 0)) := by
    rw [B3.block b2 (by omega), hW2, hb2, ← z1]; exact heap_alloc_new _ _
  have t3 : W3.heap[b3]? = some (.cells #[.int .u64 0, .int .u64 0, .int .i64 0, .int .i64 0] rtT (0, 0)) := by
    rw [hW3, hb3, ← z2]; exact heap_alloc_new _ _
  have Hup : Hid (W.heap.size ≤ b1 ∧ W.heap.size ≤ b2 ∧ W.heap.size ≤ b3) := ⟨by omega, by omega, by omega⟩
  have Hap : Hid (b1 ≠ b2 ∧ b1 ≠ b3 ∧ b2 ≠ b3) := ⟨by omega, by omega, by omega⟩
  have HB3 := Lib.hid hB3
  have T1 := Lib.hid t1
  have T2 := Lib.hid t2
  have T3 := Lib.hid t3
  clear z1 z2 B1 B2 B3 hB3 t1 t2 t3
  have p0 := block_cell T1.out 0
  have p2 := block_cell T1.out 2
  have l1 := (Array.getElem?_eq_some_iff.1 T1.out).1
  simp at p0 p2
  have h0 := Lib.hid h
  have Hca := Lib.hid (rcan_f W3 now ao cap X id (h.below HB3.out) hl hi)
  clear h hl hi
  go_enter Try.func43, Try.ntmps43
  go_wp2_with fail
  rw [← hW1, ← hW2, ← hW3, ← hb3, ← hb2, ← hb1]
  clear hW1 hW2 hW3 hb1 hb2 hb3
  refine Hca.out.mono ?_
  rintro e V1 ⟨a, c, rfl, hr, hli, hb⟩
  obtain ⟨⟨yi, yg, yd⟩, hy⟩ : ∃ y, y = canT X id := ⟨_, rfl⟩
  obtain ⟨bo, hbo⟩ : ∃ bo, bo = canB X id := ⟨_, rfl⟩
  obtain ⟨M, hM⟩ : ∃ M, M = lessId X id := ⟨_, rfl⟩
  rw [← hM] at hr
  rw [← hy, ← hbo, ← hM]
  unfold rwV rtVal
  have HY := Lib.hid (And.intro hy (And.intro hbo hM))
  have Hr := Lib.hid hr
  have Hli := Lib.hid hli
  have HV1 := Lib.hid hb
  have d1 := bx_below hb T1.out
  have q2 := block_cell d1 2
  have f2 := block_free d1 2
  have m1 := (Array.getElem?_eq_some_iff.1 d1).1
  simp at q2 f2
  have e1 := block_set d1 2 (.slice a M.length c)
  simp only [List.setIfInBounds_toArray, List.set_cons_zero, List.set_cons_succ] at e1
  have g0 : Gr (fun i => i = b1) V1 (V1.setCell ⟨b1, 2, none⟩ (.slice a M.length c)) := Gr.one (grown_set V1 b1 2 _) (fun b e => (Option.some.inj e).symm)
  have hrt0 := rt_sets hr d1 (by decide) 2 (.slice a M.length c)
  obtain ⟨U1, hU1⟩ : ∃ U1, U1 = V1.setCell ⟨b1, 2, none⟩ (.slice a M.length c) := ⟨_, rfl⟩
  rw [← hU1] at e1 g0 hrt0
  obtain ⟨Z1, hZ1⟩ : ∃ Z1, Z1 = U1.alloc (.cells #[.int .i64 now, .slice a M.length c] rwT) := ⟨_, rfl⟩
  obtain ⟨Z, hZ⟩ : ∃ Z, Z = Z1.alloc (.cells #[.int .u64 yi, .int .u64 yg, .int .i64 yd, .int .i64 0] rtT) := ⟨_, rfl⟩
  have s1 : U1.heap.size = V1.heap.size := by rw [hU1]; simp
  have z1 : Z1.heap.size = V1.heap.size + 1 := by rw [hZ1]; simp [s1]
  obtain ⟨b6, hb6⟩ : ∃ b, b = V1.heap.size + 1 := ⟨_, rfl⟩
  have B1 : Below U1.heap.size U1 Z1 := by rw [hZ1]; exact below_new _ _
  have B2 : Below Z1.heap.size Z1 Z := by rw [hZ]; exact below_new _ _
  have hBZ := below_on B1 B2 (Nat.le_refl _)
  have x6 : Z.heap[b6]? = some (.cells #[.int .u64 yi, .int .u64 yg, .int .i64 yd, .int .i64 0] rtT (0, 0)) := by rw [hZ, hb6, ← z1]; exact heap_alloc_new _ _
  have x1 := bx_below hBZ e1
  have hVs := hb.size
  have hx2 := bx_below hBZ ((g0.block b2 (Nat.lt_of_lt_of_le (Array.getElem?_eq_some_iff.1 T2.out).1 hVs) (fun e => Hap.out.1 e.symm)).trans (bx_below hb T2.out))
  have hx3 := bx_below hBZ ((g0.block b3 (Nat.lt_of_lt_of_le (Array.getElem?_eq_some_iff.1 T3.out).1 hVs) (fun e => Hap.out.2.1 e.symm)).trans (bx_below hb T3.out))
  have Hap6 : Hid (b6 ≠ b2 ∧ b6 ≠ b3) := (by have h2 := (Array.getElem?_eq_some_iff.1 T2.out).1; have h3 := (Array.getElem?_eq_some_iff.1 T3.out).1; exact ⟨by omega, by omega⟩ : b6 ≠ b2 ∧ b6 ≠ b3)
  have hld : ∀ W', (W'.heap[b1]? = Z.heap[b1]? ∧ W'.heap[b6]? = Z.heap[b6]?) → (Instr.loadAt rsT (.pointer (some ⟨b1, 0, none⟩))).run Try.prog W' = .ok (.agg #[.int .i64 now, .int .u64 last, .slice a M.length c]) W' ∧ (Instr.loadAt rtT (.pointer (some ⟨b6, 0, none⟩))).run Try.prog W' = .ok (rtVal (⟨yi, yg, yd⟩, 0)) W' := fun W' hw =>
    ⟨ldDs (hw.1.trans x1) _ _ _ rfl, ldRtb ⟨yi, yg, yd⟩ (hw.2.trans x6)⟩
  have hrtZ := hrt0.below hBZ
  have hBWZ : Below W.heap.size W Z := by
    have h1 := below_on HB3.out hb (Nat.le_refl _)
    have h2 := h1.trans (g0.above h1.size (fun i e => by subst e; exact Hup.out.1))
    exact below_on h2 hBZ (Nat.le_refl _)
  have hao3 : ∀ x, a = some x → x.block ≠ b3 := fun x e e2 => by
    rcases hli with rfl | hli
    · have := h0.out.lt x e; have h3 := Hup.out.2.2; omega
    · have := hli x e; have h3 := (Array.getElem?_eq_some_iff.1 T3.out).1; omega
  have hao2 := rt_off hrtZ hx2 (by decide)
  have hfin : ∀ U : World, Gr (fun i => i = b2 ∨ i = b3) Z U → RClrIs W now last ao X id (.returned (.tuple #[.agg #[.int .i64 now, .int .u64 last, .slice a M.length c], .agg #[.int .u64 yi, .int .u64 yg, .int .i64 yd, .int .i64 0], .bool bo])) U := fun U hg => by
    refine ⟨a, c, ?_, ?_, ?_, ?_⟩
    · rw [← hM, ← hy, ← hbo]; rfl
    · rw [← hM]; exact rt_keep hrtZ hg (fun x e h2 => h2.elim (hao2 x e) (hao3 x e))
    · exact hli.imp (fun h => h) (fun h x e => Nat.le_trans HB3.out.size (h x e))
    · exact hBWZ.trans (hg.above hBWZ.size (fun i h2 => by rcases h2 with rfl | rfl; exact Hup.out.2.1; exact Hup.out.2.2))
  have Hfin := Lib.hid hfin
  have Hld := Lib.hid hld
  have L1 := (Array.getElem?_eq_some_iff.1 x1).1
  have L6 := (Array.getElem?_eq_some_iff.1 x6).1
  have HL := Lib.hid (And.intro L1 L6)
  have X2 := Lib.hid hx2
  have X3 := Lib.hid hx3
  have HZ := Lib.hid (And.intro hU1 (And.intro hZ1 (And.intro hZ hb6)))
  clear hfin hld x1 x6 hx2 hx3 hrtZ hrt0 hBWZ hao3 hao2 hy hbo hM hr hli d1 p0 p2 l1 L1 L6 e1 g0 hU1 hZ1 hZ s1 z1 hb6 B1 B2 hBZ hVs hb
  go_upto_region 3 with fail
  rw [← HZ.out.1, ← HZ.out.2.1, ← HZ.out.2.2.1, ← HZ.out.2.2.2]
  clear q2 f2 m1
  obtain ⟨L1, L6⟩ := HL.out
  refine wp_region_held_drew (S := fun W' => W'.heap[b1]? = Z.heap[b1]? ∧ W'.heap[b6]? = Z.heap[b6]?) (by kernel_rfl) ⟨rfl, rfl⟩ (fun hHeld => ?_)
  refine wpAnyH_take (i := 0) (v := .agg #[.int .i64 now, .int .u64 last, .slice a M.length c]) rfl (by kernel_rfl) (by kernel_rfl) (by kernel_rfl) (fun _ _ _ h => h) (Or.inl ⟨by rfl, ?_⟩) (by assumption) ?_
  · intro w8 hSw; exact ld_takeT rfl (Hld.out w8 hSw).1 rfl
  simp only [Act.put, List.getElem_toArray, List.getElem_cons_zero, List.getElem_cons_succ, List.setIfInBounds_toArray, List.set_cons_zero, List.set_cons_succ]
  refine wpAnyH_take (i := 1) (v := rtVal (⟨yi, yg, yd⟩, 0)) rfl (by kernel_rfl) (by kernel_rfl) (by kernel_rfl) (fun _ _ _ h => h) (Or.inl ⟨by rfl, ?_⟩) (by assumption) ?_
  · intro w8 hSw; exact ld_takeT rfl (Hld.out w8 hSw).2 rfl
  simp only [Act.put, List.getElem_toArray, List.getElem_cons_zero, List.getElem_cons_succ, List.setIfInBounds_toArray, List.set_cons_zero, List.set_cons_succ]
  refine wpAnyH_take (i := 2) (v := ?_) rfl (by kernel_rfl) (by kernel_rfl) (by kernel_rfl) (fun _ _ _ h => h) (Or.inl ⟨by rfl, ?_⟩) (by assumption) ?_
  rotate_left
  · intro w8 hSw; clear hSw; go_simp; (try with_reducible rfl)
  simp only [Act.put, List.getElem_toArray, List.getElem_cons_zero, List.getElem_cons_succ, List.setIfInBounds_toArray, List.set_cons_zero, List.set_cons_succ]
  have GD : Hid (Gr (fun i => i = b2 ∨ i = b3) Z Z.drew) := (Gr.below (Below.refl _ Z).drew : Gr (fun i => i = b2 ∨ i = b3) Z Z.drew)
  obtain ⟨V0, hV0⟩ : ∃ V0, V0 = Z.drew := ⟨_, rfl⟩
  have K2 : V0.heap[b2]? = _ := (by rw [hV0]; rfl : V0.heap[b2]? = Z.heap[b2]?).trans X2.out
  have K3 : V0.heap[b3]? = _ := (by rw [hV0]; rfl : V0.heap[b3]? = Z.heap[b3]?).trans X3.out
  have L1 : b1 < V0.heap.size := by rw [hV0]; exact L1
  have L6 : b6 < V0.heap.size := by rw [hV0]; exact L6
  rw [← hV0] at hHeld GD ⊢
  have K2 := Lib.hid K2
  have K3 := Lib.hid K3
  have HL0 := Lib.hid (And.intro L1 L6)
  unfold rtVal
  clear hV0 L1 L6
  refine wpAnyH_ready (rs := [3]) (by kernel_rfl) (by simp) ?_
  refine AllReadyH.cons rfl (fun K hK => ?_) AllReadyH.nil
  · obtain ⟨L1, L6⟩ := HL0.out
    have x2 := K2.out
    have y0 := block_cell x2 0
    have y1 := block_cell x2 1
    have y2 := block_cell x2 2
    have f0 := block_free x2 0
    have f1 := block_free x2 1
    have f2 := block_free x2 2
    have l2 := (Array.getElem?_eq_some_iff.1 x2).1
    simp at y0 y1 y2 f0 f1 f2
    have u2 := bx_set3 x2 (.int .i64 now) (.int .u64 last) (.slice a M.length c)
    have g2 := gr_set3 V0 b2 (.int .i64 now) (.int .u64 last) (.slice a M.length c)
    obtain ⟨U1, hU⟩ : ∃ U, U = ((V0.setCell ⟨b2, 0, none⟩ (.int .i64 now)).setCell ⟨b2, 1, none⟩ (.int .u64 last)).setCell ⟨b2, 2, none⟩ (.slice a M.length c) := ⟨_, rfl⟩
    rw [← hU] at u2 g2
    have HU := Lib.hid hU
    have U2 := Lib.hid u2
    have G2 := Lib.hid g2
    clear u2 g2 hU x2
    go_simp
    rw [← HU.out]
    refine hK.out _ _ ⟨(G2.out.block b1 L1 Hap.out.1).trans hHeld.1, (G2.out.block b6 L6 Hap6.out.1).trans hHeld.2⟩ (fun hHeld => ?_)
    clear hK K y0 y1 y2 f0 f1 f2 l2 HU
    try simp only [Act.put, List.getElem_toArray, List.getElem_cons_zero, List.getElem_cons_succ, List.setIfInBounds_toArray, List.set_cons_zero, List.set_cons_succ]
    refine wpAnyH_ready (rs := [4]) (by kernel_rfl) (by simp) ?_
    refine AllReadyH.cons rfl (fun K hK => ?_) AllReadyH.nil
    have K3b := (G2.out.block b3 (Array.getElem?_eq_some_iff.1 K3.out).1 (fun e => Hap.out.2.2 e.symm)).trans K3.out
    have L1 := Nat.lt_of_lt_of_le L1 G2.out.size
    have L6 := Nat.lt_of_lt_of_le L6 G2.out.size
    have x3 := K3b
    have y0 := block_cell x3 0
    have y1 := block_cell x3 1
    have y2 := block_cell x3 2
    have y3 := block_cell x3 3
    have f0 := block_free x3 0
    have f1 := block_free x3 1
    have f2 := block_free x3 2
    have f3 := block_free x3 3
    have l3 := (Array.getElem?_eq_some_iff.1 x3).1
    simp at y0 y1 y2 y3 f0 f1 f2 f3
    have u3 := bx_set4 x3 (.int .u64 yi) (.int .u64 yg) (.int .i64 yd) (.int .i64 0)
    have g3 := gr_set4 U1 b3 (.int .u64 yi) (.int .u64 yg) (.int .i64 yd) (.int .i64 0)
    obtain ⟨U8, hU⟩ : ∃ U, U = (((U1.setCell ⟨b3, 0, none⟩ (.int .u64 yi)).setCell ⟨b3, 1, none⟩ (.int .u64 yg)).setCell ⟨b3, 2, none⟩ (.int .i64 yd)).setCell ⟨b3, 3, none⟩ (.int .i64 0) := ⟨_, rfl⟩
    rw [← hU] at u3 g3
    have HU := Lib.hid hU
    have U3 := Lib.hid u3
    have G3 := Lib.hid g3
    clear u3 g3 hU x3
    go_simp
    rw [← HU.out]
    refine hK.out _ _ ⟨(G3.out.block b1 L1 Hap.out.2.1).trans hHeld.1, (G3.out.block b6 L6 Hap6.out.2).trans hHeld.2⟩ (fun hHeld => ?_)
    clear hK K y0 y1 y2 y3 f0 f1 f2 f3 l3 HU
    try simp only [Act.put, List.getElem_toArray, List.getElem_cons_zero, List.getElem_cons_succ, List.setIfInBounds_toArray, List.set_cons_zero, List.set_cons_succ]
    have E2 := (G3.out.block b2 (Array.getElem?_eq_some_iff.1 U2.out).1 Hap.out.2.2).trans U2.out
    have E3 := U3.out
    have KG : Gr (fun i => i = b2 ∨ i = b3) Z U8 := (GD.out.trans (G2.out.mono fun i h => .inl h)).trans (G3.out.mono fun i h => .inr h)
    refine wpAnyH_take (i := 5) (v := ?_) rfl (by kernel_rfl) (by kernel_rfl) (by kernel_rfl) (fun _ _ _ h => h) (Or.inl ⟨by rfl, ?_⟩) (by assumption) ?_
    rotate_left
    · intro w8 hSw; clear hSw; go_simp; (try with_reducible rfl)
    simp only [Act.put, List.getElem_toArray, List.getElem_cons_zero, List.getElem_cons_succ, List.setIfInBounds_toArray, List.set_cons_zero, List.set_cons_succ]
    refine wpAnyH_done (by kernel_rfl) ?_ _
    have hR : RClrIs W now last ao X id (.returned (.tuple #[.agg #[.int .i64 now, .int .u64 last, .slice a M.length c], .agg #[.int .u64 yi, .int .u64 yg, .int .i64 yd, .int .i64 0], .bool bo])) U8 := Hfin.out U8 KG
    have u0 := block_cell E2 0
    have u1 := block_cell E2 1
    have u2 := block_cell E2 2
    have ul := (Array.getElem?_eq_some_iff.1 E2).1
    have v0 := block_cell E3 0
    have v1 := block_cell E3 1
    have v2 := block_cell E3 2
    have v3 := block_cell E3 3
    have vl := (Array.getElem?_eq_some_iff.1 E3).1
    simp at u0 u1 u2 v0 v1 v2 v3
    go_wp2_with fail
    refine bodyPost_ret (v := .tuple #[.agg #[.int .i64 now, .int .u64 last, .slice a M.length c], .agg #[.int .u64 yi, .int .u64 yg, .int .i64 yd, .int .i64 0], .bool bo]) ?_ rfl hR
    simp [results, Try.results43, go_sem, u0, u1, u2, ul, v0, v1, v2, v3, vl]
def RAdv13Is (W : World) (now last tb : Int) (ao : Option Addr) (X : List Th) (e : Ending) (W' : World) : Prop := ∃ a1 c1 a2 c2, e = .returned (.tuple #[dsV (advN now tb) last a1 (advX now tb X).length c1, .slice a2 (advL now tb X).length c2, .int .i64 (advE now tb)]) ∧ Rt W' a1 c1 (slot0 (advX now tb X)) ∧ Rt W' a2 c2 (slot0 (advL now tb X)) ∧ (a1 = ao ∨ Lie W a1) ∧ (a2 = none ∨ Lie W a2) ∧ Below W.heap.size W W'
set_option maxRecDepth 100000 in
set_option maxHeartbeats 8000000 in
theorem radv13 (W : World) (now last tb : Int) (ao : Option Addr) (cap : Nat) (X : List Th) (h : Rt W ao cap (slot0 X)) (hl : X.length ≤ 256) (hx : Asc X) :
    Calls Try.prog 44 #[dsV now last ao X.length cap, .int .i64 tb] W (RAdv13Is W now last tb ao X) := by
  unfold dsV
  obtain ⟨W1, hW1⟩ : ∃ W1, W1 = W.alloc (.cells #[.int .i64 now, .int .u64 last, .slice ao X.length cap] rsT) := ⟨_, rfl⟩
  obtain ⟨W2, hW2⟩ : ∃ W2, W2 = W1.alloc (.cells #[.int .i64 0, .int .u64 0, .slice none 0 0] rsT) := ⟨_, rfl⟩
  obtain ⟨b1, hb1⟩ : ∃ b, b = W.heap.size := ⟨_, rfl⟩
  obtain ⟨b2, hb2⟩ : ∃ b, b = W.heap.size + 1 := ⟨_, rfl⟩
  have z1 : W1.heap.size = W.heap.size + 1 := by rw [hW1]; simp
  have B1 : Below W.heap.size W W1 := by rw [hW1]; exact below_new _ _
  have B2 : Below W1.heap.size W1 W2 := by rw [hW2]; exact below_new _ _
  have hB2 := below_on B1 B2 (Nat.le_refl _)
  have t1 : W2.heap[b1]? = some (.cells #[.int .i64 now, .int .u64 last, .slice ao X.length cap] rsT (0, 0)) := by
    rw [B2.block b1 (by omega), hW1, hb1]; exact heap_alloc_new _ _
  have t2 : W2.heap[b2]? = some (.cells #[.int .i64 0, .int .u64 0, .slice none 0 0] rsT (0, 0)) := by
    rw [hW2, hb2, ← z1]; exact heap_alloc_new _ _
  have Hup : Hid (W.heap.size ≤ b1 ∧ W.heap.size ≤ b2) := ⟨by omega, by omega⟩
  have Hap : Hid (b1 ≠ b2) := (by omega : b1 ≠ b2)
  have HB2 := Lib.hid hB2
  have T1 := Lib.hid t1
  have T2 := Lib.hid t2
  clear z1 B1 B2 hB2 t1 t2
  have p0 := block_cell T1.out 0
  have p2 := block_cell T1.out 2
  have l1 := (Array.getElem?_eq_some_iff.1 T1.out).1
  simp at p0 p2
  have Hca := Lib.hid (radv_any W2 now tb ao cap X (h.below HB2.out) hl hx)
  clear h hl hx
  go_enter Try.func44, Try.ntmps44
  go_wp2_with fail
  rw [← hW1, ← hW2, ← hb2, ← hb1]
  clear hW1 hW2 hb1 hb2
  refine Hca.out.mono ?_
  rintro e V1 ⟨a1, c1, a2, c2, rfl, hr1, hr2, hi1, hi2, hb⟩
  obtain ⟨N, hN⟩ : ∃ N, N = advN now tb := ⟨_, rfl⟩
  obtain ⟨Y, hY⟩ : ∃ Y, Y = advX now tb X := ⟨_, rfl⟩
  obtain ⟨L, hL⟩ : ∃ L, L = advL now tb X := ⟨_, rfl⟩
  obtain ⟨E, hE⟩ : ∃ E, E = advE now tb := ⟨_, rfl⟩
  rw [← hY] at hr1
  rw [← hL] at hr2
  rw [← hN, ← hY, ← hL, ← hE]
  unfold rwV
  have d1 := bx_below hb T1.out
  have d2 := bx_below hb T2.out
  have q0 := block_cell d1 0
  have q1 := block_cell d1 1
  have q2 := block_cell d1 2
  have f0 := block_free d1 0
  have f2 := block_free d1 2
  have r0 := block_cell d2 0
  have r1 := block_cell d2 1
  have r2 := block_cell d2 2
  have k0 := block_free d2 0
  have k1 := block_free d2 1
  have k2 := block_free d2 2
  have m1 := (Array.getElem?_eq_some_iff.1 d1).1
  have m2 := (Array.getElem?_eq_some_iff.1 d2).1
  simp at q0 q1 q2 f0 f2 r0 r1 r2 k0 k1 k2
  have ne := Hap.out
  have ne2 := Hap.out.symm
  have HE := Lib.hid (And.intro hN (And.intro hY (And.intro hL hE)))
  have HR := Lib.hid (And.intro hr1 (And.intro hr2 (And.intro hi1 (And.intro hi2 hb))))
  have D1 := Lib.hid d1
  have D2 := Lib.hid d2
  clear hN hY hL hE hr1 hr2 hi1 hi2 hb d1 d2 p0 p2 l1
  go_wp2_with fail
  have g1 : Gr (fun i => i = b1 ∨ i = b2) V1 ((V1.setCell ⟨b1, 0, none⟩ (.int .i64 N)).setCell ⟨b1, 2, none⟩ (.slice a1 Y.length c1)) := (Gr.one (grown_set V1 b1 0 _) (fun b e => .inl (Option.some.inj e).symm)).trans (Gr.one (grown_set _ b1 2 _) (fun b e => .inl (Option.some.inj e).symm))
  have x2 : ((V1.setCell ⟨b1, 0, none⟩ (.int .i64 N)).setCell ⟨b1, 2, none⟩ (.slice a1 Y.length c1)).heap[b2]? = _ := ((heap_setCell_other _ ⟨b1, 2, none⟩ b2 _ ne2).trans (heap_setCell_other V1 ⟨b1, 0, none⟩ b2 _ ne2)).trans D2.out
  have u2 := bx_set3 x2 (.int .i64 N) (.int .u64 last) (.slice a1 Y.length c1)
  have g2 := g1.trans ((gr_set3 ((V1.setCell ⟨b1, 0, none⟩ (.int .i64 N)).setCell ⟨b1, 2, none⟩ (.slice a1 Y.length c1)) b2 (.int .i64 N) (.int .u64 last) (.slice a1 Y.length c1)).mono fun i h => .inr h)
  obtain ⟨UB, hUB⟩ : ∃ UB, UB = ((((V1.setCell ⟨b1, 0, none⟩ (.int .i64 N)).setCell ⟨b1, 2, none⟩ (.slice a1 Y.length c1)).setCell ⟨b2, 0, none⟩ (.int .i64 N)).setCell ⟨b2, 1, none⟩ (.int .u64 last)).setCell ⟨b2, 2, none⟩ (.slice a1 Y.length c1) := ⟨_, rfl⟩
  rw [← hUB] at u2 g2 ⊢
  obtain ⟨U, hU⟩ : ∃ U, U = UB.alloc (.cells #[.int .i64 N, .slice a1 Y.length c1] rwT) := ⟨_, rfl⟩
  have hBU : Below UB.heap.size UB U := by rw [hU]; exact below_new _ _
  rw [← hU]
  have u3 := bx_below hBU u2
  have u0 := block_cell u3 0
  have u1 := block_cell u3 1
  have u4 := block_cell u3 2
  have ul := (Array.getElem?_eq_some_iff.1 u3).1
  simp at u0 u1 u4
  obtain ⟨hr1, hr2, hi1, hi2, hb⟩ := HR.out
  have hB := below_on HB2.out hb (Nat.le_refl _)
  have hR : RAdv13Is W now last tb ao X (.returned (.tuple #[.agg #[.int .i64 N, .int .u64 last, .slice a1 Y.length c1], .slice a2 L.length c2, .int .i64 E])) U := by
    refine ⟨a1, c1, a2, c2, ?_, ?_, ?_, hi1.imp (fun h => h) (fun h x e => Nat.le_trans HB2.out.size (h x e)), hi2.imp (fun h => h) (fun h x e => Nat.le_trans HB2.out.size (h x e)), ?_⟩
    · rw [← HE.out.1, ← HE.out.2.1, ← HE.out.2.2.1, ← HE.out.2.2.2]; rfl
    · rw [← HE.out.2.1]
      exact (rt_keep hr1 g2 (fun x e h => h.elim (rt_off hr1 D1.out (by decide) x e) (rt_off hr1 D2.out (by decide) x e))).below hBU
    · rw [← HE.out.2.2.1]
      exact (rt_keep hr2 g2 (fun x e h => h.elim (rt_off hr2 D1.out (by decide) x e) (rt_off hr2 D2.out (by decide) x e))).below hBU
    · exact below_on (hB.trans (g2.above hB.size (fun i h => by rcases h with rfl | rfl; exact Hup.out.1; exact Hup.out.2))) hBU (Nat.le_refl _)
  refine bodyPost_ret (v := .tuple #[.agg #[.int .i64 N, .int .u64 last, .slice a1 Y.length c1], .slice a2 L.length c2, .int .i64 E]) ?_ rfl hR
  simp [results, Try.results44, go_sem, u0, u1, u4, ul]
end Go.Proofs.Ytedlplkomfiahaa
