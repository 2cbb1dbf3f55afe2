/- Lemmas for DeadlinePlays (Dg). No statement of the seat is proved here. -/
import Derived.Test.YtedlplkomfiahaaQ21
namespace Go.Proofs.Ytedlplkomfiahaa
set_option linter.unusedVariables false
set_option linter.unusedSimpArgs false
set_option linter.unusedSectionVars false
open Go Go.RowKit Go.Maps Go.Deep
def RSetIs (W : World) (now last : Int) (ao : Option Addr) (X : List Th) (id due : Int) (e : Ending) (W' : World) : Prop := ∃ a c, e = .returned (.tuple #[dsV now (setL last X id due) a (setX last X id due).length c, .int .u64 (setN last X id due), .int .i64 (setE last X id due)]) ∧ Rt W' a c (slot0 (setX last X id due)) ∧ (a = ao ∨ Lie W a) ∧ Below W.heap.size W W'
theorem rset_out {W W' : World} {now last : Int} {ao : Option Addr} {cap : Nat} {X : List Th} {id due r : Int} (h : ¬ SetOk last X id due) (hr : setE last X id due = r) (hR : Rt W' ao cap (slot0 X)) (hb : Below W.heap.size W W') : RSetIs W now last ao X id due (.returned (.tuple #[.agg #[.int .i64 now, .int .u64 last, .slice ao X.length cap], .int .u64 0, .int .i64 r])) W' := by
  obtain ⟨k1, k2, k3⟩ := set_out last X id due h
  refine ⟨ao, cap, ?_, ?_, .inl rfl, hb⟩
  · rw [k1, k2, k3, hr]; rfl
  · rw [k3]; exact hR
set_option maxRecDepth 100000 in
set_option maxHeartbeats 8000000 in
theorem rset_bad (W : World) (now last : Int) (ao : Option Addr) (cap : Nat) (X : List Th) (id due r : Int) (h : Rt W ao cap (slot0 X)) (hl : X.length ≤ 256)
    (hor : (due < 0 ∧ r = 2) ∨ (¬ due < 0 ∧ due > 1125899906842624 ∧ r = 2) ∨ (¬ due < 0 ∧ ¬ due > 1125899906842624 ∧ last ≥ 1152921504606846976 ∧ r = 10) ∨ (¬ due < 0 ∧ ¬ due > 1125899906842624 ∧ ¬ last ≥ 1152921504606846976 ∧ X.length = 256 ∧ findV (slot0 X) id = -1 ∧ r = 30)) (hn : ¬ SetOk last X id due) (hr : setE last X id due = r) :
    Calls Try.prog 47 #[dsV now last ao X.length cap, .int .u64 id, .int .i64 due] W (RSetIs W now last ao X id due) := by
  unfold dsV
  obtain ⟨W1, hW1⟩ : ∃ W1, W1 = W.alloc (.cells #[.int .i64 now, .int .u64 last, .slice ao X.length cap] rsT) := ⟨_, rfl⟩
  obtain ⟨W2, hW2⟩ : ∃ W2, W2 = W1.alloc (.cells #[.int .i64 0, .int .u64 0, .slice none 0 0] rsT) := ⟨_, rfl⟩
  obtain ⟨b1, hb1⟩ : ∃ b, b = W.heap.size := ⟨_, rfl⟩
  obtain ⟨b2, hb2⟩ : ∃ b, b = W.heap.size + 1 := ⟨_, rfl⟩
  have z1 : W1.heap.size = W.heap.size + 1 := by rw [hW1]; simp
  have B1 : Below W.heap.size W W1 := by rw [hW1]; exact below_new _ _
  have B2 : Below W1.heap.size W1 W2 := by rw [hW2]; exact below_new _ _
  have hB2 := below_on B1 B2 (Nat.le_refl _)
  have t1 : W2.heap[b1]? = some (.cells #[.int .i64 now, .int .u64 last, .slice ao X.length cap] rsT (0, 0)) := by
    rw [B2.block b1 (by omega), hW1, hb1]; exact heap_alloc_new _ _
  have t2 : W2.heap[b2]? = some (.cells #[.int .i64 0, .int .u64 0, .slice none 0 0] rsT (0, 0)) := by
    rw [hW2, hb2, ← z1]; exact heap_alloc_new _ _
  have Hup : Hid (W.heap.size ≤ b1 ∧ W.heap.size ≤ b2) := ⟨by omega, by omega⟩
  have Hap : Hid (b1 ≠ b2) := (by omega : b1 ≠ b2)
  have HB2 := Lib.hid hB2
  have T1 := Lib.hid t1
  have T2 := Lib.hid t2
  clear z1 B1 B2 hB2 t1 t2
  have p0 := block_cell T1.out 0
  have p1 := block_cell T1.out 1
  have p2 := block_cell T1.out 2
  have l1 := (Array.getElem?_eq_some_iff.1 T1.out).1
  have q0 := block_cell T2.out 0
  have q1 := block_cell T2.out 1
  have q2 := block_cell T2.out 2
  have f0 := block_free T2.out 0
  have f1 := block_free T2.out 1
  have f2 := block_free T2.out 2
  have l2 := (Array.getElem?_eq_some_iff.1 T2.out).1
  simp at p0 p1 p2 q0 q1 q2 f0 f1 f2
  have ne := Hap.out
  have ne2 := Hap.out.symm
  have Hfin : ∀ (V : World), Below W2.heap.size W2 V → ∃ U, U = ((V.setCell ⟨b2, 0, none⟩ (.int .i64 now)).setCell ⟨b2, 1, none⟩ (.int .u64 last)).setCell ⟨b2, 2, none⟩ (.slice ao X.length cap) ∧ RSetIs W now last ao X id due (.returned (.tuple #[.agg #[.int .i64 now, .int .u64 last, .slice ao X.length cap], .int .u64 0, .int .i64 r])) U ∧ U.heap[b2]? = some (.cells #[.int .i64 now, .int .u64 last, .slice ao X.length cap] rsT (0, 0)) := fun V hV => by
    have x2 := bx_below hV T2.out
    have hB := below_on HB2.out hV (Nat.le_refl _)
    have g2 := gr_set3 V b2 (.int .i64 now) (.int .u64 last) (.slice ao X.length cap)
    have hrV := h.below hB
    exact ⟨_, rfl, rset_out hn hr (rt_keep hrV g2 (rt_off hrV x2 (by decide))) (hB.trans (g2.above hB.size (fun i e => by subst e; exact Hup.out.2))), bx_set3 x2 _ _ _⟩
  have HFin := Lib.hid Hfin
  have Hfd := Lib.hid (find_any W2 ao cap (slot0 X) id (h.below HB2.out) (by rw [slot0_len]; omega))
  rw [slot0_len] at Hfd
  clear h hl hn hr Hfin
  rcases hor with ⟨x1, rfl⟩ | ⟨x1, x2, rfl⟩ | ⟨x1, x2, x3, rfl⟩ | ⟨x1, x2, x3, x4, x5, rfl⟩
  · obtain ⟨U, hU, hR, u3⟩ := HFin.out W2 (Below.refl _ _)
    clear Hfd
    go_enter Try.func47, Try.ntmps47
    go_upto_region 1 with fail
    rw [← hW1, ← hW2, ← hb2, ← hb1]
    clear hW1 hW2 hb1 hb2
    go_wp2_with fail
    rw [← hU]
    have u0 := block_cell u3 0
    have u1 := block_cell u3 1
    have u4 := block_cell u3 2
    have ul := (Array.getElem?_eq_some_iff.1 u3).1
    simp at u0 u1 u4
    refine bodyPost_ret (v := .tuple #[.agg #[.int .i64 now, .int .u64 last, .slice ao X.length cap], .int .u64 0, .int .i64 2]) ?_ rfl hR
    simp [results, Try.results47, go_sem, u0, u1, u4, ul]
  · obtain ⟨U, hU, hR, u3⟩ := HFin.out W2 (Below.refl _ _)
    clear Hfd
    go_enter Try.func47, Try.ntmps47
    go_upto_region 1 with fail
    rw [← hW1, ← hW2, ← hb2, ← hb1]
    clear hW1 hW2 hb1 hb2
    go_wp2_with fail
    rw [← hU]
    have u0 := block_cell u3 0
    have u1 := block_cell u3 1
    have u4 := block_cell u3 2
    have ul := (Array.getElem?_eq_some_iff.1 u3).1
    simp at u0 u1 u4
    refine bodyPost_ret (v := .tuple #[.agg #[.int .i64 now, .int .u64 last, .slice ao X.length cap], .int .u64 0, .int .i64 2]) ?_ rfl hR
    simp [results, Try.results47, go_sem, u0, u1, u4, ul]
  · obtain ⟨U, hU, hR, u3⟩ := HFin.out W2 (Below.refl _ _)
    clear Hfd
    go_enter Try.func47, Try.ntmps47
    go_upto_region 1 with fail
    rw [← hW1, ← hW2, ← hb2, ← hb1]
    clear hW1 hW2 hb1 hb2
    go_wp2_with fail
    rw [← hU]
    have u0 := block_cell u3 0
    have u1 := block_cell u3 1
    have u4 := block_cell u3 2
    have ul := (Array.getElem?_eq_some_iff.1 u3).1
    simp at u0 u1 u4
    refine bodyPost_ret (v := .tuple #[.agg #[.int .i64 now, .int .u64 last, .slice ao X.length cap], .int .u64 0, .int .i64 10]) ?_ rfl hR
    simp [results, Try.results47, go_sem, u0, u1, u4, ul]
  · have x6 : (X.length : Int) ≥ 256 := by omega
    have X5 := Lib.hid x5
    clear x4 x5
    have T1b := T1
    have T2b := T2
    clear q0 q1 q2 f0 f1 f2 l2
    go_enter Try.func47, Try.ntmps47
    go_wp2_with fail
    rw [← hW1, ← hW2, ← hb2, ← hb1]
    clear hW1 hW2 hb1 hb2
    refine Hfd.out.mono ?_
    rintro e V ⟨rfl, hV⟩
    rw [X5.out]
    have p0 := block_cell (bx_below hV T1.out) 0
    have p1 := block_cell (bx_below hV T1.out) 1
    have p2 := block_cell (bx_below hV T1.out) 2
    have l1 := (Array.getElem?_eq_some_iff.1 (bx_below hV T1.out)).1
    have q0 := block_cell (bx_below hV T2.out) 0
    have q1 := block_cell (bx_below hV T2.out) 1
    have q2 := block_cell (bx_below hV T2.out) 2
    have f0 := block_free (bx_below hV T2.out) 0
    have f1 := block_free (bx_below hV T2.out) 1
    have f2 := block_free (bx_below hV T2.out) 2
    have l2 := (Array.getElem?_eq_some_iff.1 (bx_below hV T2.out)).1
    simp at p0 p1 p2 q0 q1 q2 f0 f1 f2
    obtain ⟨U, hU, hR, u3⟩ := HFin.out V hV
    go_wp2_with fail
    rw [← hU]
    have u0 := block_cell u3 0
    have u1 := block_cell u3 1
    have u4 := block_cell u3 2
    have ul := (Array.getElem?_eq_some_iff.1 u3).1
    simp at u0 u1 u4
    refine bodyPost_ret (v := .tuple #[.agg #[.int .i64 now, .int .u64 last, .slice ao X.length cap], .int .u64 0, .int .i64 30]) ?_ rfl hR
    simp [results, Try.results47, go_sem, u0, u1, u4, ul]
theorem rset_in {W U : World} {now last : Int} {ao a4 : Option Addr} {c4 E : Nat} {X M : List Th} {id due : Int} (h : SetOk last X id due) (hM : M = lessId X id) (ho : U.ownsRow E rtT 4 (.slice a4 (M.length + 1) c4) (M.length + 1) (rtFlat (Sta.srt leP (slot0 M ++ [((⟨id, last + 1, due⟩ : Th), 0)])))) (hE : W.heap.size ≤ E) (hb : Below W.heap.size W U) : RSetIs W now last ao X id due (.returned (.tuple #[.agg #[.int .i64 now, .int .u64 (last + 1), .slice a4 (M.length + 1) c4], .int .u64 (last + 1), .int .i64 0])) U := by
  obtain ⟨k1, k2, k3, k4⟩ := set_in last X id due h.1 h.2
  subst hM
  refine ⟨a4, c4, ?_, ?_, .inr (fun x e => Nat.le_trans hE (own_lie ho x e)), hb⟩
  · rw [k1, k2, k3, k4, insT_len]; rfl
  · rw [k4, ← srt0]
    exact rx_own ho (srt_app_len _ _)
set_option maxRecDepth 100000 in
set_option maxHeartbeats 16000000 in
theorem rset_ok (W : World) (now last : Int) (ao : Option Addr) (cap : Nat) (X : List Th) (id due : Int) (h : Rt W ao cap (slot0 X)) (hl : X.length ≤ 256) (hi : Ids X) (h0 : 0 ≤ last) (hok : SetOk last X id due) :
    Calls Try.prog 47 #[dsV now last ao X.length cap, .int .u64 id, .int .i64 due] W (RSetIs W now last ao X id due) := by
  unfold dsV
  have x1 : ¬ due < 0 := by have := hok.1.1; omega
  have x2 : ¬ due > 1125899906842624 := by have := hok.1.2; omega
  have x3 : ¬ last ≥ 1152921504606846976 := by have := hok.2.1; omega
  obtain ⟨W1, hW1⟩ : ∃ W1, W1 = W.alloc (.cells #[.int .i64 now, .int .u64 last, .slice ao X.length cap] rsT) := ⟨_, rfl⟩
  obtain ⟨W2, hW2⟩ : ∃ W2, W2 = W1.alloc (.cells #[.int .i64 0, .int .u64 0, .slice none 0 0] rsT) := ⟨_, rfl⟩
  obtain ⟨b1, hb1⟩ : ∃ b, b = W.heap.size := ⟨_, rfl⟩
  obtain ⟨b2, hb2⟩ : ∃ b, b = W.heap.size + 1 := ⟨_, rfl⟩
  have z1 : W1.heap.size = W.heap.size + 1 := by rw [hW1]; simp
  have B1 : Below W.heap.size W W1 := by rw [hW1]; exact below_new _ _
  have B2 : Below W1.heap.size W1 W2 := by rw [hW2]; exact below_new _ _
  have hB2 := below_on B1 B2 (Nat.le_refl _)
  have t1 : W2.heap[b1]? = some (.cells #[.int .i64 now, .int .u64 last, .slice ao X.length cap] rsT (0, 0)) := by
    rw [B2.block b1 (by omega), hW1, hb1]; exact heap_alloc_new _ _
  have t2 : W2.heap[b2]? = some (.cells #[.int .i64 0, .int .u64 0, .slice none 0 0] rsT (0, 0)) := by
    rw [hW2, hb2, ← z1]; exact heap_alloc_new _ _
  have Hup : Hid (W.heap.size ≤ b1 ∧ W.heap.size ≤ b2) := ⟨by omega, by omega⟩
  have Hap : Hid (b1 ≠ b2) := (by omega : b1 ≠ b2)
  have HB2 := Lib.hid hB2
  have T1 := Lib.hid t1
  have T2 := Lib.hid t2
  clear z1 B1 B2 hB2 t1 t2
  have p0 := block_cell T1.out 0
  have p1 := block_cell T1.out 1
  have p2 := block_cell T1.out 2
  have l1 := (Array.getElem?_eq_some_iff.1 T1.out).1
  simp at p0 p1 p2
  have HR := Lib.hid h
  have HX := Lib.hid (And.intro hl hi)
  have Hok := Lib.hid hok
  have H0 := Lib.hid h0
  clear h hl hi hok h0
  go_enter Try.func47, Try.ntmps47
  go_upto_region 5 with fail
  rw [← hW1, ← hW2, ← hb2, ← hb1]
  clear hW1 hW2 hb1 hb2
  go_cut [30] (fun v wx => v = .bool false ∧ Below W2.heap.size W2 wx)
  case first =>
    by_cases hf : X.length < 256
    · have x6 : ¬ (X.length : Int) ≥ 256 := by omega
      clear hf
      go_wp2_with fail
      go_meet
      exact ⟨rfl, Below.refl _ _⟩
    · have x6 : (X.length : Int) ≥ 256 := by omega
      have hc : canB X id = true := Hok.out.2.2.resolve_right hf
      have hin : ∃ u ∈ X, u.id = id := by
        unfold canB at hc
        obtain ⟨u, hu⟩ := Option.isSome_iff_exists.1 hc
        have he := List.find?_some hu
        simp only [decide_eq_true_eq] at he
        exact ⟨u, List.mem_of_find?_eq_some hu, he⟩
      obtain ⟨k, -, -, hv⟩ := findV_yes hin
      have hfd := find_any W2 ao cap (slot0 X) id (HR.out.below HB2.out) (by rw [slot0_len]; have := HX.out.1; omega)
      rw [slot0_len, hv] at hfd
      have Hfd := Lib.hid hfd
      have x7 : ¬ (k : Int) < 0 := by omega
      clear hf hc hin hv hfd
      go_wp2_with fail
      refine Hfd.out.mono ?_
      rintro e V ⟨rfl, hV⟩
      go_wp2_with fail
      go_meet
      exact ⟨rfl, hV⟩
  case rest =>
    obtain ⟨rfl, hcb⟩ := hcut
    have hBc := below_on HB2.out hcb (Nat.le_refl _)
    have t1 := bx_below hcb T1.out
    have p0 := block_cell t1 0
    have p1 := block_cell t1 1
    have p2 := block_cell t1 2
    have l1 := (Array.getElem?_eq_some_iff.1 t1).1
    simp at p0 p1 p2
    have Hcl := Lib.hid (rclear13 wc now last ao cap X id (HR.out.below hBc) HX.out.1 HX.out.2)
    unfold dsV at Hcl
    have HBc := Lib.hid hBc
    have T1c := Lib.hid t1
    have T2c := Lib.hid (bx_below hcb T2.out)
    clear hcb hBc t1
    go_wp2_with fail
    refine (show Calls _ _ _ _ _ from Hcl.out).mono ?_
    rintro e V1 ⟨a, c, rfl, hr, hli, hb⟩
    obtain ⟨M, hM⟩ : ∃ M, M = lessId X id := ⟨_, rfl⟩
    obtain ⟨y, hy⟩ : ∃ y, y = rtVal (canT X id, 0) := ⟨_, rfl⟩
    obtain ⟨bo, hbo⟩ : ∃ bo, bo = canB X id := ⟨_, rfl⟩
    rw [← hM] at hr
    rw [← hM, ← hy, ← hbo]
    unfold dsV
    have d1 := bx_below hb T1c.out
    have d2 := bx_below hb T2c.out
    have k0 := block_cell d1 0
    have k1 := block_cell d1 1
    have k2 := block_cell d1 2
    have f0 := block_free d1 0
    have f1 := block_free d1 1
    have f2 := block_free d1 2
    have m1 := (Array.getElem?_eq_some_iff.1 d1).1
    simp at k0 k1 k2 f0 f1 f2
    have e1 := block_set (bx_set3 d1 (.int .i64 now) (.int .u64 last) (.slice a M.length c)) 1 (.int .u64 (last + 1))
    simp only [List.setIfInBounds_toArray, List.set_cons_zero, List.set_cons_succ] at e1
    have g1 := (gr_set3 V1 b1 (.int .i64 now) (.int .u64 last) (.slice a M.length c)).trans (Gr.one (grown_set _ b1 1 (.int .u64 (last + 1))) (fun b e => (Option.some.inj e).symm))
    obtain ⟨V, hV⟩ : ∃ V, V = (((V1.setCell ⟨b1, 0, none⟩ (.int .i64 now)).setCell ⟨b1, 1, none⟩ (.int .u64 last)).setCell ⟨b1, 2, none⟩ (.slice a M.length c)).setCell ⟨b1, 1, none⟩ (.int .u64 (last + 1)) := ⟨_, rfl⟩
    rw [← hV] at e1 g1
    have hB1 := below_on HBc.out hb (Nat.le_refl _)
    have hBV : Below W.heap.size W V := hB1.trans (g1.above hB1.size (fun i e => by subst e; exact Hup.out.1))
    have hrV := rt_keep hr g1 (rt_off hr d1 (by decide))
    have d2V := (g1.block b2 (Array.getElem?_eq_some_iff.1 d2).1 (fun e => Hap.out e.symm)).trans d2
    have hMl : M.length ≤ 256 := by rw [hM]; exact Nat.le_trans (List.length_filter_le _ _) HX.out.1
    have w1 : IntKind.u64.wrap (last + 1) = last + 1 := u64_one last ⟨H0.out, Hok.out.2.1⟩
    have HM := Lib.hid hM
    have HV := Lib.hid hV
    have D1 := Lib.hid e1
    have D2 := Lib.hid d2V
    have HBV := Lib.hid hBV
    have HrV := Lib.hid hrV
    have HML := Lib.hid hMl
    clear hM hV e1 g1 hB1 hBV hrV d2V d1 d2 hr hli hb hy hbo hMl p0 p1 p2 l1
    go_upto_region 9 with fail
    rw [← HV.out]
    clear k0 k1 k2 f0 f1 f2 m1 w1
    obtain ⟨E, hE⟩ : ∃ E, E = V.heap.size := ⟨_, rfl⟩
    have HE0 := Lib.hid (show E ≤ V.heap.size by omega)
    have HbE : Hid (b1 < E ∧ b2 < E ∧ W.heap.size ≤ E) := (by rw [hE]; exact ⟨(Array.getElem?_eq_some_iff.1 D1.out).1, (Array.getElem?_eq_some_iff.1 D2.out).1, HBV.out.size⟩ : b1 < E ∧ b2 < E ∧ W.heap.size ≤ E)
    have hHE := Lib.hid hE
    have Hsl : Hid (∀ V', Below E V V' → Sl V' 4 a M.length c (rtFlat (slot0 M))) := (fun V' hB => by have h1 := HrV.out.below (by rw [← hHE.out]; exact hB); have h2 := h1.sl; rw [slot0_len] at h2; exact h2 : ∀ V', Below E V V' → Sl V' 4 a M.length c (rtFlat (slot0 M)))
    have Hgr : Hid (∀ V', Below E V V' → V'.heap[b1]? = V.heap[b1]?) := (fun V' hB => hB.block b1 HbE.out.1 : ∀ V', Below E V V' → V'.heap[b1]? = V.heap[b1]?)
    have hld : ∀ W', W'.heap[b1]? = V.heap[b1]? → (Instr.loadAt rtsT (.pointer (some ⟨b1, 2, none⟩))).run Try.prog W' = .ok (.slice a M.length c) W' ∧ (Instr.loadAt 28 (.pointer (some ⟨b1, 1, none⟩))).run Try.prog W' = .ok (.int .u64 (last + 1)) W' := fun W' hw => by
      have p2 := block_cell (hw.trans D1.out) 2
      have p1 := block_cell (hw.trans D1.out) 1
      simp at p1 p2
      exact ⟨ldS p2, by go_simp⟩
    have Hld := Lib.hid hld
    have Hend : Hid (∀ (V' : World) (a4 : Option Addr) (c4 : Nat), Below E V V' → V'.ownsRow E rtT 4 (.slice a4 (M.length + 1) c4) (M.length + 1) (rtFlat (Sta.srt leP (slot0 M ++ [((⟨id, last + 1, due⟩ : Th), 0)]))) → ∃ VZ, VZ = V'.setCell ⟨b1, 2, none⟩ (.slice a4 (M.length + 1) c4) ∧ (VZ.heap[b1]? = some (.cells #[.int .i64 now, .int .u64 (last + 1), .slice a4 (M.length + 1) c4] rsT (0, 0)) ∧ VZ.heap[b2]? = some (.cells #[.int .i64 0, .int .u64 0, .slice none 0 0] rsT (0, 0)) ∧ VZ.ownsRow E rtT 4 (.slice a4 (M.length + 1) c4) (M.length + 1) (rtFlat (Sta.srt leP (slot0 M ++ [((⟨id, last + 1, due⟩ : Th), 0)]))) ∧ Below W.heap.size W VZ)) := (fun V' a4 c4 hB own4 => by
      have x1 := (hB.block b1 HbE.out.1).trans D1.out
      have u1 := block_set x1 2 (.slice a4 (M.length + 1) c4)
      simp only [List.setIfInBounds_toArray, List.set_cons_zero, List.set_cons_succ] at u1
      have g := grown_set V' b1 2 (.slice a4 (M.length + 1) c4)
      have hBW : Below W.heap.size W V' := below_on HBV.out (by rw [← hHE.out]; exact hB) (Nat.le_refl _)
      refine ⟨_, rfl, u1, ?_, World.ownsRow.kept own4 g (.inr (fun e => by have := (own4.lt b1 e).1; have := HbE.out.1; omega)), below_grown hBW g Hup.out.1 hBW.size⟩
      exact (heap_setCell_other V' ⟨b1, 2, none⟩ b2 _ (fun e => Hap.out e.symm)).trans ((hB.block b2 HbE.out.2.1).trans D2.out) : ∀ (V' : World) (a4 : Option Addr) (c4 : Nat), Below E V V' → V'.ownsRow E rtT 4 (.slice a4 (M.length + 1) c4) (M.length + 1) (rtFlat (Sta.srt leP (slot0 M ++ [((⟨id, last + 1, due⟩ : Th), 0)]))) → ∃ VZ, VZ = V'.setCell ⟨b1, 2, none⟩ (.slice a4 (M.length + 1) c4) ∧ (VZ.heap[b1]? = some (.cells #[.int .i64 now, .int .u64 (last + 1), .slice a4 (M.length + 1) c4] rsT (0, 0)) ∧ VZ.heap[b2]? = some (.cells #[.int .i64 0, .int .u64 0, .slice none 0 0] rsT (0, 0)) ∧ VZ.ownsRow E rtT 4 (.slice a4 (M.length + 1) c4) (M.length + 1) (rtFlat (Sta.srt leP (slot0 M ++ [((⟨id, last + 1, due⟩ : Th), 0)]))) ∧ Below W.heap.size W VZ))
    clear hld hE
    refine wp_region_late 13 (S := fun W' => W'.heap[b1]? = V.heap[b1]?) (by kernel_rfl) rfl (fun hHeld => ?_)
    obtain ⟨V0, hV0⟩ : ∃ V0, V0 = V.drew := ⟨_, rfl⟩
    have hB : Below E V V0 := by rw [hV0]; exact (Below.refl E V).drew
    have hE : E ≤ V0.heap.size := by rw [hV0]; exact HE0.out
    rw [← hV0] at hHeld ⊢
    clear hV0
    refine wpLate_pure (i := 1) (v := ?_) rfl (by kernel_rfl) (by kernel_rfl) (by kernel_rfl) (by kernel_rfl) (fun _ _ _ h => h) (Or.inl ⟨by rfl, ?_⟩) (fun _ => by assumption) ?_
    rotate_left
    · intro w8 hSw; clear hSw; go_simp; (try with_reducible rfl)
    simp only [Act.put, List.getElem_toArray, List.getElem_cons_zero, List.getElem_cons_succ, List.setIfInBounds_toArray, List.set_cons_zero, List.set_cons_succ]
    refine wpLate_take [3, 10, 11, 13] (i := 2) (v := .slice a M.length c) rfl (by kernel_rfl) (by kernel_rfl) (by kernel_rfl) (by kernel_rfl) (by kernel_rfl) (fun _ _ _ h => h) (Or.inl ⟨by rfl, ?_⟩) (by assumption) ?_
    · intro w8 hSw; exact ld_takeT rfl (Hld.out w8 hSw).1 rfl
    simp only [Act.put, List.getElem_toArray, List.getElem_cons_zero, List.getElem_cons_succ, List.setIfInBounds_toArray, List.set_cons_zero, List.set_cons_succ]
    refine wpLate_pure (i := 4) (v := ?_) rfl (by kernel_rfl) (by kernel_rfl) (by kernel_rfl) (by kernel_rfl) (fun _ _ _ h => h) (Or.inl ⟨by rfl, ?_⟩) (fun _ => by assumption) ?_
    rotate_left
    · intro w8 hSw; clear hSw; go_simp; (try with_reducible rfl)
    simp only [Act.put, List.getElem_toArray, List.getElem_cons_zero, List.getElem_cons_succ, List.setIfInBounds_toArray, List.set_cons_zero, List.set_cons_succ]
    refine wpLate_pure (i := 5) (v := ?_) rfl (by kernel_rfl) (by kernel_rfl) (by kernel_rfl) (by kernel_rfl) (fun _ _ _ h => h) (Or.inl ⟨by rfl, ?_⟩) (fun _ => by assumption) ?_
    rotate_left
    · intro w8 hSw; clear hSw; go_simp; (try with_reducible rfl)
    simp only [Act.put, List.getElem_toArray, List.getElem_cons_zero, List.getElem_cons_succ, List.setIfInBounds_toArray, List.set_cons_zero, List.set_cons_succ]
    refine wpLate_take [8, 9, 10, 11, 13] (i := 6) (v := .int .u64 (last + 1)) rfl (by kernel_rfl) (by kernel_rfl) (by kernel_rfl) (by kernel_rfl) (by kernel_rfl) (fun _ _ _ h => h) (Or.inl ⟨by rfl, ?_⟩) (by assumption) ?_
    · intro w8 hSw; exact ld_takeT rfl (Hld.out w8 hSw).2 rfl
    simp only [Act.put, List.getElem_toArray, List.getElem_cons_zero, List.getElem_cons_succ, List.setIfInBounds_toArray, List.set_cons_zero, List.set_cons_succ]
    refine wpLate_pure (i := 7) (v := ?_) rfl (by kernel_rfl) (by kernel_rfl) (by kernel_rfl) (by kernel_rfl) (fun _ _ _ h => h) (Or.inl ⟨by rfl, ?_⟩) (fun _ => by assumption) ?_
    rotate_left
    · intro w8 hSw; clear hSw; go_simp; (try with_reducible rfl)
    simp only [Act.put, List.getElem_toArray, List.getElem_cons_zero, List.getElem_cons_succ, List.setIfInBounds_toArray, List.set_cons_zero, List.set_cons_succ]
    refine wpLate_pure (i := 8) (v := ?_) rfl (by kernel_rfl) (by kernel_rfl) (by kernel_rfl) (by kernel_rfl) (fun _ _ _ h => h) (Or.inl ⟨by rfl, ?_⟩) (fun _ => by assumption) ?_
    rotate_left
    · intro w8 hSw; clear hSw; go_simp; (try with_reducible rfl)
    simp only [Act.put, List.getElem_toArray, List.getElem_cons_zero, List.getElem_cons_succ, List.setIfInBounds_toArray, List.set_cons_zero, List.set_cons_succ]
    refine wpLate_ready (rs := [0, 9]) (by kernel_rfl) (by simp) ?_
    refine AllLate.cons rfl (fun K hK => ?_) (AllLate.cons rfl (fun K hK => ?_) AllLate.nil)
    · go_simp
      obtain ⟨V1, hX⟩ : ∃ X, X = V0.alloc (.cells #[] rtT) := ⟨_, rfl⟩
      have own0 := own_empty V0 E rtT 4 hE
      have hBx := below_on hB (below_new V0 (.cells #[] rtT)) HE0.out
      have hlt := hE
      obtain ⟨g0, hg⟩ : ∃ g, g = V0.heap.size := ⟨_, rfl⟩
      rw [← hX] at own0 hBx
      rw [← hg] at own0
      have HX := Lib.hid hX
      have HG := Lib.hid hg
      clear hX hg
      rw [show V0.alloc (.cells #[] rtT) = V1 from HX.out.symm, ← HG.out]
      have hE1 : E ≤ V1.heap.size := by rw [HX.out]; simp; omega
      clear hE hlt HX HG hB
      have hE := hE1
      have hB := hBx
      clear hE1 hBx
      refine hK.out _ _ (Hgr.out _ hB) (fun hHeld => ?_)
      clear hK K
      try simp only [Act.put, List.getElem_toArray, List.getElem_cons_zero, List.getElem_cons_succ, List.setIfInBounds_toArray, List.set_cons_zero, List.set_cons_succ]
      refine wpLate_ready (rs := [3, 9]) (by kernel_rfl) (by simp) ?_
      refine AllLate.cons rfl (fun K hK => ?_) (AllLate.cons rfl (fun K hK => ?_) AllLate.nil)
      · rw [if_pos (by rfl)]
        refine wpo_append_lie (.tmp 43) (.tmp 45) rtsT rfl E rtT infoRt Try.underlying48 rfl (by decide) _ 0 [] rfl own0 _ _ _ _ rfl (Hsl.out _ hB) (rts_one _) (by unfold maxLen; have := HML.out; omega) (by have := HML.out; omega) hE fun a2 c2 V2 own2 hgr hat => ?_
        rw [Nat.zero_add, List.nil_append] at own2
        rw [Nat.zero_add]
        have hBx := below_app hB hgr own0 (Nat.le_refl _) hE
        have hE1 : E ≤ V2.heap.size := Nat.le_trans hE hgr.size
        clear own0
        clear hgr hat hE hB
        have hE := hE1
        have hB := hBx
        clear hE1 hBx
        refine hK.out _ _ (Hgr.out _ hB) (fun hHeld => ?_)
        clear hK K
        try simp only [Act.put, List.getElem_toArray, List.getElem_cons_zero, List.getElem_cons_succ, List.setIfInBounds_toArray, List.set_cons_zero, List.set_cons_succ]
        refine wpLate_ready (rs := [9]) (by kernel_rfl) (by simp) ?_
        refine AllLate.cons rfl (fun K hK => ?_) AllLate.nil
        go_simp
        obtain ⟨V3, hX⟩ : ∃ X, X = V2.alloc (.cells #[.int .u64 id, .int .u64 (last + 1), .int .i64 due, .int .i64 0] rtT) := ⟨_, rfl⟩
        have own1 : (V2.alloc (.cells #[.int .u64 id, .int .u64 (last + 1), .int .i64 due, .int .i64 0] rtT)).ownsRow E rtT 4 (.slice (some ⟨V2.heap.size, 0, .none⟩) 1 1) 1 (rtFlat [((⟨id, last + 1, due⟩ : Th), 0)]) := own_rt V2 E ((⟨id, last + 1, due⟩ : Th), 0) hE
        have hBx := below_on hB (below_new V2 (.cells #[.int .u64 id, .int .u64 (last + 1), .int .i64 due, .int .i64 0] rtT)) HE0.out
        have own2n := World.ownsRow.alloc own2 (.cells #[.int .u64 id, .int .u64 (last + 1), .int .i64 due, .int .i64 0] rtT)
        have hlt := hE
        have hap2 : ∀ g, (Value.slice a2 M.length c2).ownBlock = some g → g ≠ V2.heap.size := by intro g hg; have := (own2.lt g hg).2; omega
        obtain ⟨g1, hg⟩ : ∃ g, g = V2.heap.size := ⟨_, rfl⟩
        rw [← hX] at own1 hBx own2n
        rw [← hg] at own1 hap2
        have HX := Lib.hid hX
        have HG := Lib.hid hg
        clear hX hg
        rw [show V2.alloc (.cells #[.int .u64 id, .int .u64 (last + 1), .int .i64 due, .int .i64 0] rtT) = V3 from HX.out.symm, ← HG.out]
        have hE1 : E ≤ V3.heap.size := by rw [HX.out]; simp; omega
        clear own2
        have own2 := own2n
        clear own2n
        clear hE hlt HX HG hB
        have hE := hE1
        have hB := hBx
        clear hE1 hBx
        refine hK.out _ _ (Hgr.out _ hB) (fun hHeld => ?_)
        clear hK K
        try simp only [Act.put, List.getElem_toArray, List.getElem_cons_zero, List.getElem_cons_succ, List.setIfInBounds_toArray, List.set_cons_zero, List.set_cons_succ]
        refine wpLate_ready (rs := [10]) (by kernel_rfl) (by simp) ?_
        refine AllLate.cons rfl (fun K hK => ?_) AllLate.nil
        rw [if_pos (by rfl)]
        refine wpo_append_lie (.tmp 46) (.tmp 52) rtsT rfl E rtT infoRt Try.underlying48 rfl (by decide) _ M.length _ rfl own2 _ _ _ _ rfl (Rt.of_own (l := [((⟨id, last + 1, due⟩ : Th), 0)]) own1).sl (rts_one _) (by unfold maxLen; have := HML.out; simp; omega) (by have := HML.out; simp; omega) hE fun a3 c3 V4 own3 hgr _ => ?_
        have hBx := below_app hB hgr own2 (Nat.le_refl _) hE
        have hE1 : E ≤ V4.heap.size := Nat.le_trans hE hgr.size
        rw [← rt_two] at own3
        clear own2 own1 hgr hE hB
        have hB := hBx
        have hE := hE1
        clear hBx hE1
        refine hK.out _ _ (Hgr.out _ hB) (fun hHeld => ?_)
        clear hK K
        try simp only [Act.put, List.getElem_toArray, List.getElem_cons_zero, List.getElem_cons_succ, List.setIfInBounds_toArray, List.set_cons_zero, List.set_cons_succ]
        refine wpLate_ready (rs := [11]) (by kernel_rfl) (by simp) ?_
        refine AllLate.cons rfl (fun K hK => ?_) AllLate.nil
        have hrt : Rt V4 a3 c3 (slot0 M ++ [((⟨id, last + 1, due⟩ : Th), 0)]) := Rt.of_own (by rw [slot0_app]; exact own3)
        have hso := sorted_any V4 a3 c3 _ hrt (by rw [slot0_app]; have := HML.out; omega)
        rw [slot0_app] at hso
        have Hso := Lib.hid hso
        clear hso hrt own3
        go_simp
        go_at_call 78
        refine (show Calls _ _ _ _ _ from Hso.out).mono ?_
        rintro e V5 ⟨a4, c4, rfl, own4, hb4⟩
        have hBx := below_on hB hb4 HE0.out
        have hE1 : E ≤ V5.heap.size := Nat.le_trans hE hb4.size
        have own4n := own_base own4 hE
        clear own4 hb4 Hso hE hB
        have own4 := own4n
        have hB := hBx
        have hE := hE1
        clear own4n hBx hE1
        refine hK.out _ _ (Hgr.out _ hB) (fun hHeld => ?_)
        clear hK K
        try simp only [Act.put, List.getElem_toArray, List.getElem_cons_zero, List.getElem_cons_succ, List.setIfInBounds_toArray, List.set_cons_zero, List.set_cons_succ]
        refine wpLate_pure (i := 12) (v := ?_) rfl (by kernel_rfl) (by kernel_rfl) (by kernel_rfl) (by kernel_rfl) (fun _ _ _ h => h) (Or.inl ⟨by rfl, ?_⟩) (fun _ => by assumption) ?_
        rotate_left
        · intro w8 hSw; clear hSw; go_simp; (try with_reducible rfl)
        simp only [Act.put, List.getElem_toArray, List.getElem_cons_zero, List.getElem_cons_succ, List.setIfInBounds_toArray, List.set_cons_zero, List.set_cons_succ]
        have x1 := (hB.block b1 HbE.out.1).trans D1.out
        have y2 := block_cell x1 2
        have f2 := block_free x1 2
        have lx := (Array.getElem?_eq_some_iff.1 x1).1
        simp at y2 f2
        obtain ⟨VZ, hVZ, hend⟩ := Hend.out V5 a4 c4 hB own4
        have HVZ := Lib.hid hVZ
        have Hen := Lib.hid hend
        clear hVZ hend own4 hE hB x1
        refine wpLate_ready (rs := [13]) (by kernel_rfl) (by simp) ?_
        refine AllLate.store rfl (fun K hK => ?_)
        go_simp
        first | rw [← HVZ.out] | (simp only [← Int.natCast_succ]; rw [← HVZ.out])
        refine hK.out _ _ ?_
        clear hK K y2 f2 lx
        try simp only [Act.put, List.getElem_toArray, List.getElem_cons_zero, List.getElem_cons_succ, List.setIfInBounds_toArray, List.set_cons_zero, List.set_cons_succ]
        refine wpLate_done (by kernel_rfl) ?_ _
        obtain ⟨z1, z2, zo, zb⟩ := Hen.out
        have hld2 : ∀ W', W'.heap[b1]? = VZ.heap[b1]? → (Instr.loadAt rsT (.pointer (some ⟨b1, 0, none⟩))).run Try.prog W' = .ok (.agg #[.int .i64 now, .int .u64 (last + 1), .slice a4 (M.length + 1) c4]) W' ∧ (Instr.loadAt 28 (.pointer (some ⟨b1, 1, none⟩))).run Try.prog W' = .ok (.int .u64 (last + 1)) W' := fun W' hw => by
          have p1 := block_cell (hw.trans z1) 1
          simp at p1
          exact ⟨ldDs (hw.trans z1) _ _ _ rfl, by go_simp⟩
        have Hld2 := Lib.hid hld2
        obtain ⟨VD, hVD⟩ : ∃ VD, VD = VZ.drew := ⟨_, rfl⟩
        have z2 : VD.heap[b2]? = _ := (by rw [hVD]; rfl : VD.heap[b2]? = VZ.heap[b2]?).trans z2
        have zD : VD.heap[b1]? = VZ.heap[b1]? := by rw [hVD]; rfl
        have hBD : Below VZ.heap.size VZ VD := by rw [hVD]; exact (Below.refl _ VZ).drew
        have y0 := block_cell z2 0
        have y1 := block_cell z2 1
        have y2 := block_cell z2 2
        have f0 := block_free z2 0
        have f1 := block_free z2 1
        have f2 := block_free z2 2
        have l2 := (Array.getElem?_eq_some_iff.1 z2).1
        simp at y0 y1 y2 f0 f1 f2
        have u2 := bx_set3 z2 (.int .i64 now) (.int .u64 (last + 1)) (.slice a4 (M.length + 1) c4)
        have g2 := gr_set3 VD b2 (.int .i64 now) (.int .u64 (last + 1)) (.slice a4 (M.length + 1) c4)
        obtain ⟨U, hU⟩ : ∃ U, U = ((VD.setCell ⟨b2, 0, none⟩ (.int .i64 now)).setCell ⟨b2, 1, none⟩ (.int .u64 (last + 1))).setCell ⟨b2, 2, none⟩ (.slice a4 (M.length + 1) c4) := ⟨_, rfl⟩
        rw [← hU] at u2 g2
        have hUb : U.heap[b1]? = VZ.heap[b1]? := (g2.block b1 (by have h1 := (Array.getElem?_eq_some_iff.1 z1).1; exact Nat.lt_of_lt_of_le h1 hBD.size) (fun e => Hap.out e)).trans zD
        have hRU : RSetIs W now last ao X id due (.returned (.tuple #[.agg #[.int .i64 now, .int .u64 (last + 1), .slice a4 (M.length + 1) c4], .int .u64 (last + 1), .int .i64 0])) U := rset_in Hok.out HM.out (own_gr (own_below zo hBD) g2 (fun i e => by subst e; exact HbE.out.2.1)) HbE.out.2.2 ((below_on zb hBD (Nat.le_refl _)).trans (g2.above (below_on zb hBD (Nat.le_refl _)).size (fun i e => by subst e; exact Hup.out.2)))
        have HUb := Lib.hid hUb
        have HRU := Lib.hid hRU
        have HU := Lib.hid hU
        have U2 := Lib.hid u2
        have HVD := Lib.hid hVD
        clear z1 z2 zo zb hld2 u2 g2 hU hUb hRU hVD hBD zD
        go_upto_region 10 with fail
        refine wp_region_held_drew (S := fun W' => W'.heap[b1]? = VZ.heap[b1]?) (by kernel_rfl) rfl (fun hHeld => ?_)
        rw [← HVD.out] at hHeld ⊢
        refine wpAnyH_take (i := 0) (v := .agg #[.int .i64 now, .int .u64 (last + 1), .slice a4 (M.length + 1) c4]) rfl (by kernel_rfl) (by kernel_rfl) (by kernel_rfl) (fun _ _ _ h => h) (Or.inl ⟨by rfl, ?_⟩) (by assumption) ?_
        · intro w8 hSw; exact ld_takeT rfl (Hld2.out w8 hSw).1 rfl
        simp only [Act.put, List.getElem_toArray, List.getElem_cons_zero, List.getElem_cons_succ, List.setIfInBounds_toArray, List.set_cons_zero, List.set_cons_succ]
        refine wpAnyH_take (i := 1) (v := ?_) rfl (by kernel_rfl) (by kernel_rfl) (by kernel_rfl) (fun _ _ _ h => h) (Or.inl ⟨by rfl, ?_⟩) (by assumption) ?_
        rotate_left
        · intro w8 hSw; clear hSw; go_simp; (try with_reducible rfl)
        simp only [Act.put, List.getElem_toArray, List.getElem_cons_zero, List.getElem_cons_succ, List.setIfInBounds_toArray, List.set_cons_zero, List.set_cons_succ]
        refine wpAnyH_take (i := 2) (v := .int .u64 (last + 1)) rfl (by kernel_rfl) (by kernel_rfl) (by kernel_rfl) (fun _ _ _ h => h) (Or.inl ⟨by rfl, ?_⟩) (by assumption) ?_
        · intro w8 hSw; exact ld_takeT rfl (Hld2.out w8 hSw).2 rfl
        simp only [Act.put, List.getElem_toArray, List.getElem_cons_zero, List.getElem_cons_succ, List.setIfInBounds_toArray, List.set_cons_zero, List.set_cons_succ]
        refine wpAnyH_ready (rs := [3]) (by kernel_rfl) (by simp) ?_
        refine AllReadyH.cons rfl (fun K hK => ?_) AllReadyH.nil
        go_simp
        rw [← HU.out]
        refine hK.out _ _ HUb.out (fun hHeld => ?_)
        clear hK K y0 y1 y2 f0 f1 f2 l2
        try simp only [Act.put, List.getElem_toArray, List.getElem_cons_zero, List.getElem_cons_succ, List.setIfInBounds_toArray, List.set_cons_zero, List.set_cons_succ]
        refine wpAnyH_take (i := 4) (v := ?_) rfl (by kernel_rfl) (by kernel_rfl) (by kernel_rfl) (fun _ _ _ h => h) (Or.inl ⟨by rfl, ?_⟩) (by assumption) ?_
        rotate_left
        · intro w8 hSw; clear hSw; go_simp; (try with_reducible rfl)
        simp only [Act.put, List.getElem_toArray, List.getElem_cons_zero, List.getElem_cons_succ, List.setIfInBounds_toArray, List.set_cons_zero, List.set_cons_succ]
        refine wpAnyH_take (i := 5) (v := ?_) rfl (by kernel_rfl) (by kernel_rfl) (by kernel_rfl) (fun _ _ _ h => h) (Or.inl ⟨by rfl, ?_⟩) (by assumption) ?_
        rotate_left
        · intro w8 hSw; clear hSw; go_simp; (try with_reducible rfl)
        simp only [Act.put, List.getElem_toArray, List.getElem_cons_zero, List.getElem_cons_succ, List.setIfInBounds_toArray, List.set_cons_zero, List.set_cons_succ]
        refine wpAnyH_done (by kernel_rfl) ?_ _
        have u0 := block_cell U2.out 0
        have u1 := block_cell U2.out 1
        have u4 := block_cell U2.out 2
        have ul := (Array.getElem?_eq_some_iff.1 U2.out).1
        simp at u0 u1 u4
        go_wp2_with fail
        refine bodyPost_ret (v := .tuple #[.agg #[.int .i64 now, .int .u64 (last + 1), .slice a4 (M.length + 1) c4], .int .u64 (last + 1), .int .i64 0]) ?_ rfl HRU.out
        simp [results, Try.results47, go_sem, u0, u1, u4, ul]
      · go_simp
        obtain ⟨V6, hX⟩ : ∃ X, X = V1.alloc (.cells #[.int .u64 id, .int .u64 (last + 1), .int .i64 due, .int .i64 0] rtT) := ⟨_, rfl⟩
        have own1 : (V1.alloc (.cells #[.int .u64 id, .int .u64 (last + 1), .int .i64 due, .int .i64 0] rtT)).ownsRow E rtT 4 (.slice (some ⟨V1.heap.size, 0, .none⟩) 1 1) 1 (rtFlat [((⟨id, last + 1, due⟩ : Th), 0)]) := own_rt V1 E ((⟨id, last + 1, due⟩ : Th), 0) hE
        have hBx := below_on hB (below_new V1 (.cells #[.int .u64 id, .int .u64 (last + 1), .int .i64 due, .int .i64 0] rtT)) HE0.out
        have own0n := World.ownsRow.alloc own0 (.cells #[.int .u64 id, .int .u64 (last + 1), .int .i64 due, .int .i64 0] rtT)
        have hlt := hE
        have hap : g0 ≠ V1.heap.size := by have := (own0.lt g0 rfl).2; omega
        obtain ⟨g1, hg⟩ : ∃ g, g = V1.heap.size := ⟨_, rfl⟩
        rw [← hX] at own1 hBx own0n
        rw [← hg] at own1 hap
        have HX := Lib.hid hX
        have HG := Lib.hid hg
        clear hX hg
        rw [show V1.alloc (.cells #[.int .u64 id, .int .u64 (last + 1), .int .i64 due, .int .i64 0] rtT) = V6 from HX.out.symm, ← HG.out]
        have hE1 : E ≤ V6.heap.size := by rw [HX.out]; simp; omega
        clear own0
        have own0 := own0n
        clear own0n
        clear hE hlt HX HG hB
        have hE := hE1
        have hB := hBx
        clear hE1 hBx
        refine hK.out _ _ (Hgr.out _ hB) (fun hHeld => ?_)
        clear hK K
        try simp only [Act.put, List.getElem_toArray, List.getElem_cons_zero, List.getElem_cons_succ, List.setIfInBounds_toArray, List.set_cons_zero, List.set_cons_succ]
        refine wpLate_ready (rs := [3]) (by kernel_rfl) (by simp) ?_
        refine AllLate.cons rfl (fun K hK => ?_) AllLate.nil
        rw [if_pos (by rfl)]
        refine wpo_append_lie (.tmp 43) (.tmp 45) rtsT rfl E rtT infoRt Try.underlying48 rfl (by decide) _ 0 [] rfl own0 _ _ _ _ rfl (Hsl.out _ hB) (rts_one _) (by unfold maxLen; have := HML.out; omega) (by have := HML.out; omega) hE fun a2 c2 V7 own2 hgr hat => ?_
        rw [Nat.zero_add, List.nil_append] at own2
        rw [Nat.zero_add]
        have hBx := below_app hB hgr own0 (Nat.le_refl _) hE
        have own1n := own1.kept hgr (.inr (by intro e; exact hap (Option.some.inj e).symm))
        have hap2 : ∀ g, (Value.slice a2 M.length c2).ownBlock = some g → g ≠ g1 := by intro g hg; rcases hat g (by rw [Nat.zero_add]; exact hg) with h5 | h5; exact fun e => hap ((Option.some.inj h5).trans e); (have := (own1.lt g1 rfl).2; omega)
        have hE1 : E ≤ V7.heap.size := Nat.le_trans hE hgr.size
        clear own0
        clear own1
        have own1 := own1n
        clear own1n
        clear hgr hat hE hB
        have hE := hE1
        have hB := hBx
        clear hE1 hBx
        refine hK.out _ _ (Hgr.out _ hB) (fun hHeld => ?_)
        clear hK K
        try simp only [Act.put, List.getElem_toArray, List.getElem_cons_zero, List.getElem_cons_succ, List.setIfInBounds_toArray, List.set_cons_zero, List.set_cons_succ]
        refine wpLate_ready (rs := [10]) (by kernel_rfl) (by simp) ?_
        refine AllLate.cons rfl (fun K hK => ?_) AllLate.nil
        rw [if_pos (by rfl)]
        refine wpo_append_lie (.tmp 46) (.tmp 52) rtsT rfl E rtT infoRt Try.underlying48 rfl (by decide) _ M.length _ rfl own2 _ _ _ _ rfl (Rt.of_own (l := [((⟨id, last + 1, due⟩ : Th), 0)]) own1).sl (rts_one _) (by unfold maxLen; have := HML.out; simp; omega) (by have := HML.out; simp; omega) hE fun a3 c3 V8 own3 hgr _ => ?_
        have hBx := below_app hB hgr own2 (Nat.le_refl _) hE
        have hE1 : E ≤ V8.heap.size := Nat.le_trans hE hgr.size
        rw [← rt_two] at own3
        clear own2 own1 hgr hE hB
        have hB := hBx
        have hE := hE1
        clear hBx hE1
        refine hK.out _ _ (Hgr.out _ hB) (fun hHeld => ?_)
        clear hK K
        try simp only [Act.put, List.getElem_toArray, List.getElem_cons_zero, List.getElem_cons_succ, List.setIfInBounds_toArray, List.set_cons_zero, List.set_cons_succ]
        refine wpLate_ready (rs := [11]) (by kernel_rfl) (by simp) ?_
        refine AllLate.cons rfl (fun K hK => ?_) AllLate.nil
        have hrt : Rt V8 a3 c3 (slot0 M ++ [((⟨id, last + 1, due⟩ : Th), 0)]) := Rt.of_own (by rw [slot0_app]; exact own3)
        have hso := sorted_any V8 a3 c3 _ hrt (by rw [slot0_app]; have := HML.out; omega)
        rw [slot0_app] at hso
        have Hso := Lib.hid hso
        clear hso hrt own3
        go_simp
        go_at_call 78
        refine (show Calls _ _ _ _ _ from Hso.out).mono ?_
        rintro e V9 ⟨a4, c4, rfl, own4, hb4⟩
        have hBx := below_on hB hb4 HE0.out
        have hE1 : E ≤ V9.heap.size := Nat.le_trans hE hb4.size
        have own4n := own_base own4 hE
        clear own4 hb4 Hso hE hB
        have own4 := own4n
        have hB := hBx
        have hE := hE1
        clear own4n hBx hE1
        refine hK.out _ _ (Hgr.out _ hB) (fun hHeld => ?_)
        clear hK K
        try simp only [Act.put, List.getElem_toArray, List.getElem_cons_zero, List.getElem_cons_succ, List.setIfInBounds_toArray, List.set_cons_zero, List.set_cons_succ]
        refine wpLate_pure (i := 12) (v := ?_) rfl (by kernel_rfl) (by kernel_rfl) (by kernel_rfl) (by kernel_rfl) (fun _ _ _ h => h) (Or.inl ⟨by rfl, ?_⟩) (fun _ => by assumption) ?_
        rotate_left
        · intro w8 hSw; clear hSw; go_simp; (try with_reducible rfl)
        simp only [Act.put, List.getElem_toArray, List.getElem_cons_zero, List.getElem_cons_succ, List.setIfInBounds_toArray, List.set_cons_zero, List.set_cons_succ]
        have x1 := (hB.block b1 HbE.out.1).trans D1.out
        have y2 := block_cell x1 2
        have f2 := block_free x1 2
        have lx := (Array.getElem?_eq_some_iff.1 x1).1
        simp at y2 f2
        obtain ⟨VZ, hVZ, hend⟩ := Hend.out V9 a4 c4 hB own4
        have HVZ := Lib.hid hVZ
        have Hen := Lib.hid hend
        clear hVZ hend own4 hE hB x1
        refine wpLate_ready (rs := [13]) (by kernel_rfl) (by simp) ?_
        refine AllLate.store rfl (fun K hK => ?_)
        go_simp
        first | rw [← HVZ.out] | (simp only [← Int.natCast_succ]; rw [← HVZ.out])
        refine hK.out _ _ ?_
        clear hK K y2 f2 lx
        try simp only [Act.put, List.getElem_toArray, List.getElem_cons_zero, List.getElem_cons_succ, List.setIfInBounds_toArray, List.set_cons_zero, List.set_cons_succ]
        refine wpLate_done (by kernel_rfl) ?_ _
        obtain ⟨z1, z2, zo, zb⟩ := Hen.out
        have hld2 : ∀ W', W'.heap[b1]? = VZ.heap[b1]? → (Instr.loadAt rsT (.pointer (some ⟨b1, 0, none⟩))).run Try.prog W' = .ok (.agg #[.int .i64 now, .int .u64 (last + 1), .slice a4 (M.length + 1) c4]) W' ∧ (Instr.loadAt 28 (.pointer (some ⟨b1, 1, none⟩))).run Try.prog W' = .ok (.int .u64 (last + 1)) W' := fun W' hw => by
          have p1 := block_cell (hw.trans z1) 1
          simp at p1
          exact ⟨ldDs (hw.trans z1) _ _ _ rfl, by go_simp⟩
        have Hld2 := Lib.hid hld2
        obtain ⟨VD, hVD⟩ : ∃ VD, VD = VZ.drew := ⟨_, rfl⟩
        have z2 : VD.heap[b2]? = _ := (by rw [hVD]; rfl : VD.heap[b2]? = VZ.heap[b2]?).trans z2
        have zD : VD.heap[b1]? = VZ.heap[b1]? := by rw [hVD]; rfl
        have hBD : Below VZ.heap.size VZ VD := by rw [hVD]; exact (Below.refl _ VZ).drew
        have y0 := block_cell z2 0
        have y1 := block_cell z2 1
        have y2 := block_cell z2 2
        have f0 := block_free z2 0
        have f1 := block_free z2 1
        have f2 := block_free z2 2
        have l2 := (Array.getElem?_eq_some_iff.1 z2).1
        simp at y0 y1 y2 f0 f1 f2
        have u2 := bx_set3 z2 (.int .i64 now) (.int .u64 (last + 1)) (.slice a4 (M.length + 1) c4)
        have g2 := gr_set3 VD b2 (.int .i64 now) (.int .u64 (last + 1)) (.slice a4 (M.length + 1) c4)
        obtain ⟨U, hU⟩ : ∃ U, U = ((VD.setCell ⟨b2, 0, none⟩ (.int .i64 now)).setCell ⟨b2, 1, none⟩ (.int .u64 (last + 1))).setCell ⟨b2, 2, none⟩ (.slice a4 (M.length + 1) c4) := ⟨_, rfl⟩
        rw [← hU] at u2 g2
        have hUb : U.heap[b1]? = VZ.heap[b1]? := (g2.block b1 (by have h1 := (Array.getElem?_eq_some_iff.1 z1).1; exact Nat.lt_of_lt_of_le h1 hBD.size) (fun e => Hap.out e)).trans zD
        have hRU : RSetIs W now last ao X id due (.returned (.tuple #[.agg #[.int .i64 now, .int .u64 (last + 1), .slice a4 (M.length + 1) c4], .int .u64 (last + 1), .int .i64 0])) U := rset_in Hok.out HM.out (own_gr (own_below zo hBD) g2 (fun i e => by subst e; exact HbE.out.2.1)) HbE.out.2.2 ((below_on zb hBD (Nat.le_refl _)).trans (g2.above (below_on zb hBD (Nat.le_refl _)).size (fun i e => by subst e; exact Hup.out.2)))
        have HUb := Lib.hid hUb
        have HRU := Lib.hid hRU
        have HU := Lib.hid hU
        have U2 := Lib.hid u2
        have HVD := Lib.hid hVD
        clear z1 z2 zo zb hld2 u2 g2 hU hUb hRU hVD hBD zD
        go_upto_region 10 with fail
        refine wp_region_held_drew (S := fun W' => W'.heap[b1]? = VZ.heap[b1]?) (by kernel_rfl) rfl (fun hHeld => ?_)
        rw [← HVD.out] at hHeld ⊢
        refine wpAnyH_take (i := 0) (v := .agg #[.int .i64 now, .int .u64 (last + 1), .slice a4 (M.length + 1) c4]) rfl (by kernel_rfl) (by kernel_rfl) (by kernel_rfl) (fun _ _ _ h => h) (Or.inl ⟨by rfl, ?_⟩) (by assumption) ?_
        · intro w8 hSw; exact ld_takeT rfl (Hld2.out w8 hSw).1 rfl
        simp only [Act.put, List.getElem_toArray, List.getElem_cons_zero, List.getElem_cons_succ, List.setIfInBounds_toArray, List.set_cons_zero, List.set_cons_succ]
        refine wpAnyH_take (i := 1) (v := ?_) rfl (by kernel_rfl) (by kernel_rfl) (by kernel_rfl) (fun _ _ _ h => h) (Or.inl ⟨by rfl, ?_⟩) (by assumption) ?_
        rotate_left
        · intro w8 hSw; clear hSw; go_simp; (try with_reducible rfl)
        simp only [Act.put, List.getElem_toArray, List.getElem_cons_zero, List.getElem_cons_succ, List.setIfInBounds_toArray, List.set_cons_zero, List.set_cons_succ]
        refine wpAnyH_take (i := 2) (v := .int .u64 (last + 1)) rfl (by kernel_rfl) (by kernel_rfl) (by kernel_rfl) (fun _ _ _ h => h) (Or.inl ⟨by rfl, ?_⟩) (by assumption) ?_
        · intro w8 hSw; exact ld_takeT rfl (Hld2.out w8 hSw).2 rfl
        simp only [Act.put, List.getElem_toArray, List.getElem_cons_zero, List.getElem_cons_succ, List.setIfInBounds_toArray, List.set_cons_zero, List.set_cons_succ]
        refine wpAnyH_ready (rs := [3]) (by kernel_rfl) (by simp) ?_
        refine AllReadyH.cons rfl (fun K hK => ?_) AllReadyH.nil
        go_simp
        rw [← HU.out]
        refine hK.out _ _ HUb.out (fun hHeld => ?_)
        clear hK K y0 y1 y2 f0 f1 f2 l2
        try simp only [Act.put, List.getElem_toArray, List.getElem_cons_zero, List.getElem_cons_succ, List.setIfInBounds_toArray, List.set_cons_zero, List.set_cons_succ]
        refine wpAnyH_take (i := 4) (v := ?_) rfl (by kernel_rfl) (by kernel_rfl) (by kernel_rfl) (fun _ _ _ h => h) (Or.inl ⟨by rfl, ?_⟩) (by assumption) ?_
        rotate_left
        · intro w8 hSw; clear hSw; go_simp; (try with_reducible rfl)
        simp only [Act.put, List.getElem_toArray, List.getElem_cons_zero, List.getElem_cons_succ, List.setIfInBounds_toArray, List.set_cons_zero, List.set_cons_succ]
        refine wpAnyH_take (i := 5) (v := ?_) rfl (by kernel_rfl) (by kernel_rfl) (by kernel_rfl) (fun _ _ _ h => h) (Or.inl ⟨by rfl, ?_⟩) (by assumption) ?_
        rotate_left
        · intro w8 hSw; clear hSw; go_simp; (try with_reducible rfl)
        simp only [Act.put, List.getElem_toArray, List.getElem_cons_zero, List.getElem_cons_succ, List.setIfInBounds_toArray, List.set_cons_zero, List.set_cons_succ]
        refine wpAnyH_done (by kernel_rfl) ?_ _
        have u0 := block_cell U2.out 0
        have u1 := block_cell U2.out 1
        have u4 := block_cell U2.out 2
        have ul := (Array.getElem?_eq_some_iff.1 U2.out).1
        simp at u0 u1 u4
        go_wp2_with fail
        refine bodyPost_ret (v := .tuple #[.agg #[.int .i64 now, .int .u64 (last + 1), .slice a4 (M.length + 1) c4], .int .u64 (last + 1), .int .i64 0]) ?_ rfl HRU.out
        simp [results, Try.results47, go_sem, u0, u1, u4, ul]
    · go_simp
      obtain ⟨V10, hX⟩ : ∃ X, X = V0.alloc (.cells #[.int .u64 id, .int .u64 (last + 1), .int .i64 due, .int .i64 0] rtT) := ⟨_, rfl⟩
      have own1 : (V0.alloc (.cells #[.int .u64 id, .int .u64 (last + 1), .int .i64 due, .int .i64 0] rtT)).ownsRow E rtT 4 (.slice (some ⟨V0.heap.size, 0, .none⟩) 1 1) 1 (rtFlat [((⟨id, last + 1, due⟩ : Th), 0)]) := own_rt V0 E ((⟨id, last + 1, due⟩ : Th), 0) hE
      have hBx := below_on hB (below_new V0 (.cells #[.int .u64 id, .int .u64 (last + 1), .int .i64 due, .int .i64 0] rtT)) HE0.out
      have hlt := hE
      obtain ⟨g1, hg⟩ : ∃ g, g = V0.heap.size := ⟨_, rfl⟩
      rw [← hX] at own1 hBx
      rw [← hg] at own1
      have HX := Lib.hid hX
      have HG := Lib.hid hg
      clear hX hg
      rw [show V0.alloc (.cells #[.int .u64 id, .int .u64 (last + 1), .int .i64 due, .int .i64 0] rtT) = V10 from HX.out.symm, ← HG.out]
      have hE1 : E ≤ V10.heap.size := by rw [HX.out]; simp; omega
      clear hE hlt HX HG hB
      have hE := hE1
      have hB := hBx
      clear hE1 hBx
      refine hK.out _ _ (Hgr.out _ hB) (fun hHeld => ?_)
      clear hK K
      try simp only [Act.put, List.getElem_toArray, List.getElem_cons_zero, List.getElem_cons_succ, List.setIfInBounds_toArray, List.set_cons_zero, List.set_cons_succ]
      refine wpLate_ready (rs := [0]) (by kernel_rfl) (by simp) ?_
      refine AllLate.cons rfl (fun K hK => ?_) AllLate.nil
      go_simp
      obtain ⟨V11, hX⟩ : ∃ X, X = V10.alloc (.cells #[] rtT) := ⟨_, rfl⟩
      have own0 := own_empty V10 E rtT 4 hE
      have hBx := below_on hB (below_new V10 (.cells #[] rtT)) HE0.out
      have own1n := World.ownsRow.alloc own1 (.cells #[] rtT)
      have hlt := hE
      have hap : V10.heap.size ≠ g1 := by have := (own1.lt g1 rfl).2; omega
      obtain ⟨g0, hg⟩ : ∃ g, g = V10.heap.size := ⟨_, rfl⟩
      rw [← hX] at own0 hBx own1n
      rw [← hg] at own0 hap
      have HX := Lib.hid hX
      have HG := Lib.hid hg
      clear hX hg
      rw [show V10.alloc (.cells #[] rtT) = V11 from HX.out.symm, ← HG.out]
      have hE1 : E ≤ V11.heap.size := by rw [HX.out]; simp; omega
      clear own1
      have own1 := own1n
      clear own1n
      clear hE hlt HX HG hB
      have hE := hE1
      have hB := hBx
      clear hE1 hBx
      refine hK.out _ _ (Hgr.out _ hB) (fun hHeld => ?_)
      clear hK K
      try simp only [Act.put, List.getElem_toArray, List.getElem_cons_zero, List.getElem_cons_succ, List.setIfInBounds_toArray, List.set_cons_zero, List.set_cons_succ]
      refine wpLate_ready (rs := [3]) (by kernel_rfl) (by simp) ?_
      refine AllLate.cons rfl (fun K hK => ?_) AllLate.nil
      rw [if_pos (by rfl)]
      refine wpo_append_lie (.tmp 43) (.tmp 45) rtsT rfl E rtT infoRt Try.underlying48 rfl (by decide) _ 0 [] rfl own0 _ _ _ _ rfl (Hsl.out _ hB) (rts_one _) (by unfold maxLen; have := HML.out; omega) (by have := HML.out; omega) hE fun a2 c2 V12 own2 hgr hat => ?_
      rw [Nat.zero_add, List.nil_append] at own2
      rw [Nat.zero_add]
      have hBx := below_app hB hgr own0 (Nat.le_refl _) hE
      have own1n := own1.kept hgr (.inr (by intro e; exact hap (Option.some.inj e).symm))
      have hap2 : ∀ g, (Value.slice a2 M.length c2).ownBlock = some g → g ≠ g1 := by intro g hg; rcases hat g (by rw [Nat.zero_add]; exact hg) with h5 | h5; exact fun e => hap ((Option.some.inj h5).trans e); (have := (own1.lt g1 rfl).2; omega)
      have hE1 : E ≤ V12.heap.size := Nat.le_trans hE hgr.size
      clear own0
      clear own1
      have own1 := own1n
      clear own1n
      clear hgr hat hE hB
      have hE := hE1
      have hB := hBx
      clear hE1 hBx
      refine hK.out _ _ (Hgr.out _ hB) (fun hHeld => ?_)
      clear hK K
      try simp only [Act.put, List.getElem_toArray, List.getElem_cons_zero, List.getElem_cons_succ, List.setIfInBounds_toArray, List.set_cons_zero, List.set_cons_succ]
      refine wpLate_ready (rs := [10]) (by kernel_rfl) (by simp) ?_
      refine AllLate.cons rfl (fun K hK => ?_) AllLate.nil
      rw [if_pos (by rfl)]
      refine wpo_append_lie (.tmp 46) (.tmp 52) rtsT rfl E rtT infoRt Try.underlying48 rfl (by decide) _ M.length _ rfl own2 _ _ _ _ rfl (Rt.of_own (l := [((⟨id, last + 1, due⟩ : Th), 0)]) own1).sl (rts_one _) (by unfold maxLen; have := HML.out; simp; omega) (by have := HML.out; simp; omega) hE fun a3 c3 V13 own3 hgr _ => ?_
      have hBx := below_app hB hgr own2 (Nat.le_refl _) hE
      have hE1 : E ≤ V13.heap.size := Nat.le_trans hE hgr.size
      rw [← rt_two] at own3
      clear own2 own1 hgr hE hB
      have hB := hBx
      have hE := hE1
      clear hBx hE1
      refine hK.out _ _ (Hgr.out _ hB) (fun hHeld => ?_)
      clear hK K
      try simp only [Act.put, List.getElem_toArray, List.getElem_cons_zero, List.getElem_cons_succ, List.setIfInBounds_toArray, List.set_cons_zero, List.set_cons_succ]
      refine wpLate_ready (rs := [11]) (by kernel_rfl) (by simp) ?_
      refine AllLate.cons rfl (fun K hK => ?_) AllLate.nil
      have hrt : Rt V13 a3 c3 (slot0 M ++ [((⟨id, last + 1, due⟩ : Th), 0)]) := Rt.of_own (by rw [slot0_app]; exact own3)
      have hso := sorted_any V13 a3 c3 _ hrt (by rw [slot0_app]; have := HML.out; omega)
      rw [slot0_app] at hso
      have Hso := Lib.hid hso
      clear hso hrt own3
      go_simp
      go_at_call 78
      refine (show Calls _ _ _ _ _ from Hso.out).mono ?_
      rintro e V14 ⟨a4, c4, rfl, own4, hb4⟩
      have hBx := below_on hB hb4 HE0.out
      have hE1 : E ≤ V14.heap.size := Nat.le_trans hE hb4.size
      have own4n := own_base own4 hE
      clear own4 hb4 Hso hE hB
      have own4 := own4n
      have hB := hBx
      have hE := hE1
      clear own4n hBx hE1
      refine hK.out _ _ (Hgr.out _ hB) (fun hHeld => ?_)
      clear hK K
      try simp only [Act.put, List.getElem_toArray, List.getElem_cons_zero, List.getElem_cons_succ, List.setIfInBounds_toArray, List.set_cons_zero, List.set_cons_succ]
      refine wpLate_pure (i := 12) (v := ?_) rfl (by kernel_rfl) (by kernel_rfl) (by kernel_rfl) (by kernel_rfl) (fun _ _ _ h => h) (Or.inl ⟨by rfl, ?_⟩) (fun _ => by assumption) ?_
      rotate_left
      · intro w8 hSw; clear hSw; go_simp; (try with_reducible rfl)
      simp only [Act.put, List.getElem_toArray, List.getElem_cons_zero, List.getElem_cons_succ, List.setIfInBounds_toArray, List.set_cons_zero, List.set_cons_succ]
      have x1 := (hB.block b1 HbE.out.1).trans D1.out
      have y2 := block_cell x1 2
      have f2 := block_free x1 2
      have lx := (Array.getElem?_eq_some_iff.1 x1).1
      simp at y2 f2
      obtain ⟨VZ, hVZ, hend⟩ := Hend.out V14 a4 c4 hB own4
      have HVZ := Lib.hid hVZ
      have Hen := Lib.hid hend
      clear hVZ hend own4 hE hB x1
      refine wpLate_ready (rs := [13]) (by kernel_rfl) (by simp) ?_
      refine AllLate.store rfl (fun K hK => ?_)
      go_simp
      first | rw [← HVZ.out] | (simp only [← Int.natCast_succ]; rw [← HVZ.out])
      refine hK.out _ _ ?_
      clear hK K y2 f2 lx
      try simp only [Act.put, List.getElem_toArray, List.getElem_cons_zero, List.getElem_cons_succ, List.setIfInBounds_toArray, List.set_cons_zero, List.set_cons_succ]
      refine wpLate_done (by kernel_rfl) ?_ _
      obtain ⟨z1, z2, zo, zb⟩ := Hen.out
      have hld2 : ∀ W', W'.heap[b1]? = VZ.heap[b1]? → (Instr.loadAt rsT (.pointer (some ⟨b1, 0, none⟩))).run Try.prog W' = .ok (.agg #[.int .i64 now, .int .u64 (last + 1), .slice a4 (M.length + 1) c4]) W' ∧ (Instr.loadAt 28 (.pointer (some ⟨b1, 1, none⟩))).run Try.prog W' = .ok (.int .u64 (last + 1)) W' := fun W' hw => by
        have p1 := block_cell (hw.trans z1) 1
        simp at p1
        exact ⟨ldDs (hw.trans z1) _ _ _ rfl, by go_simp⟩
      have Hld2 := Lib.hid hld2
      obtain ⟨VD, hVD⟩ : ∃ VD, VD = VZ.drew := ⟨_, rfl⟩
      have z2 : VD.heap[b2]? = _ := (by rw [hVD]; rfl : VD.heap[b2]? = VZ.heap[b2]?).trans z2
      have zD : VD.heap[b1]? = VZ.heap[b1]? := by rw [hVD]; rfl
      have hBD : Below VZ.heap.size VZ VD := by rw [hVD]; exact (Below.refl _ VZ).drew
      have y0 := block_cell z2 0
      have y1 := block_cell z2 1
      have y2 := block_cell z2 2
      have f0 := block_free z2 0
      have f1 := block_free z2 1
      have f2 := block_free z2 2
      have l2 := (Array.getElem?_eq_some_iff.1 z2).1
      simp at y0 y1 y2 f0 f1 f2
      have u2 := bx_set3 z2 (.int .i64 now) (.int .u64 (last + 1)) (.slice a4 (M.length + 1) c4)
      have g2 := gr_set3 VD b2 (.int .i64 now) (.int .u64 (last + 1)) (.slice a4 (M.length + 1) c4)
      obtain ⟨U, hU⟩ : ∃ U, U = ((VD.setCell ⟨b2, 0, none⟩ (.int .i64 now)).setCell ⟨b2, 1, none⟩ (.int .u64 (last + 1))).setCell ⟨b2, 2, none⟩ (.slice a4 (M.length + 1) c4) := ⟨_, rfl⟩
      rw [← hU] at u2 g2
      have hUb : U.heap[b1]? = VZ.heap[b1]? := (g2.block b1 (by have h1 := (Array.getElem?_eq_some_iff.1 z1).1; exact Nat.lt_of_lt_of_le h1 hBD.size) (fun e => Hap.out e)).trans zD
      have hRU : RSetIs W now last ao X id due (.returned (.tuple #[.agg #[.int .i64 now, .int .u64 (last + 1), .slice a4 (M.length + 1) c4], .int .u64 (last + 1), .int .i64 0])) U := rset_in Hok.out HM.out (own_gr (own_below zo hBD) g2 (fun i e => by subst e; exact HbE.out.2.1)) HbE.out.2.2 ((below_on zb hBD (Nat.le_refl _)).trans (g2.above (below_on zb hBD (Nat.le_refl _)).size (fun i e => by subst e; exact Hup.out.2)))
      have HUb := Lib.hid hUb
      have HRU := Lib.hid hRU
      have HU := Lib.hid hU
      have U2 := Lib.hid u2
      have HVD := Lib.hid hVD
      clear z1 z2 zo zb hld2 u2 g2 hU hUb hRU hVD hBD zD
      go_upto_region 10 with fail
      refine wp_region_held_drew (S := fun W' => W'.heap[b1]? = VZ.heap[b1]?) (by kernel_rfl) rfl (fun hHeld => ?_)
      rw [← HVD.out] at hHeld ⊢
      refine wpAnyH_take (i := 0) (v := .agg #[.int .i64 now, .int .u64 (last + 1), .slice a4 (M.length + 1) c4]) rfl (by kernel_rfl) (by kernel_rfl) (by kernel_rfl) (fun _ _ _ h => h) (Or.inl ⟨by rfl, ?_⟩) (by assumption) ?_
      · intro w8 hSw; exact ld_takeT rfl (Hld2.out w8 hSw).1 rfl
      simp only [Act.put, List.getElem_toArray, List.getElem_cons_zero, List.getElem_cons_succ, List.setIfInBounds_toArray, List.set_cons_zero, List.set_cons_succ]
      refine wpAnyH_take (i := 1) (v := ?_) rfl (by kernel_rfl) (by kernel_rfl) (by kernel_rfl) (fun _ _ _ h => h) (Or.inl ⟨by rfl, ?_⟩) (by assumption) ?_
      rotate_left
      · intro w8 hSw; clear hSw; go_simp; (try with_reducible rfl)
      simp only [Act.put, List.getElem_toArray, List.getElem_cons_zero, List.getElem_cons_succ, List.setIfInBounds_toArray, List.set_cons_zero, List.set_cons_succ]
      refine wpAnyH_take (i := 2) (v := .int .u64 (last + 1)) rfl (by kernel_rfl) (by kernel_rfl) (by kernel_rfl) (fun _ _ _ h => h) (Or.inl ⟨by rfl, ?_⟩) (by assumption) ?_
      · intro w8 hSw; exact ld_takeT rfl (Hld2.out w8 hSw).2 rfl
      simp only [Act.put, List.getElem_toArray, List.getElem_cons_zero, List.getElem_cons_succ, List.setIfInBounds_toArray, List.set_cons_zero, List.set_cons_succ]
      refine wpAnyH_ready (rs := [3]) (by kernel_rfl) (by simp) ?_
      refine AllReadyH.cons rfl (fun K hK => ?_) AllReadyH.nil
      go_simp
      rw [← HU.out]
      refine hK.out _ _ HUb.out (fun hHeld => ?_)
      clear hK K y0 y1 y2 f0 f1 f2 l2
      try simp only [Act.put, List.getElem_toArray, List.getElem_cons_zero, List.getElem_cons_succ, List.setIfInBounds_toArray, List.set_cons_zero, List.set_cons_succ]
      refine wpAnyH_take (i := 4) (v := ?_) rfl (by kernel_rfl) (by kernel_rfl) (by kernel_rfl) (fun _ _ _ h => h) (Or.inl ⟨by rfl, ?_⟩) (by assumption) ?_
      rotate_left
      · intro w8 hSw; clear hSw; go_simp; (try with_reducible rfl)
      simp only [Act.put, List.getElem_toArray, List.getElem_cons_zero, List.getElem_cons_succ, List.setIfInBounds_toArray, List.set_cons_zero, List.set_cons_succ]
      refine wpAnyH_take (i := 5) (v := ?_) rfl (by kernel_rfl) (by kernel_rfl) (by kernel_rfl) (fun _ _ _ h => h) (Or.inl ⟨by rfl, ?_⟩) (by assumption) ?_
      rotate_left
      · intro w8 hSw; clear hSw; go_simp; (try with_reducible rfl)
      simp only [Act.put, List.getElem_toArray, List.getElem_cons_zero, List.getElem_cons_succ, List.setIfInBounds_toArray, List.set_cons_zero, List.set_cons_succ]
      refine wpAnyH_done (by kernel_rfl) ?_ _
      have u0 := block_cell U2.out 0
      have u1 := block_cell U2.out 1
      have u4 := block_cell U2.out 2
      have ul := (Array.getElem?_eq_some_iff.1 U2.out).1
      simp at u0 u1 u4
      go_wp2_with fail
      refine bodyPost_ret (v := .tuple #[.agg #[.int .i64 now, .int .u64 (last + 1), .slice a4 (M.length + 1) c4], .int .u64 (last + 1), .int .i64 0]) ?_ rfl HRU.out
      simp [results, Try.results47, go_sem, u0, u1, u4, ul]
theorem rset13 (W : World) (now last : Int) (ao : Option Addr) (cap : Nat) (X : List Th) (id due : Int) (h : Rt W ao cap (slot0 X)) (hl : X.length ≤ 256) (hi : Ids X) (h0 : 0 ≤ last) :
    Calls Try.prog 47 #[dsV now last ao X.length cap, .int .u64 id, .int .i64 due] W (RSetIs W now last ao X id due) := by
  by_cases hok : SetOk last X id due
  · exact rset_ok W now last ao cap X id due h hl hi h0 hok
  · by_cases hd : Inst due
    · by_cases hla : 1152921504606846976 ≤ last
      · exact rset_bad W now last ao cap X id due 10 h hl (.inr (.inr (.inl ⟨by have := hd.1; omega, by have := hd.2; omega, hla, rfl⟩))) hok (by unfold setE; rw [if_pos hd, if_pos hla])
      · have hf : ¬ (canB X id = true ∨ X.length < 256) := fun h => hok ⟨hd, by omega, h⟩
        have hcb : canB X id = false := by cases hc : canB X id with
          | false => rfl
          | true => exact absurd (.inl hc) hf
        have hno : ∀ u ∈ X, u.id ≠ id := fun u hu e => by
          subst e
          rw [(can_yes hi hu).2] at hcb; cases hcb
        have hlen : X.length = 256 := by
          have : ¬ X.length < 256 := fun h => hf (.inr h)
          omega
        exact rset_bad W now last ao cap X id due 30 h hl (.inr (.inr (.inr ⟨by have := hd.1; omega, by have := hd.2; omega, by omega, hlen, findV_no hno, rfl⟩))) hok (by unfold setE; rw [if_pos hd, if_neg hla, if_pos ⟨hcb, by omega⟩])
    · have hor : due < 0 ∨ (¬ due < 0 ∧ due > 1125899906842624) := by unfold Inst at hd; omega
      refine rset_bad W now last ao cap X id due 2 h hl ?_ hok (by unfold setE; rw [if_neg hd])
      rcases hor with h1 | ⟨h1, h2⟩
      · exact .inl ⟨h1, rfl⟩
      · exact .inr (.inl ⟨h1, h2, rfl⟩)
end Go.Proofs.Ytedlplkomfiahaa
