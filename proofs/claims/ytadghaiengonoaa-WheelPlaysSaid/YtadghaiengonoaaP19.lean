/- Lemmas for WheelPlays (Xu). No statement of the seat is proved here. -/
import Derived.Test.YtadghaiengonoaaP18
namespace Go.Proofs.Ytadghaiengonoaa
set_option linter.unusedVariables false
set_option linter.unusedSimpArgs false
set_option linter.unusedSectionVars false
open Go Go.RowKit Go.Maps Go.Deep
theorem own_rt (w : World) (base : Nat) (p : Th × Nat) (hb : base ≤ w.heap.size) : (w.alloc (.cells #[.int .u64 p.1.id, .int .u64 p.1.gen, .int .i64 p.1.due, .int .i64 (p.2 : Nat)] rtT)).ownsRow base rtT 4 (.slice (some ⟨w.heap.size, 0, .none⟩) 1 1) 1 (rtFlat [p]) :=
  ⟨by simp [rtFlat, rtCells], .inr ⟨w.heap.size, 1, _, rfl, hb, heap_alloc_new w _, Nat.le_refl _, by unfold maxLen; omega, by simp, by simp [rtFlat, rtCells]⟩⟩
theorem rx_sl {W : World} {ao : Option Addr} {cap : Nat} {X : List Th} (h : Rt W ao cap (slot0 X)) : Sl W 4 ao X.length cap (rtFlat (slot0 X)) := by
  have h1 := h.sl
  rw [slot0_len] at h1
  exact h1
theorem slot0_app (X : List Th) (p : Th × Nat) : (slot0 X ++ [p]).length = X.length + 1 := by simp [slot0_len]
def Lie (W : World) (a : Option Addr) : Prop := ∀ x, a = some x → W.heap.size ≤ x.block
theorem own_lie {W : World} {base e k n m c : Nat} {a : Option Addr} {xs : List Value} (h : W.ownsRow base e k (.slice a n c) m xs) : ∀ x, a = some x → base ≤ x.block := fun x e => by
  subst e
  exact (h.lt x.block rfl).1
theorem srt_app_len (X : List Th) (p : Th × Nat) : (Sta.srt leP (slot0 X ++ [p])).length = X.length + 1 := (Sta.srt_perm leP _).length_eq.trans (slot0_app X p)
theorem rx_own {W : World} {E : Nat} {ao : Option Addr} {cap n : Nat} {l : RLs} (h : W.ownsRow E rtT 4 (.slice ao n cap) n (rtFlat l)) (hn : l.length = n) : Rt W ao cap l := by
  subst hn; exact Rt.of_own h
theorem ret_rw {W V VZ : World} {b1 b3 E n : Nat} {a4 : Option Addr} {c4 : Nat} {now : Int} {l : RLs} (hBV : Below W.heap.size W V) (hg : Gr (fun b => b = b1) V VZ) (u1 : W.heap.size ≤ b1) (u3 : W.heap.size ≤ b3) (og : VZ.ownsRow E rtT 4 (.slice a4 n c4) n (rtFlat l)) (hn : l.length = n) (hE : b3 < E) :
    Rt ((VZ.setCell ⟨b3, 0, none⟩ (.int .i64 now)).setCell ⟨b3, 1, none⟩ (.slice a4 n c4)) a4 c4 l ∧ Below W.heap.size W ((VZ.setCell ⟨b3, 0, none⟩ (.int .i64 now)).setCell ⟨b3, 1, none⟩ (.slice a4 n c4)) := by
  have hne : ∀ {V : World}, V.ownsRow E rtT 4 (.slice a4 n c4) n (rtFlat l) → (Value.slice a4 n c4).ownBlock ≠ some b3 := fun h e => by have := (h.lt b3 e).1; omega
  have o1 := World.ownsRow.kept og (grown_set VZ b3 0 (.int .i64 now)) (.inr (hne og))
  have o2 := World.ownsRow.kept o1 (grown_set _ b3 1 (.slice a4 n c4)) (.inr (hne o1))
  have B1 := hBV.trans (hg.above hBV.size (fun i e => by rw [e]; exact u1))
  have B2 := below_grown B1 (grown_set VZ b3 0 (.int .i64 now)) u3 B1.size
  exact ⟨rx_own o2 hn, below_grown B2 (grown_set _ b3 1 (.slice a4 n c4)) u3 B2.size⟩
set_option maxRecDepth 100000 in
set_option maxHeartbeats 4000000 in
theorem rarm_new (W : World) (now : Int) (ao : Option Addr) (cap : Nat) (X : List Th) (t : Th) (k : Nat) (h : Rt W ao cap (slot0 X)) (hl : X.length < 256) (ht : Inst t.due) (hf : findV (slot0 X) t.id = -1) :
    Calls Try.prog 39 #[rwV now ao X.length cap, rtVal (t, k)] W fun e W' => ∃ ao' cap', e = .returned (.tuple #[rwV now ao' (X.length + 1) cap', .int .i64 0]) ∧ Rt W' ao' cap' (Sta.srt leP (slot0 X ++ [(t, k)])) ∧ Lie W ao' ∧ Below W.heap.size W W' := by
  obtain ⟨ti, tg, td⟩ := t
  unfold rtVal rwV
  obtain ⟨k1, k2⟩ := ht
  simp only at k1 k2 hf
  have k3 : ¬ td < 0 := by omega
  have k4 : ¬ td > 1125899906842624 := by omega
  have k5 : ¬ (X.length : Int) ≥ 256 := by omega
  obtain ⟨W1, hW1⟩ : ∃ W1, W1 = W.alloc (.cells #[.int .i64 now, .slice ao X.length cap] rwT) := ⟨_, rfl⟩
  obtain ⟨W2, hW2⟩ : ∃ W2, W2 = W1.alloc (.cells #[.int .u64 ti, .int .u64 tg, .int .i64 td, .int .i64 (k : Nat)] rtT) := ⟨_, rfl⟩
  obtain ⟨W3, hW3⟩ : ∃ W3, W3 = W2.alloc (.cells #[.int .i64 0, .slice none 0 0] rwT) := ⟨_, rfl⟩
  obtain ⟨b1, hb1⟩ : ∃ b, b = W.heap.size := ⟨_, rfl⟩
  obtain ⟨b2, hb2⟩ : ∃ b, b = W.heap.size + 1 := ⟨_, rfl⟩
  obtain ⟨b3, hb3⟩ : ∃ b, b = W.heap.size + 1 + 1 := ⟨_, rfl⟩
  have z1 : W1.heap.size = W.heap.size + 1 := by rw [hW1]; simp
  have z2 : W2.heap.size = W.heap.size + 1 + 1 := by rw [hW2]; simp [z1]
  have B1 : Below W.heap.size W W1 := by rw [hW1]; exact below_new _ _
  have B2 : Below W1.heap.size W1 W2 := by rw [hW2]; exact below_new _ _
  have B3 : Below W2.heap.size W2 W3 := by rw [hW3]; exact below_new _ _
  have hB3 := below_on (below_on B1 B2 (Nat.le_refl _)) B3 (Nat.le_refl _)
  have t1 : W3.heap[b1]? = some (.cells #[.int .i64 now, .slice ao X.length cap] rwT (0, 0)) := by
    rw [B3.block b1 (by omega), B2.block b1 (by omega), hW1, hb1]; exact heap_alloc_new _ _
  have t2 : W3.heap[b2]? = some (.cells #[.int .u64 ti, .int .u64 tg, .int .i64 td, .int .i64 (k : Nat)] rtT (0, 0)) := by
    rw [B3.block b2 (by omega), hW2, hb2, ← z1]; exact heap_alloc_new _ _
  have t3 : W3.heap[b3]? = some (.cells #[.int .i64 0, .slice none 0 0] rwT (0, 0)) := by
    rw [hW3, hb3, ← z2]; exact heap_alloc_new _ _
  have Hup : Hid (W.heap.size ≤ b1 ∧ W.heap.size ≤ b2 ∧ W.heap.size ≤ b3) := ⟨by omega, by omega, by omega⟩
  have Hap : Hid (b1 ≠ b2 ∧ b1 ≠ b3 ∧ b2 ≠ b3) := ⟨by omega, by omega, by omega⟩
  have a0 := block_cell t1 0
  have a1 := block_cell t1 1
  have c0 := block_cell t2 0
  have c2 := block_cell t2 2
  simp at a0 a1 c0 c2
  have l1 := (Array.getElem?_eq_some_iff.1 t1).1
  have l2 := (Array.getElem?_eq_some_iff.1 t2).1
  have hfd := find_any W3 ao cap (slot0 X) ti (h.below hB3) (by rw [slot0_len]; omega)
  rw [slot0_len, hf] at hfd
  have Hfd := Lib.hid hfd
  have Hh := Lib.hid h
  have HL := Lib.hid hl
  have HB3 := Lib.hid hB3
  have T1 := Lib.hid t1
  have T2 := Lib.hid t2
  have T3 := Lib.hid t3
  clear h hl hf hfd k1 k2 z1 z2 B1 B2 B3 hB3 t1 t2 t3
  go_enter Try.func39, Try.ntmps39
  go_upto_region 1 with fail
  rw [← hW1, ← hW2, ← hW3, ← hb3, ← hb2, ← hb1]
  clear hW1 hW2 hW3 hb1 hb2 hb3
  go_wp2_with fail
  refine Hfd.out.mono ?_
  rintro e V ⟨rfl, hV⟩
  have d1 := (hV.block b1 l1).trans T1.out
  have d2 := (hV.block b2 l2).trans T2.out
  have d3 := (hV.block b3 (Array.getElem?_eq_some_iff.1 T3.out).1).trans T3.out
  clear a0 a1 c0 c2 l1 l2 T1 T2 T3 Hfd
  have a0 := block_cell d1 0
  have a1 := block_cell d1 1
  simp at a0 a1
  have l1 := (Array.getElem?_eq_some_iff.1 d1).1
  have l2 := (Array.getElem?_eq_some_iff.1 d2).1
  have l3 := (Array.getElem?_eq_some_iff.1 d3).1
  go_upto_region 7 with fail
  obtain ⟨E, hEd⟩ : ∃ E, E = V.heap.size := ⟨_, rfl⟩
  have hE0 : E ≤ V.heap.size := Nat.le_of_eq hEd
  have hEW : W.heap.size ≤ E := by rw [hEd]; exact Nat.le_trans HB3.out.size hV.size
  have hb1E : b1 < E := by rw [hEd]; exact l1
  have hb2E : b2 < E := by rw [hEd]; exact l2
  have hb3E : b3 < E := by rw [hEd]; exact l3
  have HBV := Lib.hid (below_on HB3.out hV (Nat.le_refl _))
  have Hgr := Lib.hid (fun W' (hw : Below E V W') => (Gr.below (by rw [← hEd]; exact hw) : Gr (fun b => b = b1) V W'))
  have e0 := block_cell d2 0
  have e1 := block_cell d2 1
  have e2 := block_cell d2 2
  have e3 := block_cell d2 3
  simp at e0 e1 e2 e3
  have hkb : ∀ W', Gr (fun b => b = b1) V W' → W'.heap[b2]? = V.heap[b2]? := fun W' hw => hw.block b2 l2 (fun e => Hap.out.1 e.symm)
  have Hld : Hid (∀ W', Gr (fun b => b = b1) V W' → (Instr.loadAt rtT (.pointer (some ⟨b2, 0, none⟩))).run Try.prog W' = .ok (rtVal (⟨ti, tg, td⟩, k)) W') := fun W' hw => by
    have hx := hkb W' hw
    exact rt_load (p := (⟨ti, tg, td⟩, k)) (by simp [World.cell?, hx, d2]) (by simp [World.cell?, hx, d2]) (by simp [World.cell?, hx, d2]) (by simp [World.cell?, hx, d2])
  have Hsl := Lib.hid (fun W' (hw : Below E V W') => rx_sl (Hh.out.below (HBV.out.trans (hw.mono hEW))))
  have HbE := Lib.hid (show b1 < E ∧ b2 < E ∧ b3 < E from ⟨hb1E, hb2E, hb3E⟩)
  have HEW := Lib.hid hEW
  have HE0 := Lib.hid hE0
  have D1 := Lib.hid d1
  have D3 := Lib.hid d3
  clear hkb hEd hV a0 a1 e0 e1 e2 e3 l1 l2 l3 d1 d2 d3 hb1E hb2E hb3E hE0 HB3
  refine wp_region_held_drew (S := fun W' => Gr (fun b => b = b1) V W') (by kernel_rfl) (Gr.refl _ V).drew (fun hHeld => ?_)
  obtain ⟨V0, hV0⟩ : ∃ V0, V0 = V.drew := ⟨_, rfl⟩
  have hB : Below E V V0 := by rw [hV0]; exact (Below.refl E V).drew
  have hE : E ≤ V0.heap.size := by rw [hV0]; exact HE0.out
  rw [← hV0] at hHeld ⊢
  clear hV0
  refine wpAnyH_take (i := 1) (v := ?_) rfl (by kernel_rfl) (by kernel_rfl) (by kernel_rfl) (fun _ _ _ h => h) (Or.inl ⟨by rfl, ?_⟩) (by assumption) ?_
  rotate_left
  · intro w8 hSw; clear hSw; go_simp; (try with_reducible rfl)
  simp only [Act.put, List.getElem_toArray, List.getElem_cons_zero, List.getElem_cons_succ, List.setIfInBounds_toArray, List.set_cons_zero, List.set_cons_succ]
  refine wpAnyH_take (i := 4) (v := rtVal (⟨ti, tg, td⟩, k)) rfl (by kernel_rfl) (by kernel_rfl) (by kernel_rfl) (fun _ _ _ h => h) (Or.inl ⟨by rfl, ?_⟩) (by assumption) ?_
  · intro w8 hSw; exact ld_takeT rfl (Hld.out w8 hSw) rfl
  simp only [Act.put, List.getElem_toArray, List.getElem_cons_zero, List.getElem_cons_succ, List.setIfInBounds_toArray, List.set_cons_zero, List.set_cons_succ]
  unfold rtVal
  refine wpAnyH_ready (rs := [0, 2, 5]) (by kernel_rfl) (by simp) ?_
  refine AllReadyH.cons rfl (fun K hK => ?_) (AllReadyH.cons rfl (fun K hK => ?_) (AllReadyH.cons rfl (fun K hK => ?_) AllReadyH.nil))
  · go_simp
    obtain ⟨V1, hX⟩ : ∃ X, X = V0.alloc (.cells #[] rtT) := ⟨_, rfl⟩
    have own0 := own_empty V0 E rtT 4 hE
    have hBx := below_on hB (below_new V0 (.cells #[] rtT)) HE0.out
    have hlt := hE
    obtain ⟨g0, hg⟩ : ∃ g, g = V0.heap.size := ⟨_, rfl⟩
    rw [← hX] at own0 hBx
    rw [← hg] at own0
    have HX := Lib.hid hX
    have HG := Lib.hid hg
    clear hX hg
    rw [show V0.alloc (.cells #[] rtT) = V1 from HX.out.symm, ← HG.out]
    have hE1 : E ≤ V1.heap.size := by rw [HX.out]; simp; omega
    clear hE hlt HX HG hB
    have hE := hE1
    have hB := hBx
    clear hE1 hBx
    refine hK.out _ _ (Hgr.out _ hB) (fun hHeld => ?_)
    clear hK K
    try simp only [Act.put, List.getElem_toArray, List.getElem_cons_zero, List.getElem_cons_succ, List.setIfInBounds_toArray, List.set_cons_zero, List.set_cons_succ]
    refine wpAnyH_ready (rs := [2, 5]) (by kernel_rfl) (by simp) ?_
    refine AllReadyH.cons rfl (fun K hK => ?_) (AllReadyH.cons rfl (fun K hK => ?_) AllReadyH.nil)
    · have a1 := ((hB.block b1 HbE.out.1).trans D1.out)
      have a2x := block_cell a1 1
      simp at a2x
      have lx := (Array.getElem?_eq_some_iff.1 a1).1
      clear a1
      go_simp
      clear a2x lx
      refine hK.out _ _ (Hgr.out _ hB) (fun hHeld => ?_)
      clear hK K
      try simp only [Act.put, List.getElem_toArray, List.getElem_cons_zero, List.getElem_cons_succ, List.setIfInBounds_toArray, List.set_cons_zero, List.set_cons_succ]
      refine wpAnyH_ready (rs := [3, 5]) (by kernel_rfl) (by simp) ?_
      refine AllReadyH.cons rfl (fun K hK => ?_) (AllReadyH.cons rfl (fun K hK => ?_) AllReadyH.nil)
      · rw [if_pos (by rfl)]
        refine wpo_append_lie (.tmp 27) (.tmp 29) rtsT rfl E rtT infoRt Try.underlying46 rfl (by decide) _ 0 [] rfl own0 _ _ _ _ rfl (Hsl.out _ hB) (rts_one _) (by unfold maxLen; have := HL.out; omega) (by have := HL.out; omega) hE fun a2 c2 V2 own2 hgr hat => ?_
        rw [Nat.zero_add, List.nil_append] at own2
        rw [Nat.zero_add]
        have hBx := below_app hB hgr own0 (Nat.le_refl _) hE
        have hE1 : E ≤ V2.heap.size := Nat.le_trans hE hgr.size
        clear own0
        clear hgr hat hE hB
        have hE := hE1
        have hB := hBx
        clear hE1 hBx
        refine hK.out _ _ (Hgr.out _ hB) (fun hHeld => ?_)
        clear hK K
        try simp only [Act.put, List.getElem_toArray, List.getElem_cons_zero, List.getElem_cons_succ, List.setIfInBounds_toArray, List.set_cons_zero, List.set_cons_succ]
        refine wpAnyH_ready (rs := [5]) (by kernel_rfl) (by simp) ?_
        refine AllReadyH.cons rfl (fun K hK => ?_) AllReadyH.nil
        go_simp
        obtain ⟨V3, hX⟩ : ∃ X, X = V2.alloc (.cells #[.int .u64 ti, .int .u64 tg, .int .i64 td, .int .i64 (k : Nat)] rtT) := ⟨_, rfl⟩
        have own1 := own_rt V2 E (⟨ti, tg, td⟩, k) hE
        simp only at own1
        have hBx := below_on hB (below_new V2 (.cells #[.int .u64 ti, .int .u64 tg, .int .i64 td, .int .i64 (k : Nat)] rtT)) HE0.out
        have own2n := World.ownsRow.alloc own2 (.cells #[.int .u64 ti, .int .u64 tg, .int .i64 td, .int .i64 (k : Nat)] rtT)
        have hlt := hE
        have hap2 : ∀ g, (Value.slice a2 X.length c2).ownBlock = some g → g ≠ V2.heap.size := by intro g hg; have := (own2.lt g hg).2; omega
        obtain ⟨g1, hg⟩ : ∃ g, g = V2.heap.size := ⟨_, rfl⟩
        rw [← hX] at own1 hBx own2n
        rw [← hg] at own1 hap2
        have HX := Lib.hid hX
        have HG := Lib.hid hg
        clear hX hg
        rw [show V2.alloc (.cells #[.int .u64 ti, .int .u64 tg, .int .i64 td, .int .i64 (k : Nat)] rtT) = V3 from HX.out.symm, ← HG.out]
        have hE1 : E ≤ V3.heap.size := by rw [HX.out]; simp; omega
        clear own2
        have own2 := own2n
        clear own2n
        clear hE hlt HX HG hB
        have hE := hE1
        have hB := hBx
        clear hE1 hBx
        refine hK.out _ _ (Hgr.out _ hB) (fun hHeld => ?_)
        clear hK K
        try simp only [Act.put, List.getElem_toArray, List.getElem_cons_zero, List.getElem_cons_succ, List.setIfInBounds_toArray, List.set_cons_zero, List.set_cons_succ]
        refine wpAnyH_ready (rs := [6]) (by kernel_rfl) (by simp) ?_
        refine AllReadyH.cons rfl (fun K hK => ?_) AllReadyH.nil
        rw [if_pos (by rfl)]
        refine wpo_append_lie (.tmp 30) (.tmp 32) rtsT rfl E rtT infoRt Try.underlying46 rfl (by decide) _ X.length _ rfl own2 _ _ _ _ rfl (Rt.of_own (l := [(⟨ti, tg, td⟩, k)]) own1).sl (rts_one _) (by unfold maxLen; have := HL.out; simp; omega) (by have := HL.out; simp; omega) hE fun a3 c3 V4 own3 hgr _ => ?_
        have hBx := below_app hB hgr own2 (Nat.le_refl _) hE
        have hE1 : E ≤ V4.heap.size := Nat.le_trans hE hgr.size
        rw [← rt_two] at own3
        clear own2 own1 hgr hE hB
        have hB := hBx
        have hE := hE1
        clear hBx hE1
        refine hK.out _ _ (Hgr.out _ hB) (fun hHeld => ?_)
        clear hK K
        try simp only [Act.put, List.getElem_toArray, List.getElem_cons_zero, List.getElem_cons_succ, List.setIfInBounds_toArray, List.set_cons_zero, List.set_cons_succ]
        refine wpAnyH_ready (rs := [7]) (by kernel_rfl) (by simp) ?_
        refine AllReadyH.cons rfl (fun K hK => ?_) AllReadyH.nil
        have hrt : Rt V4 a3 c3 (slot0 X ++ [(⟨ti, tg, td⟩, k)]) := Rt.of_own (by rw [slot0_app]; exact own3)
        have hso := sorted_any V4 a3 c3 _ hrt (by rw [slot0_app]; have := HL.out; omega)
        rw [slot0_app] at hso
        have Hso := Lib.hid hso
        clear hso hrt own3
        go_simp
        go_at_call 55
        refine (show Calls _ _ _ _ _ from Hso.out).mono ?_
        rintro e V5 ⟨a4, c4, rfl, own4, hb4⟩
        have hBx := below_on hB hb4 HE0.out
        have hE1 : E ≤ V5.heap.size := Nat.le_trans hE hb4.size
        have own4n := own_base own4 hE
        clear own4 hb4 Hso hE hB
        have own4 := own4n
        have hB := hBx
        have hE := hE1
        clear own4n hBx hE1
        refine hK.out _ _ (Hgr.out _ hB) (fun hHeld => ?_)
        clear hK K
        try simp only [Act.put, List.getElem_toArray, List.getElem_cons_zero, List.getElem_cons_succ, List.setIfInBounds_toArray, List.set_cons_zero, List.set_cons_succ]
        refine wpAnyH_take (i := 8) (v := ?_) rfl (by kernel_rfl) (by kernel_rfl) (by kernel_rfl) (fun _ _ _ h => h) (Or.inl ⟨by rfl, ?_⟩) (by assumption) ?_
        rotate_left
        · intro w8 hSw; clear hSw; go_simp; (try with_reducible rfl)
        simp only [Act.put, List.getElem_toArray, List.getElem_cons_zero, List.getElem_cons_succ, List.setIfInBounds_toArray, List.set_cons_zero, List.set_cons_succ]
        refine wpAnyH_ready (rs := [9]) (by kernel_rfl) (by simp) ?_
        refine AllReadyH.cons rfl (fun K hK => ?_) AllReadyH.nil
        have x1 := (hB.block b1 HbE.out.1).trans D1.out
        have x3 := (hB.block b3 HbE.out.2.2).trans D3.out
        have y1 := block_cell x1 1
        have f1 := block_free x1 1
        have lx := (Array.getElem?_eq_some_iff.1 x1).1
        simp at y1 f1
        have u1 := block_set x1 1 (.slice a4 (X.length + 1) c4)
        simp only [List.setIfInBounds_toArray, List.set_cons_zero, List.set_cons_succ] at u1
        have u3 := (heap_setCell_other V5 ⟨b1, 1, none⟩ b3 (.slice a4 (X.length + 1) c4) (fun e => Hap.out.2.1 e.symm)).trans x3
        have og := World.ownsRow.kept own4 (grown_set V5 b1 1 (.slice a4 (X.length + 1) c4)) (.inr (fun e => by have := (own4.lt b1 e).1; have := HbE.out.1; omega))
        have hg : Gr (fun b => b = b1) V (V5.setCell ⟨b1, 1, none⟩ (.slice a4 (X.length + 1) c4)) := (Hgr.out _ hB).trans (Gr.one (grown_set V5 b1 1 _) (fun b e => (Option.some.inj e).symm))
        have U1 := Lib.hid u1
        have U3 := Lib.hid u3
        have Og := Lib.hid og
        have Hg := Lib.hid hg
        clear u1 u3 og hg x1 x3 own4 hB hE
        go_simp
        obtain ⟨VZ, hVZ⟩ : ∃ VZ, VZ = V5.setCell ⟨b1, 1, none⟩ (.slice a4 (X.length + 1) c4) := ⟨_, rfl⟩
        rw [← hVZ] at U1 U3 Og Hg
        first | rw [← hVZ] | (simp only [← Int.natCast_succ] at *; rw [← hVZ])
        clear hVZ y1 f1 lx
        refine hK.out _ _ Hg.out (fun hHeld => ?_)
        clear hK K
        try simp only [Act.put, List.getElem_toArray, List.getElem_cons_zero, List.getElem_cons_succ, List.setIfInBounds_toArray, List.set_cons_zero, List.set_cons_succ]
        refine wpAnyH_done (by kernel_rfl) ?_ _
        have y0 := block_cell U1.out 0
        have y1 := block_cell U1.out 1
        have z0 := block_cell U3.out 0
        have z1 := block_cell U3.out 1
        have f0 := block_free U3.out 0
        have f1 := block_free U3.out 1
        simp at y0 y1 z0 z1 f0 f1
        have lz := (Array.getElem?_eq_some_iff.1 U3.out).1
        have lz1 := (Array.getElem?_eq_some_iff.1 U1.out).1
        have nz := Hap.out.2.1
        go_wp2_with fail
        obtain ⟨hrt, hbl⟩ := ret_rw HBV.out Hg.out Hup.out.1 Hup.out.2.2 Og.out (srt_app_len X _) HbE.out.2.2 (now := now)
        refine bodyPost_ret (v := .tuple #[.agg #[.int .i64 now, .slice a4 (X.length + 1) c4], .int .i64 0]) ?_ rfl ⟨a4, c4, rfl, hrt, fun x e => Nat.le_trans HEW.out (own_lie Og.out x e), hbl⟩
        simp [results, Try.results39, go_sem, z0, z1, lz]
      · go_simp
        obtain ⟨V6, hX⟩ : ∃ X, X = V1.alloc (.cells #[.int .u64 ti, .int .u64 tg, .int .i64 td, .int .i64 (k : Nat)] rtT) := ⟨_, rfl⟩
        have own1 := own_rt V1 E (⟨ti, tg, td⟩, k) hE
        simp only at own1
        have hBx := below_on hB (below_new V1 (.cells #[.int .u64 ti, .int .u64 tg, .int .i64 td, .int .i64 (k : Nat)] rtT)) HE0.out
        have own0n := World.ownsRow.alloc own0 (.cells #[.int .u64 ti, .int .u64 tg, .int .i64 td, .int .i64 (k : Nat)] rtT)
        have hlt := hE
        have hap : g0 ≠ V1.heap.size := by have := (own0.lt g0 rfl).2; omega
        obtain ⟨g1, hg⟩ : ∃ g, g = V1.heap.size := ⟨_, rfl⟩
        rw [← hX] at own1 hBx own0n
        rw [← hg] at own1 hap
        have HX := Lib.hid hX
        have HG := Lib.hid hg
        clear hX hg
        rw [show V1.alloc (.cells #[.int .u64 ti, .int .u64 tg, .int .i64 td, .int .i64 (k : Nat)] rtT) = V6 from HX.out.symm, ← HG.out]
        have hE1 : E ≤ V6.heap.size := by rw [HX.out]; simp; omega
        clear own0
        have own0 := own0n
        clear own0n
        clear hE hlt HX HG hB
        have hE := hE1
        have hB := hBx
        clear hE1 hBx
        refine hK.out _ _ (Hgr.out _ hB) (fun hHeld => ?_)
        clear hK K
        try simp only [Act.put, List.getElem_toArray, List.getElem_cons_zero, List.getElem_cons_succ, List.setIfInBounds_toArray, List.set_cons_zero, List.set_cons_succ]
        refine wpAnyH_ready (rs := [3]) (by kernel_rfl) (by simp) ?_
        refine AllReadyH.cons rfl (fun K hK => ?_) AllReadyH.nil
        rw [if_pos (by rfl)]
        refine wpo_append_lie (.tmp 27) (.tmp 29) rtsT rfl E rtT infoRt Try.underlying46 rfl (by decide) _ 0 [] rfl own0 _ _ _ _ rfl (Hsl.out _ hB) (rts_one _) (by unfold maxLen; have := HL.out; omega) (by have := HL.out; omega) hE fun a2 c2 V7 own2 hgr hat => ?_
        rw [Nat.zero_add, List.nil_append] at own2
        rw [Nat.zero_add]
        have hBx := below_app hB hgr own0 (Nat.le_refl _) hE
        have own1n := own1.kept hgr (.inr (by intro e; exact hap (Option.some.inj e).symm))
        have hap2 : ∀ g, (Value.slice a2 X.length c2).ownBlock = some g → g ≠ g1 := by intro g hg; rcases hat g (by rw [Nat.zero_add]; exact hg) with h5 | h5; exact fun e => hap ((Option.some.inj h5).trans e); (have := (own1.lt g1 rfl).2; omega)
        have hE1 : E ≤ V7.heap.size := Nat.le_trans hE hgr.size
        clear own0
        clear own1
        have own1 := own1n
        clear own1n
        clear hgr hat hE hB
        have hE := hE1
        have hB := hBx
        clear hE1 hBx
        refine hK.out _ _ (Hgr.out _ hB) (fun hHeld => ?_)
        clear hK K
        try simp only [Act.put, List.getElem_toArray, List.getElem_cons_zero, List.getElem_cons_succ, List.setIfInBounds_toArray, List.set_cons_zero, List.set_cons_succ]
        refine wpAnyH_ready (rs := [6]) (by kernel_rfl) (by simp) ?_
        refine AllReadyH.cons rfl (fun K hK => ?_) AllReadyH.nil
        rw [if_pos (by rfl)]
        refine wpo_append_lie (.tmp 30) (.tmp 32) rtsT rfl E rtT infoRt Try.underlying46 rfl (by decide) _ X.length _ rfl own2 _ _ _ _ rfl (Rt.of_own (l := [(⟨ti, tg, td⟩, k)]) own1).sl (rts_one _) (by unfold maxLen; have := HL.out; simp; omega) (by have := HL.out; simp; omega) hE fun a3 c3 V8 own3 hgr _ => ?_
        have hBx := below_app hB hgr own2 (Nat.le_refl _) hE
        have hE1 : E ≤ V8.heap.size := Nat.le_trans hE hgr.size
        rw [← rt_two] at own3
        clear own2 own1 hgr hE hB
        have hB := hBx
        have hE := hE1
        clear hBx hE1
        refine hK.out _ _ (Hgr.out _ hB) (fun hHeld => ?_)
        clear hK K
        try simp only [Act.put, List.getElem_toArray, List.getElem_cons_zero, List.getElem_cons_succ, List.setIfInBounds_toArray, List.set_cons_zero, List.set_cons_succ]
        refine wpAnyH_ready (rs := [7]) (by kernel_rfl) (by simp) ?_
        refine AllReadyH.cons rfl (fun K hK => ?_) AllReadyH.nil
        have hrt : Rt V8 a3 c3 (slot0 X ++ [(⟨ti, tg, td⟩, k)]) := Rt.of_own (by rw [slot0_app]; exact own3)
        have hso := sorted_any V8 a3 c3 _ hrt (by rw [slot0_app]; have := HL.out; omega)
        rw [slot0_app] at hso
        have Hso := Lib.hid hso
        clear hso hrt own3
        go_simp
        go_at_call 55
        refine (show Calls _ _ _ _ _ from Hso.out).mono ?_
        rintro e V9 ⟨a4, c4, rfl, own4, hb4⟩
        have hBx := below_on hB hb4 HE0.out
        have hE1 : E ≤ V9.heap.size := Nat.le_trans hE hb4.size
        have own4n := own_base own4 hE
        clear own4 hb4 Hso hE hB
        have own4 := own4n
        have hB := hBx
        have hE := hE1
        clear own4n hBx hE1
        refine hK.out _ _ (Hgr.out _ hB) (fun hHeld => ?_)
        clear hK K
        try simp only [Act.put, List.getElem_toArray, List.getElem_cons_zero, List.getElem_cons_succ, List.setIfInBounds_toArray, List.set_cons_zero, List.set_cons_succ]
        refine wpAnyH_take (i := 8) (v := ?_) rfl (by kernel_rfl) (by kernel_rfl) (by kernel_rfl) (fun _ _ _ h => h) (Or.inl ⟨by rfl, ?_⟩) (by assumption) ?_
        rotate_left
        · intro w8 hSw; clear hSw; go_simp; (try with_reducible rfl)
        simp only [Act.put, List.getElem_toArray, List.getElem_cons_zero, List.getElem_cons_succ, List.setIfInBounds_toArray, List.set_cons_zero, List.set_cons_succ]
        refine wpAnyH_ready (rs := [9]) (by kernel_rfl) (by simp) ?_
        refine AllReadyH.cons rfl (fun K hK => ?_) AllReadyH.nil
        have x1 := (hB.block b1 HbE.out.1).trans D1.out
        have x3 := (hB.block b3 HbE.out.2.2).trans D3.out
        have y1 := block_cell x1 1
        have f1 := block_free x1 1
        have lx := (Array.getElem?_eq_some_iff.1 x1).1
        simp at y1 f1
        have u1 := block_set x1 1 (.slice a4 (X.length + 1) c4)
        simp only [List.setIfInBounds_toArray, List.set_cons_zero, List.set_cons_succ] at u1
        have u3 := (heap_setCell_other V9 ⟨b1, 1, none⟩ b3 (.slice a4 (X.length + 1) c4) (fun e => Hap.out.2.1 e.symm)).trans x3
        have og := World.ownsRow.kept own4 (grown_set V9 b1 1 (.slice a4 (X.length + 1) c4)) (.inr (fun e => by have := (own4.lt b1 e).1; have := HbE.out.1; omega))
        have hg : Gr (fun b => b = b1) V (V9.setCell ⟨b1, 1, none⟩ (.slice a4 (X.length + 1) c4)) := (Hgr.out _ hB).trans (Gr.one (grown_set V9 b1 1 _) (fun b e => (Option.some.inj e).symm))
        have U1 := Lib.hid u1
        have U3 := Lib.hid u3
        have Og := Lib.hid og
        have Hg := Lib.hid hg
        clear u1 u3 og hg x1 x3 own4 hB hE
        go_simp
        obtain ⟨VZ, hVZ⟩ : ∃ VZ, VZ = V9.setCell ⟨b1, 1, none⟩ (.slice a4 (X.length + 1) c4) := ⟨_, rfl⟩
        rw [← hVZ] at U1 U3 Og Hg
        first | rw [← hVZ] | (simp only [← Int.natCast_succ] at *; rw [← hVZ])
        clear hVZ y1 f1 lx
        refine hK.out _ _ Hg.out (fun hHeld => ?_)
        clear hK K
        try simp only [Act.put, List.getElem_toArray, List.getElem_cons_zero, List.getElem_cons_succ, List.setIfInBounds_toArray, List.set_cons_zero, List.set_cons_succ]
        refine wpAnyH_done (by kernel_rfl) ?_ _
        have y0 := block_cell U1.out 0
        have y1 := block_cell U1.out 1
        have z0 := block_cell U3.out 0
        have z1 := block_cell U3.out 1
        have f0 := block_free U3.out 0
        have f1 := block_free U3.out 1
        simp at y0 y1 z0 z1 f0 f1
        have lz := (Array.getElem?_eq_some_iff.1 U3.out).1
        have lz1 := (Array.getElem?_eq_some_iff.1 U1.out).1
        have nz := Hap.out.2.1
        go_wp2_with fail
        obtain ⟨hrt, hbl⟩ := ret_rw HBV.out Hg.out Hup.out.1 Hup.out.2.2 Og.out (srt_app_len X _) HbE.out.2.2 (now := now)
        refine bodyPost_ret (v := .tuple #[.agg #[.int .i64 now, .slice a4 (X.length + 1) c4], .int .i64 0]) ?_ rfl ⟨a4, c4, rfl, hrt, fun x e => Nat.le_trans HEW.out (own_lie Og.out x e), hbl⟩
        simp [results, Try.results39, go_sem, z0, z1, lz]
    · go_simp
      obtain ⟨V10, hX⟩ : ∃ X, X = V1.alloc (.cells #[.int .u64 ti, .int .u64 tg, .int .i64 td, .int .i64 (k : Nat)] rtT) := ⟨_, rfl⟩
      have own1 := own_rt V1 E (⟨ti, tg, td⟩, k) hE
      simp only at own1
      have hBx := below_on hB (below_new V1 (.cells #[.int .u64 ti, .int .u64 tg, .int .i64 td, .int .i64 (k : Nat)] rtT)) HE0.out
      have own0n := World.ownsRow.alloc own0 (.cells #[.int .u64 ti, .int .u64 tg, .int .i64 td, .int .i64 (k : Nat)] rtT)
      have hlt := hE
      have hap : g0 ≠ V1.heap.size := by have := (own0.lt g0 rfl).2; omega
      obtain ⟨g1, hg⟩ : ∃ g, g = V1.heap.size := ⟨_, rfl⟩
      rw [← hX] at own1 hBx own0n
      rw [← hg] at own1 hap
      have HX := Lib.hid hX
      have HG := Lib.hid hg
      clear hX hg
      rw [show V1.alloc (.cells #[.int .u64 ti, .int .u64 tg, .int .i64 td, .int .i64 (k : Nat)] rtT) = V10 from HX.out.symm, ← HG.out]
      have hE1 : E ≤ V10.heap.size := by rw [HX.out]; simp; omega
      clear own0
      have own0 := own0n
      clear own0n
      clear hE hlt HX HG hB
      have hE := hE1
      have hB := hBx
      clear hE1 hBx
      refine hK.out _ _ (Hgr.out _ hB) (fun hHeld => ?_)
      clear hK K
      try simp only [Act.put, List.getElem_toArray, List.getElem_cons_zero, List.getElem_cons_succ, List.setIfInBounds_toArray, List.set_cons_zero, List.set_cons_succ]
      refine wpAnyH_ready (rs := [2]) (by kernel_rfl) (by simp) ?_
      refine AllReadyH.cons rfl (fun K hK => ?_) AllReadyH.nil
      have a1 := ((hB.block b1 HbE.out.1).trans D1.out)
      have a2x := block_cell a1 1
      simp at a2x
      have lx := (Array.getElem?_eq_some_iff.1 a1).1
      clear a1
      go_simp
      clear a2x lx
      refine hK.out _ _ (Hgr.out _ hB) (fun hHeld => ?_)
      clear hK K
      try simp only [Act.put, List.getElem_toArray, List.getElem_cons_zero, List.getElem_cons_succ, List.setIfInBounds_toArray, List.set_cons_zero, List.set_cons_succ]
      refine wpAnyH_ready (rs := [3]) (by kernel_rfl) (by simp) ?_
      refine AllReadyH.cons rfl (fun K hK => ?_) AllReadyH.nil
      rw [if_pos (by rfl)]
      refine wpo_append_lie (.tmp 27) (.tmp 29) rtsT rfl E rtT infoRt Try.underlying46 rfl (by decide) _ 0 [] rfl own0 _ _ _ _ rfl (Hsl.out _ hB) (rts_one _) (by unfold maxLen; have := HL.out; omega) (by have := HL.out; omega) hE fun a2 c2 V11 own2 hgr hat => ?_
      rw [Nat.zero_add, List.nil_append] at own2
      rw [Nat.zero_add]
      have hBx := below_app hB hgr own0 (Nat.le_refl _) hE
      have own1n := own1.kept hgr (.inr (by intro e; exact hap (Option.some.inj e).symm))
      have hap2 : ∀ g, (Value.slice a2 X.length c2).ownBlock = some g → g ≠ g1 := by intro g hg; rcases hat g (by rw [Nat.zero_add]; exact hg) with h5 | h5; exact fun e => hap ((Option.some.inj h5).trans e); (have := (own1.lt g1 rfl).2; omega)
      have hE1 : E ≤ V11.heap.size := Nat.le_trans hE hgr.size
      clear own0
      clear own1
      have own1 := own1n
      clear own1n
      clear hgr hat hE hB
      have hE := hE1
      have hB := hBx
      clear hE1 hBx
      refine hK.out _ _ (Hgr.out _ hB) (fun hHeld => ?_)
      clear hK K
      try simp only [Act.put, List.getElem_toArray, List.getElem_cons_zero, List.getElem_cons_succ, List.setIfInBounds_toArray, List.set_cons_zero, List.set_cons_succ]
      refine wpAnyH_ready (rs := [6]) (by kernel_rfl) (by simp) ?_
      refine AllReadyH.cons rfl (fun K hK => ?_) AllReadyH.nil
      rw [if_pos (by rfl)]
      refine wpo_append_lie (.tmp 30) (.tmp 32) rtsT rfl E rtT infoRt Try.underlying46 rfl (by decide) _ X.length _ rfl own2 _ _ _ _ rfl (Rt.of_own (l := [(⟨ti, tg, td⟩, k)]) own1).sl (rts_one _) (by unfold maxLen; have := HL.out; simp; omega) (by have := HL.out; simp; omega) hE fun a3 c3 V12 own3 hgr _ => ?_
      have hBx := below_app hB hgr own2 (Nat.le_refl _) hE
      have hE1 : E ≤ V12.heap.size := Nat.le_trans hE hgr.size
      rw [← rt_two] at own3
      clear own2 own1 hgr hE hB
      have hB := hBx
      have hE := hE1
      clear hBx hE1
      refine hK.out _ _ (Hgr.out _ hB) (fun hHeld => ?_)
      clear hK K
      try simp only [Act.put, List.getElem_toArray, List.getElem_cons_zero, List.getElem_cons_succ, List.setIfInBounds_toArray, List.set_cons_zero, List.set_cons_succ]
      refine wpAnyH_ready (rs := [7]) (by kernel_rfl) (by simp) ?_
      refine AllReadyH.cons rfl (fun K hK => ?_) AllReadyH.nil
      have hrt : Rt V12 a3 c3 (slot0 X ++ [(⟨ti, tg, td⟩, k)]) := Rt.of_own (by rw [slot0_app]; exact own3)
      have hso := sorted_any V12 a3 c3 _ hrt (by rw [slot0_app]; have := HL.out; omega)
      rw [slot0_app] at hso
      have Hso := Lib.hid hso
      clear hso hrt own3
      go_simp
      go_at_call 55
      refine (show Calls _ _ _ _ _ from Hso.out).mono ?_
      rintro e V13 ⟨a4, c4, rfl, own4, hb4⟩
      have hBx := below_on hB hb4 HE0.out
      have hE1 : E ≤ V13.heap.size := Nat.le_trans hE hb4.size
      have own4n := own_base own4 hE
      clear own4 hb4 Hso hE hB
      have own4 := own4n
      have hB := hBx
      have hE := hE1
      clear own4n hBx hE1
      refine hK.out _ _ (Hgr.out _ hB) (fun hHeld => ?_)
      clear hK K
      try simp only [Act.put, List.getElem_toArray, List.getElem_cons_zero, List.getElem_cons_succ, List.setIfInBounds_toArray, List.set_cons_zero, List.set_cons_succ]
      refine wpAnyH_take (i := 8) (v := ?_) rfl (by kernel_rfl) (by kernel_rfl) (by kernel_rfl) (fun _ _ _ h => h) (Or.inl ⟨by rfl, ?_⟩) (by assumption) ?_
      rotate_left
      · intro w8 hSw; clear hSw; go_simp; (try with_reducible rfl)
      simp only [Act.put, List.getElem_toArray, List.getElem_cons_zero, List.getElem_cons_succ, List.setIfInBounds_toArray, List.set_cons_zero, List.set_cons_succ]
      refine wpAnyH_ready (rs := [9]) (by kernel_rfl) (by simp) ?_
      refine AllReadyH.cons rfl (fun K hK => ?_) AllReadyH.nil
      have x1 := (hB.block b1 HbE.out.1).trans D1.out
      have x3 := (hB.block b3 HbE.out.2.2).trans D3.out
      have y1 := block_cell x1 1
      have f1 := block_free x1 1
      have lx := (Array.getElem?_eq_some_iff.1 x1).1
      simp at y1 f1
      have u1 := block_set x1 1 (.slice a4 (X.length + 1) c4)
      simp only [List.setIfInBounds_toArray, List.set_cons_zero, List.set_cons_succ] at u1
      have u3 := (heap_setCell_other V13 ⟨b1, 1, none⟩ b3 (.slice a4 (X.length + 1) c4) (fun e => Hap.out.2.1 e.symm)).trans x3
      have og := World.ownsRow.kept own4 (grown_set V13 b1 1 (.slice a4 (X.length + 1) c4)) (.inr (fun e => by have := (own4.lt b1 e).1; have := HbE.out.1; omega))
      have hg : Gr (fun b => b = b1) V (V13.setCell ⟨b1, 1, none⟩ (.slice a4 (X.length + 1) c4)) := (Hgr.out _ hB).trans (Gr.one (grown_set V13 b1 1 _) (fun b e => (Option.some.inj e).symm))
      have U1 := Lib.hid u1
      have U3 := Lib.hid u3
      have Og := Lib.hid og
      have Hg := Lib.hid hg
      clear u1 u3 og hg x1 x3 own4 hB hE
      go_simp
      obtain ⟨VZ, hVZ⟩ : ∃ VZ, VZ = V13.setCell ⟨b1, 1, none⟩ (.slice a4 (X.length + 1) c4) := ⟨_, rfl⟩
      rw [← hVZ] at U1 U3 Og Hg
      first | rw [← hVZ] | (simp only [← Int.natCast_succ] at *; rw [← hVZ])
      clear hVZ y1 f1 lx
      refine hK.out _ _ Hg.out (fun hHeld => ?_)
      clear hK K
      try simp only [Act.put, List.getElem_toArray, List.getElem_cons_zero, List.getElem_cons_succ, List.setIfInBounds_toArray, List.set_cons_zero, List.set_cons_succ]
      refine wpAnyH_done (by kernel_rfl) ?_ _
      have y0 := block_cell U1.out 0
      have y1 := block_cell U1.out 1
      have z0 := block_cell U3.out 0
      have z1 := block_cell U3.out 1
      have f0 := block_free U3.out 0
      have f1 := block_free U3.out 1
      simp at y0 y1 z0 z1 f0 f1
      have lz := (Array.getElem?_eq_some_iff.1 U3.out).1
      have lz1 := (Array.getElem?_eq_some_iff.1 U1.out).1
      have nz := Hap.out.2.1
      go_wp2_with fail
      obtain ⟨hrt, hbl⟩ := ret_rw HBV.out Hg.out Hup.out.1 Hup.out.2.2 Og.out (srt_app_len X _) HbE.out.2.2 (now := now)
      refine bodyPost_ret (v := .tuple #[.agg #[.int .i64 now, .slice a4 (X.length + 1) c4], .int .i64 0]) ?_ rfl ⟨a4, c4, rfl, hrt, fun x e => Nat.le_trans HEW.out (own_lie Og.out x e), hbl⟩
      simp [results, Try.results39, go_sem, z0, z1, lz]
  · have a1 := ((hB.block b1 HbE.out.1).trans D1.out)
    have a2x := block_cell a1 1
    simp at a2x
    have lx := (Array.getElem?_eq_some_iff.1 a1).1
    clear a1
    go_simp
    clear a2x lx
    refine hK.out _ _ (Hgr.out _ hB) (fun hHeld => ?_)
    clear hK K
    try simp only [Act.put, List.getElem_toArray, List.getElem_cons_zero, List.getElem_cons_succ, List.setIfInBounds_toArray, List.set_cons_zero, List.set_cons_succ]
    refine wpAnyH_ready (rs := [0, 5]) (by kernel_rfl) (by simp) ?_
    refine AllReadyH.cons rfl (fun K hK => ?_) (AllReadyH.cons rfl (fun K hK => ?_) AllReadyH.nil)
    · go_simp
      obtain ⟨V14, hX⟩ : ∃ X, X = V0.alloc (.cells #[] rtT) := ⟨_, rfl⟩
      have own0 := own_empty V0 E rtT 4 hE
      have hBx := below_on hB (below_new V0 (.cells #[] rtT)) HE0.out
      have hlt := hE
      obtain ⟨g0, hg⟩ : ∃ g, g = V0.heap.size := ⟨_, rfl⟩
      rw [← hX] at own0 hBx
      rw [← hg] at own0
      have HX := Lib.hid hX
      have HG := Lib.hid hg
      clear hX hg
      rw [show V0.alloc (.cells #[] rtT) = V14 from HX.out.symm, ← HG.out]
      have hE1 : E ≤ V14.heap.size := by rw [HX.out]; simp; omega
      clear hE hlt HX HG hB
      have hE := hE1
      have hB := hBx
      clear hE1 hBx
      refine hK.out _ _ (Hgr.out _ hB) (fun hHeld => ?_)
      clear hK K
      try simp only [Act.put, List.getElem_toArray, List.getElem_cons_zero, List.getElem_cons_succ, List.setIfInBounds_toArray, List.set_cons_zero, List.set_cons_succ]
      refine wpAnyH_ready (rs := [3, 5]) (by kernel_rfl) (by simp) ?_
      refine AllReadyH.cons rfl (fun K hK => ?_) (AllReadyH.cons rfl (fun K hK => ?_) AllReadyH.nil)
      · rw [if_pos (by rfl)]
        refine wpo_append_lie (.tmp 27) (.tmp 29) rtsT rfl E rtT infoRt Try.underlying46 rfl (by decide) _ 0 [] rfl own0 _ _ _ _ rfl (Hsl.out _ hB) (rts_one _) (by unfold maxLen; have := HL.out; omega) (by have := HL.out; omega) hE fun a2 c2 V15 own2 hgr hat => ?_
        rw [Nat.zero_add, List.nil_append] at own2
        rw [Nat.zero_add]
        have hBx := below_app hB hgr own0 (Nat.le_refl _) hE
        have hE1 : E ≤ V15.heap.size := Nat.le_trans hE hgr.size
        clear own0
        clear hgr hat hE hB
        have hE := hE1
        have hB := hBx
        clear hE1 hBx
        refine hK.out _ _ (Hgr.out _ hB) (fun hHeld => ?_)
        clear hK K
        try simp only [Act.put, List.getElem_toArray, List.getElem_cons_zero, List.getElem_cons_succ, List.setIfInBounds_toArray, List.set_cons_zero, List.set_cons_succ]
        refine wpAnyH_ready (rs := [5]) (by kernel_rfl) (by simp) ?_
        refine AllReadyH.cons rfl (fun K hK => ?_) AllReadyH.nil
        go_simp
        obtain ⟨V16, hX⟩ : ∃ X, X = V15.alloc (.cells #[.int .u64 ti, .int .u64 tg, .int .i64 td, .int .i64 (k : Nat)] rtT) := ⟨_, rfl⟩
        have own1 := own_rt V15 E (⟨ti, tg, td⟩, k) hE
        simp only at own1
        have hBx := below_on hB (below_new V15 (.cells #[.int .u64 ti, .int .u64 tg, .int .i64 td, .int .i64 (k : Nat)] rtT)) HE0.out
        have own2n := World.ownsRow.alloc own2 (.cells #[.int .u64 ti, .int .u64 tg, .int .i64 td, .int .i64 (k : Nat)] rtT)
        have hlt := hE
        have hap2 : ∀ g, (Value.slice a2 X.length c2).ownBlock = some g → g ≠ V15.heap.size := by intro g hg; have := (own2.lt g hg).2; omega
        obtain ⟨g1, hg⟩ : ∃ g, g = V15.heap.size := ⟨_, rfl⟩
        rw [← hX] at own1 hBx own2n
        rw [← hg] at own1 hap2
        have HX := Lib.hid hX
        have HG := Lib.hid hg
        clear hX hg
        rw [show V15.alloc (.cells #[.int .u64 ti, .int .u64 tg, .int .i64 td, .int .i64 (k : Nat)] rtT) = V16 from HX.out.symm, ← HG.out]
        have hE1 : E ≤ V16.heap.size := by rw [HX.out]; simp; omega
        clear own2
        have own2 := own2n
        clear own2n
        clear hE hlt HX HG hB
        have hE := hE1
        have hB := hBx
        clear hE1 hBx
        refine hK.out _ _ (Hgr.out _ hB) (fun hHeld => ?_)
        clear hK K
        try simp only [Act.put, List.getElem_toArray, List.getElem_cons_zero, List.getElem_cons_succ, List.setIfInBounds_toArray, List.set_cons_zero, List.set_cons_succ]
        refine wpAnyH_ready (rs := [6]) (by kernel_rfl) (by simp) ?_
        refine AllReadyH.cons rfl (fun K hK => ?_) AllReadyH.nil
        rw [if_pos (by rfl)]
        refine wpo_append_lie (.tmp 30) (.tmp 32) rtsT rfl E rtT infoRt Try.underlying46 rfl (by decide) _ X.length _ rfl own2 _ _ _ _ rfl (Rt.of_own (l := [(⟨ti, tg, td⟩, k)]) own1).sl (rts_one _) (by unfold maxLen; have := HL.out; simp; omega) (by have := HL.out; simp; omega) hE fun a3 c3 V17 own3 hgr _ => ?_
        have hBx := below_app hB hgr own2 (Nat.le_refl _) hE
        have hE1 : E ≤ V17.heap.size := Nat.le_trans hE hgr.size
        rw [← rt_two] at own3
        clear own2 own1 hgr hE hB
        have hB := hBx
        have hE := hE1
        clear hBx hE1
        refine hK.out _ _ (Hgr.out _ hB) (fun hHeld => ?_)
        clear hK K
        try simp only [Act.put, List.getElem_toArray, List.getElem_cons_zero, List.getElem_cons_succ, List.setIfInBounds_toArray, List.set_cons_zero, List.set_cons_succ]
        refine wpAnyH_ready (rs := [7]) (by kernel_rfl) (by simp) ?_
        refine AllReadyH.cons rfl (fun K hK => ?_) AllReadyH.nil
        have hrt : Rt V17 a3 c3 (slot0 X ++ [(⟨ti, tg, td⟩, k)]) := Rt.of_own (by rw [slot0_app]; exact own3)
        have hso := sorted_any V17 a3 c3 _ hrt (by rw [slot0_app]; have := HL.out; omega)
        rw [slot0_app] at hso
        have Hso := Lib.hid hso
        clear hso hrt own3
        go_simp
        go_at_call 55
        refine (show Calls _ _ _ _ _ from Hso.out).mono ?_
        rintro e V18 ⟨a4, c4, rfl, own4, hb4⟩
        have hBx := below_on hB hb4 HE0.out
        have hE1 : E ≤ V18.heap.size := Nat.le_trans hE hb4.size
        have own4n := own_base own4 hE
        clear own4 hb4 Hso hE hB
        have own4 := own4n
        have hB := hBx
        have hE := hE1
        clear own4n hBx hE1
        refine hK.out _ _ (Hgr.out _ hB) (fun hHeld => ?_)
        clear hK K
        try simp only [Act.put, List.getElem_toArray, List.getElem_cons_zero, List.getElem_cons_succ, List.setIfInBounds_toArray, List.set_cons_zero, List.set_cons_succ]
        refine wpAnyH_take (i := 8) (v := ?_) rfl (by kernel_rfl) (by kernel_rfl) (by kernel_rfl) (fun _ _ _ h => h) (Or.inl ⟨by rfl, ?_⟩) (by assumption) ?_
        rotate_left
        · intro w8 hSw; clear hSw; go_simp; (try with_reducible rfl)
        simp only [Act.put, List.getElem_toArray, List.getElem_cons_zero, List.getElem_cons_succ, List.setIfInBounds_toArray, List.set_cons_zero, List.set_cons_succ]
        refine wpAnyH_ready (rs := [9]) (by kernel_rfl) (by simp) ?_
        refine AllReadyH.cons rfl (fun K hK => ?_) AllReadyH.nil
        have x1 := (hB.block b1 HbE.out.1).trans D1.out
        have x3 := (hB.block b3 HbE.out.2.2).trans D3.out
        have y1 := block_cell x1 1
        have f1 := block_free x1 1
        have lx := (Array.getElem?_eq_some_iff.1 x1).1
        simp at y1 f1
        have u1 := block_set x1 1 (.slice a4 (X.length + 1) c4)
        simp only [List.setIfInBounds_toArray, List.set_cons_zero, List.set_cons_succ] at u1
        have u3 := (heap_setCell_other V18 ⟨b1, 1, none⟩ b3 (.slice a4 (X.length + 1) c4) (fun e => Hap.out.2.1 e.symm)).trans x3
        have og := World.ownsRow.kept own4 (grown_set V18 b1 1 (.slice a4 (X.length + 1) c4)) (.inr (fun e => by have := (own4.lt b1 e).1; have := HbE.out.1; omega))
        have hg : Gr (fun b => b = b1) V (V18.setCell ⟨b1, 1, none⟩ (.slice a4 (X.length + 1) c4)) := (Hgr.out _ hB).trans (Gr.one (grown_set V18 b1 1 _) (fun b e => (Option.some.inj e).symm))
        have U1 := Lib.hid u1
        have U3 := Lib.hid u3
        have Og := Lib.hid og
        have Hg := Lib.hid hg
        clear u1 u3 og hg x1 x3 own4 hB hE
        go_simp
        obtain ⟨VZ, hVZ⟩ : ∃ VZ, VZ = V18.setCell ⟨b1, 1, none⟩ (.slice a4 (X.length + 1) c4) := ⟨_, rfl⟩
        rw [← hVZ] at U1 U3 Og Hg
        first | rw [← hVZ] | (simp only [← Int.natCast_succ] at *; rw [← hVZ])
        clear hVZ y1 f1 lx
        refine hK.out _ _ Hg.out (fun hHeld => ?_)
        clear hK K
        try simp only [Act.put, List.getElem_toArray, List.getElem_cons_zero, List.getElem_cons_succ, List.setIfInBounds_toArray, List.set_cons_zero, List.set_cons_succ]
        refine wpAnyH_done (by kernel_rfl) ?_ _
        have y0 := block_cell U1.out 0
        have y1 := block_cell U1.out 1
        have z0 := block_cell U3.out 0
        have z1 := block_cell U3.out 1
        have f0 := block_free U3.out 0
        have f1 := block_free U3.out 1
        simp at y0 y1 z0 z1 f0 f1
        have lz := (Array.getElem?_eq_some_iff.1 U3.out).1
        have lz1 := (Array.getElem?_eq_some_iff.1 U1.out).1
        have nz := Hap.out.2.1
        go_wp2_with fail
        obtain ⟨hrt, hbl⟩ := ret_rw HBV.out Hg.out Hup.out.1 Hup.out.2.2 Og.out (srt_app_len X _) HbE.out.2.2 (now := now)
        refine bodyPost_ret (v := .tuple #[.agg #[.int .i64 now, .slice a4 (X.length + 1) c4], .int .i64 0]) ?_ rfl ⟨a4, c4, rfl, hrt, fun x e => Nat.le_trans HEW.out (own_lie Og.out x e), hbl⟩
        simp [results, Try.results39, go_sem, z0, z1, lz]
      · go_simp
        obtain ⟨V19, hX⟩ : ∃ X, X = V14.alloc (.cells #[.int .u64 ti, .int .u64 tg, .int .i64 td, .int .i64 (k : Nat)] rtT) := ⟨_, rfl⟩
        have own1 := own_rt V14 E (⟨ti, tg, td⟩, k) hE
        simp only at own1
        have hBx := below_on hB (below_new V14 (.cells #[.int .u64 ti, .int .u64 tg, .int .i64 td, .int .i64 (k : Nat)] rtT)) HE0.out
        have own0n := World.ownsRow.alloc own0 (.cells #[.int .u64 ti, .int .u64 tg, .int .i64 td, .int .i64 (k : Nat)] rtT)
        have hlt := hE
        have hap : g0 ≠ V14.heap.size := by have := (own0.lt g0 rfl).2; omega
        obtain ⟨g1, hg⟩ : ∃ g, g = V14.heap.size := ⟨_, rfl⟩
        rw [← hX] at own1 hBx own0n
        rw [← hg] at own1 hap
        have HX := Lib.hid hX
        have HG := Lib.hid hg
        clear hX hg
        rw [show V14.alloc (.cells #[.int .u64 ti, .int .u64 tg, .int .i64 td, .int .i64 (k : Nat)] rtT) = V19 from HX.out.symm, ← HG.out]
        have hE1 : E ≤ V19.heap.size := by rw [HX.out]; simp; omega
        clear own0
        have own0 := own0n
        clear own0n
        clear hE hlt HX HG hB
        have hE := hE1
        have hB := hBx
        clear hE1 hBx
        refine hK.out _ _ (Hgr.out _ hB) (fun hHeld => ?_)
        clear hK K
        try simp only [Act.put, List.getElem_toArray, List.getElem_cons_zero, List.getElem_cons_succ, List.setIfInBounds_toArray, List.set_cons_zero, List.set_cons_succ]
        refine wpAnyH_ready (rs := [3]) (by kernel_rfl) (by simp) ?_
        refine AllReadyH.cons rfl (fun K hK => ?_) AllReadyH.nil
        rw [if_pos (by rfl)]
        refine wpo_append_lie (.tmp 27) (.tmp 29) rtsT rfl E rtT infoRt Try.underlying46 rfl (by decide) _ 0 [] rfl own0 _ _ _ _ rfl (Hsl.out _ hB) (rts_one _) (by unfold maxLen; have := HL.out; omega) (by have := HL.out; omega) hE fun a2 c2 V20 own2 hgr hat => ?_
        rw [Nat.zero_add, List.nil_append] at own2
        rw [Nat.zero_add]
        have hBx := below_app hB hgr own0 (Nat.le_refl _) hE
        have own1n := own1.kept hgr (.inr (by intro e; exact hap (Option.some.inj e).symm))
        have hap2 : ∀ g, (Value.slice a2 X.length c2).ownBlock = some g → g ≠ g1 := by intro g hg; rcases hat g (by rw [Nat.zero_add]; exact hg) with h5 | h5; exact fun e => hap ((Option.some.inj h5).trans e); (have := (own1.lt g1 rfl).2; omega)
        have hE1 : E ≤ V20.heap.size := Nat.le_trans hE hgr.size
        clear own0
        clear own1
        have own1 := own1n
        clear own1n
        clear hgr hat hE hB
        have hE := hE1
        have hB := hBx
        clear hE1 hBx
        refine hK.out _ _ (Hgr.out _ hB) (fun hHeld => ?_)
        clear hK K
        try simp only [Act.put, List.getElem_toArray, List.getElem_cons_zero, List.getElem_cons_succ, List.setIfInBounds_toArray, List.set_cons_zero, List.set_cons_succ]
        refine wpAnyH_ready (rs := [6]) (by kernel_rfl) (by simp) ?_
        refine AllReadyH.cons rfl (fun K hK => ?_) AllReadyH.nil
        rw [if_pos (by rfl)]
        refine wpo_append_lie (.tmp 30) (.tmp 32) rtsT rfl E rtT infoRt Try.underlying46 rfl (by decide) _ X.length _ rfl own2 _ _ _ _ rfl (Rt.of_own (l := [(⟨ti, tg, td⟩, k)]) own1).sl (rts_one _) (by unfold maxLen; have := HL.out; simp; omega) (by have := HL.out; simp; omega) hE fun a3 c3 V21 own3 hgr _ => ?_
        have hBx := below_app hB hgr own2 (Nat.le_refl _) hE
        have hE1 : E ≤ V21.heap.size := Nat.le_trans hE hgr.size
        rw [← rt_two] at own3
        clear own2 own1 hgr hE hB
        have hB := hBx
        have hE := hE1
        clear hBx hE1
        refine hK.out _ _ (Hgr.out _ hB) (fun hHeld => ?_)
        clear hK K
        try simp only [Act.put, List.getElem_toArray, List.getElem_cons_zero, List.getElem_cons_succ, List.setIfInBounds_toArray, List.set_cons_zero, List.set_cons_succ]
        refine wpAnyH_ready (rs := [7]) (by kernel_rfl) (by simp) ?_
        refine AllReadyH.cons rfl (fun K hK => ?_) AllReadyH.nil
        have hrt : Rt V21 a3 c3 (slot0 X ++ [(⟨ti, tg, td⟩, k)]) := Rt.of_own (by rw [slot0_app]; exact own3)
        have hso := sorted_any V21 a3 c3 _ hrt (by rw [slot0_app]; have := HL.out; omega)
        rw [slot0_app] at hso
        have Hso := Lib.hid hso
        clear hso hrt own3
        go_simp
        go_at_call 55
        refine (show Calls _ _ _ _ _ from Hso.out).mono ?_
        rintro e V22 ⟨a4, c4, rfl, own4, hb4⟩
        have hBx := below_on hB hb4 HE0.out
        have hE1 : E ≤ V22.heap.size := Nat.le_trans hE hb4.size
        have own4n := own_base own4 hE
        clear own4 hb4 Hso hE hB
        have own4 := own4n
        have hB := hBx
        have hE := hE1
        clear own4n hBx hE1
        refine hK.out _ _ (Hgr.out _ hB) (fun hHeld => ?_)
        clear hK K
        try simp only [Act.put, List.getElem_toArray, List.getElem_cons_zero, List.getElem_cons_succ, List.setIfInBounds_toArray, List.set_cons_zero, List.set_cons_succ]
        refine wpAnyH_take (i := 8) (v := ?_) rfl (by kernel_rfl) (by kernel_rfl) (by kernel_rfl) (fun _ _ _ h => h) (Or.inl ⟨by rfl, ?_⟩) (by assumption) ?_
        rotate_left
        · intro w8 hSw; clear hSw; go_simp; (try with_reducible rfl)
        simp only [Act.put, List.getElem_toArray, List.getElem_cons_zero, List.getElem_cons_succ, List.setIfInBounds_toArray, List.set_cons_zero, List.set_cons_succ]
        refine wpAnyH_ready (rs := [9]) (by kernel_rfl) (by simp) ?_
        refine AllReadyH.cons rfl (fun K hK => ?_) AllReadyH.nil
        have x1 := (hB.block b1 HbE.out.1).trans D1.out
        have x3 := (hB.block b3 HbE.out.2.2).trans D3.out
        have y1 := block_cell x1 1
        have f1 := block_free x1 1
        have lx := (Array.getElem?_eq_some_iff.1 x1).1
        simp at y1 f1
        have u1 := block_set x1 1 (.slice a4 (X.length + 1) c4)
        simp only [List.setIfInBounds_toArray, List.set_cons_zero, List.set_cons_succ] at u1
        have u3 := (heap_setCell_other V22 ⟨b1, 1, none⟩ b3 (.slice a4 (X.length + 1) c4) (fun e => Hap.out.2.1 e.symm)).trans x3
        have og := World.ownsRow.kept own4 (grown_set V22 b1 1 (.slice a4 (X.length + 1) c4)) (.inr (fun e => by have := (own4.lt b1 e).1; have := HbE.out.1; omega))
        have hg : Gr (fun b => b = b1) V (V22.setCell ⟨b1, 1, none⟩ (.slice a4 (X.length + 1) c4)) := (Hgr.out _ hB).trans (Gr.one (grown_set V22 b1 1 _) (fun b e => (Option.some.inj e).symm))
        have U1 := Lib.hid u1
        have U3 := Lib.hid u3
        have Og := Lib.hid og
        have Hg := Lib.hid hg
        clear u1 u3 og hg x1 x3 own4 hB hE
        go_simp
        obtain ⟨VZ, hVZ⟩ : ∃ VZ, VZ = V22.setCell ⟨b1, 1, none⟩ (.slice a4 (X.length + 1) c4) := ⟨_, rfl⟩
        rw [← hVZ] at U1 U3 Og Hg
        first | rw [← hVZ] | (simp only [← Int.natCast_succ] at *; rw [← hVZ])
        clear hVZ y1 f1 lx
        refine hK.out _ _ Hg.out (fun hHeld => ?_)
        clear hK K
        try simp only [Act.put, List.getElem_toArray, List.getElem_cons_zero, List.getElem_cons_succ, List.setIfInBounds_toArray, List.set_cons_zero, List.set_cons_succ]
        refine wpAnyH_done (by kernel_rfl) ?_ _
        have y0 := block_cell U1.out 0
        have y1 := block_cell U1.out 1
        have z0 := block_cell U3.out 0
        have z1 := block_cell U3.out 1
        have f0 := block_free U3.out 0
        have f1 := block_free U3.out 1
        simp at y0 y1 z0 z1 f0 f1
        have lz := (Array.getElem?_eq_some_iff.1 U3.out).1
        have lz1 := (Array.getElem?_eq_some_iff.1 U1.out).1
        have nz := Hap.out.2.1
        go_wp2_with fail
        obtain ⟨hrt, hbl⟩ := ret_rw HBV.out Hg.out Hup.out.1 Hup.out.2.2 Og.out (srt_app_len X _) HbE.out.2.2 (now := now)
        refine bodyPost_ret (v := .tuple #[.agg #[.int .i64 now, .slice a4 (X.length + 1) c4], .int .i64 0]) ?_ rfl ⟨a4, c4, rfl, hrt, fun x e => Nat.le_trans HEW.out (own_lie Og.out x e), hbl⟩
        simp [results, Try.results39, go_sem, z0, z1, lz]
    · go_simp
      obtain ⟨V23, hX⟩ : ∃ X, X = V0.alloc (.cells #[.int .u64 ti, .int .u64 tg, .int .i64 td, .int .i64 (k : Nat)] rtT) := ⟨_, rfl⟩
      have own1 := own_rt V0 E (⟨ti, tg, td⟩, k) hE
      simp only at own1
      have hBx := below_on hB (below_new V0 (.cells #[.int .u64 ti, .int .u64 tg, .int .i64 td, .int .i64 (k : Nat)] rtT)) HE0.out
      have hlt := hE
      obtain ⟨g1, hg⟩ : ∃ g, g = V0.heap.size := ⟨_, rfl⟩
      rw [← hX] at own1 hBx
      rw [← hg] at own1
      have HX := Lib.hid hX
      have HG := Lib.hid hg
      clear hX hg
      rw [show V0.alloc (.cells #[.int .u64 ti, .int .u64 tg, .int .i64 td, .int .i64 (k : Nat)] rtT) = V23 from HX.out.symm, ← HG.out]
      have hE1 : E ≤ V23.heap.size := by rw [HX.out]; simp; omega
      clear hE hlt HX HG hB
      have hE := hE1
      have hB := hBx
      clear hE1 hBx
      refine hK.out _ _ (Hgr.out _ hB) (fun hHeld => ?_)
      clear hK K
      try simp only [Act.put, List.getElem_toArray, List.getElem_cons_zero, List.getElem_cons_succ, List.setIfInBounds_toArray, List.set_cons_zero, List.set_cons_succ]
      refine wpAnyH_ready (rs := [0]) (by kernel_rfl) (by simp) ?_
      refine AllReadyH.cons rfl (fun K hK => ?_) AllReadyH.nil
      go_simp
      obtain ⟨V24, hX⟩ : ∃ X, X = V23.alloc (.cells #[] rtT) := ⟨_, rfl⟩
      have own0 := own_empty V23 E rtT 4 hE
      have hBx := below_on hB (below_new V23 (.cells #[] rtT)) HE0.out
      have own1n := World.ownsRow.alloc own1 (.cells #[] rtT)
      have hlt := hE
      have hap : V23.heap.size ≠ g1 := by have := (own1.lt g1 rfl).2; omega
      obtain ⟨g0, hg⟩ : ∃ g, g = V23.heap.size := ⟨_, rfl⟩
      rw [← hX] at own0 hBx own1n
      rw [← hg] at own0 hap
      have HX := Lib.hid hX
      have HG := Lib.hid hg
      clear hX hg
      rw [show V23.alloc (.cells #[] rtT) = V24 from HX.out.symm, ← HG.out]
      have hE1 : E ≤ V24.heap.size := by rw [HX.out]; simp; omega
      clear own1
      have own1 := own1n
      clear own1n
      clear hE hlt HX HG hB
      have hE := hE1
      have hB := hBx
      clear hE1 hBx
      refine hK.out _ _ (Hgr.out _ hB) (fun hHeld => ?_)
      clear hK K
      try simp only [Act.put, List.getElem_toArray, List.getElem_cons_zero, List.getElem_cons_succ, List.setIfInBounds_toArray, List.set_cons_zero, List.set_cons_succ]
      refine wpAnyH_ready (rs := [3]) (by kernel_rfl) (by simp) ?_
      refine AllReadyH.cons rfl (fun K hK => ?_) AllReadyH.nil
      rw [if_pos (by rfl)]
      refine wpo_append_lie (.tmp 27) (.tmp 29) rtsT rfl E rtT infoRt Try.underlying46 rfl (by decide) _ 0 [] rfl own0 _ _ _ _ rfl (Hsl.out _ hB) (rts_one _) (by unfold maxLen; have := HL.out; omega) (by have := HL.out; omega) hE fun a2 c2 V25 own2 hgr hat => ?_
      rw [Nat.zero_add, List.nil_append] at own2
      rw [Nat.zero_add]
      have hBx := below_app hB hgr own0 (Nat.le_refl _) hE
      have own1n := own1.kept hgr (.inr (by intro e; exact hap (Option.some.inj e).symm))
      have hap2 : ∀ g, (Value.slice a2 X.length c2).ownBlock = some g → g ≠ g1 := by intro g hg; rcases hat g (by rw [Nat.zero_add]; exact hg) with h5 | h5; exact fun e => hap ((Option.some.inj h5).trans e); (have := (own1.lt g1 rfl).2; omega)
      have hE1 : E ≤ V25.heap.size := Nat.le_trans hE hgr.size
      clear own0
      clear own1
      have own1 := own1n
      clear own1n
      clear hgr hat hE hB
      have hE := hE1
      have hB := hBx
      clear hE1 hBx
      refine hK.out _ _ (Hgr.out _ hB) (fun hHeld => ?_)
      clear hK K
      try simp only [Act.put, List.getElem_toArray, List.getElem_cons_zero, List.getElem_cons_succ, List.setIfInBounds_toArray, List.set_cons_zero, List.set_cons_succ]
      refine wpAnyH_ready (rs := [6]) (by kernel_rfl) (by simp) ?_
      refine AllReadyH.cons rfl (fun K hK => ?_) AllReadyH.nil
      rw [if_pos (by rfl)]
      refine wpo_append_lie (.tmp 30) (.tmp 32) rtsT rfl E rtT infoRt Try.underlying46 rfl (by decide) _ X.length _ rfl own2 _ _ _ _ rfl (Rt.of_own (l := [(⟨ti, tg, td⟩, k)]) own1).sl (rts_one _) (by unfold maxLen; have := HL.out; simp; omega) (by have := HL.out; simp; omega) hE fun a3 c3 V26 own3 hgr _ => ?_
      have hBx := below_app hB hgr own2 (Nat.le_refl _) hE
      have hE1 : E ≤ V26.heap.size := Nat.le_trans hE hgr.size
      rw [← rt_two] at own3
      clear own2 own1 hgr hE hB
      have hB := hBx
      have hE := hE1
      clear hBx hE1
      refine hK.out _ _ (Hgr.out _ hB) (fun hHeld => ?_)
      clear hK K
      try simp only [Act.put, List.getElem_toArray, List.getElem_cons_zero, List.getElem_cons_succ, List.setIfInBounds_toArray, List.set_cons_zero, List.set_cons_succ]
      refine wpAnyH_ready (rs := [7]) (by kernel_rfl) (by simp) ?_
      refine AllReadyH.cons rfl (fun K hK => ?_) AllReadyH.nil
      have hrt : Rt V26 a3 c3 (slot0 X ++ [(⟨ti, tg, td⟩, k)]) := Rt.of_own (by rw [slot0_app]; exact own3)
      have hso := sorted_any V26 a3 c3 _ hrt (by rw [slot0_app]; have := HL.out; omega)
      rw [slot0_app] at hso
      have Hso := Lib.hid hso
      clear hso hrt own3
      go_simp
      go_at_call 55
      refine (show Calls _ _ _ _ _ from Hso.out).mono ?_
      rintro e V27 ⟨a4, c4, rfl, own4, hb4⟩
      have hBx := below_on hB hb4 HE0.out
      have hE1 : E ≤ V27.heap.size := Nat.le_trans hE hb4.size
      have own4n := own_base own4 hE
      clear own4 hb4 Hso hE hB
      have own4 := own4n
      have hB := hBx
      have hE := hE1
      clear own4n hBx hE1
      refine hK.out _ _ (Hgr.out _ hB) (fun hHeld => ?_)
      clear hK K
      try simp only [Act.put, List.getElem_toArray, List.getElem_cons_zero, List.getElem_cons_succ, List.setIfInBounds_toArray, List.set_cons_zero, List.set_cons_succ]
      refine wpAnyH_take (i := 8) (v := ?_) rfl (by kernel_rfl) (by kernel_rfl) (by kernel_rfl) (fun _ _ _ h => h) (Or.inl ⟨by rfl, ?_⟩) (by assumption) ?_
      rotate_left
      · intro w8 hSw; clear hSw; go_simp; (try with_reducible rfl)
      simp only [Act.put, List.getElem_toArray, List.getElem_cons_zero, List.getElem_cons_succ, List.setIfInBounds_toArray, List.set_cons_zero, List.set_cons_succ]
      refine wpAnyH_ready (rs := [9]) (by kernel_rfl) (by simp) ?_
      refine AllReadyH.cons rfl (fun K hK => ?_) AllReadyH.nil
      have x1 := (hB.block b1 HbE.out.1).trans D1.out
      have x3 := (hB.block b3 HbE.out.2.2).trans D3.out
      have y1 := block_cell x1 1
      have f1 := block_free x1 1
      have lx := (Array.getElem?_eq_some_iff.1 x1).1
      simp at y1 f1
      have u1 := block_set x1 1 (.slice a4 (X.length + 1) c4)
      simp only [List.setIfInBounds_toArray, List.set_cons_zero, List.set_cons_succ] at u1
      have u3 := (heap_setCell_other V27 ⟨b1, 1, none⟩ b3 (.slice a4 (X.length + 1) c4) (fun e => Hap.out.2.1 e.symm)).trans x3
      have og := World.ownsRow.kept own4 (grown_set V27 b1 1 (.slice a4 (X.length + 1) c4)) (.inr (fun e => by have := (own4.lt b1 e).1; have := HbE.out.1; omega))
      have hg : Gr (fun b => b = b1) V (V27.setCell ⟨b1, 1, none⟩ (.slice a4 (X.length + 1) c4)) := (Hgr.out _ hB).trans (Gr.one (grown_set V27 b1 1 _) (fun b e => (Option.some.inj e).symm))
      have U1 := Lib.hid u1
      have U3 := Lib.hid u3
      have Og := Lib.hid og
      have Hg := Lib.hid hg
      clear u1 u3 og hg x1 x3 own4 hB hE
      go_simp
      obtain ⟨VZ, hVZ⟩ : ∃ VZ, VZ = V27.setCell ⟨b1, 1, none⟩ (.slice a4 (X.length + 1) c4) := ⟨_, rfl⟩
      rw [← hVZ] at U1 U3 Og Hg
      first | rw [← hVZ] | (simp only [← Int.natCast_succ] at *; rw [← hVZ])
      clear hVZ y1 f1 lx
      refine hK.out _ _ Hg.out (fun hHeld => ?_)
      clear hK K
      try simp only [Act.put, List.getElem_toArray, List.getElem_cons_zero, List.getElem_cons_succ, List.setIfInBounds_toArray, List.set_cons_zero, List.set_cons_succ]
      refine wpAnyH_done (by kernel_rfl) ?_ _
      have y0 := block_cell U1.out 0
      have y1 := block_cell U1.out 1
      have z0 := block_cell U3.out 0
      have z1 := block_cell U3.out 1
      have f0 := block_free U3.out 0
      have f1 := block_free U3.out 1
      simp at y0 y1 z0 z1 f0 f1
      have lz := (Array.getElem?_eq_some_iff.1 U3.out).1
      have lz1 := (Array.getElem?_eq_some_iff.1 U1.out).1
      have nz := Hap.out.2.1
      go_wp2_with fail
      obtain ⟨hrt, hbl⟩ := ret_rw HBV.out Hg.out Hup.out.1 Hup.out.2.2 Og.out (srt_app_len X _) HbE.out.2.2 (now := now)
      refine bodyPost_ret (v := .tuple #[.agg #[.int .i64 now, .slice a4 (X.length + 1) c4], .int .i64 0]) ?_ rfl ⟨a4, c4, rfl, hrt, fun x e => Nat.le_trans HEW.out (own_lie Og.out x e), hbl⟩
      simp [results, Try.results39, go_sem, z0, z1, lz]
  · go_simp
    obtain ⟨V28, hX⟩ : ∃ X, X = V0.alloc (.cells #[.int .u64 ti, .int .u64 tg, .int .i64 td, .int .i64 (k : Nat)] rtT) := ⟨_, rfl⟩
    have own1 := own_rt V0 E (⟨ti, tg, td⟩, k) hE
    simp only at own1
    have hBx := below_on hB (below_new V0 (.cells #[.int .u64 ti, .int .u64 tg, .int .i64 td, .int .i64 (k : Nat)] rtT)) HE0.out
    have hlt := hE
    obtain ⟨g1, hg⟩ : ∃ g, g = V0.heap.size := ⟨_, rfl⟩
    rw [← hX] at own1 hBx
    rw [← hg] at own1
    have HX := Lib.hid hX
    have HG := Lib.hid hg
    clear hX hg
    rw [show V0.alloc (.cells #[.int .u64 ti, .int .u64 tg, .int .i64 td, .int .i64 (k : Nat)] rtT) = V28 from HX.out.symm, ← HG.out]
    have hE1 : E ≤ V28.heap.size := by rw [HX.out]; simp; omega
    clear hE hlt HX HG hB
    have hE := hE1
    have hB := hBx
    clear hE1 hBx
    refine hK.out _ _ (Hgr.out _ hB) (fun hHeld => ?_)
    clear hK K
    try simp only [Act.put, List.getElem_toArray, List.getElem_cons_zero, List.getElem_cons_succ, List.setIfInBounds_toArray, List.set_cons_zero, List.set_cons_succ]
    refine wpAnyH_ready (rs := [0, 2]) (by kernel_rfl) (by simp) ?_
    refine AllReadyH.cons rfl (fun K hK => ?_) (AllReadyH.cons rfl (fun K hK => ?_) AllReadyH.nil)
    · go_simp
      obtain ⟨V29, hX⟩ : ∃ X, X = V28.alloc (.cells #[] rtT) := ⟨_, rfl⟩
      have own0 := own_empty V28 E rtT 4 hE
      have hBx := below_on hB (below_new V28 (.cells #[] rtT)) HE0.out
      have own1n := World.ownsRow.alloc own1 (.cells #[] rtT)
      have hlt := hE
      have hap : V28.heap.size ≠ g1 := by have := (own1.lt g1 rfl).2; omega
      obtain ⟨g0, hg⟩ : ∃ g, g = V28.heap.size := ⟨_, rfl⟩
      rw [← hX] at own0 hBx own1n
      rw [← hg] at own0 hap
      have HX := Lib.hid hX
      have HG := Lib.hid hg
      clear hX hg
      rw [show V28.alloc (.cells #[] rtT) = V29 from HX.out.symm, ← HG.out]
      have hE1 : E ≤ V29.heap.size := by rw [HX.out]; simp; omega
      clear own1
      have own1 := own1n
      clear own1n
      clear hE hlt HX HG hB
      have hE := hE1
      have hB := hBx
      clear hE1 hBx
      refine hK.out _ _ (Hgr.out _ hB) (fun hHeld => ?_)
      clear hK K
      try simp only [Act.put, List.getElem_toArray, List.getElem_cons_zero, List.getElem_cons_succ, List.setIfInBounds_toArray, List.set_cons_zero, List.set_cons_succ]
      refine wpAnyH_ready (rs := [2]) (by kernel_rfl) (by simp) ?_
      refine AllReadyH.cons rfl (fun K hK => ?_) AllReadyH.nil
      have a1 := ((hB.block b1 HbE.out.1).trans D1.out)
      have a2x := block_cell a1 1
      simp at a2x
      have lx := (Array.getElem?_eq_some_iff.1 a1).1
      clear a1
      go_simp
      clear a2x lx
      refine hK.out _ _ (Hgr.out _ hB) (fun hHeld => ?_)
      clear hK K
      try simp only [Act.put, List.getElem_toArray, List.getElem_cons_zero, List.getElem_cons_succ, List.setIfInBounds_toArray, List.set_cons_zero, List.set_cons_succ]
      refine wpAnyH_ready (rs := [3]) (by kernel_rfl) (by simp) ?_
      refine AllReadyH.cons rfl (fun K hK => ?_) AllReadyH.nil
      rw [if_pos (by rfl)]
      refine wpo_append_lie (.tmp 27) (.tmp 29) rtsT rfl E rtT infoRt Try.underlying46 rfl (by decide) _ 0 [] rfl own0 _ _ _ _ rfl (Hsl.out _ hB) (rts_one _) (by unfold maxLen; have := HL.out; omega) (by have := HL.out; omega) hE fun a2 c2 V30 own2 hgr hat => ?_
      rw [Nat.zero_add, List.nil_append] at own2
      rw [Nat.zero_add]
      have hBx := below_app hB hgr own0 (Nat.le_refl _) hE
      have own1n := own1.kept hgr (.inr (by intro e; exact hap (Option.some.inj e).symm))
      have hap2 : ∀ g, (Value.slice a2 X.length c2).ownBlock = some g → g ≠ g1 := by intro g hg; rcases hat g (by rw [Nat.zero_add]; exact hg) with h5 | h5; exact fun e => hap ((Option.some.inj h5).trans e); (have := (own1.lt g1 rfl).2; omega)
      have hE1 : E ≤ V30.heap.size := Nat.le_trans hE hgr.size
      clear own0
      clear own1
      have own1 := own1n
      clear own1n
      clear hgr hat hE hB
      have hE := hE1
      have hB := hBx
      clear hE1 hBx
      refine hK.out _ _ (Hgr.out _ hB) (fun hHeld => ?_)
      clear hK K
      try simp only [Act.put, List.getElem_toArray, List.getElem_cons_zero, List.getElem_cons_succ, List.setIfInBounds_toArray, List.set_cons_zero, List.set_cons_succ]
      refine wpAnyH_ready (rs := [6]) (by kernel_rfl) (by simp) ?_
      refine AllReadyH.cons rfl (fun K hK => ?_) AllReadyH.nil
      rw [if_pos (by rfl)]
      refine wpo_append_lie (.tmp 30) (.tmp 32) rtsT rfl E rtT infoRt Try.underlying46 rfl (by decide) _ X.length _ rfl own2 _ _ _ _ rfl (Rt.of_own (l := [(⟨ti, tg, td⟩, k)]) own1).sl (rts_one _) (by unfold maxLen; have := HL.out; simp; omega) (by have := HL.out; simp; omega) hE fun a3 c3 V31 own3 hgr _ => ?_
      have hBx := below_app hB hgr own2 (Nat.le_refl _) hE
      have hE1 : E ≤ V31.heap.size := Nat.le_trans hE hgr.size
      rw [← rt_two] at own3
      clear own2 own1 hgr hE hB
      have hB := hBx
      have hE := hE1
      clear hBx hE1
      refine hK.out _ _ (Hgr.out _ hB) (fun hHeld => ?_)
      clear hK K
      try simp only [Act.put, List.getElem_toArray, List.getElem_cons_zero, List.getElem_cons_succ, List.setIfInBounds_toArray, List.set_cons_zero, List.set_cons_succ]
      refine wpAnyH_ready (rs := [7]) (by kernel_rfl) (by simp) ?_
      refine AllReadyH.cons rfl (fun K hK => ?_) AllReadyH.nil
      have hrt : Rt V31 a3 c3 (slot0 X ++ [(⟨ti, tg, td⟩, k)]) := Rt.of_own (by rw [slot0_app]; exact own3)
      have hso := sorted_any V31 a3 c3 _ hrt (by rw [slot0_app]; have := HL.out; omega)
      rw [slot0_app] at hso
      have Hso := Lib.hid hso
      clear hso hrt own3
      go_simp
      go_at_call 55
      refine (show Calls _ _ _ _ _ from Hso.out).mono ?_
      rintro e V32 ⟨a4, c4, rfl, own4, hb4⟩
      have hBx := below_on hB hb4 HE0.out
      have hE1 : E ≤ V32.heap.size := Nat.le_trans hE hb4.size
      have own4n := own_base own4 hE
      clear own4 hb4 Hso hE hB
      have own4 := own4n
      have hB := hBx
      have hE := hE1
      clear own4n hBx hE1
      refine hK.out _ _ (Hgr.out _ hB) (fun hHeld => ?_)
      clear hK K
      try simp only [Act.put, List.getElem_toArray, List.getElem_cons_zero, List.getElem_cons_succ, List.setIfInBounds_toArray, List.set_cons_zero, List.set_cons_succ]
      refine wpAnyH_take (i := 8) (v := ?_) rfl (by kernel_rfl) (by kernel_rfl) (by kernel_rfl) (fun _ _ _ h => h) (Or.inl ⟨by rfl, ?_⟩) (by assumption) ?_
      rotate_left
      · intro w8 hSw; clear hSw; go_simp; (try with_reducible rfl)
      simp only [Act.put, List.getElem_toArray, List.getElem_cons_zero, List.getElem_cons_succ, List.setIfInBounds_toArray, List.set_cons_zero, List.set_cons_succ]
      refine wpAnyH_ready (rs := [9]) (by kernel_rfl) (by simp) ?_
      refine AllReadyH.cons rfl (fun K hK => ?_) AllReadyH.nil
      have x1 := (hB.block b1 HbE.out.1).trans D1.out
      have x3 := (hB.block b3 HbE.out.2.2).trans D3.out
      have y1 := block_cell x1 1
      have f1 := block_free x1 1
      have lx := (Array.getElem?_eq_some_iff.1 x1).1
      simp at y1 f1
      have u1 := block_set x1 1 (.slice a4 (X.length + 1) c4)
      simp only [List.setIfInBounds_toArray, List.set_cons_zero, List.set_cons_succ] at u1
      have u3 := (heap_setCell_other V32 ⟨b1, 1, none⟩ b3 (.slice a4 (X.length + 1) c4) (fun e => Hap.out.2.1 e.symm)).trans x3
      have og := World.ownsRow.kept own4 (grown_set V32 b1 1 (.slice a4 (X.length + 1) c4)) (.inr (fun e => by have := (own4.lt b1 e).1; have := HbE.out.1; omega))
      have hg : Gr (fun b => b = b1) V (V32.setCell ⟨b1, 1, none⟩ (.slice a4 (X.length + 1) c4)) := (Hgr.out _ hB).trans (Gr.one (grown_set V32 b1 1 _) (fun b e => (Option.some.inj e).symm))
      have U1 := Lib.hid u1
      have U3 := Lib.hid u3
      have Og := Lib.hid og
      have Hg := Lib.hid hg
      clear u1 u3 og hg x1 x3 own4 hB hE
      go_simp
      obtain ⟨VZ, hVZ⟩ : ∃ VZ, VZ = V32.setCell ⟨b1, 1, none⟩ (.slice a4 (X.length + 1) c4) := ⟨_, rfl⟩
      rw [← hVZ] at U1 U3 Og Hg
      first | rw [← hVZ] | (simp only [← Int.natCast_succ] at *; rw [← hVZ])
      clear hVZ y1 f1 lx
      refine hK.out _ _ Hg.out (fun hHeld => ?_)
      clear hK K
      try simp only [Act.put, List.getElem_toArray, List.getElem_cons_zero, List.getElem_cons_succ, List.setIfInBounds_toArray, List.set_cons_zero, List.set_cons_succ]
      refine wpAnyH_done (by kernel_rfl) ?_ _
      have y0 := block_cell U1.out 0
      have y1 := block_cell U1.out 1
      have z0 := block_cell U3.out 0
      have z1 := block_cell U3.out 1
      have f0 := block_free U3.out 0
      have f1 := block_free U3.out 1
      simp at y0 y1 z0 z1 f0 f1
      have lz := (Array.getElem?_eq_some_iff.1 U3.out).1
      have lz1 := (Array.getElem?_eq_some_iff.1 U1.out).1
      have nz := Hap.out.2.1
      go_wp2_with fail
      obtain ⟨hrt, hbl⟩ := ret_rw HBV.out Hg.out Hup.out.1 Hup.out.2.2 Og.out (srt_app_len X _) HbE.out.2.2 (now := now)
      refine bodyPost_ret (v := .tuple #[.agg #[.int .i64 now, .slice a4 (X.length + 1) c4], .int .i64 0]) ?_ rfl ⟨a4, c4, rfl, hrt, fun x e => Nat.le_trans HEW.out (own_lie Og.out x e), hbl⟩
      simp [results, Try.results39, go_sem, z0, z1, lz]
    · have a1 := ((hB.block b1 HbE.out.1).trans D1.out)
      have a2x := block_cell a1 1
      simp at a2x
      have lx := (Array.getElem?_eq_some_iff.1 a1).1
      clear a1
      go_simp
      clear a2x lx
      refine hK.out _ _ (Hgr.out _ hB) (fun hHeld => ?_)
      clear hK K
      try simp only [Act.put, List.getElem_toArray, List.getElem_cons_zero, List.getElem_cons_succ, List.setIfInBounds_toArray, List.set_cons_zero, List.set_cons_succ]
      refine wpAnyH_ready (rs := [0]) (by kernel_rfl) (by simp) ?_
      refine AllReadyH.cons rfl (fun K hK => ?_) AllReadyH.nil
      go_simp
      obtain ⟨V33, hX⟩ : ∃ X, X = V28.alloc (.cells #[] rtT) := ⟨_, rfl⟩
      have own0 := own_empty V28 E rtT 4 hE
      have hBx := below_on hB (below_new V28 (.cells #[] rtT)) HE0.out
      have own1n := World.ownsRow.alloc own1 (.cells #[] rtT)
      have hlt := hE
      have hap : V28.heap.size ≠ g1 := by have := (own1.lt g1 rfl).2; omega
      obtain ⟨g0, hg⟩ : ∃ g, g = V28.heap.size := ⟨_, rfl⟩
      rw [← hX] at own0 hBx own1n
      rw [← hg] at own0 hap
      have HX := Lib.hid hX
      have HG := Lib.hid hg
      clear hX hg
      rw [show V28.alloc (.cells #[] rtT) = V33 from HX.out.symm, ← HG.out]
      have hE1 : E ≤ V33.heap.size := by rw [HX.out]; simp; omega
      clear own1
      have own1 := own1n
      clear own1n
      clear hE hlt HX HG hB
      have hE := hE1
      have hB := hBx
      clear hE1 hBx
      refine hK.out _ _ (Hgr.out _ hB) (fun hHeld => ?_)
      clear hK K
      try simp only [Act.put, List.getElem_toArray, List.getElem_cons_zero, List.getElem_cons_succ, List.setIfInBounds_toArray, List.set_cons_zero, List.set_cons_succ]
      refine wpAnyH_ready (rs := [3]) (by kernel_rfl) (by simp) ?_
      refine AllReadyH.cons rfl (fun K hK => ?_) AllReadyH.nil
      rw [if_pos (by rfl)]
      refine wpo_append_lie (.tmp 27) (.tmp 29) rtsT rfl E rtT infoRt Try.underlying46 rfl (by decide) _ 0 [] rfl own0 _ _ _ _ rfl (Hsl.out _ hB) (rts_one _) (by unfold maxLen; have := HL.out; omega) (by have := HL.out; omega) hE fun a2 c2 V34 own2 hgr hat => ?_
      rw [Nat.zero_add, List.nil_append] at own2
      rw [Nat.zero_add]
      have hBx := below_app hB hgr own0 (Nat.le_refl _) hE
      have own1n := own1.kept hgr (.inr (by intro e; exact hap (Option.some.inj e).symm))
      have hap2 : ∀ g, (Value.slice a2 X.length c2).ownBlock = some g → g ≠ g1 := by intro g hg; rcases hat g (by rw [Nat.zero_add]; exact hg) with h5 | h5; exact fun e => hap ((Option.some.inj h5).trans e); (have := (own1.lt g1 rfl).2; omega)
      have hE1 : E ≤ V34.heap.size := Nat.le_trans hE hgr.size
      clear own0
      clear own1
      have own1 := own1n
      clear own1n
      clear hgr hat hE hB
      have hE := hE1
      have hB := hBx
      clear hE1 hBx
      refine hK.out _ _ (Hgr.out _ hB) (fun hHeld => ?_)
      clear hK K
      try simp only [Act.put, List.getElem_toArray, List.getElem_cons_zero, List.getElem_cons_succ, List.setIfInBounds_toArray, List.set_cons_zero, List.set_cons_succ]
      refine wpAnyH_ready (rs := [6]) (by kernel_rfl) (by simp) ?_
      refine AllReadyH.cons rfl (fun K hK => ?_) AllReadyH.nil
      rw [if_pos (by rfl)]
      refine wpo_append_lie (.tmp 30) (.tmp 32) rtsT rfl E rtT infoRt Try.underlying46 rfl (by decide) _ X.length _ rfl own2 _ _ _ _ rfl (Rt.of_own (l := [(⟨ti, tg, td⟩, k)]) own1).sl (rts_one _) (by unfold maxLen; have := HL.out; simp; omega) (by have := HL.out; simp; omega) hE fun a3 c3 V35 own3 hgr _ => ?_
      have hBx := below_app hB hgr own2 (Nat.le_refl _) hE
      have hE1 : E ≤ V35.heap.size := Nat.le_trans hE hgr.size
      rw [← rt_two] at own3
      clear own2 own1 hgr hE hB
      have hB := hBx
      have hE := hE1
      clear hBx hE1
      refine hK.out _ _ (Hgr.out _ hB) (fun hHeld => ?_)
      clear hK K
      try simp only [Act.put, List.getElem_toArray, List.getElem_cons_zero, List.getElem_cons_succ, List.setIfInBounds_toArray, List.set_cons_zero, List.set_cons_succ]
      refine wpAnyH_ready (rs := [7]) (by kernel_rfl) (by simp) ?_
      refine AllReadyH.cons rfl (fun K hK => ?_) AllReadyH.nil
      have hrt : Rt V35 a3 c3 (slot0 X ++ [(⟨ti, tg, td⟩, k)]) := Rt.of_own (by rw [slot0_app]; exact own3)
      have hso := sorted_any V35 a3 c3 _ hrt (by rw [slot0_app]; have := HL.out; omega)
      rw [slot0_app] at hso
      have Hso := Lib.hid hso
      clear hso hrt own3
      go_simp
      go_at_call 55
      refine (show Calls _ _ _ _ _ from Hso.out).mono ?_
      rintro e V36 ⟨a4, c4, rfl, own4, hb4⟩
      have hBx := below_on hB hb4 HE0.out
      have hE1 : E ≤ V36.heap.size := Nat.le_trans hE hb4.size
      have own4n := own_base own4 hE
      clear own4 hb4 Hso hE hB
      have own4 := own4n
      have hB := hBx
      have hE := hE1
      clear own4n hBx hE1
      refine hK.out _ _ (Hgr.out _ hB) (fun hHeld => ?_)
      clear hK K
      try simp only [Act.put, List.getElem_toArray, List.getElem_cons_zero, List.getElem_cons_succ, List.setIfInBounds_toArray, List.set_cons_zero, List.set_cons_succ]
      refine wpAnyH_take (i := 8) (v := ?_) rfl (by kernel_rfl) (by kernel_rfl) (by kernel_rfl) (fun _ _ _ h => h) (Or.inl ⟨by rfl, ?_⟩) (by assumption) ?_
      rotate_left
      · intro w8 hSw; clear hSw; go_simp; (try with_reducible rfl)
      simp only [Act.put, List.getElem_toArray, List.getElem_cons_zero, List.getElem_cons_succ, List.setIfInBounds_toArray, List.set_cons_zero, List.set_cons_succ]
      refine wpAnyH_ready (rs := [9]) (by kernel_rfl) (by simp) ?_
      refine AllReadyH.cons rfl (fun K hK => ?_) AllReadyH.nil
      have x1 := (hB.block b1 HbE.out.1).trans D1.out
      have x3 := (hB.block b3 HbE.out.2.2).trans D3.out
      have y1 := block_cell x1 1
      have f1 := block_free x1 1
      have lx := (Array.getElem?_eq_some_iff.1 x1).1
      simp at y1 f1
      have u1 := block_set x1 1 (.slice a4 (X.length + 1) c4)
      simp only [List.setIfInBounds_toArray, List.set_cons_zero, List.set_cons_succ] at u1
      have u3 := (heap_setCell_other V36 ⟨b1, 1, none⟩ b3 (.slice a4 (X.length + 1) c4) (fun e => Hap.out.2.1 e.symm)).trans x3
      have og := World.ownsRow.kept own4 (grown_set V36 b1 1 (.slice a4 (X.length + 1) c4)) (.inr (fun e => by have := (own4.lt b1 e).1; have := HbE.out.1; omega))
      have hg : Gr (fun b => b = b1) V (V36.setCell ⟨b1, 1, none⟩ (.slice a4 (X.length + 1) c4)) := (Hgr.out _ hB).trans (Gr.one (grown_set V36 b1 1 _) (fun b e => (Option.some.inj e).symm))
      have U1 := Lib.hid u1
      have U3 := Lib.hid u3
      have Og := Lib.hid og
      have Hg := Lib.hid hg
      clear u1 u3 og hg x1 x3 own4 hB hE
      go_simp
      obtain ⟨VZ, hVZ⟩ : ∃ VZ, VZ = V36.setCell ⟨b1, 1, none⟩ (.slice a4 (X.length + 1) c4) := ⟨_, rfl⟩
      rw [← hVZ] at U1 U3 Og Hg
      first | rw [← hVZ] | (simp only [← Int.natCast_succ] at *; rw [← hVZ])
      clear hVZ y1 f1 lx
      refine hK.out _ _ Hg.out (fun hHeld => ?_)
      clear hK K
      try simp only [Act.put, List.getElem_toArray, List.getElem_cons_zero, List.getElem_cons_succ, List.setIfInBounds_toArray, List.set_cons_zero, List.set_cons_succ]
      refine wpAnyH_done (by kernel_rfl) ?_ _
      have y0 := block_cell U1.out 0
      have y1 := block_cell U1.out 1
      have z0 := block_cell U3.out 0
      have z1 := block_cell U3.out 1
      have f0 := block_free U3.out 0
      have f1 := block_free U3.out 1
      simp at y0 y1 z0 z1 f0 f1
      have lz := (Array.getElem?_eq_some_iff.1 U3.out).1
      have lz1 := (Array.getElem?_eq_some_iff.1 U1.out).1
      have nz := Hap.out.2.1
      go_wp2_with fail
      obtain ⟨hrt, hbl⟩ := ret_rw HBV.out Hg.out Hup.out.1 Hup.out.2.2 Og.out (srt_app_len X _) HbE.out.2.2 (now := now)
      refine bodyPost_ret (v := .tuple #[.agg #[.int .i64 now, .slice a4 (X.length + 1) c4], .int .i64 0]) ?_ rfl ⟨a4, c4, rfl, hrt, fun x e => Nat.le_trans HEW.out (own_lie Og.out x e), hbl⟩
      simp [results, Try.results39, go_sem, z0, z1, lz]
end Go.Proofs.Ytadghaiengonoaa
