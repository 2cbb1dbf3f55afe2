/- Lemmas for WheelPlays (WheelPlays). No statement of the seat is proved here. -/
import Derived.Test.YtadghaiengonoaaP21
import Derived.Test.YtadghaiengonoaaP22
import Derived.Test.YtadghaiengonoaaP23
import Derived.Test.YtadghaiengonoaaP24
namespace Go.Proofs.Ytadghaiengonoaa
set_option linter.unusedVariables false
set_option linter.unusedSimpArgs false
set_option linter.unusedSectionVars false
open Go Go.RowKit Go.Maps Go.Deep
theorem guard_fi (op : BinOp) (p q : Operand) (f g : Nat → Nat) (w : World) : (eqGuard op fiT p q (fiVal f) (fiVal g)).run Try.prog w = .ok () w := run_eqGuard_agg w op _ p q _ _ (by kernel_rfl)
theorem wdo_any (Wb W : World) (F : Nat → Prop) (w : Nat) (now : Int) (X : List Th) (ao : Option Addr) (cap : Nat) (o : WOp) (hW : Wo Wb W F w now X) (hR : Rt W ao cap (slot0 X)) (hA : RAp W F ao) (hid : IdOk o.t.id) :
    Calls Try.prog 17 #[.pointer (some ⟨w, 0, none⟩), rwV now ao X.length cap, wopVal o] W (WDone Wb W F w) := by
  by_cases h1 : o.kind = 1
  · exact wdo_can Wb W F w now X ao cap o h1 hW hR hA hid
  by_cases h2 : o.kind = 2
  · exact wdo_to Wb W F w now X ao cap o h2 hW hR hA hid
  by_cases h3 : o.kind = 3
  · exact wdo_by Wb W F w now X ao cap o h3 hW hR hA hid
  by_cases h4 : o.kind = 4
  · exact wdo_get Wb W F w now X ao cap o h4 hW hR hA hid
  exact wdo_arm Wb W F w now X ao cap o ⟨h1, h2, h3, h4⟩ hW hR hA hid
/-- the reference's state stands in a box -/
structure Pb (W wr : World) (F : Nat → Prop) (w p : Nat) (now : Int) (X : List Th) (a : Option Addr) (c : Nat) : Prop where
  wo : Wo W wr F w now X
  rt : Rt wr a c (slot0 X)
  ap : RAp wr F a
  bx : wr.heap[p]? = some (.cells #[.int .i64 now, .slice a X.length c] rwT (0, 0))
  out : ¬ F p
  up : W.heap.size ≤ p
theorem Pb.below {W wr wr' : World} {F : Nat → Prop} {w p : Nat} {now : Int} {X : List Th} {a : Option Addr} {c : Nat} (h : Pb W wr F w p now X a c) (hb : Below wr.heap.size wr wr') : Pb W wr' F w p now X a c :=
  ⟨h.wo.below hb, h.rt.below hb, h.ap.up hb.size, bx_below hb h.bx, h.out, h.up⟩
theorem Pb.set {W wr V : World} {F : Nat → Prop} {w p : Nat} {now : Int} {X : List Th} {a : Option Addr} {c : Nat} (h : Pb W wr F w p now X a c) {now' : Int} {X' : List Th} {F' : Nat → Prop} {a' : Option Addr} {c' : Nat} (hwo : Wo W V F' w now' X') (hr : Rt V a' c' (slot0 X')) (hA : RAp V F' a') (hg : Gr F wr V) (hF : ∀ i, F' i → F i ∨ wr.heap.size ≤ i) :
    V.heap[p]? = some (.cells #[.int .i64 now, .slice a X.length c] rwT (0, 0)) ∧ ∃ U, U = (V.setCell ⟨p, 0, none⟩ (.int .i64 now')).setCell ⟨p, 1, none⟩ (.slice a' X'.length c') ∧ Pb W U F' w p now' X' a' c' := by
  have hlt := (Array.getElem?_eq_some_iff.1 h.bx).1
  have xV := (hg.block p hlt h.out).trans h.bx
  have hnF : ¬ F' p := fun e => by rcases hF p e with h1 | h1; exact h.out h1; omega
  obtain ⟨U, e, ⟨h1, h2, h3, -, -⟩, h4, -⟩ := wdone_sets (F := F') (W := W) (Z := V) (V := V) (Nat.le_refl _) hwo.bel hr hA hwo (Gr.refl _ _) (fun i hi => .inl hi) xV h.up hnF (.int .i64 now') (.slice a' X'.length c')
  exact ⟨xV, U, e, h1, h2, h3, h4, hnF, h.up⟩
set_option maxRecDepth 100000 in
set_option maxHeartbeats 8000000 in
theorem wheelPlays_run (W : World) (now : Int) (ao : Option Addr) (cap : Nat) (l : List WOp) (hs : WOps W ao cap l) (hok : ∀ a ∈ l, WOpOk a) :
    Calls Try.prog 6 #[.int .i64 now, .slice ao l.length cap] W fun e W' => e = .returned (.bool true) ∧ Below W.heap.size W W' := by
  have Hs := Lib.hid hs
  have Hok := Lib.hid hok
  clear hs hok
  by_cases hbad : l.length > 100 ∨ (¬ l.length > 100 ∧ now < 0) ∨ (¬ l.length > 100 ∧ ¬ now < 0 ∧ now > 1125899906842624)
  · have Hn1 := Lib.hid (wnew_no W (-1) (by unfold Inst; omega))
    have Hn2 := Lib.hid (wnew_no W 1125899906842625 (by unfold Inst; omega))
    have Hlv := Lib.hid (lives_wheel W)
    rcases hbad with y1 | ⟨y1, y2⟩ | ⟨y1, y2, y3⟩
    all_goals
      have z1 : (l.length : Int) > 100 ∨ ¬ (l.length : Int) > 100 := Decidable.em _
      have Hy := Lib.hid y1
      clear y1
    · have x1 : (l.length : Int) > 100 := by have := Hy.out; omega
      clear z1
      go_enter Try.func6, Try.ntmps6
      go_wp2_with fail
      refine Hn1.out.mono ?_
      rintro e W1 ⟨rfl, hw⟩
      subst hw
      go_wp2_with fail
      refine Hn2.out.mono ?_
      rintro e W2 ⟨rfl, hw⟩
      subst hw
      go_wp2_with fail
      refine (show Calls _ _ _ _ _ from Hlv.out).mono ?_
      rintro e V1 ⟨rfl, hv1⟩
      go_wp2_with fail
      go_ret
      exact ⟨rfl, hv1⟩
    · have x1 : ¬ (l.length : Int) > 100 := by have := Hy.out; omega
      clear z1
      go_enter Try.func6, Try.ntmps6
      go_wp2_with fail
      refine Hn1.out.mono ?_
      rintro e W1 ⟨rfl, hw⟩
      subst hw
      go_wp2_with fail
      refine Hn2.out.mono ?_
      rintro e W2 ⟨rfl, hw⟩
      subst hw
      go_wp2_with fail
      refine (show Calls _ _ _ _ _ from Hlv.out).mono ?_
      rintro e V1 ⟨rfl, hv1⟩
      go_wp2_with fail
      go_ret
      exact ⟨rfl, hv1⟩
    · have x1 : ¬ (l.length : Int) > 100 := by have := Hy.out; omega
      clear z1
      go_enter Try.func6, Try.ntmps6
      go_wp2_with fail
      refine Hn1.out.mono ?_
      rintro e W1 ⟨rfl, hw⟩
      subst hw
      go_wp2_with fail
      refine Hn2.out.mono ?_
      rintro e W2 ⟨rfl, hw⟩
      subst hw
      go_wp2_with fail
      refine (show Calls _ _ _ _ _ from Hlv.out).mono ?_
      rintro e V1 ⟨rfl, hv1⟩
      go_wp2_with fail
      go_ret
      exact ⟨rfl, hv1⟩
  · have hl : l.length ≤ 100 := by omega
    have hn : Inst now := ⟨by omega, by omega⟩
    have x1 : ¬ (l.length : Int) > 100 := by omega
    have x2 : ¬ now < 0 := by omega
    have x3 : ¬ now > 1125899906842624 := by omega
    have Hl := Lib.hid hl
    have Hn := Lib.hid hn
    have Hnw := Lib.hid (new_o W W now hn (Below.refl _ _))
    clear hbad hl hn
    go_enter Try.func6, Try.ntmps6
    go_wp2_with fail
    refine Hnw.out.mono ?_
    rintro e W1 ⟨w, F1, rfl, hu1, hb1, hF1⟩
    obtain ⟨W2, hW2⟩ : ∃ W2, W2 = W1.alloc (.cells #[.int .i64 now, .slice none 0 0] rwT) := ⟨_, rfl⟩
    obtain ⟨p, hp⟩ : ∃ p, p = W1.heap.size := ⟨_, rfl⟩
    have hB2 : Below W1.heap.size W1 W2 := by rw [hW2]; exact below_new _ _
    have hx2 : W2.heap[p]? = some (.cells #[.int .i64 now, .slice none 0 0] rwT (0, 0)) := by rw [hW2, hp]; exact heap_alloc_new _ _
    have hPb : Pb W W2 F1 w p now [] none 0 := ⟨hu1.below hB2, Rt.nil _, (fun a e => by cases e), hx2, (fun e => by have := hu1.bd p e; omega), by rw [hp]; exact hu1.bel.size⟩
    have HPb := Lib.hid hPb
    clear hu1 hb1 hF1 hB2 hx2 hPb Hnw x1 x2 x3
    go_wp2_with fail
    rw [← hW2, ← hp]
    clear hW2 hp
    go_loopw [39] (fun u wr => ∃ (i : Nat) (F : Nat → Prop) (nw : Int) (X : List Th) (a : Option Addr) (c : Nat), u = .int .i64 (i : Nat) ∧ i ≤ l.length ∧ Hid (Pb W wr F w p nw X a c)) (fun u _ => l.length - (intOf u).toNat)
    case atStart => exact ⟨0, F1, now, [], none, 0, rfl, Nat.zero_le _, HPb⟩
    case round =>
      obtain ⟨i, F, nw, X, a, c, rfl, hi, hpb⟩ := hrel
      by_cases hil : i < l.length
      · obtain ⟨x1, x2⟩ := i_nums i l.length hil
        obtain ⟨bx, fx, rfl, hcl⟩ := WOps.get (Hs.out.below hpb.out.wo.bel) i hil
        have c0 := hcl 0 (by decide)
        have c1 := hcl 1 (by decide)
        have c2 := hcl 2 (by decide)
        have c3 := hcl 3 (by decide)
        obtain ⟨y, hy⟩ : ∃ y, y = l[i] := ⟨_, rfl⟩
        have hyo : WOpOk y := by rw [hy]; exact Hok.out _ (List.getElem_mem hil)
        rw [← hy] at c0 c1 c2 c3
        obtain ⟨ok, ⟨ti, tg, td⟩⟩ := y
        simp [wopCells] at c0 c1 c2 c3
        have hid := hyo.2.id
        have hbx := cell?_lt c0
        have w1 : wrap64 ((i : Int) + 1) = (i : Int) + 1 := IntWalk.wrap64_in _ (by have := Hl.out; omega)
        have Hi := Lib.hid hil
        have HW1 := Lib.hid w1
        have g0 := block_cell hpb.out.bx 0
        have g1 := block_cell hpb.out.bx 1
        have gl := (Array.getElem?_eq_some_iff.1 hpb.out.bx).1
        simp at g0 g1
        obtain ⟨V0, hV0⟩ : ∃ V0, V0 = wr.alloc (.cells #[.int .i64 ok, .int .u64 ti, .int .u64 tg, .int .i64 td] wopT) := ⟨_, rfl⟩
        obtain ⟨p0, hp0⟩ : ∃ p0, p0 = wr.heap.size := ⟨_, rfl⟩
        have hB0 : Below wr.heap.size wr V0 := by rw [hV0]; exact below_new _ _
        have Hp0 := Lib.hid (hpb.out.below hB0)
        have Hdo := Lib.hid (wdo_any W V0 F w nw X a c ⟨ok, ⟨ti, tg, td⟩⟩ Hp0.out.wo Hp0.out.rt Hp0.out.ap hid)
        unfold rwV wopVal at Hdo
        simp only at Hdo
        have HW0 := Lib.hid (And.intro hV0 hp0)
        clear hil hi hyo hcl hy hid hB0 hV0 hp0 w1
        go_wp2_with fail
        rw [← HW0.out.1, ← HW0.out.2]
        refine Hdo.out.mono ?_
        rintro e V1 ⟨nw', X', F', a', c', rfl, hwo, hr, hA, hg, hF⟩
        unfold rwV
        obtain ⟨hxV, U, hU, hpb'⟩ := Hp0.out.set hwo hr hA hg hF
        have y0 := block_cell hxV 0
        have y1 := block_cell hxV 1
        have f0 := block_free hxV 0
        have f1 := block_free hxV 1
        have l3 := (Array.getElem?_eq_some_iff.1 hxV).1
        simp at y0 y1 f0 f1
        have HU := Lib.hid hU
        have Hpb' := Lib.hid hpb'
        clear hU hwo hr hA hg hF hxV c0 c1 c2 c3 g0 g1 gl hpb' hbx hpb
        go_upto_region 9 with fail
        rw [← HU.out]
        obtain ⟨Z, hZ⟩ : ∃ Z, Z = U.alloc (.cells #[.int .i64 nw', .slice a' X'.length c'] rwT) := ⟨_, rfl⟩
        have hBZ : Below U.heap.size U Z := by rw [hZ]; exact below_new _ _
        have hpbZ := Hpb'.out.below hBZ
        rw [← hZ]
        clear hZ hBZ y0 y1 f0 f1 l3
        have hl0 := (Array.getElem?_eq_some_iff.1 hpbZ.bx).1
        have HZ := Lib.hid hpbZ
        have hld : ∀ W', Below Z.heap.size Z W' → (Instr.loadAt 2 (.pointer (some ⟨p, 0, none⟩))).run Try.prog W' = .ok (.int .i64 nw') W' ∧ (Instr.loadAt rtsT (.pointer (some ⟨p, 1, none⟩))).run Try.prog W' = .ok (.slice a' X'.length c') W' ∧ (Instr.loadAt rwT (.pointer (some ⟨p, 0, none⟩))).run Try.prog W' = .ok (.agg #[.int .i64 nw', .slice a' X'.length c']) W' := fun W' hw => by
          have hx := bx_below hw HZ.out.bx
          have p0 := block_cell hx 0
          have p1 := block_cell hx 1
          simp at p0 p1
          exact ⟨ldI p0, ldS p1, ldRb hx _ _ _ rfl⟩
        have Hld := Lib.hid hld
        have hne := neq_fi (cntR nw' X')
        have hgf := fun p q V => guard_fi .neq p q (cntR nw' X') (cntR nw' X') V
        have hB0 : Below Z.heap.size Z Z.drew := (Below.refl _ Z).drew
        have HB0 := Lib.hid hB0
        have Hnw := Lib.hid (now_o (HZ.out.wo.below hB0))
        have Hln := Lib.hid (len_o (HZ.out.wo.below hB0))
        have hokX := HZ.out.wo.okX
        have HokX := Lib.hid hokX
        clear hpbZ hld hl0 hB0 hokX
        refine wp_region_held_drew (S := fun W' => Below Z.heap.size Z W') (by kernel_rfl) HB0.out (fun hHeld => ?_)
        refine wpAnyH_take (i := 0) (v := ?_) rfl (by kernel_rfl) (by kernel_rfl) (by kernel_rfl) (fun _ _ _ h => h) (Or.inl ⟨by rfl, ?_⟩) (by assumption) ?_
        rotate_left
        · intro w8 hSw; clear hSw; go_simp; (try with_reducible rfl)
        simp only [Act.put, List.getElem_toArray, List.getElem_cons_zero, List.getElem_cons_succ, List.setIfInBounds_toArray, List.set_cons_zero, List.set_cons_succ]
        refine wpAnyH_take (i := 1) (v := ?_) rfl (by kernel_rfl) (by kernel_rfl) (by kernel_rfl) (fun _ _ _ h => h) (Or.inl ⟨by rfl, ?_⟩) (by assumption) ?_
        rotate_left
        · intro w8 hSw; clear hSw; go_simp; (try with_reducible rfl)
        simp only [Act.put, List.getElem_toArray, List.getElem_cons_zero, List.getElem_cons_succ, List.setIfInBounds_toArray, List.set_cons_zero, List.set_cons_succ]
        refine wpAnyH_take (i := 2) (v := ?_) rfl (by kernel_rfl) (by kernel_rfl) (by kernel_rfl) (fun _ _ _ h => h) (Or.inl ⟨by rfl, ?_⟩) (by assumption) ?_
        rotate_left
        · intro w8 hSw; clear hSw; go_simp; (try with_reducible rfl)
        simp only [Act.put, List.getElem_toArray, List.getElem_cons_zero, List.getElem_cons_succ, List.setIfInBounds_toArray, List.set_cons_zero, List.set_cons_succ]
        refine wpAnyH_take (i := 3) (v := ?_) rfl (by kernel_rfl) (by kernel_rfl) (by kernel_rfl) (fun _ _ _ h => h) (Or.inl ⟨by rfl, ?_⟩) (by assumption) ?_
        rotate_left
        · intro w8 hSw; clear hSw; go_simp; (try with_reducible rfl)
        simp only [Act.put, List.getElem_toArray, List.getElem_cons_zero, List.getElem_cons_succ, List.setIfInBounds_toArray, List.set_cons_zero, List.set_cons_succ]
        refine wpAnyH_take (i := 5) (v := ?_) rfl (by kernel_rfl) (by kernel_rfl) (by kernel_rfl) (fun _ _ _ h => h) (Or.inl ⟨by rfl, ?_⟩) (by assumption) ?_
        rotate_left
        · intro w8 hSw; clear hSw; go_simp; (try with_reducible rfl)
        simp only [Act.put, List.getElem_toArray, List.getElem_cons_zero, List.getElem_cons_succ, List.setIfInBounds_toArray, List.set_cons_zero, List.set_cons_succ]
        refine wpAnyH_take (i := 6) (v := .int .i64 nw') rfl (by kernel_rfl) (by kernel_rfl) (by kernel_rfl) (fun _ _ _ h => h) (Or.inl ⟨by rfl, ?_⟩) (by assumption) ?_
        · intro w8 hSw; exact ld_takeT rfl (Hld.out w8 hSw).1 rfl
        simp only [Act.put, List.getElem_toArray, List.getElem_cons_zero, List.getElem_cons_succ, List.setIfInBounds_toArray, List.set_cons_zero, List.set_cons_succ]
        refine wpAnyH_ready (rs := [4]) (by kernel_rfl) (by simp) ?_
        refine AllReadyH.cons rfl (fun K hK => ?_) AllReadyH.nil
        go_simp
        go_at_call 18
        refine (Hnw.out).mono ?_
        rintro e V2 ⟨rfl, hw⟩; subst hw
        refine hK.out _ _ HB0.out (fun hHeld => ?_)
        clear hK K
        try simp only [Act.put, List.getElem_toArray, List.getElem_cons_zero, List.getElem_cons_succ, List.setIfInBounds_toArray, List.set_cons_zero, List.set_cons_succ]
        refine wpAnyH_take (i := 7) (v := ?_) rfl (by kernel_rfl) (by kernel_rfl) (by kernel_rfl) (fun _ _ _ h => h) (Or.inl ⟨by rfl, ?_⟩) (by assumption) ?_
        rotate_left
        · intro w8 hSw; clear hSw; go_simp; (try with_reducible rfl)
        simp only [Act.put, List.getElem_toArray, List.getElem_cons_zero, List.getElem_cons_succ, List.setIfInBounds_toArray, List.set_cons_zero, List.set_cons_succ]
        refine wpAnyH_take (i := 8) (v := ?_) rfl (by kernel_rfl) (by kernel_rfl) (by kernel_rfl) (fun _ _ _ h => h) (Or.inl ⟨by rfl, ?_⟩) (by assumption) ?_
        rotate_left
        · intro w8 hSw; clear hSw; go_simp; (try with_reducible rfl)
        simp only [Act.put, List.getElem_toArray, List.getElem_cons_zero, List.getElem_cons_succ, List.setIfInBounds_toArray, List.set_cons_zero, List.set_cons_succ]
        refine wpAnyH_take (i := 9) (v := ?_) rfl (by kernel_rfl) (by kernel_rfl) (by kernel_rfl) (fun _ _ _ h => h) (Or.inl ⟨by rfl, ?_⟩) (by assumption) ?_
        rotate_left
        · intro w8 hSw; clear hSw; go_simp; (try with_reducible rfl)
        simp only [Act.put, List.getElem_toArray, List.getElem_cons_zero, List.getElem_cons_succ, List.setIfInBounds_toArray, List.set_cons_zero, List.set_cons_succ]
        refine wpAnyH_take (i := 10) (v := ?_) rfl (by kernel_rfl) (by kernel_rfl) (by kernel_rfl) (fun _ _ _ h => h) (Or.inl ⟨by rfl, ?_⟩) (by assumption) ?_
        rotate_left
        · intro w8 hSw; clear hSw; go_simp; (try with_reducible rfl)
        simp only [Act.put, List.getElem_toArray, List.getElem_cons_zero, List.getElem_cons_succ, List.setIfInBounds_toArray, List.set_cons_zero, List.set_cons_succ]
        refine wpAnyH_take (i := 12) (v := ?_) rfl (by kernel_rfl) (by kernel_rfl) (by kernel_rfl) (fun _ _ _ h => h) (Or.inl ⟨by rfl, ?_⟩) (by assumption) ?_
        rotate_left
        · intro w8 hSw; clear hSw; go_simp; (try with_reducible rfl)
        simp only [Act.put, List.getElem_toArray, List.getElem_cons_zero, List.getElem_cons_succ, List.setIfInBounds_toArray, List.set_cons_zero, List.set_cons_succ]
        refine wpAnyH_take (i := 13) (v := .slice a' X'.length c') rfl (by kernel_rfl) (by kernel_rfl) (by kernel_rfl) (fun _ _ _ h => h) (Or.inl ⟨by rfl, ?_⟩) (by assumption) ?_
        · intro w8 hSw; exact ld_takeT rfl (Hld.out w8 hSw).2.1 rfl
        simp only [Act.put, List.getElem_toArray, List.getElem_cons_zero, List.getElem_cons_succ, List.setIfInBounds_toArray, List.set_cons_zero, List.set_cons_succ]
        refine wpAnyH_take (i := 14) (v := ?_) rfl (by kernel_rfl) (by kernel_rfl) (by kernel_rfl) (fun _ _ _ h => h) (Or.inl ⟨by rfl, ?_⟩) (by assumption) ?_
        rotate_left
        · intro w8 hSw; clear hSw; go_simp; (try with_reducible rfl)
        simp only [Act.put, List.getElem_toArray, List.getElem_cons_zero, List.getElem_cons_succ, List.setIfInBounds_toArray, List.set_cons_zero, List.set_cons_succ]
        refine wpAnyH_ready (rs := [11]) (by kernel_rfl) (by simp) ?_
        refine AllReadyH.cons rfl (fun K hK => ?_) AllReadyH.nil
        go_simp
        go_at_call 15
        refine (Hln.out).mono ?_
        rintro e V3 ⟨rfl, hb3⟩; have hB3 := below_on HB0.out hb3 (Nat.le_refl _)
        refine hK.out _ _ hB3 (fun hHeld => ?_)
        clear hK K
        try simp only [Act.put, List.getElem_toArray, List.getElem_cons_zero, List.getElem_cons_succ, List.setIfInBounds_toArray, List.set_cons_zero, List.set_cons_succ]
        refine wpAnyH_take (i := 15) (v := ?_) rfl (by kernel_rfl) (by kernel_rfl) (by kernel_rfl) (fun _ _ _ h => h) (Or.inl ⟨by rfl, ?_⟩) (by assumption) ?_
        rotate_left
        · intro w8 hSw; clear hSw; go_simp; (try with_reducible rfl)
        simp only [Act.put, List.getElem_toArray, List.getElem_cons_zero, List.getElem_cons_succ, List.setIfInBounds_toArray, List.set_cons_zero, List.set_cons_succ]
        refine wpAnyH_take (i := 16) (v := ?_) rfl (by kernel_rfl) (by kernel_rfl) (by kernel_rfl) (fun _ _ _ h => h) (Or.inl ⟨by rfl, ?_⟩) (by assumption) ?_
        rotate_left
        · intro w8 hSw; clear hSw; go_simp; (try with_reducible rfl)
        simp only [Act.put, List.getElem_toArray, List.getElem_cons_zero, List.getElem_cons_succ, List.setIfInBounds_toArray, List.set_cons_zero, List.set_cons_succ]
        refine wpAnyH_take (i := 17) (v := ?_) rfl (by kernel_rfl) (by kernel_rfl) (by kernel_rfl) (fun _ _ _ h => h) (Or.inl ⟨by rfl, ?_⟩) (by assumption) ?_
        rotate_left
        · intro w8 hSw; clear hSw; go_simp; (try with_reducible rfl)
        simp only [Act.put, List.getElem_toArray, List.getElem_cons_zero, List.getElem_cons_succ, List.setIfInBounds_toArray, List.set_cons_zero, List.set_cons_succ]
        refine wpAnyH_take (i := 18) (v := ?_) rfl (by kernel_rfl) (by kernel_rfl) (by kernel_rfl) (fun _ _ _ h => h) (Or.inl ⟨by rfl, ?_⟩) (by assumption) ?_
        rotate_left
        · intro w8 hSw; clear hSw; go_simp; (try with_reducible rfl)
        simp only [Act.put, List.getElem_toArray, List.getElem_cons_zero, List.getElem_cons_succ, List.setIfInBounds_toArray, List.set_cons_zero, List.set_cons_succ]
        refine wpAnyH_take (i := 20) (v := .agg #[.int .i64 nw', .slice a' X'.length c']) rfl (by kernel_rfl) (by kernel_rfl) (by kernel_rfl) (fun _ _ _ h => h) (Or.inl ⟨by rfl, ?_⟩) (by assumption) ?_
        · intro w8 hSw; exact ld_takeT rfl (Hld.out w8 hSw).2.2 rfl
        simp only [Act.put, List.getElem_toArray, List.getElem_cons_zero, List.getElem_cons_succ, List.setIfInBounds_toArray, List.set_cons_zero, List.set_cons_succ]
        refine wpAnyH_ready (rs := [19]) (by kernel_rfl) (by simp) ?_
        refine AllReadyH.cons rfl (fun K hK => ?_) AllReadyH.nil
        go_simp
        go_at_call 14
        refine (spread_o (HZ.out.wo.below hB3)).mono ?_
        rintro e V4 ⟨rfl, hb4⟩; have hB4 := below_on hB3 hb4 (Nat.le_refl _)
        refine hK.out _ _ hB4 (fun hHeld => ?_)
        clear hK K
        try simp only [Act.put, List.getElem_toArray, List.getElem_cons_zero, List.getElem_cons_succ, List.setIfInBounds_toArray, List.set_cons_zero, List.set_cons_succ]
        refine wpAnyH_ready (rs := [21]) (by kernel_rfl) (by simp) ?_
        refine AllReadyH.cons rfl (fun K hK => ?_) AllReadyH.nil
        go_simp
        go_at_call 19
        refine (rspread_any V4 nw' a' c' X' (HZ.out.rt.below hB4) HokX.out.1 HokX.out.2.2.2.2 (fun t ht => (HokX.out.2.2.2.1 t ht).1)).mono ?_
        rintro e V5 ⟨rfl, hb5⟩; have hB5 := below_on hB4 hb5 (Nat.le_refl _)
        refine hK.out _ _ hB5 (fun hHeld => ?_)
        clear hK K
        try simp only [Act.put, List.getElem_toArray, List.getElem_cons_zero, List.getElem_cons_succ, List.setIfInBounds_toArray, List.set_cons_zero, List.set_cons_succ]
        refine wpAnyH_take (i := 22) (v := ?_) rfl (by kernel_rfl) (by kernel_rfl) (by kernel_rfl) (fun _ _ _ h => h) (Or.inl ⟨by rfl, ?_⟩) (by assumption) ?_
        rotate_left
        · intro w8 hSw; clear hSw; go_simp; (try with_reducible rfl)
        simp only [Act.put, List.getElem_toArray, List.getElem_cons_zero, List.getElem_cons_succ, List.setIfInBounds_toArray, List.set_cons_zero, List.set_cons_succ]
        refine wpAnyH_take (i := 23) (v := ?_) rfl (by kernel_rfl) (by kernel_rfl) (by kernel_rfl) (fun _ _ _ h => h) (Or.inl ⟨by rfl, ?_⟩) (by assumption) ?_
        rotate_left
        · intro w8 hSw; clear hSw; go_simp; (try with_reducible rfl)
        simp only [Act.put, List.getElem_toArray, List.getElem_cons_zero, List.getElem_cons_succ, List.setIfInBounds_toArray, List.set_cons_zero, List.set_cons_succ]
        refine wpAnyH_take (i := 24) (v := ?_) rfl (by kernel_rfl) (by kernel_rfl) (by kernel_rfl) (fun _ _ _ h => h) (Or.inl ⟨by rfl, ?_⟩) (by assumption) ?_
        rotate_left
        · intro w8 hSw; clear hSw; go_simp; (try with_reducible rfl)
        simp only [Act.put, List.getElem_toArray, List.getElem_cons_zero, List.getElem_cons_succ, List.setIfInBounds_toArray, List.set_cons_zero, List.set_cons_succ]
        refine wpAnyH_take (i := 25) (v := ?_) rfl (by kernel_rfl) (by kernel_rfl) (by kernel_rfl) (fun _ _ _ h => h) (Or.inl ⟨by rfl, ?_⟩) (by assumption) ?_
        rotate_left
        · intro w8 hSw; clear hSw; go_simp; (try with_reducible rfl)
        simp only [Act.put, List.getElem_toArray, List.getElem_cons_zero, List.getElem_cons_succ, List.setIfInBounds_toArray, List.set_cons_zero, List.set_cons_succ]
        refine wpAnyH_take (i := 27) (v := ?_) rfl (by kernel_rfl) (by kernel_rfl) (by kernel_rfl) (fun _ _ _ h => h) (Or.inl ⟨by rfl, ?_⟩) (by assumption) ?_
        rotate_left
        · intro w8 hSw; clear hSw; go_simp; (try with_reducible rfl)
        simp only [Act.put, List.getElem_toArray, List.getElem_cons_zero, List.getElem_cons_succ, List.setIfInBounds_toArray, List.set_cons_zero, List.set_cons_succ]
        refine wpAnyH_take (i := 28) (v := .slice a' X'.length c') rfl (by kernel_rfl) (by kernel_rfl) (by kernel_rfl) (fun _ _ _ h => h) (Or.inl ⟨by rfl, ?_⟩) (by assumption) ?_
        · intro w8 hSw; exact ld_takeT rfl (Hld.out w8 hSw).2.1 rfl
        simp only [Act.put, List.getElem_toArray, List.getElem_cons_zero, List.getElem_cons_succ, List.setIfInBounds_toArray, List.set_cons_zero, List.set_cons_succ]
        refine wpAnyH_ready (rs := [26]) (by kernel_rfl) (by simp) ?_
        refine AllReadyH.cons rfl (fun K hK => ?_) AllReadyH.nil
        go_simp
        go_at_call 13
        refine (all_o (HZ.out.wo.below hB5)).mono ?_
        rintro e V6 ⟨ao6, cap6, rfl, htt6, hb6⟩; have hB6 := below_on hB5 hb6 (Nat.le_refl _); have Hsm := same_any V6 ao6 cap6 X' a' c' (slot0 X') htt6 (HZ.out.rt.below hB6) (by have := HokX.out.2.2.2.2; omega) (by rw [slot0_len]; have := HokX.out.2.2.2.2; omega); rw [slot0_len, slot0_fst, decide_eq_true (rfl : X' = X')] at Hsm; have Hsm2 := Lib.hid Hsm; clear Hsm htt6
        refine hK.out _ _ hB6 (fun hHeld => ?_)
        clear hK K
        try simp only [Act.put, List.getElem_toArray, List.getElem_cons_zero, List.getElem_cons_succ, List.setIfInBounds_toArray, List.set_cons_zero, List.set_cons_succ]
        refine wpAnyH_ready (rs := [29]) (by kernel_rfl) (by simp) ?_
        refine AllReadyH.cons rfl (fun K hK => ?_) AllReadyH.nil
        go_simp
        go_at_call 20
        refine (Hsm2.out).mono ?_
        rintro e V7 ⟨rfl, hb7⟩; have hB7 := below_on hB6 hb7 (Nat.le_refl _)
        refine hK.out _ _ hB7 (fun hHeld => ?_)
        clear hK K
        try simp only [Act.put, List.getElem_toArray, List.getElem_cons_zero, List.getElem_cons_succ, List.setIfInBounds_toArray, List.set_cons_zero, List.set_cons_succ]
        refine wpAnyH_take (i := 30) (v := ?_) rfl (by kernel_rfl) (by kernel_rfl) (by kernel_rfl) (fun _ _ _ h => h) (Or.inl ⟨by rfl, ?_⟩) (by assumption) ?_
        rotate_left
        · intro w8 hSw; clear hSw; go_simp; (try with_reducible rfl)
        simp only [Act.put, List.getElem_toArray, List.getElem_cons_zero, List.getElem_cons_succ, List.setIfInBounds_toArray, List.set_cons_zero, List.set_cons_succ]
        refine wpAnyH_take (i := 31) (v := ?_) rfl (by kernel_rfl) (by kernel_rfl) (by kernel_rfl) (fun _ _ _ h => h) (Or.inl ⟨by rfl, ?_⟩) (by assumption) ?_
        rotate_left
        · intro w8 hSw; clear hSw; go_simp; (try with_reducible rfl)
        simp only [Act.put, List.getElem_toArray, List.getElem_cons_zero, List.getElem_cons_succ, List.setIfInBounds_toArray, List.set_cons_zero, List.set_cons_succ]
        refine wpAnyH_done (by kernel_rfl) ?_ _
        have HP7 := Lib.hid (HZ.out.below hB7)
        clear hB3 hb3 hB4 hb4 hB5 hb5 hB6 hb6 hB7 hb7 hHeld hne hgf Hld Hnw Hln HokX
        cases X' with
        | nil =>
          have Hnx := Lib.hid (wnext_nil V7 F' w nw' HP7.out.wo.whl)
          go_wp2_with fail
          refine (show Calls _ _ _ _ _ from Hnx.out).mono ?_
          rintro e V8 ⟨rfl, hb8⟩
          have hP8 := HP7.out.below hb8
          have g0 := block_cell hP8.bx 0
          have g1 := block_cell hP8.bx 1
          have gl := (Array.getElem?_eq_some_iff.1 hP8.bx).1
          simp at g0 g1
          have HP8 := Lib.hid hP8
          have w1 := HW1.out
          clear hP8 hb8
          go_wp2_with fail
          go_roundw
          case rel => exact ⟨i + 1, F', nw', [], a', c', by first | rfl | rw [w1]; rfl, Hi.out, HP8⟩
          case measure =>
            first | rw [w1] | skip
            exact ts_meas l.length i Hi.out
        | cons t T =>
          have Hnx := Lib.hid (wnext_cons V7 F' w nw' t T HP7.out.wo.whl)
          go_wp2_with fail
          refine (show Calls _ _ _ _ _ from Hnx.out).mono ?_
          rintro e V8 ⟨rfl, hb8⟩
          have hP8 := HP7.out.below hb8
          obtain ⟨bz, fz, rfl, hbz, -, -, k2, -⟩ := rx_cells hP8.rt 0 (Nat.zero_lt_succ _)
          simp only [Nat.zero_mul, Nat.add_zero, List.getElem_cons_zero] at k2
          have g0 := block_cell hP8.bx 0
          have g1 := block_cell hP8.bx 1
          have gl := (Array.getElem?_eq_some_iff.1 hP8.bx).1
          simp at g0 g1
          have HP8 := Lib.hid hP8
          have w1 := HW1.out
          have v1 : (0 : Int) < (T.length : Int) + 1 := by omega
          clear hP8 hb8
          go_wp2_with fail
          go_roundw
          case rel => exact ⟨i + 1, F', nw', t :: T, _, c', by first | rfl | rw [w1]; rfl, Hi.out, HP8⟩
          case measure =>
            first | rw [w1] | skip
            exact ts_meas l.length i Hi.out
      · obtain rfl : i = l.length := Nat.le_antisymm hi (Nat.le_of_not_lt hil)
        have x1 : ¬ (l.length : Int) < (l.length : Int) := Int.lt_irrefl _
        have Hlv := Lib.hid (lives_wheel wr)
        have Hbel := Lib.hid hpb.out.wo.bel
        clear hi hil
        go_wp2_with fail
        refine (show Calls _ _ _ _ _ from Hlv.out).mono ?_
        rintro e V1 ⟨rfl, hv1⟩
        go_wp2_with fail
        go_ret
        exact ⟨rfl, below_on Hbel.out hv1 (Nat.le_refl _)⟩
theorem wheelPlays_walk (now : Int) (ao : Option Addr) (cap : Nat) (l : List WOp) (W : World) (n1 : -9223372036854775808 ≤ now) (n2 : now ≤ 9223372036854775807) (hs : WOps W ao cap l) (hok : ∀ a ∈ l, WOpOk a) :
    Calls Try.prog 6 #[.int .i64 now, .slice ao l.length cap] W fun e W' => e = .returned (.bool true) ∧ Below W.heap.size W W' := wheelPlays_run W now ao cap l hs hok
end Go.Proofs.Ytadghaiengonoaa
