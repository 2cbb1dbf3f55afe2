/- Lemmas for DeadlinePlays (DeadlinePlays). No statement of the seat is proved here. -/
import Derived.Test.YtedlplkomfiahaaQ28
namespace Go.Proofs.Ytedlplkomfiahaa
set_option linter.unusedVariables false
set_option linter.unusedSimpArgs false
set_option linter.unusedSectionVars false
open Go Go.RowKit Go.Maps Go.Deep
set_option maxRecDepth 100000 in
set_option maxHeartbeats 8000000 in
theorem deadlinePlays_run (W : World) (now last : Int) (ao : Option Addr) (cap : Nat) (X : List Th) (bo : Option Addr) (cb : Nat) (l : List DOp) (hX : ThR W ao cap X) (hXok : ∀ t ∈ X, ThOk t) (h0 : 0 ≤ last) (hs : DOps W bo cb l) (hok : ∀ a ∈ l, DOpOk a) :
    Calls Try.prog 4 #[dsV now last ao X.length cap, .slice bo l.length cb] W fun e W' => e = .returned (.bool true) ∧ Below W.heap.size W W' := by
  have Hs := Lib.hid hs
  have Hok := Lib.hid hok
  have HX := Lib.hid hX
  have HXok := Lib.hid (fun t ht => (⟨(hXok t ht).id, (hXok t ht).gen⟩ : IdOk t.id ∧ IdOk t.gen))
  have H0 := Lib.hid h0
  clear hs hok hX hXok h0
  obtain ⟨W1, hW1⟩ : ∃ W1, W1 = W.alloc (.cells #[.int .i64 now, .int .u64 last, .slice ao X.length cap] dsT) := ⟨_, rfl⟩
  obtain ⟨b1, hb1⟩ : ∃ b, b = W.heap.size := ⟨_, rfl⟩
  have hB1 : Below W.heap.size W W1 := by rw [hW1]; exact below_new _ _
  have t1 : W1.heap[b1]? = some (.cells #[.int .i64 now, .int .u64 last, .slice ao X.length cap] dsT (0, 0)) := by rw [hW1, hb1]; exact heap_alloc_new _ _
  have p0 := block_cell t1 0
  have p1 := block_cell t1 1
  have p2 := block_cell t1 2
  have l1 := (Array.getElem?_eq_some_iff.1 t1).1
  simp at p0 p1 p2
  have HB1 := Lib.hid hB1
  have T1 := Lib.hid t1
  have Hli := Lib.hid (light_d W1 now last ao X.length cap)
  clear hB1 t1
  unfold dsV at *
  go_enter Try.func4, Try.ntmps4
  go_upto_region 1 with fail
  rw [← hW1, ← hb1]
  clear hW1 hb1
  go_wp2_with fail
  refine Hli.out.mono ?_
  rintro e V1 ⟨rfl, hv1⟩
  by_cases hlt : X.length ≤ 300
  · rw [decide_eq_true hlt]
    by_cases hll : l.length ≤ 100
    · have x1 : ¬ (l.length : Int) > 100 := by omega
      have Hlt := Lib.hid hlt
      have Hll := Lib.hid hll
      have HV1 := Lib.hid (below_on HB1.out hv1 (Nat.le_refl _))
      have tv := bx_below hv1 T1.out
      have Tv := Lib.hid tv
      clear p0 p1 p2 l1
      have p0 := block_cell tv 0
      have p1 := block_cell tv 1
      have p2 := block_cell tv 2
      have l1 := (Array.getElem?_eq_some_iff.1 tv).1
      simp at p0 p1 p2
      have Hld := Lib.hid (dload_any V1 now last ao cap X (ThR.below HX.out HV1.out) (by omega) HXok.out H0.out)
      unfold dsV at Hld
      clear hlt hll hv1 tv
      go_wp2_with fail
      refine (show Calls _ _ _ _ _ from Hld.out).mono ?_
      rintro e V2 hload
      have hV2 : Below V1.heap.size V1 V2 := by
        rcases hload with ⟨-, -, h⟩ | ⟨-, b, G, -, h⟩
        · exact h
        · exact h.bel
      have hBV2 := below_on HV1.out hV2 (Nat.le_refl _)
      have tv := bx_below hV2 Tv.out
      clear p0 p1 p2 l1
      have p0 := block_cell tv 0
      have p1 := block_cell tv 1
      have p2 := block_cell tv 2
      have l1 := (Array.getElem?_eq_some_iff.1 tv).1
      simp at p0 p1 p2
      have Hpl := Lib.hid (plain13_any V2 now last ao cap X (ThR.below HX.out hBV2) (by have := Hlt.out; omega))
      unfold dsV at Hpl
      have HBV2 := Lib.hid hBV2
      clear tv hBV2 hV2
      rcases hload with ⟨hno, rfl, -⟩ | ⟨hsd, b, G, rfl, hbk⟩
      · have Hno := Lib.hid hno
        clear hno
        go_wp2_with fail
        refine (show Calls _ _ _ _ _ from Hpl.out).mono ?_
        rintro e V3 ⟨a, c, rfl, ho, hb3⟩
        unfold dsV
        obtain ⟨V4, hV4⟩ : ∃ V4, V4 = V3.alloc (.cells #[.int .i64 now, .int .u64 last, .slice a X.length c] rsT) := ⟨_, rfl⟩
        obtain ⟨p, hp⟩ : ∃ p, p = V3.heap.size := ⟨_, rfl⟩
        have hB4 : Below V3.heap.size V3 V4 := by rw [hV4]; exact below_new _ _
        have HB4 := Lib.hid (below_on HBV2.out (below_on hb3 hB4 (Nat.le_refl _)) (Nat.le_refl _))
        have Hsn := Lib.hid (rsound13 V4 now last a c X (rx_own (own_below ho hB4) (slot0_len X)) (by have := Hlt.out; omega))
        unfold dsV at Hsn
        clear hb3 ho hB4 p0 p1 p2 l1
        go_wp2_with fail
        rw [← hV4]
        refine (show Calls _ _ _ _ _ from Hsn.out).mono ?_
        rintro e V5 ⟨v, rfl, hv, hb5⟩
        have hvf : v = false := by
          cases v with
          | false => rfl
          | true => exact absurd (hv.1 rfl) Hno.out
        subst hvf
        have Hlv := Lib.hid (lives13 V5)
        have HB5 := Lib.hid (below_on HB4.out hb5 (Nat.le_refl _))
        clear hv hb5 hV4 hp
        go_wp2_with fail
        refine (show Calls _ _ _ _ _ from Hlv.out).mono ?_
        rintro e V6 ⟨rfl, hb6⟩
        go_wp2_with fail
        go_ret
        exact ⟨rfl, below_on HB5.out hb6 (Nat.le_refl _)⟩
      · have Hsd := Lib.hid hsd
        have Hbk := Lib.hid (hbk.rebase HV1.out)
        clear hsd hbk
        go_wp2_with fail
        refine (show Calls _ _ _ _ _ from Hpl.out).mono ?_
        rintro e V3 ⟨a, c, rfl, ho, hb3⟩
        unfold dsV
        obtain ⟨V4, hV4⟩ : ∃ V4, V4 = V3.alloc (.cells #[.int .i64 now, .int .u64 last, .slice a X.length c] rsT) := ⟨_, rfl⟩
        obtain ⟨p, hp⟩ : ∃ p, p = V3.heap.size := ⟨_, rfl⟩
        have hB4 : Below V3.heap.size V3 V4 := by rw [hV4]; exact below_new _ _
        have hx4 : V4.heap[p]? = some (.cells #[.int .i64 now, .int .u64 last, .slice a X.length c] rsT (0, 0)) := by rw [hV4, hp]; exact heap_alloc_new _ _
        have hrt4 := rx_own (own_below ho hB4) (slot0_len X)
        have hbd := Hbk.out.bd
        have hPd : Pd W V4 G b p now last X a c := ⟨Hbk.out.below (below_on hb3 hB4 (Nat.le_refl _)), hrt4, fun x e => ⟨hrt4.lt x e, fun hG => by have h1 := hbd _ hG; have h2 := own_lie ho x e; omega⟩, hx4, fun hG => by have h1 := hbd _ hG; have h2 := hb3.size; omega, by have h1 := Hbk.out.bel.size; have h2 := hb3.size; omega⟩
        have Hsn := Lib.hid (rsound13 V4 now last a c X hrt4 (by have := Hlt.out; omega))
        unfold dsV at Hsn
        have HPd := Lib.hid hPd
        clear hb3 ho hB4 p0 p1 p2 l1 hx4 hrt4 hbd hPd
        go_wp2_with fail
        rw [← hV4, ← hp]
        clear hV4 hp
        refine (show Calls _ _ _ _ _ from Hsn.out).mono ?_
        rintro e V5 ⟨v, rfl, hv, hb5⟩
        have hvt := hv.2 Hsd.out
        subst hvt
        have HP5 := Lib.hid (HPd.out.below hb5)
        clear hv hb5
        go_wp2_with fail
        go_loopw [48] (fun u wr => ∃ (i : Nat) (G : Nat → Prop) (nw la : Int) (X : List Th) (a : Option Addr) (c : Nat), u = .int .i64 (i : Nat) ∧ i ≤ l.length ∧ Hid (Pd W wr G b p nw la X a c)) (fun u _ => l.length - (intOf u).toNat)
        case atStart => exact ⟨0, G, now, last, X, a, c, rfl, Nat.zero_le _, HP5⟩
        case round =>
          obtain ⟨i, G, nw, la, X, a, c, rfl, hi, hpd⟩ := hrel
          by_cases hil : i < l.length
          · obtain ⟨x1, x2⟩ := i_nums i l.length hil
            obtain ⟨bx, fx, rfl, hcl⟩ := DOps.get (Hs.out.below hpd.out.wo.bel) i hil
            have c0 := hcl 0 (by decide)
            have c1 := hcl 1 (by decide)
            have c2 := hcl 2 (by decide)
            obtain ⟨y, hy⟩ : ∃ y, y = l[i] := ⟨_, rfl⟩
            have hyo : DOpOk y := by rw [hy]; exact Hok.out _ (List.getElem_mem hil)
            rw [← hy] at c0 c1 c2
            obtain ⟨ok, oi, oa⟩ := y
            simp [dopCells] at c0 c1 c2
            have hid := hyo.1
            have hbx := cell?_lt c0
            have w1 : wrap64 ((i : Int) + 1) = (i : Int) + 1 := IntWalk.wrap64_in _ (by have := Hll.out; omega)
            have Hi := Lib.hid hil
            have HW1 := Lib.hid w1
            have g0 := block_cell hpd.out.bx 0
            have g1 := block_cell hpd.out.bx 1
            have g2 := block_cell hpd.out.bx 2
            have gl := (Array.getElem?_eq_some_iff.1 hpd.out.bx).1
            simp at g0 g1 g2
            obtain ⟨V0, hV0⟩ : ∃ V0, V0 = wr.alloc (.cells #[.int .i64 ok, .int .u64 oi, .int .i64 oa] dopT) := ⟨_, rfl⟩
            obtain ⟨q, hq⟩ : ∃ q, q = wr.heap.size := ⟨_, rfl⟩
            have hB0 : Below wr.heap.size wr V0 := by rw [hV0]; exact below_new _ _
            have Hp0 := Lib.hid (hpd.out.below hB0)
            have Hdo := Lib.hid (ddo_any W V0 G b nw la X a c ⟨ok, oi, oa⟩ Hp0.out.wo Hp0.out.rt Hp0.out.ap hid)
            unfold dsV dopVal at Hdo
            simp only at Hdo
            have HW0 := Lib.hid (And.intro hV0 hq)
            clear hil hi hyo hcl hy hid hB0 hV0 hq w1
            go_wp2_with fail
            rw [← HW0.out.1, ← HW0.out.2]
            refine Hdo.out.mono ?_
            rintro e V1 ⟨nw', la', X', G', a', c', -, rfl, hwo, hr, hA, hg, hF⟩
            unfold dsV
            obtain ⟨hxV, U, hU, hpd', -⟩ := Hp0.out.set hwo hr hA hg hF
            have y0 := block_cell hxV 0
            have y1 := block_cell hxV 1
            have y2 := block_cell hxV 2
            have f0 := block_free hxV 0
            have f1 := block_free hxV 1
            have f2 := block_free hxV 2
            have l3 := (Array.getElem?_eq_some_iff.1 hxV).1
            simp at y0 y1 y2 f0 f1 f2
            have HU := Lib.hid hU
            have Hpd' := Lib.hid hpd'
            clear hU hwo hr hA hg hF hxV c0 c1 c2 g0 g1 g2 gl hpd' hbx hpd
            go_upto_region 14 with fail
            rw [← HU.out]
            obtain ⟨Z, hZ⟩ : ∃ Z, Z = U.alloc (.cells #[.int .i64 nw', .int .u64 la', .slice a' X'.length c'] rsT) := ⟨_, rfl⟩
            have hBZ : Below U.heap.size U Z := by rw [hZ]; exact below_new _ _
            have hpdZ := Hpd'.out.below hBZ
            rw [← hZ]
            clear hZ hBZ y0 y1 y2 f0 f1 f2 l3
            have HZ := Lib.hid hpdZ
            have hld : ∀ W', Below Z.heap.size Z W' → (Instr.loadAt rsT (.pointer (some ⟨p, 0, none⟩))).run Try.prog W' = .ok (.agg #[.int .i64 nw', .int .u64 la', .slice a' X'.length c']) W' := fun W' hw => ldDs (bx_below hw HZ.out.bx) _ _ _ rfl
            have Hld := Lib.hid hld
            have hB0 : Below Z.heap.size Z Z.drew := (Below.refl _ Z).drew
            have HB0 := Lib.hid hB0
            have Hst := Lib.hid (bstate_o (HZ.out.wo.below hB0))
            have HokX := Lib.hid HZ.out.wo.okX
            clear hpdZ hld hB0
            refine wp_region_held_drew (S := fun W' => Below Z.heap.size Z W') (by kernel_rfl) HB0.out (fun hHeld => ?_)
            refine wpAnyH_take (i := 0) (v := ?_) rfl (by kernel_rfl) (by kernel_rfl) (by kernel_rfl) (fun _ _ _ h => h) (Or.inl ⟨by rfl, ?_⟩) (by assumption) ?_
            rotate_left
            · intro w8 hSw; clear hSw; go_simp; (try with_reducible rfl)
            simp only [Act.put, List.getElem_toArray, List.getElem_cons_zero, List.getElem_cons_succ, List.setIfInBounds_toArray, List.set_cons_zero, List.set_cons_succ]
            refine wpAnyH_take (i := 1) (v := ?_) rfl (by kernel_rfl) (by kernel_rfl) (by kernel_rfl) (fun _ _ _ h => h) (Or.inl ⟨by rfl, ?_⟩) (by assumption) ?_
            rotate_left
            · intro w8 hSw; clear hSw; go_simp; (try with_reducible rfl)
            simp only [Act.put, List.getElem_toArray, List.getElem_cons_zero, List.getElem_cons_succ, List.setIfInBounds_toArray, List.set_cons_zero, List.set_cons_succ]
            refine wpAnyH_take (i := 2) (v := ?_) rfl (by kernel_rfl) (by kernel_rfl) (by kernel_rfl) (fun _ _ _ h => h) (Or.inl ⟨by rfl, ?_⟩) (by assumption) ?_
            rotate_left
            · intro w8 hSw; clear hSw; go_simp; (try with_reducible rfl)
            simp only [Act.put, List.getElem_toArray, List.getElem_cons_zero, List.getElem_cons_succ, List.setIfInBounds_toArray, List.set_cons_zero, List.set_cons_succ]
            refine wpAnyH_take (i := 3) (v := ?_) rfl (by kernel_rfl) (by kernel_rfl) (by kernel_rfl) (fun _ _ _ h => h) (Or.inl ⟨by rfl, ?_⟩) (by assumption) ?_
            rotate_left
            · intro w8 hSw; clear hSw; go_simp; (try with_reducible rfl)
            simp only [Act.put, List.getElem_toArray, List.getElem_cons_zero, List.getElem_cons_succ, List.setIfInBounds_toArray, List.set_cons_zero, List.set_cons_succ]
            refine wpAnyH_take (i := 6) (v := .agg #[.int .i64 nw', .int .u64 la', .slice a' X'.length c']) rfl (by kernel_rfl) (by kernel_rfl) (by kernel_rfl) (fun _ _ _ h => h) (Or.inl ⟨by rfl, ?_⟩) (by assumption) ?_
            · intro w8 hSw; exact ld_takeT rfl (Hld.out w8 hSw) rfl
            simp only [Act.put, List.getElem_toArray, List.getElem_cons_zero, List.getElem_cons_succ, List.setIfInBounds_toArray, List.set_cons_zero, List.set_cons_succ]
            refine wpAnyH_ready (rs := [4]) (by kernel_rfl) (by simp) ?_
            refine AllReadyH.cons rfl (fun K hK => ?_) AllReadyH.nil
            go_simp
            go_at_call 13
            refine (Hst.out).mono ?_
            rintro e V2 ⟨a2, c2, rfl, ho2, hb2⟩; have hB2 := below_on HB0.out hb2 (Nat.le_refl _)
            refine hK.out _ _ hB2 (fun hHeld => ?_)
            clear hK K
            try simp only [Act.put, List.getElem_toArray, List.getElem_cons_zero, List.getElem_cons_succ, List.setIfInBounds_toArray, List.set_cons_zero, List.set_cons_succ]
            refine wpAnyH_ready (rs := [5]) (by kernel_rfl) (by simp) ?_
            refine AllReadyH.cons rfl (fun K hK => ?_) AllReadyH.nil
            go_simp
            go_at_call 16
            refine (plain13_any V2 nw' la' a2 c2 X' (Tt.of_own ho2).thr (by have := HokX.out.2.2.2.2; omega)).mono ?_
            rintro e V3 ⟨a3, c3, rfl, ho3, hb3⟩; have hB3 := below_on hB2 hb3 (Nat.le_refl _)
            refine hK.out _ _ hB3 (fun hHeld => ?_)
            clear hK K
            try simp only [Act.put, List.getElem_toArray, List.getElem_cons_zero, List.getElem_cons_succ, List.setIfInBounds_toArray, List.set_cons_zero, List.set_cons_succ]
            refine wpAnyH_ready (rs := [7]) (by kernel_rfl) (by simp) ?_
            refine AllReadyH.cons rfl (fun K hK => ?_) AllReadyH.nil
            go_simp
            go_at_call 19
            refine (rsame13_eq V3 nw' la' a3 c3 X' a' c' (rx_own ho3 (slot0_len X')) (HZ.out.rt.below hB3) (by have := HokX.out.2.2.2.2; omega)).mono ?_
            rintro e V4 ⟨rfl, hb4⟩; have hB4 := below_on hB3 hb4 (Nat.le_refl _)
            refine hK.out _ _ hB4 (fun hHeld => ?_)
            clear hK K
            try simp only [Act.put, List.getElem_toArray, List.getElem_cons_zero, List.getElem_cons_succ, List.setIfInBounds_toArray, List.set_cons_zero, List.set_cons_succ]
            refine wpAnyH_take (i := 8) (v := ?_) rfl (by kernel_rfl) (by kernel_rfl) (by kernel_rfl) (fun _ _ _ h => h) (Or.inl ⟨by rfl, ?_⟩) (by assumption) ?_
            rotate_left
            · intro w8 hSw; clear hSw; go_simp; (try with_reducible rfl)
            simp only [Act.put, List.getElem_toArray, List.getElem_cons_zero, List.getElem_cons_succ, List.setIfInBounds_toArray, List.set_cons_zero, List.set_cons_succ]
            refine wpAnyH_take (i := 9) (v := ?_) rfl (by kernel_rfl) (by kernel_rfl) (by kernel_rfl) (fun _ _ _ h => h) (Or.inl ⟨by rfl, ?_⟩) (by assumption) ?_
            rotate_left
            · intro w8 hSw; clear hSw; go_simp; (try with_reducible rfl)
            simp only [Act.put, List.getElem_toArray, List.getElem_cons_zero, List.getElem_cons_succ, List.setIfInBounds_toArray, List.set_cons_zero, List.set_cons_succ]
            refine wpAnyH_done (by kernel_rfl) ?_ _
            have HP4 := Lib.hid (HZ.out.below hB4)
            have w1 := HW1.out
            clear hB4 hb4 hB3 hb3 hB2 hb2 ho2 ho3 hHeld Hld Hst HokX
            go_wp2_with fail
            go_roundw
            case rel => exact ⟨i + 1, G', nw', la', X', a', c', by first | rfl | rw [w1]; rfl, Hi.out, HP4⟩
            case measure =>
              first | rw [w1] | skip
              exact ts_meas l.length i Hi.out
          · obtain rfl : i = l.length := Nat.le_antisymm hi (Nat.le_of_not_lt hil)
            have x1 : ¬ (l.length : Int) < (l.length : Int) := Int.lt_irrefl _
            have Hlv := Lib.hid (lives13 wr)
            have Hbel := Lib.hid hpd.out.wo.bel
            clear hi hil
            go_wp2_with fail
            refine (show Calls _ _ _ _ _ from Hlv.out).mono ?_
            rintro e V6 ⟨rfl, hb6⟩
            go_wp2_with fail
            go_ret
            exact ⟨rfl, below_on Hbel.out hb6 (Nat.le_refl _)⟩
    · have x1 : (l.length : Int) > 100 := by omega
      have Hlv := Lib.hid (lives13 V1)
      have HV1 := Lib.hid (below_on HB1.out hv1 (Nat.le_refl _))
      clear hlt hll hv1
      go_wp2_with fail
      refine (show Calls _ _ _ _ _ from Hlv.out).mono ?_
      rintro e V6 ⟨rfl, hb6⟩
      go_wp2_with fail
      go_ret
      exact ⟨rfl, below_on HV1.out hb6 (Nat.le_refl _)⟩
  · rw [decide_eq_false hlt]
    have Hlv := Lib.hid (lives13 V1)
    have HV1 := Lib.hid (below_on HB1.out hv1 (Nat.le_refl _))
    clear hlt hv1
    go_wp2_with fail
    refine (show Calls _ _ _ _ _ from Hlv.out).mono ?_
    rintro e V6 ⟨rfl, hb6⟩
    go_wp2_with fail
    go_ret
    exact ⟨rfl, below_on HV1.out hb6 (Nat.le_refl _)⟩
theorem deadlinePlays_walk (now last : Int) (ao : Option Addr) (cap : Nat) (X : List Th) (bo : Option Addr) (cb : Nat) (l : List DOp) (W : World) (h0 : 0 ≤ last) (hX : ThR W ao cap X) (hXok : ∀ t ∈ X, ThOk t) (hs : DOps W bo cb l) (hok : ∀ a ∈ l, DOpOk a) :
    Calls Try.prog 4 #[dsV now last ao X.length cap, .slice bo l.length cb] W fun e W' => e = .returned (.bool true) ∧ Below W.heap.size W W' := deadlinePlays_run W now last ao cap X bo cb l hX hXok h0 hs hok
end Go.Proofs.Ytedlplkomfiahaa
