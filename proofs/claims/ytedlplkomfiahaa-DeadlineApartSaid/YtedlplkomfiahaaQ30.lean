/- Lemmas for DeadlinePlays (DeadlineApart). No statement of the seat is proved here. -/
import Derived.Test.YtedlplkomfiahaaQ28
namespace Go.Proofs.Ytedlplkomfiahaa
set_option linter.unusedVariables false
set_option linter.unusedSimpArgs false
set_option linter.unusedSectionVars false
open Go Go.RowKit Go.Maps Go.Deep
/-- what another one's call wrote -/
theorem Pd.beside {W wr V : World} {G H : Nat → Prop} {b p : Nat} {now last : Int} {X : List Th} {a : Option Addr} {c : Nat} (h : Pd W wr G b p now last X a c) (hg : Gr H wr V) (hd : ∀ i, G i → ¬ H i) (hH : ∀ i, H i → W.heap.size ≤ i) (hA : RAp wr H a) (hp : ¬ H p) : Pd W V G b p now last X a c :=
  ⟨h.wo.beside hg hd hH, rt_gr h.rt hg hA, h.ap.up hg.size, (hg.block p (Array.getElem?_eq_some_iff.1 h.bx).1 hp).trans h.bx, h.out, h.up⟩
/-- two books with the reference's states, apart from each other -/
structure Two13 (W wr : World) (G1 G2 : Nat → Prop) (b1 p1 b2 p2 : Nat) (n1 s1 : Int) (X1 : List Th) (a1 : Option Addr) (c1 : Nat) (n2 s2 : Int) (X2 : List Th) (a2 : Option Addr) (c2 : Nat) : Prop where
  fst : Pd W wr G1 b1 p1 n1 s1 X1 a1 c1
  snd : Pd W wr G2 b2 p2 n2 s2 X2 a2 c2
  apart : ∀ i, G1 i → ¬ G2 i
  row : RAp wr G2 a1
  box1 : ¬ G2 p1
  box2 : ¬ G1 p2
  ne : p1 ≠ p2
section
variable {W wr V : World} {G1 G2 : Nat → Prop} {b1 p1 b2 p2 : Nat} {n1 s1 : Int} {X1 : List Th} {a1 : Option Addr} {c1 : Nat} {n2 s2 : Int} {X2 : List Th} {a2 : Option Addr} {c2 : Nat}
theorem Two13.below (h : Two13 W wr G1 G2 b1 p1 b2 p2 n1 s1 X1 a1 c1 n2 s2 X2 a2 c2) (hb : Below wr.heap.size wr V) : Two13 W V G1 G2 b1 p1 b2 p2 n1 s1 X1 a1 c1 n2 s2 X2 a2 c2 :=
  ⟨h.fst.below hb, h.snd.below hb, h.apart, h.row.up hb.size, h.box1, h.box2, h.ne⟩
/-- a call of the second -/
theorem Two13.right (h : Two13 W wr G1 G2 b1 p1 b2 p2 n1 s1 X1 a1 c1 n2 s2 X2 a2 c2)
    {now' last' : Int} {X' : List Th} {G' : Nat → Prop} {a' : Option Addr} {c' : Nat} (hwo : Bk W V G' b2 now' last' X') (hr : Rt V a' c' (slot0 X')) (hA : RAp V G' a') (hg : Gr G2 wr V) (hF : ∀ i, G' i → G2 i ∨ wr.heap.size ≤ i) :
    V.heap[p2]? = some (.cells #[.int .i64 n2, .int .u64 s2, .slice a2 X2.length c2] rsT (0, 0)) ∧ ∃ U, U = ((V.setCell ⟨p2, 0, none⟩ (.int .i64 now')).setCell ⟨p2, 1, none⟩ (.int .u64 last')).setCell ⟨p2, 2, none⟩ (.slice a' X'.length c') ∧ Two13 W U G1 G' b1 p1 b2 p2 n1 s1 X1 a1 c1 now' last' X' a' c' := by
  obtain ⟨hx, U, hU, hp, hoth⟩ := h.snd.set hwo hr hA hg hF
  have hgU : Gr (fun i => i = p2) V U := by rw [hU]; exact gr_set3 V p2 _ _ _
  have hgH : Gr (fun i => G2 i ∨ i = p2) wr U := (hg.mono fun i h => .inl h).trans (hgU.mono fun i h => .inr h)
  have hp1 := (Array.getElem?_eq_some_iff.1 h.fst.bx).1
  have f1 := h.fst.beside hgH (fun i hi h2 => h2.elim (h.apart i hi) (fun e => by subst e; exact h.box2 hi)) (fun i h2 => h2.elim (h.snd.wo.up i) (fun e => by subst e; exact h.snd.up)) (fun x e => ⟨(h.row x e).1, fun h2 => h2.elim (h.row x e).2 (rt_off h.fst.rt h.snd.bx (by decide) x e)⟩) (fun h2 => h2.elim h.box1 h.ne)
  refine ⟨hx, U, hU, f1, hp, fun i hi h2 => ?_, fun x e => ⟨Nat.lt_of_lt_of_le (h.row x e).1 hgH.size, fun h2 => ?_⟩, fun h2 => ?_, h.box2, h.ne⟩
  · rcases hF i h2 with h3 | h3
    · exact h.apart i hi h3
    · have := h.fst.wo.bd i hi; omega
  · rcases hF _ h2 with h3 | h3
    · exact (h.row x e).2 h3
    · have := (h.row x e).1; omega
  · rcases hF _ h2 with h3 | h3
    · exact h.box1 h3
    · omega
end
set_option maxRecDepth 100000 in
set_option maxHeartbeats 16000000 in
theorem deadlineApart_run (W : World) (now last : Int) (ao : Option Addr) (cap : Nat) (X : List Th) (bo : Option Addr) (cb : Nat) (l : List DOp) (o : DOp) (hX : ThR W ao cap X) (hXok : ∀ t ∈ X, ThOk t) (h0 : 0 ≤ last) (hs : DOps W bo cb l) (hok : ∀ a ∈ l, DOpOk a) (hoo : DOpOk o) :
    Calls Try.prog 5 #[dsV now last ao X.length cap, .slice bo l.length cb, dopVal o] W fun e W' => e = .returned (.bool true) ∧ Below W.heap.size W W' := by
  obtain ⟨zk, zi, za⟩ := o
  have hoi := hoo.1
  simp only at hoi
  have Hoi := Lib.hid hoi
  have Hs := Lib.hid hs
  have Hok := Lib.hid hok
  have HX := Lib.hid hX
  have HXok := Lib.hid (fun t ht => (⟨(hXok t ht).id, (hXok t ht).gen⟩ : IdOk t.id ∧ IdOk t.gen))
  have H0 := Lib.hid h0
  clear hs hok hX hXok h0 hoo hoi
  unfold dsV dopVal
  obtain ⟨W1, hW1⟩ : ∃ W1, W1 = W.alloc (.cells #[.int .i64 now, .int .u64 last, .slice ao X.length cap] dsT) := ⟨_, rfl⟩
  obtain ⟨W2, hW2⟩ : ∃ W2, W2 = W1.alloc (.cells #[.int .i64 zk, .int .u64 zi, .int .i64 za] dopT) := ⟨_, rfl⟩
  obtain ⟨b1, hb1⟩ : ∃ b, b = W.heap.size := ⟨_, rfl⟩
  obtain ⟨b2, hb2⟩ : ∃ b, b = W.heap.size + 1 := ⟨_, rfl⟩
  have z1 : W1.heap.size = W.heap.size + 1 := by rw [hW1]; simp
  have B1 : Below W.heap.size W W1 := by rw [hW1]; exact below_new _ _
  have B2 : Below W1.heap.size W1 W2 := by rw [hW2]; exact below_new _ _
  have hB2 := below_on B1 B2 (Nat.le_refl _)
  have t1 : W2.heap[b1]? = some (.cells #[.int .i64 now, .int .u64 last, .slice ao X.length cap] dsT (0, 0)) := by
    rw [B2.block b1 (by omega), hW1, hb1]; exact heap_alloc_new _ _
  have t2 : W2.heap[b2]? = some (.cells #[.int .i64 zk, .int .u64 zi, .int .i64 za] dopT (0, 0)) := by
    rw [hW2, hb2, ← z1]; exact heap_alloc_new _ _
  have Hup : Hid (W.heap.size ≤ b1 ∧ W.heap.size ≤ b2) := ⟨by omega, by omega⟩
  have Hap : Hid (b1 ≠ b2) := (by omega : b1 ≠ b2)
  have HB2 := Lib.hid hB2
  have T1 := Lib.hid t1
  have T2 := Lib.hid t2
  clear z1 B1 B2 hB2 t1 t2
  have p0 := block_cell T1.out 0
  have p1 := block_cell T1.out 1
  have p2 := block_cell T1.out 2
  have l1 := (Array.getElem?_eq_some_iff.1 T1.out).1
  simp at p0 p1 p2
  have Hli := Lib.hid (light_d W2 now last ao X.length cap)
  unfold dsV at Hli
  go_enter Try.func5, Try.ntmps5
  go_upto_region 1 with fail
  rw [← hW1, ← hW2, ← hb2, ← hb1]
  clear hW1 hW2 hb1 hb2
  go_wp2_with fail
  refine Hli.out.mono ?_
  rintro e V1 ⟨rfl, hv1⟩
  by_cases hlt : X.length ≤ 300
  · rw [decide_eq_true hlt]
    by_cases hll : l.length ≤ 60
    · have x1 : ¬ (l.length : Int) > 60 := by omega
      have Hlt := Lib.hid hlt
      have Hll := Lib.hid hll
      have HV1 := Lib.hid (below_on HB2.out hv1 (Nat.le_refl _))
      have Tv := Lib.hid (bx_below hv1 T1.out)
      have To := Lib.hid (bx_below hv1 T2.out)
      clear p0 p1 p2 l1
      have p0 := block_cell (Tv.out) 0
      have p1 := block_cell (Tv.out) 1
      have p2 := block_cell (Tv.out) 2
      have l1 := (Array.getElem?_eq_some_iff.1 (Tv.out)).1
      simp at p0 p1 p2
      have Hpl := Lib.hid (plain13_any V1 now last ao cap X (ThR.below HX.out HV1.out) (by omega))
      unfold dsV at Hpl
      clear hlt hll hv1
      go_wp2_with fail
      refine (show Calls _ _ _ _ _ from Hpl.out).mono ?_
      rintro e V2 ⟨a, c, rfl, ho, hb2⟩
      have Hsn := Lib.hid (rsound13 V2 now last a c X (rx_own ho (slot0_len X)) (by have := Hlt.out; omega))
      unfold dsV at Hsn ⊢
      have Hb2 := Lib.hid hb2
      clear ho hb2
      go_wp2_with fail
      refine (show Calls _ _ _ _ _ from Hsn.out).mono ?_
      rintro e V3 ⟨v, rfl, hv, hb3⟩
      have Hb13 := Lib.hid (below_on Hb2.out hb3 (Nat.le_refl _))
      have Hv := Lib.hid hv
      clear hv hb3
      cases v with
      | false =>
        have Hlv := Lib.hid (lives13 V3)
        go_wp2_with fail
        refine (show Calls _ _ _ _ _ from Hlv.out).mono ?_
        rintro e V6 ⟨rfl, hb6⟩
        go_wp2_with fail
        go_ret
        exact ⟨rfl, below_on HV1.out (below_on Hb13.out hb6 (Nat.le_refl _)) (Nat.le_refl _)⟩
      | true =>
        have Hsd := Lib.hid (Hv.out.1 rfl)
        clear Hv
        have HV3 := Lib.hid (below_on HV1.out Hb13.out (Nat.le_refl _))
        have T3 := Lib.hid (bx_below Hb13.out Tv.out)
        have To3 := Lib.hid (bx_below Hb13.out To.out)
        clear p0 p1 p2 l1
        have p0 := block_cell (T3.out) 0
        have p1 := block_cell (T3.out) 1
        have p2 := block_cell (T3.out) 2
        have l1 := (Array.getElem?_eq_some_iff.1 (T3.out)).1
        simp at p0 p1 p2
        have Hld := Lib.hid (dload_any V3 now last ao cap X (ThR.below HX.out HV3.out) (by have := Hlt.out; omega) HXok.out H0.out)
        unfold dsV at Hld
        go_wp2_with fail
        refine (show Calls _ _ _ _ _ from Hld.out).mono ?_
        rintro e V4 (⟨hno, -, -⟩ | ⟨-, b, G1, rfl, hbk⟩)
        · exact absurd Hsd.out hno
        have HG1 := Lib.hid (And.intro hbk.up hbk.bd)
        have Hb34 := Lib.hid hbk.bel
        have Hbk := Lib.hid (hbk.rebase HV3.out)
        have T4 := Lib.hid (bx_below hbk.bel T3.out)
        have To4 := Lib.hid (bx_below hbk.bel To3.out)
        have Hcl := Lib.hid (bclone_o hbk Hsd.out HXok.out)
        clear hbk
        clear p0 p1 p2 l1
        have p0 := block_cell (T4.out) 0
        have p1 := block_cell (T4.out) 1
        have p2 := block_cell (T4.out) 2
        have l1 := (Array.getElem?_eq_some_iff.1 (T4.out)).1
        simp at p0 p1 p2
        go_wp2_with fail
        refine (show Calls _ _ _ _ _ from Hcl.out).mono ?_
        rintro e V5 ⟨cc, G2, rfl, hck⟩
        have HV4 := Lib.hid (below_on HV3.out Hb34.out (Nat.le_refl _))
        have HG2 := Lib.hid (And.intro hck.up hck.bd)
        have Hb45 := Lib.hid hck.bel
        have Hck := Lib.hid (hck.rebase HV4.out)
        have T5 := Lib.hid (bx_below hck.bel T4.out)
        have To5 := Lib.hid (bx_below hck.bel To4.out)
        clear hck
        clear p0 p1 p2 l1
        have p0 := block_cell (T5.out) 0
        have p1 := block_cell (T5.out) 1
        have p2 := block_cell (T5.out) 2
        have l1 := (Array.getElem?_eq_some_iff.1 (T5.out)).1
        simp at p0 p1 p2
        have Hpl2 := Lib.hid (plain13_any V5 now last ao cap X (ThR.below HX.out (below_on HV4.out Hb45.out (Nat.le_refl _))) (by have := Hlt.out; omega))
        unfold dsV at Hpl2
        go_wp2_with fail
        refine (show Calls _ _ _ _ _ from Hpl2.out).mono ?_
        rintro e V6 ⟨ax, cx, rfl, hox, hb6⟩
        unfold dsV
        obtain ⟨V7, hV7⟩ : ∃ V7, V7 = V6.alloc (.cells #[.int .i64 now, .int .u64 last, .slice ax X.length cx] rsT) := ⟨_, rfl⟩
        obtain ⟨q2, hq2⟩ : ∃ p, p = V6.heap.size := ⟨_, rfl⟩
        have hB7 : Below V6.heap.size V6 V7 := by rw [hV7]; exact below_new _ _
        have hx7 : V7.heap[q2]? = some (.cells #[.int .i64 now, .int .u64 last, .slice ax X.length cx] rsT (0, 0)) := by rw [hV7, hq2]; exact heap_alloc_new _ _
        have hb57 := below_on hb6 hB7 (Nat.le_refl _)
        have hrx := rx_own (own_below hox hB7) (slot0_len X)
        have hlx := own_lie hox
        have hq5 : V5.heap.size ≤ q2 := by have := hb6.size; omega
        have hAx : ∀ x, ax = some x → V5.heap.size ≤ x.block := hlx
        have Hq := Lib.hid (And.intro hq5 (Array.getElem?_eq_some_iff.1 hx7).1)
        have HAx := Lib.hid hAx
        have X7 := Lib.hid hx7
        have Hrx := Lib.hid hrx
        have Hb57 := Lib.hid hb57
        have T7 := Lib.hid (bx_below hb57 T5.out)
        have To7 := Lib.hid (bx_below hb57 To5.out)
        have HW7 := Lib.hid (And.intro hV7 hq2)
        have Hdo := Lib.hid (ddo_any W V7 G1 b now last X ax cx ⟨zk, zi, za⟩ (Hbk.out.below (below_on Hb45.out hb57 (Nat.le_refl _))) hrx (fun x e => ⟨hrx.lt x e, fun hG => by have h1 := HG1.out.2 _ hG; have h2 := hlx x e; have h3 := Hb45.out.size; omega⟩) Hoi.out)
        unfold dsV dopVal at Hdo
        simp only at Hdo
        clear hV7 hq2 hB7 hx7 hb57 hrx hlx hq5 hAx hox hb6
        clear p0 p1 p2 l1
        go_upto_region 8 with fail
        rw [← HW7.out.1, ← HW7.out.2]
        have p0 := block_cell X7.out 0
        have p1 := block_cell X7.out 1
        have p2 := block_cell X7.out 2
        have l1 := (Array.getElem?_eq_some_iff.1 X7.out).1
        have e0 := block_cell To7.out 0
        have e1 := block_cell To7.out 1
        have e2 := block_cell To7.out 2
        have l2 := (Array.getElem?_eq_some_iff.1 To7.out).1
        simp at p0 p1 p2 e0 e1 e2
        go_wp2_with fail
        refine Hdo.out.mono ?_
        rintro e V8 ⟨nw', la', Y, G1', ay, cy, hli, rfl, hwo, hr, hA, hg, hF⟩
        unfold dsV
        obtain ⟨Z, hZ⟩ : ∃ Z, Z = V8.alloc (.cells #[.int .i64 nw', .int .u64 la', .slice ay Y.length cy] rsT) := ⟨_, rfl⟩
        obtain ⟨q1, hq1⟩ : ∃ p, p = V8.heap.size := ⟨_, rfl⟩
        have hBZ : Below V8.heap.size V8 Z := by rw [hZ]; exact below_new _ _
        have hxZ : Z.heap[q1]? = some (.cells #[.int .i64 nw', .int .u64 la', .slice ay Y.length cy] rsT (0, 0)) := by rw [hZ, hq1]; exact heap_alloc_new _ _
        have hTwo : Two13 W Z G1' G2 b q1 cc q2 nw' la' Y ay cy now last X ax cx := by
          have s45 := Hb45.out.size
          have s57 := Hb57.out.size
          have s78 := hg.size
          have hG1 : ∀ i, G1 i → i < V4.heap.size := HG1.out.2
          have hG2u : ∀ i, G2 i → V4.heap.size ≤ i := HG2.out.1
          have hG2b : ∀ i, G2 i → i < V5.heap.size := HG2.out.2
          have hG12 : ∀ i, G2 i → ¬ G1 i := fun i h2 h1 => by have := hG1 i h1; have := hG2u i h2; omega
          have hAx1 : RAp V7 G1 ax := fun x e => ⟨Hrx.out.lt x e, fun hG => by have h1 := hG1 _ hG; have h2 := HAx.out x e; omega⟩
          have hq2lt := Hq.out.2
          have hq2b := Hq.out.1
          have hx8 := (hg.block q2 hq2lt (fun h => by have := hG1 q2 h; omega)).trans X7.out
          have hck8 : Bk W V8 G2 cc now last X := (Hck.out.below Hb57.out).beside hg hG12 (fun i h1 => Hbk.out.up i h1)
          have hrx8 := rt_gr Hrx.out hg hAx1
          have hWs := HV4.out.size
          refine ⟨⟨hwo.below hBZ, hr.below hBZ, hA.up hBZ.size, hxZ, fun h => by have := hwo.bd q1 h; omega, by omega⟩, ⟨hck8.below hBZ, hrx8.below hBZ, fun x e => ⟨Rt.lt (hrx8.below hBZ) x e, fun h => by have h1 := hG2b _ h; have h2 := HAx.out x e; omega⟩, bx_below hBZ hx8, fun h => by have := hG2b q2 h; omega, by omega⟩, fun i h1 h2 => ?_, fun x e => ⟨Rt.lt (hr.below hBZ) x e, fun h => ?_⟩, fun h => by have := hG2b q1 h; omega, fun h => ?_, by omega⟩
          · rcases hF i h1 with h3 | h3
            · exact hG12 i h2 h3
            · have := hG2b i h2; omega
          · rcases hli with rfl | hli
            · have h1 := hG2b _ h; have h2 := HAx.out x e; omega
            · have h1 := hG2b _ h; have h2 := hli x e; omega
          · rcases hF q2 h with h3 | h3
            · have := hG1 q2 h3; omega
            · omega
        have HT := Lib.hid hTwo
        have HZ0 := Lib.hid (And.intro hZ hq1)
        clear hBZ hxZ hTwo hli hwo hr hA hg hF hZ hq1 p0 p1 p2 l1 e0 e1 e2 l2
        go_upto_region 9 with fail
        rw [← HZ0.out.1, ← HZ0.out.2]
        have hB0 : Below Z.heap.size Z Z.drew := (Below.refl _ Z).drew
        have HB0 := Lib.hid hB0
        have hld : ∀ W', Below Z.heap.size Z W' → (Instr.loadAt rsT (.pointer (some ⟨q1, 0, none⟩))).run Try.prog W' = .ok (.agg #[.int .i64 nw', .int .u64 la', .slice ay Y.length cy]) W' ∧ (Instr.loadAt rsT (.pointer (some ⟨q2, 0, none⟩))).run Try.prog W' = .ok (.agg #[.int .i64 now, .int .u64 last, .slice ax X.length cx]) W' := fun W' hw => ⟨ldDs (bx_below hw HT.out.fst.bx) _ _ _ rfl, ldDs (bx_below hw HT.out.snd.bx) _ _ _ rfl⟩
        have Hld := Lib.hid hld
        have HYl := Lib.hid HT.out.fst.wo.okX.2.2.2.2
        have HXl := Lib.hid HT.out.snd.wo.okX.2.2.2.2
        clear hld hB0
        refine wp_region_held_drew (S := fun W' => Below Z.heap.size Z W') (by kernel_rfl) HB0.out (fun hHeld => ?_)
        refine wpAnyH_take (i := 0) (v := ?_) rfl (by kernel_rfl) (by kernel_rfl) (by kernel_rfl) (fun _ _ _ h => h) (Or.inl ⟨by rfl, ?_⟩) (by assumption) ?_
        rotate_left
        · intro w8 hSw; clear hSw; go_simp; (try with_reducible rfl)
        simp only [Act.put, List.getElem_toArray, List.getElem_cons_zero, List.getElem_cons_succ, List.setIfInBounds_toArray, List.set_cons_zero, List.set_cons_succ]
        refine wpAnyH_take (i := 1) (v := ?_) rfl (by kernel_rfl) (by kernel_rfl) (by kernel_rfl) (fun _ _ _ h => h) (Or.inl ⟨by rfl, ?_⟩) (by assumption) ?_
        rotate_left
        · intro w8 hSw; clear hSw; go_simp; (try with_reducible rfl)
        simp only [Act.put, List.getElem_toArray, List.getElem_cons_zero, List.getElem_cons_succ, List.setIfInBounds_toArray, List.set_cons_zero, List.set_cons_succ]
        refine wpAnyH_take (i := 2) (v := ?_) rfl (by kernel_rfl) (by kernel_rfl) (by kernel_rfl) (fun _ _ _ h => h) (Or.inl ⟨by rfl, ?_⟩) (by assumption) ?_
        rotate_left
        · intro w8 hSw; clear hSw; go_simp; (try with_reducible rfl)
        simp only [Act.put, List.getElem_toArray, List.getElem_cons_zero, List.getElem_cons_succ, List.setIfInBounds_toArray, List.set_cons_zero, List.set_cons_succ]
        refine wpAnyH_take (i := 3) (v := ?_) rfl (by kernel_rfl) (by kernel_rfl) (by kernel_rfl) (fun _ _ _ h => h) (Or.inl ⟨by rfl, ?_⟩) (by assumption) ?_
        rotate_left
        · intro w8 hSw; clear hSw; go_simp; (try with_reducible rfl)
        simp only [Act.put, List.getElem_toArray, List.getElem_cons_zero, List.getElem_cons_succ, List.setIfInBounds_toArray, List.set_cons_zero, List.set_cons_succ]
        refine wpAnyH_take (i := 6) (v := .agg #[.int .i64 now, .int .u64 last, .slice ax X.length cx]) rfl (by kernel_rfl) (by kernel_rfl) (by kernel_rfl) (fun _ _ _ h => h) (Or.inl ⟨by rfl, ?_⟩) (by assumption) ?_
        · intro w8 hSw; exact ld_takeT rfl (Hld.out w8 hSw).2 rfl
        simp only [Act.put, List.getElem_toArray, List.getElem_cons_zero, List.getElem_cons_succ, List.setIfInBounds_toArray, List.set_cons_zero, List.set_cons_succ]
        refine wpAnyH_ready (rs := [4]) (by kernel_rfl) (by simp) ?_
        refine AllReadyH.cons rfl (fun K hK => ?_) AllReadyH.nil
        go_simp
        go_at_call 13
        refine (bstate_o (HT.out.snd.wo.below HB0.out)).mono ?_
        rintro e U2 ⟨a2, c2, rfl, ho2, hb2⟩; have hB2 := below_on HB0.out hb2 (Nat.le_refl _)
        refine hK.out _ _ hB2 (fun hHeld => ?_)
        clear hK K
        try simp only [Act.put, List.getElem_toArray, List.getElem_cons_zero, List.getElem_cons_succ, List.setIfInBounds_toArray, List.set_cons_zero, List.set_cons_succ]
        refine wpAnyH_ready (rs := [5]) (by kernel_rfl) (by simp) ?_
        refine AllReadyH.cons rfl (fun K hK => ?_) AllReadyH.nil
        go_simp
        go_at_call 16
        refine (plain13_any U2 now last a2 c2 X (Tt.of_own ho2).thr (by have := HXl.out; omega)).mono ?_
        rintro e U3 ⟨a3, c3, rfl, ho3, hb3⟩; have hB3 := below_on hB2 hb3 (Nat.le_refl _)
        refine hK.out _ _ hB3 (fun hHeld => ?_)
        clear hK K
        try simp only [Act.put, List.getElem_toArray, List.getElem_cons_zero, List.getElem_cons_succ, List.setIfInBounds_toArray, List.set_cons_zero, List.set_cons_succ]
        refine wpAnyH_ready (rs := [7]) (by kernel_rfl) (by simp) ?_
        refine AllReadyH.cons rfl (fun K hK => ?_) AllReadyH.nil
        go_simp
        go_at_call 19
        refine (rsame13_eq U3 now last a3 c3 X ax cx (rx_own ho3 (slot0_len X)) (HT.out.snd.rt.below hB3) (by have := HXl.out; omega)).mono ?_
        rintro e U4 ⟨rfl, hb4⟩; have hB4 := below_on hB3 hb4 (Nat.le_refl _)
        refine hK.out _ _ hB4 (fun hHeld => ?_)
        clear hK K
        try simp only [Act.put, List.getElem_toArray, List.getElem_cons_zero, List.getElem_cons_succ, List.setIfInBounds_toArray, List.set_cons_zero, List.set_cons_succ]
        refine wpAnyH_take (i := 8) (v := ?_) rfl (by kernel_rfl) (by kernel_rfl) (by kernel_rfl) (fun _ _ _ h => h) (Or.inl ⟨by rfl, ?_⟩) (by assumption) ?_
        rotate_left
        · intro w8 hSw; clear hSw; go_simp; (try with_reducible rfl)
        simp only [Act.put, List.getElem_toArray, List.getElem_cons_zero, List.getElem_cons_succ, List.setIfInBounds_toArray, List.set_cons_zero, List.set_cons_succ]
        refine wpAnyH_take (i := 9) (v := ?_) rfl (by kernel_rfl) (by kernel_rfl) (by kernel_rfl) (fun _ _ _ h => h) (Or.inl ⟨by rfl, ?_⟩) (by assumption) ?_
        rotate_left
        · intro w8 hSw; clear hSw; go_simp; (try with_reducible rfl)
        simp only [Act.put, List.getElem_toArray, List.getElem_cons_zero, List.getElem_cons_succ, List.setIfInBounds_toArray, List.set_cons_zero, List.set_cons_succ]
        refine wpAnyH_take (i := 10) (v := ?_) rfl (by kernel_rfl) (by kernel_rfl) (by kernel_rfl) (fun _ _ _ h => h) (Or.inl ⟨by rfl, ?_⟩) (by assumption) ?_
        rotate_left
        · intro w8 hSw; clear hSw; go_simp; (try with_reducible rfl)
        simp only [Act.put, List.getElem_toArray, List.getElem_cons_zero, List.getElem_cons_succ, List.setIfInBounds_toArray, List.set_cons_zero, List.set_cons_succ]
        refine wpAnyH_take (i := 11) (v := ?_) rfl (by kernel_rfl) (by kernel_rfl) (by kernel_rfl) (fun _ _ _ h => h) (Or.inl ⟨by rfl, ?_⟩) (by assumption) ?_
        rotate_left
        · intro w8 hSw; clear hSw; go_simp; (try with_reducible rfl)
        simp only [Act.put, List.getElem_toArray, List.getElem_cons_zero, List.getElem_cons_succ, List.setIfInBounds_toArray, List.set_cons_zero, List.set_cons_succ]
        refine wpAnyH_take (i := 14) (v := .agg #[.int .i64 nw', .int .u64 la', .slice ay Y.length cy]) rfl (by kernel_rfl) (by kernel_rfl) (by kernel_rfl) (fun _ _ _ h => h) (Or.inl ⟨by rfl, ?_⟩) (by assumption) ?_
        · intro w8 hSw; exact ld_takeT rfl (Hld.out w8 hSw).1 rfl
        simp only [Act.put, List.getElem_toArray, List.getElem_cons_zero, List.getElem_cons_succ, List.setIfInBounds_toArray, List.set_cons_zero, List.set_cons_succ]
        refine wpAnyH_ready (rs := [12]) (by kernel_rfl) (by simp) ?_
        refine AllReadyH.cons rfl (fun K hK => ?_) AllReadyH.nil
        go_simp
        go_at_call 13
        refine (bstate_o (HT.out.fst.wo.below hB4)).mono ?_
        rintro e U5 ⟨a5, c5, rfl, ho5, hb5⟩; have hB5 := below_on hB4 hb5 (Nat.le_refl _)
        refine hK.out _ _ hB5 (fun hHeld => ?_)
        clear hK K
        try simp only [Act.put, List.getElem_toArray, List.getElem_cons_zero, List.getElem_cons_succ, List.setIfInBounds_toArray, List.set_cons_zero, List.set_cons_succ]
        refine wpAnyH_ready (rs := [13]) (by kernel_rfl) (by simp) ?_
        refine AllReadyH.cons rfl (fun K hK => ?_) AllReadyH.nil
        go_simp
        go_at_call 16
        refine (plain13_any U5 nw' la' a5 c5 Y (Tt.of_own ho5).thr (by have := HYl.out; omega)).mono ?_
        rintro e U6 ⟨a6, c6, rfl, ho6, hb6⟩; have hB6 := below_on hB5 hb6 (Nat.le_refl _)
        refine hK.out _ _ hB6 (fun hHeld => ?_)
        clear hK K
        try simp only [Act.put, List.getElem_toArray, List.getElem_cons_zero, List.getElem_cons_succ, List.setIfInBounds_toArray, List.set_cons_zero, List.set_cons_succ]
        refine wpAnyH_ready (rs := [15]) (by kernel_rfl) (by simp) ?_
        refine AllReadyH.cons rfl (fun K hK => ?_) AllReadyH.nil
        go_simp
        go_at_call 19
        refine (rsame13_eq U6 nw' la' a6 c6 Y ay cy (rx_own ho6 (slot0_len Y)) (HT.out.fst.rt.below hB6) (by have := HYl.out; omega)).mono ?_
        rintro e U7 ⟨rfl, hb7⟩; have hB7 := below_on hB6 hb7 (Nat.le_refl _)
        refine hK.out _ _ hB7 (fun hHeld => ?_)
        clear hK K
        try simp only [Act.put, List.getElem_toArray, List.getElem_cons_zero, List.getElem_cons_succ, List.setIfInBounds_toArray, List.set_cons_zero, List.set_cons_succ]
        refine wpAnyH_take (i := 16) (v := ?_) rfl (by kernel_rfl) (by kernel_rfl) (by kernel_rfl) (fun _ _ _ h => h) (Or.inl ⟨by rfl, ?_⟩) (by assumption) ?_
        rotate_left
        · intro w8 hSw; clear hSw; go_simp; (try with_reducible rfl)
        simp only [Act.put, List.getElem_toArray, List.getElem_cons_zero, List.getElem_cons_succ, List.setIfInBounds_toArray, List.set_cons_zero, List.set_cons_succ]
        refine wpAnyH_take (i := 17) (v := ?_) rfl (by kernel_rfl) (by kernel_rfl) (by kernel_rfl) (fun _ _ _ h => h) (Or.inl ⟨by rfl, ?_⟩) (by assumption) ?_
        rotate_left
        · intro w8 hSw; clear hSw; go_simp; (try with_reducible rfl)
        simp only [Act.put, List.getElem_toArray, List.getElem_cons_zero, List.getElem_cons_succ, List.setIfInBounds_toArray, List.set_cons_zero, List.set_cons_succ]
        refine wpAnyH_done (by kernel_rfl) ?_ _
        have HT7 := Lib.hid (HT.out.below hB7)
        clear hB2 hB3 hB4 hB5 hB6 hB7 hb2 hb3 hb4 hb5 hb6 hb7 ho2 ho3 ho5 ho6 hHeld Hld
        go_wp2_with fail
        go_loopw [70] (fun u wr => ∃ (i : Nat) (G2 : Nat → Prop) (nw la : Int) (X : List Th) (a : Option Addr) (c : Nat), u = .int .i64 (i : Nat) ∧ i ≤ l.length ∧ Hid (Two13 W wr G1' G2 b q1 cc q2 nw' la' Y ay cy nw la X a c)) (fun u _ => l.length - (intOf u).toNat)
        case atStart => exact ⟨0, G2, now, last, X, ax, cx, rfl, Nat.zero_le _, HT7⟩
        case round =>
          obtain ⟨i, G, nw, la, X, a, c, rfl, hi, htw⟩ := hrel
          by_cases hil : i < l.length
          · obtain ⟨x1, x2⟩ := i_nums i l.length hil
            obtain ⟨bx, fx, rfl, hcl⟩ := DOps.get (Hs.out.below htw.out.fst.wo.bel) i hil
            have c0 := hcl 0 (by decide)
            have c1 := hcl 1 (by decide)
            have c2 := hcl 2 (by decide)
            obtain ⟨y, hy⟩ : ∃ y, y = l[i] := ⟨_, rfl⟩
            have hyo : DOpOk y := by rw [hy]; exact Hok.out _ (List.getElem_mem hil)
            rw [← hy] at c0 c1 c2
            obtain ⟨ok, oi, oa⟩ := y
            simp [dopCells] at c0 c1 c2
            have hid := hyo.1
            have hbx := cell?_lt c0
            have w1 : wrap64 ((i : Int) + 1) = (i : Int) + 1 := IntWalk.wrap64_in _ (by have := Hll.out; omega)
            have Hi := Lib.hid hil
            have HW1 := Lib.hid w1
            have g0 := block_cell htw.out.snd.bx 0
            have g1 := block_cell htw.out.snd.bx 1
            have g2 := block_cell htw.out.snd.bx 2
            have gl := (Array.getElem?_eq_some_iff.1 htw.out.snd.bx).1
            simp at g0 g1 g2
            obtain ⟨V0, hV0⟩ : ∃ V0, V0 = wr.alloc (.cells #[.int .i64 ok, .int .u64 oi, .int .i64 oa] dopT) := ⟨_, rfl⟩
            obtain ⟨q, hq⟩ : ∃ q, q = wr.heap.size := ⟨_, rfl⟩
            have hB0 : Below wr.heap.size wr V0 := by rw [hV0]; exact below_new _ _
            have Hp0 := Lib.hid (htw.out.below hB0)
            have Hdo := Lib.hid (ddo_any W V0 G cc nw la X a c ⟨ok, oi, oa⟩ Hp0.out.snd.wo Hp0.out.snd.rt Hp0.out.snd.ap hid)
            unfold dsV dopVal at Hdo
            simp only at Hdo
            have HW0 := Lib.hid (And.intro hV0 hq)
            clear hil hi hyo hcl hy hid hB0 hV0 hq w1
            go_wp2_with fail
            rw [← HW0.out.1, ← HW0.out.2]
            refine Hdo.out.mono ?_
            rintro e V1 ⟨nx', lx', X', G', a', c', -, rfl, hwo, hr, hA, hg, hF⟩
            unfold dsV
            obtain ⟨hxV, U, hU, htw'⟩ := Hp0.out.right hwo hr hA hg hF
            have y0 := block_cell hxV 0
            have y1 := block_cell hxV 1
            have y2 := block_cell hxV 2
            have f0 := block_free hxV 0
            have f1 := block_free hxV 1
            have f2 := block_free hxV 2
            have l3 := (Array.getElem?_eq_some_iff.1 hxV).1
            simp at y0 y1 y2 f0 f1 f2
            have HU := Lib.hid hU
            have Htw' := Lib.hid htw'
            clear hU hwo hr hA hg hF hxV c0 c1 c2 g0 g1 g2 gl htw' hbx htw
            go_upto_region 16 with fail
            rw [← HU.out]
            obtain ⟨Z, hZ⟩ : ∃ Z, Z = U.alloc (.cells #[.int .i64 nx', .int .u64 lx', .slice a' X'.length c'] rsT) := ⟨_, rfl⟩
            have hBZ : Below U.heap.size U Z := by rw [hZ]; exact below_new _ _
            have HZ := Lib.hid (Htw'.out.below hBZ)
            have w1 := HW1.out
            rw [← hZ]
            clear hZ hBZ y0 y1 y2 f0 f1 f2 l3
            go_wp2_with fail
            refine ⟨?_, ?measure⟩
            (repeat apply Exists.intro)
            refine ⟨?rel, rfl⟩
            case rel => exact ⟨i + 1, G', nx', lx', X', a', c', by first | rfl | rw [w1]; rfl, Hi.out, HZ⟩
            case measure =>
              first | rw [w1] | skip
              exact ts_meas l.length i Hi.out
          · obtain rfl : i = l.length := Nat.le_antisymm hi (Nat.le_of_not_lt hil)
            have x1 : ¬ (l.length : Int) < (l.length : Int) := Int.lt_irrefl _
            clear hi hil
            go_upto_region 19 with fail
            have hB0 : Below wr.heap.size wr wr.drew := (Below.refl _ wr).drew
            have HB0 := Lib.hid hB0
            have hld : ∀ W', Below wr.heap.size wr W' → (Instr.loadAt rsT (.pointer (some ⟨q1, 0, none⟩))).run Try.prog W' = .ok (.agg #[.int .i64 nw', .int .u64 la', .slice ay Y.length cy]) W' ∧ (Instr.loadAt rsT (.pointer (some ⟨q2, 0, none⟩))).run Try.prog W' = .ok (.agg #[.int .i64 nw, .int .u64 la, .slice a X.length c]) W' := fun W' hw => ⟨ldDs (bx_below hw htw.out.fst.bx) _ _ _ rfl, ldDs (bx_below hw htw.out.snd.bx) _ _ _ rfl⟩
            have Hld := Lib.hid hld
            have HXl2 := Lib.hid htw.out.snd.wo.okX.2.2.2.2
            have Hbel := Lib.hid htw.out.fst.wo.bel
            clear hld hB0
            refine wp_region_held_drew (S := fun W' => Below wr.heap.size wr W') (by kernel_rfl) HB0.out (fun hHeld => ?_)
            refine wpAnyH_take (i := 0) (v := ?_) rfl (by kernel_rfl) (by kernel_rfl) (by kernel_rfl) (fun _ _ _ h => h) (Or.inl ⟨by rfl, ?_⟩) (by assumption) ?_
            rotate_left
            · intro w8 hSw; clear hSw; go_simp; (try with_reducible rfl)
            simp only [Act.put, List.getElem_toArray, List.getElem_cons_zero, List.getElem_cons_succ, List.setIfInBounds_toArray, List.set_cons_zero, List.set_cons_succ]
            refine wpAnyH_take (i := 3) (v := .agg #[.int .i64 nw, .int .u64 la, .slice a X.length c]) rfl (by kernel_rfl) (by kernel_rfl) (by kernel_rfl) (fun _ _ _ h => h) (Or.inl ⟨by rfl, ?_⟩) (by assumption) ?_
            · intro w8 hSw; exact ld_takeT rfl (Hld.out w8 hSw).2 rfl
            simp only [Act.put, List.getElem_toArray, List.getElem_cons_zero, List.getElem_cons_succ, List.setIfInBounds_toArray, List.set_cons_zero, List.set_cons_succ]
            refine wpAnyH_ready (rs := [1]) (by kernel_rfl) (by simp) ?_
            refine AllReadyH.cons rfl (fun K hK => ?_) AllReadyH.nil
            go_simp
            go_at_call 13
            refine (bstate_o (htw.out.snd.wo.below HB0.out)).mono ?_
            rintro e U2 ⟨a2, c2, rfl, ho2, hb2⟩; have hB2 := below_on HB0.out hb2 (Nat.le_refl _)
            refine hK.out _ _ hB2 (fun hHeld => ?_)
            clear hK K
            try simp only [Act.put, List.getElem_toArray, List.getElem_cons_zero, List.getElem_cons_succ, List.setIfInBounds_toArray, List.set_cons_zero, List.set_cons_succ]
            refine wpAnyH_ready (rs := [2]) (by kernel_rfl) (by simp) ?_
            refine AllReadyH.cons rfl (fun K hK => ?_) AllReadyH.nil
            go_simp
            go_at_call 16
            refine (plain13_any U2 nw la a2 c2 X (Tt.of_own ho2).thr (by have := HXl2.out; omega)).mono ?_
            rintro e U3 ⟨a3, c3, rfl, ho3, hb3⟩; have hB3 := below_on hB2 hb3 (Nat.le_refl _)
            refine hK.out _ _ hB3 (fun hHeld => ?_)
            clear hK K
            try simp only [Act.put, List.getElem_toArray, List.getElem_cons_zero, List.getElem_cons_succ, List.setIfInBounds_toArray, List.set_cons_zero, List.set_cons_succ]
            refine wpAnyH_ready (rs := [4]) (by kernel_rfl) (by simp) ?_
            refine AllReadyH.cons rfl (fun K hK => ?_) AllReadyH.nil
            go_simp
            go_at_call 19
            refine (rsame13_eq U3 nw la a3 c3 X a c (rx_own ho3 (slot0_len X)) (htw.out.snd.rt.below hB3) (by have := HXl2.out; omega)).mono ?_
            rintro e U4 ⟨rfl, hb4⟩; have hB4 := below_on hB3 hb4 (Nat.le_refl _)
            refine hK.out _ _ hB4 (fun hHeld => ?_)
            clear hK K
            try simp only [Act.put, List.getElem_toArray, List.getElem_cons_zero, List.getElem_cons_succ, List.setIfInBounds_toArray, List.set_cons_zero, List.set_cons_succ]
            refine wpAnyH_take (i := 5) (v := ?_) rfl (by kernel_rfl) (by kernel_rfl) (by kernel_rfl) (fun _ _ _ h => h) (Or.inl ⟨by rfl, ?_⟩) (by assumption) ?_
            rotate_left
            · intro w8 hSw; clear hSw; go_simp; (try with_reducible rfl)
            simp only [Act.put, List.getElem_toArray, List.getElem_cons_zero, List.getElem_cons_succ, List.setIfInBounds_toArray, List.set_cons_zero, List.set_cons_succ]
            refine wpAnyH_take (i := 6) (v := ?_) rfl (by kernel_rfl) (by kernel_rfl) (by kernel_rfl) (fun _ _ _ h => h) (Or.inl ⟨by rfl, ?_⟩) (by assumption) ?_
            rotate_left
            · intro w8 hSw; clear hSw; go_simp; (try with_reducible rfl)
            simp only [Act.put, List.getElem_toArray, List.getElem_cons_zero, List.getElem_cons_succ, List.setIfInBounds_toArray, List.set_cons_zero, List.set_cons_succ]
            refine wpAnyH_take (i := 9) (v := .agg #[.int .i64 nw', .int .u64 la', .slice ay Y.length cy]) rfl (by kernel_rfl) (by kernel_rfl) (by kernel_rfl) (fun _ _ _ h => h) (Or.inl ⟨by rfl, ?_⟩) (by assumption) ?_
            · intro w8 hSw; exact ld_takeT rfl (Hld.out w8 hSw).1 rfl
            simp only [Act.put, List.getElem_toArray, List.getElem_cons_zero, List.getElem_cons_succ, List.setIfInBounds_toArray, List.set_cons_zero, List.set_cons_succ]
            refine wpAnyH_ready (rs := [7]) (by kernel_rfl) (by simp) ?_
            refine AllReadyH.cons rfl (fun K hK => ?_) AllReadyH.nil
            go_simp
            go_at_call 13
            refine (bstate_o (htw.out.fst.wo.below hB4)).mono ?_
            rintro e U5 ⟨a5, c5, rfl, ho5, hb5⟩; have hB5 := below_on hB4 hb5 (Nat.le_refl _)
            refine hK.out _ _ hB5 (fun hHeld => ?_)
            clear hK K
            try simp only [Act.put, List.getElem_toArray, List.getElem_cons_zero, List.getElem_cons_succ, List.setIfInBounds_toArray, List.set_cons_zero, List.set_cons_succ]
            refine wpAnyH_ready (rs := [8]) (by kernel_rfl) (by simp) ?_
            refine AllReadyH.cons rfl (fun K hK => ?_) AllReadyH.nil
            go_simp
            go_at_call 16
            refine (plain13_any U5 nw' la' a5 c5 Y (Tt.of_own ho5).thr (by have := HYl.out; omega)).mono ?_
            rintro e U6 ⟨a6, c6, rfl, ho6, hb6⟩; have hB6 := below_on hB5 hb6 (Nat.le_refl _)
            refine hK.out _ _ hB6 (fun hHeld => ?_)
            clear hK K
            try simp only [Act.put, List.getElem_toArray, List.getElem_cons_zero, List.getElem_cons_succ, List.setIfInBounds_toArray, List.set_cons_zero, List.set_cons_succ]
            refine wpAnyH_ready (rs := [10]) (by kernel_rfl) (by simp) ?_
            refine AllReadyH.cons rfl (fun K hK => ?_) AllReadyH.nil
            go_simp
            go_at_call 19
            refine (rsame13_eq U6 nw' la' a6 c6 Y ay cy (rx_own ho6 (slot0_len Y)) (htw.out.fst.rt.below hB6) (by have := HYl.out; omega)).mono ?_
            rintro e U7 ⟨rfl, hb7⟩; have hB7 := below_on hB6 hb7 (Nat.le_refl _)
            refine hK.out _ _ hB7 (fun hHeld => ?_)
            clear hK K
            try simp only [Act.put, List.getElem_toArray, List.getElem_cons_zero, List.getElem_cons_succ, List.setIfInBounds_toArray, List.set_cons_zero, List.set_cons_succ]
            refine wpAnyH_take (i := 11) (v := ?_) rfl (by kernel_rfl) (by kernel_rfl) (by kernel_rfl) (fun _ _ _ h => h) (Or.inl ⟨by rfl, ?_⟩) (by assumption) ?_
            rotate_left
            · intro w8 hSw; clear hSw; go_simp; (try with_reducible rfl)
            simp only [Act.put, List.getElem_toArray, List.getElem_cons_zero, List.getElem_cons_succ, List.setIfInBounds_toArray, List.set_cons_zero, List.set_cons_succ]
            refine wpAnyH_take (i := 12) (v := ?_) rfl (by kernel_rfl) (by kernel_rfl) (by kernel_rfl) (fun _ _ _ h => h) (Or.inl ⟨by rfl, ?_⟩) (by assumption) ?_
            rotate_left
            · intro w8 hSw; clear hSw; go_simp; (try with_reducible rfl)
            simp only [Act.put, List.getElem_toArray, List.getElem_cons_zero, List.getElem_cons_succ, List.setIfInBounds_toArray, List.set_cons_zero, List.set_cons_succ]
            refine wpAnyH_ready (rs := [13]) (by kernel_rfl) (by simp) ?_
            refine AllReadyH.cons rfl (fun K hK => ?_) AllReadyH.nil
            go_simp
            go_at_call 9
            refine (lives13 U7).mono ?_
            rintro e U8 ⟨rfl, hb8⟩; have hB8 := below_on hB7 hb8 (Nat.le_refl _)
            refine hK.out _ _ hB8 (fun hHeld => ?_)
            clear hK K
            try simp only [Act.put, List.getElem_toArray, List.getElem_cons_zero, List.getElem_cons_succ, List.setIfInBounds_toArray, List.set_cons_zero, List.set_cons_succ]
            refine wpAnyH_take (i := 14) (v := ?_) rfl (by kernel_rfl) (by kernel_rfl) (by kernel_rfl) (fun _ _ _ h => h) (Or.inl ⟨by rfl, ?_⟩) (by assumption) ?_
            rotate_left
            · intro w8 hSw; clear hSw; go_simp; (try with_reducible rfl)
            simp only [Act.put, List.getElem_toArray, List.getElem_cons_zero, List.getElem_cons_succ, List.setIfInBounds_toArray, List.set_cons_zero, List.set_cons_succ]
            refine wpAnyH_take (i := 15) (v := ?_) rfl (by kernel_rfl) (by kernel_rfl) (by kernel_rfl) (fun _ _ _ h => h) (Or.inl ⟨by rfl, ?_⟩) (by assumption) ?_
            rotate_left
            · intro w8 hSw; clear hSw; go_simp; (try with_reducible rfl)
            simp only [Act.put, List.getElem_toArray, List.getElem_cons_zero, List.getElem_cons_succ, List.setIfInBounds_toArray, List.set_cons_zero, List.set_cons_succ]
            refine wpAnyH_done (by kernel_rfl) ?_ _
            have HB8 := Lib.hid hB8
            clear hB2 hB3 hB4 hB5 hB6 hB7 hB8 hb2 hb3 hb4 hb5 hb6 hb7 hb8 ho2 ho3 ho5 ho6 hHeld Hld
            go_wp2_with fail
            go_ret
            exact ⟨rfl, below_on Hbel.out HB8.out (Nat.le_refl _)⟩
    · have x1 : (l.length : Int) > 60 := by omega
      have Hlv := Lib.hid (lives13 V1)
      have HV1 := Lib.hid (below_on HB2.out hv1 (Nat.le_refl _))
      clear hlt hll hv1
      go_wp2_with fail
      refine (show Calls _ _ _ _ _ from Hlv.out).mono ?_
      rintro e V6 ⟨rfl, hb6⟩
      go_wp2_with fail
      go_ret
      exact ⟨rfl, below_on HV1.out hb6 (Nat.le_refl _)⟩
  · rw [decide_eq_false hlt]
    have Hlv := Lib.hid (lives13 V1)
    have HV1 := Lib.hid (below_on HB2.out hv1 (Nat.le_refl _))
    clear hlt hv1
    go_wp2_with fail
    refine (show Calls _ _ _ _ _ from Hlv.out).mono ?_
    rintro e V6 ⟨rfl, hb6⟩
    go_wp2_with fail
    go_ret
    exact ⟨rfl, below_on HV1.out hb6 (Nat.le_refl _)⟩
theorem deadlineApart_walk (now last : Int) (ao : Option Addr) (cap : Nat) (X : List Th) (bo : Option Addr) (cb : Nat) (l : List DOp) (o : DOp) (W : World) (h0 : 0 ≤ last) (hX : ThR W ao cap X) (hXok : ∀ t ∈ X, ThOk t) (hs : DOps W bo cb l) (hok : ∀ a ∈ l, DOpOk a) (hoo : DOpOk o) :
    Calls Try.prog 5 #[dsV now last ao X.length cap, .slice bo l.length cb, dopVal o] W fun e W' => e = .returned (.bool true) ∧ Below W.heap.size W W' := deadlineApart_run W now last ao cap X bo cb l o hX hXok h0 hs hok hoo
end Go.Proofs.Ytedlplkomfiahaa
