/- FrameRows: the walk. No statement of the seat is proved here. -/
import Derived.Test.YtinncchnompmhaaFrameAll
import Derived.Test.YtinncchnompmhaaFrameTorn
import Derived.Test.YtinncchnompmhaaGoodQ
namespace Go.Proofs.Ytinncchnompmhaa
set_option linter.unusedVariables false
set_option linter.unusedSimpArgs false
set_option linter.unusedSectionVars false
open Go Go.RowKit Go.Shelf
attribute [local go_sem] Oper.semAt_some

theorem Rw.turned {A B : World} {row : Option Nat} {E : TypeId} {k n cap : Nat} {ao : Option Addr} {rows : List (List Value)} (h : Rw A E k ao n cap rows) (hg : A.grownBy B row) (hr : ∀ r, row = some r → ∃ o : Obj, A.heap[r]? = some o ∧ o.isCells = false) : Rw B E k ao n cap rows :=
  ⟨h.num, h.each, ⟨h.sl.len, h.sl.le, h.sl.max, h.sl.none, fun j u hu => by
    obtain ⟨b, off, e, hc⟩ := h.sl.cell j u hu
    exact ⟨b, off, e, cell_kept hc hg hr⟩⟩, fun b off s e => by
    have ht := h.typ b off s e
    rw [elem?_same (hg.block b (elem?_lt ht) (fun e2 => by
      obtain ⟨o, ho, hc⟩ := hr b e2.symm
      unfold elem? at ht
      rw [ho] at ht
      cases o <;> simp_all [Obj.isCells]))]
    exact ht⟩
theorem news3f {w W : World} {o1 o2 o3 : Obj} (hW : W = ((w.alloc o1).alloc o2).alloc o3) :
    W.heap[w.heap.size]? = some o1 ∧ W.heap[w.heap.size + 1]? = some o2 ∧ W.heap[w.heap.size + 1 + 1]? = some o3 ∧ W.heap.size = w.heap.size + 3 ∧ Below w.heap.size w W := by
  subst hW
  have e1 : (w.alloc o1).heap.size = w.heap.size + 1 := by simp
  have e2 : ((w.alloc o1).alloc o2).heap.size = w.heap.size + 1 + 1 := by simp
  refine ⟨(heap_alloc_old _ _ (by simp; try omega)).trans ((heap_alloc_old _ _ (by simp; try omega)).trans (heap_alloc_new _ _)), ?_, ?_, by simp, ((below_new _ _).alloc (by simp) _).alloc (by simp; try omega) _⟩
  · refine (heap_alloc_old _ _ (by simp; try omega)).trans ?_
    have := heap_alloc_new (w.alloc o1) o2
    rw [e1] at this
    exact this
  · have := heap_alloc_new ((w.alloc o1).alloc o2) o3
    rw [e2] at this
    exact this
theorem blk_turned {A B : World} {row : Option Nat} {k : Nat} {cs : Array Value} {T : TypeId} {m : Nat × Nat} (h : A.heap[k]? = some (.cells cs T m)) (hg : A.grownBy B row) (hr : ∀ r, row = some r → ∃ o : Obj, A.heap[r]? = some o ∧ o.isCells = false) : B.heap[k]? = some (.cells cs T m) :=
  (hg.block k (Array.getElem?_eq_some_iff.1 h).1 (fun e => by
    obtain ⟨o, ho, hc⟩ := hr k e.symm
    rw [ho] at h
    cases h
    cases hc)).trans h
/-- what a round of the law keeps -/
structure RowsAt (w : World) (a B3 : Nat) (ar : Option Addr) (cr : Nat) (L : List (UInt8 × List UInt8)) (n : Nat) (W : World) : Prop where
  k2 : W.heap[a]? = some (.cells #[.bool false] 4 (0, 0))
  k3 : W.heap[B3]? = some (.cells #[.slice ar L.length cr] 50 (0, 0))
  k6 : W.heap[B3 + 1]? = some (.cells #[.int .i64 (n : Nat)] 3 (0, 0))
  rw : Rw W 57 2 ar L.length cr (L.map frCells)
  bel : Below a w W
theorem RowsAt.turned {w : World} {a B3 : Nat} {ar : Option Addr} {cr n : Nat} {L : List (UInt8 × List UInt8)} {A B : World} {row : Option Nat} (h : RowsAt w a B3 ar cr L n A) (haw : a ≤ w.heap.size) (hg : A.grownBy B row) (hr : ∀ r, row = some r → a ≤ r ∧ ∃ o : Obj, A.heap[r]? = some o ∧ o.isCells = false) : RowsAt w a B3 ar cr L n B :=
  ⟨blk_turned h.k2 hg (fun r e => (hr r e).2), blk_turned h.k3 hg (fun r e => (hr r e).2), blk_turned h.k6 hg (fun r e => (hr r e).2), h.rw.turned hg (fun r e => (hr r e).2), h.bel.grown hg (Nat.le_trans haw h.bel.size) (fun k e => (hr k e).1)⟩
theorem RowsAt.step {w : World} {a B3 : Nat} {ar : Option Addr} {cr n : Nat} {L : List (UInt8 × List UInt8)} {W : World} (h : RowsAt w a B3 ar cr L n W) (haw : a ≤ w.heap.size) (hab : a < B3) (q : Nat) :
    RowsAt w a B3 ar cr L (n + 1) ((W.drewN q).setCell ⟨B3 + 1, 0, none⟩ (.int .i64 ((n : Int) + 1))) ∧ Below a W ((W.drewN q).setCell ⟨B3 + 1, 0, none⟩ (.int .i64 ((n : Int) + 1))) ∧ KeepsOthers W ((W.drewN q).setCell ⟨B3 + 1, 0, none⟩ (.int .i64 ((n : Int) + 1))) := by
  have hg : (W.drewN q).grownBy ((W.drewN q).setCell ⟨B3 + 1, 0, none⟩ (.int .i64 ((n : Int) + 1))) (some (B3 + 1)) := grown_set _ _ _ _
  have hbel : Below a W ((W.drewN q).setCell ⟨B3 + 1, 0, none⟩ (.int .i64 ((n : Int) + 1))) := (below_drewN (Below.refl a W) q).setCell (p := ⟨B3 + 1, 0, none⟩) (by simp; omega) _
  have e6 : W.heap[B3 + 1]? = some (.cells #[.int .i64 (n : Nat)] 3 (0, 0)) := h.k6
  have s6 := (Array.getElem?_eq_some_iff.1 h.k6).1
  have s3 := (Array.getElem?_eq_some_iff.1 h.k3).1
  refine ⟨⟨(hg.block a (by show a < W.heap.size; omega) (by simp; omega)).trans h.k2, (hg.block B3 (by show B3 < W.heap.size; omega) (by simp)).trans h.k3, ?_, ?_, ?_⟩, hbel, ?_⟩
  · have := block_set (w := W.drewN q) e6 0 (.int .i64 ((n : Int) + 1))
    simpa using this
  · exact (h.rw.below (below_drewN (Below.refl _ W) q)).grown hg (elem?_of (w := W.drewN q) e6) (by decide)
  · exact h.bel.trans hbel
  · exact (KeepsOthers.trans (B := W.drewN q) ⟨Nat.le_refl _, fun _ _ h _ => h⟩ (KeepsOthers.setCell _ _ _))
theorem frameRows_far (ao : Option Addr) (cap : Nat) (b : List UInt8) (w : World) (h : 3000 < b.length) :
    CallsIn Fence.wide 3 Try.prog 10 #[.slice ao b.length cap] w fun e w' => e = .returned (.bool true) ∧ Below w.heap.size w w' := by
  have h3 : (3000 : Int) < (b.length : Int) := by omega
  refine callsIn_of_wp_marks Try.func10 rfl trivial ?_ rfl
  simp only [Try.ntmps10, List.size_toArray, List.length_cons, List.length_nil, Nat.reduceAdd, Nat.reduceSub, Array.replicate_succ, Array.replicate_zero, List.push_toArray, List.append_toArray, List.nil_append, List.cons_append]
  gi_wp2_with fail
  refine ⟨trivial, ?_⟩
  gi_wp2_with fail
  refine ⟨trivial, ?_⟩
  refine (callsIn_wide.2 (flives_any _)).mono ?_
  rintro e w1 ⟨rfl, hB1⟩
  have hB0 := below_new w (.cells #[.bool false] 4)
  have k0 := heap_alloc_new w (.cells #[.bool false] 4)
  have hz : (w.alloc (.cells #[.bool false] 4)).heap.size = w.heap.size + 1 := World.size_alloc _ _
  have k1 := (hB1.block _ (by omega)).trans k0
  have c2 : w1.cell? ⟨w.heap.size, 0, none⟩ = some (.bool false) := block_cell k1 0
  have f2 := block_free k1 0
  have hB := below_on hB0 hB1 (by omega)
  gi_wp2_with fail
  refine ⟨.bool true, ?_, rfl, hB.setCell (p := ⟨w.heap.size, 0, none⟩) (Nat.le_refl _) _⟩
  have hc5 := World.cell?_setCell_same' w1 ⟨w.heap.size, 0, none⟩ (.bool true) (by rw [c2]; rfl)
  simp [results, Try.f10, go_sem, hc5]
set_option maxRecDepth 100000 in
set_option maxHeartbeats 4000000 in
theorem frameRows_in (ao : Option Addr) (cap : Nat) (b : List UInt8) (w : World) (hl : b.length ≤ 3000) (hb : Bs w ao cap b) :
    CallsIn Fence.wide 3 Try.prog 10 #[.slice ao b.length cap] w fun e w' => e = .returned (.bool true) ∧ Below w.heap.size w w' := by
  have h3 : ¬ (3000 : Int) < (b.length : Int) := by omega
  refine callsIn_of_wp_marks Try.func10 rfl trivial ?_ rfl
  simp only [Try.ntmps10, List.size_toArray, List.length_cons, List.length_nil, Nat.reduceAdd, Nat.reduceSub, Array.replicate_succ, Array.replicate_zero, List.push_toArray, List.append_toArray, List.nil_append, List.cons_append]
  gi_wp2_with fail
  refine ⟨trivial, ?_⟩
  refine (callsIn_wide.2 (flives_any _)).mono ?_
  rintro e w1 ⟨rfl, hB1⟩
  have hb1 := (hb.below (below_new _ _)).below hB1
  have hl1 := hB1.size
  gi_wp2_with fail
  refine ⟨trivial, ?_⟩
  refine (callsIn_wide.2 (refAll_any ao cap b w1 (by omega) hb1)).mono ?_
  rintro e w2 ⟨ar, cr, rfl, hrw, hB2⟩
  obtain ⟨L, hL⟩ : ∃ L, L = Fr.all b := ⟨_, rfl⟩
  obtain ⟨E1, hE1⟩ : ∃ E1, E1 = Fr.endAt b := ⟨_, rfl⟩
  obtain ⟨E2, hE2⟩ : ∃ E2, E2 = (if Fr.endAt b < b.length then (Fr.take (b.drop (Fr.endAt b))).err else 0) := ⟨_, rfl⟩
  rw [← hE2, ← hE1, ← hL]
  rw [← hL] at hrw
  have HL := Lib.hid hL
  have HE1 := Lib.hid hE1
  have HE2 := Lib.hid hE2
  clear hL hE1 hE2
  gi_wp2_with fail
  refine ⟨trivial, ?_⟩
  refine (each_any ao b.length cap _).mono ?_
  rintro e w' ⟨rfl, rfl⟩
  have hnf : ∀ (W : World) (a : Array Value), (binOp .eql 54 (.func (.func 34) #[] a) .nilFunc).run Try.prog W = .ok (.bool false) W := fun _ _ => by kernel_rfl
  gi_wp2_with fail
  obtain ⟨W4, hW4⟩ : ∃ W4, W4 = ((w2.alloc (.cells #[.slice ar L.length cr] 50)).alloc (.cells #[.int .i64 0] 3)).alloc (.cells #[.slice ao b.length cap] 25) := ⟨_, rfl⟩
  obtain ⟨k3, k6, kc, kz, hB4⟩ := news3f hW4
  have hz2 := hB2.size
  simp only [World.size_alloc] at hl1
  have hBw : Below w.heap.size w W4 := below_on (below_on (below_on (below_new w (.cells #[.bool false] 4)) hB1 (by simp)) hB2 (by omega)) hB4 (by omega)
  have k2 : W4.heap[w.heap.size]? = some (.cells #[.bool false] 4) := (hB4.block _ (by omega)).trans ((hB2.block _ (by omega)).trans ((hB1.block _ (by simp)).trans (heap_alloc_new _ _)))
  rw [← hW4]
  clear hW4
  have c2 : W4.cell? ⟨w.heap.size, 0, none⟩ = some (.bool false) := block_cell k2 0
  have c3 : W4.cell? ⟨w2.heap.size, 0, none⟩ = some (.slice ar L.length cr) := block_cell k3 0
  have c6 : W4.cell? ⟨w2.heap.size + 1, 0, none⟩ = some (.int .i64 0) := block_cell k6 0
  have cc : W4.cell? ⟨w2.heap.size + 1 + 1, 0, none⟩ = some (.slice ao b.length cap) := block_cell kc 0
  have hI0 : RowsAt w w.heap.size w2.heap.size ar cr L 0 W4 := ⟨k2, k3, k6, hrw.below hB4, hBw⟩
  refine wpIn_range_good (by omega) (gf := 34) (lb := #[.pointer (some ⟨w2.heap.size + 1 + 1, 0, none⟩)]) rfl (enters_of Try.func34 (by kernel_rfl) rfl)
    (each2_good (w2.heap.size + 1 + 1) w.heap.size ao cap b (by omega) W4 (by omega) (by omega) cc ⟨hb.below hBw, bs_low hb⟩) (by omega) (fun _ => rfl) (FbGood.put b)
    (fun pre W => RowsAt w w.heap.size w2.heap.size ar cr L pre.length W) (fun _ _ _ => False)
    (fun s A B row hs hg hr => hs.turned (Nat.le_refl _) hg fun r e => ⟨by have := (hr r e).1; omega, (hr r e).2⟩) (fun _ _ _ _ _ hs _ _ => hs) hI0
    (fun x => { tmps := #[.slice ao b.length cap, undef, .pointer (some ⟨w.heap.size, 0, none⟩), .pointer (some ⟨w2.heap.size, 0, none⟩), .int .i64 E1, .int .i64 E2, .pointer (some ⟨w2.heap.size + 1, 0, none⟩), .func (.func 34) #[] #[.pointer (some ⟨w2.heap.size + 1 + 1, 0, none⟩)], .int .u8 (x.kind.toNat : Nat), .slice x.ao x.body.length x.cap, undef, undef, .slice ao b.length cap, .int .i64 b.length, .bool false, .bool false, .bool true, .bool false, .bool false, undef, .tuple #[.slice ar L.length cr, .int .i64 E1, .int .i64 E2], .slice ao b.length cap, .tuple #[.slice ar L.length cr, .int .i64 E1, .int .i64 E2], .slice ar L.length cr, .int .i64 E1, .int .i64 E2, .slice ao b.length cap, .func (.func 34) #[] #[.pointer (some ⟨w2.heap.size + 1 + 1, 0, none⟩)], .func (.func 34) #[] #[.pointer (some ⟨w2.heap.size + 1 + 1, 0, none⟩)], .bool false, .func (.func 34) #[] #[.pointer (some ⟨w2.heap.size + 1 + 1, 0, none⟩)], .int .u8 (x.kind.toNat : Nat), .slice x.ao x.body.length x.cap, undef, undef, undef, undef, undef, undef, undef, undef, undef, undef, undef, undef, undef, undef, undef, undef, undef, undef, undef, undef, undef, undef, undef, undef, undef, undef, undef, undef, undef, undef, undef, undef, undef, undef, undef, undef, undef, undef, undef, undef, undef, undef, undef, undef], defers := [] }) ?assign ?body ?done ?stop
  case assign =>
    intro l x W K hK
    simp only [encFb]
    gi_wp2
    exact hK
  case body =>
    rintro l pre x W hl hr hI hlen ⟨hbx, hpre⟩
    have hcv := fun m => conv_any (hbx.below (below_drewN (Below.refl W.heap.size W) m))
    have hrw := hI.rw
    have Hst := Lib.hid (fun q => hI.step (Nat.le_refl _) (by omega) q)
    have c2 : W.cell? ⟨w.heap.size, 0, none⟩ = some (.bool false) := block_cell hI.k2 0
    have c3 : W.cell? ⟨w2.heap.size, 0, none⟩ = some (.slice ar L.length cr) := block_cell hI.k3 0
    have c6 : W.cell? ⟨w2.heap.size + 1, 0, none⟩ = some (.int .i64 (pre.length : Nat)) := block_cell hI.k6 0
    have f6 := block_free hI.k6 0
    clear hI
    rw [← HL.out] at hpre
    have hlt : pre.length < L.length := by have := hpre.length_le; simp at this; omega
    have hat : L[pre.length] = (x.kind, x.body) := by
      have h1 := hpre.getElem (i := pre.length) (by simp)
      simp [Fb.key] at h1
      exact h1.symm
    obtain ⟨pb, pf, rfl, hrc⟩ := hrw.get (by decide) pre.length hlt
    have r0 := hrc 0 (by simp [frCells])
    have r1 := hrc 1 (by simp [frCells])
    simp only [List.getElem_map, hat, frCells, List.getElem_cons_zero, List.getElem_cons_succ] at r0 r1
    rw [Nat.add_zero] at r0
    clear hrc
    have i0 : (0 : Int) ≤ (pre.length : Int) := by omega
    have i1 : (pre.length : Int) < (L.length : Int) := by omega
    have i2 : (pre.length : Int) ≤ 10000 := by have := HL.out; have := Fr.all_len b; rw [← HL.out] at this; omega
    have i3 : ¬ L.length ≤ pre.length := by omega
    have nes : ∀ (s : ByteArray) (w : World), (binOp .neq 9 (.string s) (.string s)).run Try.prog w = .ok (.bool false) w := fun s w => by simp [go_sem]
    have Hrw := Lib.hid hrw
    have Hpre := Lib.hid hpre
    have Hat := Lib.hid hat
    clear hrw hpre hat
    gi_wp2_with fail
    refine wpIn_quiet_round (by kernel_rfl) (by kernel_rfl) (by kernel_rfl) ?_
    repeat (gi_big_quiet_step (fail))
    refine wpQuietIn_nil ?_
    intro _ hw'
    obtain ⟨nq, hw''⟩ := hw'
    subst hw''
    gi_wp2_with fail
    obtain ⟨s1, s2, s3⟩ := Hst.out nq
    refine ⟨s3.from _, s2, ?_⟩
    rw [List.length_append]
    exact s1
  case done =>
    rintro D ys W hD hys hI hK
    have hlen : ys.length = L.length := by have := congrArg List.length hys; rw [← HL.out] at this; simpa using this
    rw [hlen] at hI
    have c2 : W.cell? ⟨w.heap.size, 0, none⟩ = some (.bool false) := block_cell hI.k2 0
    have c3 : W.cell? ⟨w2.heap.size, 0, none⟩ = some (.slice ar L.length cr) := block_cell hI.k3 0
    have c6 : W.cell? ⟨w2.heap.size + 1, 0, none⟩ = some (.int .i64 (L.length : Nat)) := block_cell hI.k6 0
    have f2 := block_free hI.k2 0
    have hbW := hb.below hI.bel
    have hWs := hI.bel.size
    gi_wp2_with fail
    refine ⟨trivial, ?_⟩
    refine (callsIn_wide.2 (end_any ao cap b W (by omega) hbW)).mono ?_
    rintro e w5 ⟨rfl, hB5⟩
    rw [← HE2.out, ← HE1.out]
    have hz5 := hB5.size
    have hDW : D < W.heap.size := (Array.getElem?_eq_some_iff.1 hK).1
    have hD1 : w2.heap.size + 3 ≤ D := by omega
    have d2 := (hB5.cell (cell?_lt c2)).trans c2
    have d3 := (hB5.cell (cell?_lt c3)).trans c3
    have d6 := (hB5.cell (cell?_lt c6)).trans c6
    have g2 := (hB5.frozen (p := ⟨w.heap.size, 0, none⟩) (cell?_lt c2)).trans f2
    have hK2 : w5.heap[D]? = some (Obj.deferred (some [])) := (hB5.block D hDW).trans hK
    gi_wp2_with fail
    have hK' := (KeepsOthers.setCell w5 ⟨w.heap.size, 0, none⟩ (.bool true)).same D _ hK2 rfl
    refine ⟨by simp, .inl ⟨_, _, rfl, run_takeDeferred hK', ?_⟩⟩
    have hc5 := cell_kept (World.cell?_setCell_same' w5 ⟨w.heap.size, 0, none⟩ (.bool true) (by rw [d2]; rfl)) (grownBy_putObj' _ D (.deferred none)) (fun r e => by cases e; exact ⟨_, hK', rfl⟩)
    refine ⟨.bool true, ?_, ?_⟩
    rotate_left
    · refine ⟨rfl, ((hI.bel.trans (hB5.mono hWs)).setCell (p := ⟨w.heap.size, 0, none⟩) (Nat.le_refl _) _).trans (belowK_b (w := w) (Nat.le_refl _) _ D _ _ (by omega) hK' rfl rfl)⟩
    simp [results, Try.f10, go_sem, hc5]
  case stop =>
    rintro D c pre W _ _ h _
    exact h.elim
theorem frameRows_walk (ao : Option Addr) (cap : Nat) (b : List UInt8) (w : World) (hb : Bs w ao cap b) :
    Calls Try.prog 10 #[.slice ao b.length cap] w fun e w' => e = .returned (.bool true) ∧ Below w.heap.size w w' := by
  refine callsIn_wide.1 (?_ : CallsIn Fence.wide 3 _ _ _ _ _)
  by_cases h : 3000 < b.length
  · exact frameRows_far ao cap b w h
  · exact frameRows_in ao cap b w (by omega) hb
end Go.Proofs.Ytinncchnompmhaa
