/- wheel: New. No statement of the seat is proved here. -/
import Derived.Test.YtadghaiengonoaaXo
namespace Go.Proofs.Ytadghaiengonoaa
set_option linter.unusedVariables false
set_option linter.unusedSimpArgs false
set_option linter.unusedSectionVars false
open Go Go.RowKit Go.Maps

def pk (k : Nat) (rs : Nat → Nat) (j : Nat) : Value := .pointer (if j < k then some ⟨rs j, 0, none⟩ else none)
/-- a wheel that is being made: k rings are there -/
structure Nst (W V : World) (w pf mf : Nat) (now : Int) (k : Nat) (rs lo hi : Nat → Nat) : Prop where
  blk : V.heap[w]? = some (.cells #[.int .i64 now, pk k rs 0, pk k rs 1, pk k rs 2, pk k rs 3, .pointer (some ⟨pf, 0, none⟩)] whT (0, 0))
  fblk : V.heap[pf]? = some (.cells #[.map (some mf)] faT (0, 0))
  map : V.ownsMap Try.prog 28 thElem mf 0 (.map [])
  ring : ∀ j, j < k → Rng V (fun i => lo j ≤ i ∧ i < hi j) (rs j) 0 []
  low : ∀ j, j < k → w < lo j ∧ pf < lo j ∧ mf < lo j ∧ hi j ≤ V.heap.size
  ord : ∀ i j, i < j → j < k → hi i ≤ lo j
  base : W.heap.size ≤ w ∧ W.heap.size ≤ pf ∧ W.heap.size ≤ mf
  bel : Below W.heap.size W V
theorem Nst.lt {W V : World} {w pf mf : Nat} {now : Int} {k : Nat} {rs lo hi : Nat → Nat} (h : Nst W V w pf mf now k rs lo hi) : w < V.heap.size ∧ pf < V.heap.size ∧ mf < V.heap.size := ⟨(Array.getElem?_eq_some_iff.1 h.blk).1, (Array.getElem?_eq_some_iff.1 h.fblk).1, h.map.lt⟩
theorem Nst.ne {W V : World} {w pf mf : Nat} {now : Int} {k : Nat} {rs lo hi : Nat → Nat} (h : Nst W V w pf mf now k rs lo hi) : w ≠ pf ∧ w ≠ mf := by
  obtain ⟨es, clock, h1, _⟩ := h.map
  refine ⟨fun e => ?_, fun e => ?_⟩
  · have a := h.blk; rw [e, h.fblk] at a
    simp only [Option.some.injEq, Obj.cells.injEq] at a
    exact absurd a.2.1 (by decide)
  · have a := h.blk; rw [e, h1] at a; cases a
theorem Nst.cell {W V : World} {w pf mf : Nat} {now : Int} {k : Nat} {rs lo hi : Nat → Nat} (h : Nst W V w pf mf now k rs lo hi) (hk : k < 4) : V.cell? ⟨w, 1 + k, none⟩ = some (.pointer none) ∧ V.frozen? ⟨w, 1 + k, none⟩ = false := by
  refine ⟨?_, block_free h.blk _⟩
  have a := block_cell h.blk (1 + k)
  rw [a]
  rcases (by omega : k = 0 ∨ k = 1 ∨ k = 2 ∨ k = 3) with rfl | rfl | rfl | rfl <;> simp [pk]
theorem Nst.below {W V V' : World} {w pf mf : Nat} {now : Int} {k : Nat} {rs lo hi : Nat → Nat} (h : Nst W V w pf mf now k rs lo hi) (hb : Below V.heap.size V V') : Nst W V' w pf mf now k rs lo hi := by
  obtain ⟨l1, l2, l3⟩ := h.lt
  obtain ⟨es, clock, h1, h2⟩ := h.map
  exact ⟨(hb.block w l1).trans h.blk, (hb.block pf l2).trans h.fblk, ⟨es, clock, (hb.block mf l3).trans h1, h2⟩, fun j hj => (h.ring j hj).below hb, fun j hj => by have := h.low j hj; have := hb.size; omega, h.ord, h.base, below_on h.bel hb (Nat.le_refl _)⟩
theorem Nst.step {W V V' : World} {w pf mf : Nat} {now : Int} {k : Nat} {rs lo hi : Nat → Nat} (h : Nst W V w pf mf now k rs lo hi) (hk : k < 4) (r : Nat) (hr : Rng V' (More (fun _ => False) V V') r 0 []) (hb : Below V.heap.size V V') :
    Nst W (V'.setCell ⟨w, 1 + k, none⟩ (.pointer (some ⟨r, 0, none⟩))) w pf mf now (k + 1) (updF rs k r) (updF lo k V.heap.size) (updF hi k V'.heap.size) := by
  have h' := h.below hb
  obtain ⟨l1, l2, l3⟩ := h.lt
  have hne := h.ne
  have hgs := grown_set V' w (1 + k) (.pointer (some ⟨r, 0, none⟩))
  have hs := block_set h'.blk (1 + k) (.pointer (some ⟨r, 0, none⟩))
  have hoth : ∀ i, i ≠ w → (V'.setCell ⟨w, 1 + k, none⟩ (.pointer (some ⟨r, 0, none⟩))).heap[i]? = V'.heap[i]? := fun i hi => heap_setCell_other V' ⟨w, 1 + k, none⟩ i _ hi
  have hsz := hgs.size
  have hbs := hb.size
  refine ⟨?_, (hoth pf (Ne.symm hne.1)).trans h'.fblk, ?_, fun j hj => ?_, fun j hj => ?_, fun i j hij hj => ?_, h.base, below_grown h'.bel hgs h.base.1 h'.bel.size⟩
  · rw [hs]
    rcases (by omega : k = 0 ∨ k = 1 ∨ k = 2 ∨ k = 3) with rfl | rfl | rfl | rfl <;> simp [pk, updF]
  · obtain ⟨es, clock, h1, h2⟩ := h'.map
    exact ⟨es, clock, (hoth mf (Ne.symm hne.2)).trans h1, h2⟩
  · by_cases e : j = k
    · subst e
      simp only [updF, if_true]
      refine (hr.kept hsz fun i hi => hoth i (fun e => ?_)).widen (fun i hi => hi.elim (fun x => x.elim) id) (fun i hi => Nat.lt_of_lt_of_le hi.2 hsz)
      rcases hi with x | x
      · exact x
      · omega
    · have hj2 : j < k := by omega
      have hlow := h.low j hj2
      simp only [updF, if_neg e]
      exact (h'.ring j hj2).kept hsz fun i hi => hoth i (by omega)
  · by_cases e : j = k
    · subst e
      simp only [updF, if_true]
      omega
    · have hlow := h.low j (by omega)
      simp only [updF, if_neg e]
      omega
  · by_cases e : j = k
    · subst e
      have hlow := h.low i hij
      simp only [updF, if_true, if_neg (Nat.ne_of_lt hij)]
      omega
    · have := h.ord i j hij (by omega)
      simp only [updF, if_neg e, if_neg (show ¬ i = k from by omega)]
      exact this
theorem Nst.done {W V : World} {w pf mf : Nat} {now : Int} {rs lo hi : Nat → Nat} (h : Nst W V w pf mf now 4 rs lo hi) (hn : Inst now) : Whl V (fun i => W.heap.size ≤ i ∧ i < V.heap.size) w now [] := by
  obtain ⟨l1, l2, l3⟩ := h.lt
  refine ⟨fun j i => lo j ≤ i ∧ i < hi j, rs, pf, mf, fun _ => [], [], ⟨?_, h.fblk, fun k hk => (h.ring k hk).mono (Nat.zero_le _), fun j k hj hk hne i hi => ?_, fun k hk i hi => ?_, fun k hk => ?_, ⟨h.base.1, l1⟩, ⟨h.base.2.1, l2⟩, ⟨h.base.2.2, l3⟩, fun i hi => hi.2, .map [], h.map.mono (Nat.zero_le _), MapL.nil⟩, hn, WheelIs.nil now⟩
  · have := h.blk
    simpa [pk] using this
  · rcases Nat.lt_or_gt_of_ne hne with x | x
    · have := h.ord j k x hk; omega
    · have := h.ord k j x hj; omega
  · have := h.low k hk; have := h.base; omega
  · have := h.low k hk; omega
theorem Nst.start (W V : World) (now : Int) (hV : V = ((W.alloc (.map #[] 0)).alloc (.cells #[.map (some W.heap.size)] faT)).alloc (.cells #[.int .i64 now, .pointer none, .pointer none, .pointer none, .pointer none, .pointer (some ⟨W.heap.size + 1, 0, none⟩)] whT)) (rs lo hi : Nat → Nat) :
    Nst W V (W.heap.size + 1 + 1) (W.heap.size + 1) W.heap.size now 0 rs lo hi := by
  have e1 : (W.alloc (.map #[] 0)).heap.size = W.heap.size + 1 := by simp
  have e2 : ((W.alloc (.map #[] 0)).alloc (.cells #[.map (some W.heap.size)] faT)).heap.size = W.heap.size + 1 + 1 := by simp
  have b1 := below_new W (.map #[] 0)
  have b2 := below_new (W.alloc (.map #[] 0)) (.cells #[.map (some W.heap.size)] faT)
  have b3 := below_new ((W.alloc (.map #[] 0)).alloc (.cells #[.map (some W.heap.size)] faT)) (.cells #[.int .i64 now, .pointer none, .pointer none, .pointer none, .pointer none, .pointer (some ⟨W.heap.size + 1, 0, none⟩)] whT)
  have n2 := heap_alloc_new (W.alloc (.map #[] 0)) (.cells #[.map (some W.heap.size)] faT)
  have n3 := heap_alloc_new ((W.alloc (.map #[] 0)).alloc (.cells #[.map (some W.heap.size)] faT)) (.cells #[.int .i64 now, .pointer none, .pointer none, .pointer none, .pointer none, .pointer (some ⟨W.heap.size + 1, 0, none⟩)] whT)
  have hm := World.ownsMap_made W Try.prog 28 thElem (H := Unit)
  rw [e1] at n2
  rw [e2] at n3
  rw [← hV] at b3 n3
  refine ⟨by simpa [pk] using n3, (b3.block _ (by omega)).trans n2, ?_, fun j hj => by omega, fun j hj => by omega, fun i j hij hj => by omega, ⟨by omega, by omega, Nat.le_refl _⟩, below_on (below_on b1 b2 (Nat.le_refl _)) b3 (Nat.le_refl _)⟩
  rw [hV]
  exact (hm.alloc _).alloc _
theorem wnew_no (W : World) (now : Int) (h : ¬ Inst now) : Calls Try.prog 9 #[.int .i64 now] W fun e W' => e = .returned (.pointer none) ∧ W' = W := by
  have His := Lib.hid (inst_no now h W)
  go_enter Try.func9, Try.ntmps9
  go_wp2_with fail
  refine His.out.mono ?_
  rintro e W2 ⟨rfl, hW2⟩
  subst hW2
  go_wp2_with fail
  go_ret
  exact ⟨rfl, rfl⟩
def WNewIs (W : World) (now : Int) (e : Ending) (W' : World) : Prop := ∃ w F, e = .returned (.pointer (some ⟨w, 0, none⟩)) ∧ Whl W' F w now [] ∧ (∀ i, F i → W.heap.size ≤ i) ∧ Below W.heap.size W W'
set_option maxRecDepth 100000 in
set_option maxHeartbeats 4000000 in
theorem wnew_any (W : World) (now : Int) (h : Inst now) : Calls Try.prog 9 #[.int .i64 now] W fun e W' => WNewIs W now e W' := by
  have His := Lib.hid (inst_yes now h W)
  have Hn := Lib.hid h
  have hmk := @run_makeMap Try.prog
  have hzr : ∀ w, (zeroValue whT).run Try.prog w = .ok (.agg #[.int .i64 0, .pointer none, .pointer none, .pointer none, .pointer none, .pointer none]) w := fun w => by kernel_rfl
  have hzf : ∀ w, (zeroValue faT).run Try.prog w = .ok (.agg #[.map none]) w := fun w => by kernel_rfl
  go_enter Try.func9, Try.ntmps9
  go_wp2_with fail
  refine His.out.mono ?_
  rintro e W2 ⟨rfl, hW2⟩
  subst hW2
  go_wp2_with fail
  obtain ⟨V0, hV0⟩ : ∃ V0, V0 = ((W2.alloc (.map #[] 0)).alloc (.cells #[.map (some W2.heap.size)] faT)).alloc (.cells #[.int .i64 now, .pointer none, .pointer none, .pointer none, .pointer none, .pointer (some ⟨W2.heap.size + 1, 0, none⟩)] whT) := ⟨_, rfl⟩
  have hns := Nst.start W2 V0 now hV0 (fun _ => 0) (fun _ => 0) (fun _ => 0)
  obtain ⟨mf, hmf⟩ : ∃ x, x = W2.heap.size := ⟨_, rfl⟩
  obtain ⟨pf, hpf⟩ : ∃ x, x = mf + 1 := ⟨_, rfl⟩
  obtain ⟨w, hw⟩ : ∃ x, x = pf + 1 := ⟨_, rfl⟩
  rw [← hV0, ← hmf, ← hpf, ← hw]
  rw [← hmf, ← hpf, ← hw] at hns
  have Hns := Lib.hid hns
  clear hns hV0 hmf hpf hw hmk hzr hzf His
  go_loopw [14] (fun u wr => ∃ (i : Nat) (rs lo hi : Nat → Nat), u = .int .i64 (i : Nat) ∧ i ≤ 4 ∧ Hid (Nst W2 wr w pf mf now i rs lo hi)) (fun u _ => 4 - (intOf u).toNat)
  case atStart => exact ⟨0, _, _, _, rfl, by omega, Hns⟩
  case round =>
    obtain ⟨i, rs, lo, hi, rfl, hi4, hst⟩ := hrel
    by_cases hil : i < 4
    · have x1 : (i : Int) < 4 := by omega
      have w1 := wrap_k i 3 (Nat.le_of_lt_succ hil) (by decide)
      have Hil := Lib.hid hil
      have hwl := hst.out.lt.1
      clear hi4
      go_upto_region 7 with fail
      go_region_law (go_simp; go_at_call 24; refine (new_ring _).mono ?_; rintro e V ⟨rfl, hR, hB⟩; obtain ⟨ck, fk⟩ := (hst.out.below (below_on (Below.refl _ _).drew hB (Nat.le_refl _))).cell Hil.out)
      have hst2 := (hst.out.below (Below.refl _ wr).drew).step Hil.out _ hR hB
      have Hst2 := Lib.hid hst2
      clear hst2 hR hB ck fk
      go_wp2_with fail
      go_roundw
      case rel => exact ⟨i + 1, _, _, _, by first | rfl | rw [w1]; rfl, Hil.out, Hst2⟩
      case measure =>
        first | rw [w1] | skip
        exact meas4 i Hil.out
    · obtain rfl : i = 4 := by omega
      have hfin := hst.out.done Hn.out
      have Hfin := Lib.hid hfin
      have Hbel := Lib.hid hst.out.bel
      have Hbs := Lib.hid hst.out.base
      clear hfin
      go_wp2_with fail
      go_ret
      exact ⟨w, _, rfl, Hfin.out, fun i hi => hi.1, Hbel.out⟩
end Go.Proofs.Ytadghaiengonoaa
