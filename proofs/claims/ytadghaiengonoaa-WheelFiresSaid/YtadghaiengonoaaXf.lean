/- wheel: Get. No statement of the seat is proved here. -/
import Derived.Test.YtadghaiengonoaaXe
namespace Go.Proofs.Ytadghaiengonoaa
set_option linter.unusedVariables false
set_option linter.unusedSimpArgs false
set_option linter.unusedSectionVars false
open Go Go.RowKit Go.Maps

/-- a look at the map beyond the rings -/
theorem Whm.look_yes {W : World} {F : Nat → Prop} {G : Nat → Nat → Prop} {w : Nat} {now : Int} {rs : Nat → Nat} {pf mf n : Nat} {R : Nat → RLs} {far : List Th} (h : Whm W F G w now rs pf mf n R far) {t : Th} (ht : t ∈ far) (hw : IdOk t.id) {W' : World} (hb : W'.heap[mf]? = W.heap[mf]?) :
    (Instr.lookup mfT (.map (some mf)) (.int .u64 t.id) true).run Try.prog W' = .ok (.tuple #[thVal t, .bool true]) W' := by
  obtain ⟨D, ⟨es, clock, h1, h1'⟩, h2⟩ := h.map
  have ho : W'.ownsMap Try.prog 28 thElem mf n D := ⟨es, clock, hb.trans h1, h1'⟩
  obtain ⟨v, ps, hrun, hv⟩ := ho.look_ok u64law Try.underlying69 (zeroTh W') (thElem_mk _) (keyOf_int_mk Try.underlying28 hw.wf)
  have hm : (t.id, thD t) ∈ fpairs far := List.mem_map.2 ⟨t, ht, rfl⟩
  rw [(h2.has t.id).2 ⟨_, hm, rfl⟩] at hrun
  rw [h2.at_ _ hm] at hv
  obtain ⟨c, rfl, hc⟩ := thElem_inv hv
  simp only [Prod.mk.injEq] at hc
  rw [hrun, thD_inj hc.1]
theorem Whm.look_no {W : World} {F : Nat → Prop} {G : Nat → Nat → Prop} {w : Nat} {now : Int} {rs : Nat → Nat} {pf mf n : Nat} {R : Nat → RLs} {far : List Th} (h : Whm W F G w now rs pf mf n R far) {id : Int} (hf : ∀ t ∈ far, t.id ≠ id) (hw : IdOk id) {W' : World} (hb : W'.heap[mf]? = W.heap[mf]?) :
    (Instr.lookup mfT (.map (some mf)) (.int .u64 id) true).run Try.prog W' = .ok (.tuple #[thVal ⟨0, 0, 0⟩, .bool false]) W' := by
  obtain ⟨D, ⟨es, clock, h1, h1'⟩, h2⟩ := h.map
  have ho : W'.ownsMap Try.prog 28 thElem mf n D := ⟨es, clock, hb.trans h1, h1'⟩
  obtain ⟨v, ps, hrun, hv⟩ := ho.look_ok u64law Try.underlying69 (zeroTh W') (thElem_mk _) (keyOf_int_mk Try.underlying28 hw.wf)
  have hm : ∀ q ∈ fpairs far, q.1 ≠ id := fun q hq => by
    obtain ⟨p, hp, rfl⟩ := List.mem_map.1 hq
    exact hf p hp
  rw [h2.hasnt hm] at hrun
  rw [h2.atnt hm] at hv
  obtain ⟨c, rfl, hc⟩ := thElem_inv hv
  simp only [Prod.mk.injEq] at hc
  rw [hrun, thD_inj hc.1]
/-- the ring at its place -/
theorem idxk (rs : Nat → Nat) (k : Nat) (hk : k < 4) (V : World) : (Instr.index raT (.agg #[.pointer (some ⟨rs 0, 0, none⟩), .pointer (some ⟨rs 1, 0, none⟩), .pointer (some ⟨rs 2, 0, none⟩), .pointer (some ⟨rs 3, 0, none⟩)]) (.int .i64 (k : Nat))).run Try.prog V = .ok (.pointer (some ⟨rs k, 0, none⟩)) V := by
  have h := idx4 (some ⟨rs 0, 0, none⟩) (some ⟨rs 1, 0, none⟩) (some ⟨rs 2, 0, none⟩) (some ⟨rs 3, 0, none⟩) V
  rcases (by omega : k = 0 ∨ k = 1 ∨ k = 2 ∨ k = 3) with rfl | rfl | rfl | rfl
  · exact h.1
  · exact h.2.1
  · exact h.2.2.1
  · exact h.2.2.2
theorem upto_succ {Q : Nat → Prop} {i : Nat} (h : ∀ j, j < i → Q j) (hi : Q i) : ∀ j, j < i + 1 → Q j := fun j hj => by
  rcases Nat.lt_or_ge j i with h1 | h1
  · exact h j h1
  · obtain rfl : j = i := by omega
    exact hi
theorem wget_none (W : World) (q : Option Addr) (id : Int) (hno : WNone W q) : Calls Try.prog 22 #[.pointer q, .int .u64 id] W fun e W' => e = .returned (.tuple #[thVal ⟨0, 0, 0⟩, .bool false]) ∧ Below W.heap.size W W' := by
  obtain ⟨W1, hW1⟩ : ∃ W1, W1 = W.alloc (.cells #[.int .u64 0, .int .u64 0, .int .i64 0] thT) := ⟨_, rfl⟩
  have hB1 : Below W.heap.size W W1 := by rw [hW1]; exact below_new _ _
  have ht1 : W1.heap[W.heap.size]? = some (.cells #[.int .u64 0, .int .u64 0, .int .i64 0] thT (0, 0)) := by rw [hW1]; exact heap_alloc_new _ _
  have hz1 : W.heap.size < W1.heap.size := by rw [hW1]; simp
  have Hno := Lib.hid (hno W1 hB1)
  obtain ⟨c0, c1, c2, f0, f1, f2⟩ := set3_res (t := ⟨0, 0, 0⟩) ht1
  have hb3 := set3_below hB1 (Nat.le_refl _) (Nat.le_of_lt hz1) ⟨0, 0, 0⟩
  obtain ⟨d0, d1, d2, -, -, -⟩ := set3_res (set3_blk ht1 ⟨0, 0, 0⟩)
  simp only [set3] at hb3 d0 d1 d2
  have Hd := Lib.hid (⟨d0, d1, d2⟩ : _ ∧ _ ∧ _)
  have Hb := Lib.hid hb3
  clear d0 d1 d2 hb3 ht1 hno
  go_enter Try.func22, Try.ntmps22
  go_wp2_with fail
  rw [← hW1]
  clear hW1
  refine Hno.out.mono ?_
  rintro e W2 ⟨rfl, hW2⟩
  subst hW2
  go_wp2_with fail
  refine bodyPost_ret (v := .tuple #[thVal ⟨0, 0, 0⟩, .bool false]) ?_ rfl ⟨rfl, Hb.out⟩
  obtain ⟨d0, d1, d2⟩ := Hd.out
  simp [results, Try.results22, go_sem, thVal, d0, d1, d2]
set_option maxRecDepth 100000 in
set_option maxHeartbeats 4000000 in
theorem wget_any (W : World) (F : Nat → Prop) (G : Nat → Nat → Prop) (w : Nat) (now : Int) (rs : Nat → Nat) (pf mf n : Nat) (R : Nat → RLs) (far : List Th) (id : Int) (h : Whm W F G w now rs pf mf n R far) (hw : IdOk id) (hn : n ≤ 1000000) :
    Calls Try.prog 22 #[.pointer (some ⟨w, 0, none⟩), .int .u64 id] W fun e W' => ((∃ t ∈ Tot R far, t.id = id ∧ e = .returned (.tuple #[thVal t, .bool true])) ∨ ((∀ t ∈ Tot R far, t.id ≠ id) ∧ e = .returned (.tuple #[thVal ⟨0, 0, 0⟩, .bool false]))) ∧ Below W.heap.size W W' := by
  obtain ⟨W1, hW1⟩ : ∃ W1, W1 = W.alloc (.cells #[.int .u64 0, .int .u64 0, .int .i64 0] thT) := ⟨_, rfl⟩
  obtain ⟨b, hb⟩ : ∃ b, b = W.heap.size := ⟨_, rfl⟩
  have hB1 : Below W.heap.size W W1 := by rw [hW1]; exact below_new _ _
  have ht1 : W1.heap[b]? = some (.cells #[.int .u64 0, .int .u64 0, .int .i64 0] thT (0, 0)) := by rw [hW1, hb]; exact heap_alloc_new _ _
  have hbl := (Array.getElem?_eq_some_iff.1 ht1).1
  have h1 := h.below hB1
  obtain ⟨a0, a1, a2, a3, a4, a5, b0, hwl, hfl⟩ := h1.cells
  have Hno := Lib.hid (wnone_no W1 w pf a5 hwl)
  have HB1 := Lib.hid hB1
  have Ht1 := Lib.hid ht1
  have H1 := Lib.hid h1
  have Hb := Lib.hid hb
  clear h h1 hB1 ht1
  go_enter Try.func22, Try.ntmps22
  go_wp2_with fail
  rw [← hW1, ← hb]
  clear hW1 hb
  refine Hno.out.mono ?_
  rintro e W2 ⟨rfl, hW2⟩
  subst hW2
  go_wp2_with fail
  clear a0 a1 a2 a3 a4 a5 b0 hwl hfl hbl
  go_loopw [20] (fun u wr => ∃ i : Nat, u = .int .i64 (i : Nat) ∧ i ≤ 4 ∧ Hid (∀ j, j < i → ∀ p ∈ R j, p.1.id ≠ id) ∧ Hid (Below W2.heap.size W2 wr)) (fun u _ => 4 - (intOf u).toNat)
  case atStart => exact ⟨0, rfl, by omega, (fun j hj => by omega : ∀ j, j < 0 → _), (Below.refl _ _ : Below _ W2 W2)⟩
  case round =>
    obtain ⟨i, rfl, hi, hno, hb⟩ := hrel
    by_cases hi4 : i < 4
    · have x1 : (i : Int) < 4 := by omega
      have w1 : wrap64 ((i : Int) + 1) = (i : Int) + 1 := IntWalk.wrap64_in _ (by omega)
      have ix := idxk rs i hi4
      have hrg := (H1.out.below hb.out).ring i hi4
      have Hrg := Lib.hid hrg
      have Hi4 := Lib.hid hi4
      clear hrg hi hi4
      go_wp2_with fail
      by_cases hex : ∃ p ∈ R i, p.1.id = id
      · obtain ⟨p, hp, rfl⟩ := hex
        have Hgt := Lib.hid (get_yes wr (G i) (rs i) n (R i) Hrg.out p hp hn)
        obtain ⟨⟨pi, pg, pd⟩, s⟩ := p
        unfold thVal at Hgt
        refine Hgt.out.mono ?_
        rintro e W3 ⟨rfl, hB3⟩
        have hB23 := below_on hb.out hB3 (Nat.le_refl _)
        have ht3 := (hB23.block b (Array.getElem?_eq_some_iff.1 Ht1.out).1).trans Ht1.out
        obtain ⟨W4, hW4⟩ : ∃ W4, W4 = W3.alloc (.cells #[.int .u64 pi, .int .u64 pg, .int .i64 pd] thT) := ⟨_, rfl⟩
        obtain ⟨q, hq⟩ : ∃ q, q = W3.heap.size := ⟨_, rfl⟩
        have hB34 : Below W3.heap.size W3 W4 := by rw [hW4]; exact below_new _ _
        have ht4 := (hB34.block b (Array.getElem?_eq_some_iff.1 ht3).1).trans ht3
        have hq4 : W4.heap[q]? = some (.cells #[.int .u64 pi, .int .u64 pg, .int .i64 pd] thT (0, 0)) := by rw [hW4, hq]; exact heap_alloc_new _ _
        obtain ⟨c0, c1, c2, f0, f1, f2⟩ := set3_res (t := ⟨0, 0, 0⟩) ht4
        obtain ⟨q0, q1, q2, -, -, -⟩ := set3_res (t := ⟨pi, pg, pd⟩) hq4
        have hql := (Array.getElem?_eq_some_iff.1 hq4).1
        have hbl := (Array.getElem?_eq_some_iff.1 ht4).1
        have hqb : q ≠ b := by have := (Array.getElem?_eq_some_iff.1 ht3).1; omega
        have hb4 := below_on (below_on HB1.out hB23 (Nat.le_refl _)) hB34 (Nat.le_refl _)
        have hb5 := set3_below hb4 (Nat.le_of_eq Hb.out.symm) hb4.size ⟨pi, pg, pd⟩
        obtain ⟨d0, d1, d2, -, -, -⟩ := set3_res (set3_blk ht4 ⟨pi, pg, pd⟩)
        simp only [set3] at hb5 d0 d1 d2
        have Hd := Lib.hid (⟨d0, d1, d2⟩ : _ ∧ _ ∧ _)
        have Hb5 := Lib.hid hb5
        have Hm := Lib.hid (Tot.ring (far := far) Hi4.out hp)
        clear d0 d1 d2 hb5 ht3 ht4 hq4 hb4 hB34 hB23 hB3 hp
        go_upto_region 7 with fail
        rw [← hW4, ← hq]
        clear hW4 hq
        go_wp2_with fail
        refine bodyPost_ret (v := .tuple #[thVal ⟨pi, pg, pd⟩, .bool true]) ?_ rfl ⟨.inl ⟨_, Hm.out, rfl, rfl⟩, Hb5.out⟩
        obtain ⟨d0, d1, d2⟩ := Hd.out
        simp [results, Try.results22, go_sem, thVal, d0, d1, d2]
      · have hnx : ∀ p ∈ R i, p.1.id ≠ id := fun p hp e => hex ⟨p, hp, e⟩
        have Hnx := Lib.hid hnx
        have Hgt := Lib.hid (get_no wr (G i) (rs i) n (R i) Hrg.out id hw hnx)
        unfold thVal at Hgt
        clear hex hnx
        refine Hgt.out.mono ?_
        rintro e W3 ⟨rfl, hB3⟩
        have hB23 := below_on hb.out hB3 (Nat.le_refl _)
        have HB23 := Lib.hid (below_on hB23 (below_new W3 (.cells #[.int .u64 0, .int .u64 0, .int .i64 0] thT)) (Nat.le_refl _))
        clear hB3 hB23
        go_wp2_with fail
        go_roundw
        case rel => exact ⟨i + 1, by first | rfl | rw [w1]; rfl, Hi4.out, upto_succ hno.out Hnx.out, HB23.out⟩
        case measure =>
          first | rw [w1] | skip
          exact meas4 i Hi4.out
    · obtain rfl : i = 4 := by omega
      have h4 := H1.out.below hb.out
      obtain ⟨a0, a1, a2, a3, a4, a5, b0, hwl, hfl⟩ := h4.cells
      have ht3 := (hb.out.block b (Array.getElem?_eq_some_iff.1 Ht1.out).1).trans Ht1.out
      have hb3 := below_on HB1.out hb.out (Nat.le_refl _)
      by_cases hex : ∃ t ∈ far, t.id = id
      · obtain ⟨⟨pi, pg, pd⟩, hp, rfl⟩ := hex
        have hlk := h4.look_yes hp hw (W' := wr) rfl
        unfold thVal at hlk
        simp only at hlk
        have Hm := Lib.hid (Tot.far (R := R) hp)
        obtain ⟨W4, hW4⟩ : ∃ W4, W4 = wr.alloc (.cells #[.int .u64 pi, .int .u64 pg, .int .i64 pd] thT) := ⟨_, rfl⟩
        obtain ⟨q, hq⟩ : ∃ q, q = wr.heap.size := ⟨_, rfl⟩
        have hB34 : Below wr.heap.size wr W4 := by rw [hW4]; exact below_new _ _
        have ht4 := (hB34.block b (Array.getElem?_eq_some_iff.1 ht3).1).trans ht3
        have hq4 : W4.heap[q]? = some (.cells #[.int .u64 pi, .int .u64 pg, .int .i64 pd] thT (0, 0)) := by rw [hW4, hq]; exact heap_alloc_new _ _
        obtain ⟨c0, c1, c2, f0, f1, f2⟩ := set3_res (t := ⟨0, 0, 0⟩) ht4
        obtain ⟨q0, q1, q2, -, -, -⟩ := set3_res (t := ⟨pi, pg, pd⟩) hq4
        have hql := (Array.getElem?_eq_some_iff.1 hq4).1
        have hbl := (Array.getElem?_eq_some_iff.1 ht4).1
        have hqb : q ≠ b := by have := (Array.getElem?_eq_some_iff.1 ht3).1; omega
        have hb4 := below_on hb3 hB34 (Nat.le_refl _)
        have hb5 := set3_below hb4 (Nat.le_of_eq Hb.out.symm) hb4.size ⟨pi, pg, pd⟩
        obtain ⟨d0, d1, d2, -, -, -⟩ := set3_res (set3_blk ht4 ⟨pi, pg, pd⟩)
        simp only [set3] at hb5 d0 d1 d2
        have Hd := Lib.hid (⟨d0, d1, d2⟩ : _ ∧ _ ∧ _)
        have Hb5 := Lib.hid hb5
        clear d0 d1 d2 hb5 ht3 ht4 hq4 hb4 hB34 hb3 hi hi4 h4
        try clear hp
        go_upto_region 11 with fail
        rw [← hW4, ← hq]
        clear hW4 hq
        go_wp2_with fail
        refine bodyPost_ret (v := .tuple #[thVal ⟨pi, pg, pd⟩, .bool true]) ?_ rfl ⟨.inl ⟨_, Hm.out, rfl, rfl⟩, Hb5.out⟩
        obtain ⟨d0, d1, d2⟩ := Hd.out
        simp [results, Try.results22, go_sem, thVal, d0, d1, d2]
      · have hnx : ∀ t ∈ far, t.id ≠ id := fun p hp e => hex ⟨p, hp, e⟩
        have hlk := h4.look_no hnx hw (W' := wr) rfl
        unfold thVal at hlk
        have Hm : Hid (∀ t ∈ Tot R far, t.id ≠ id) := by
          show ∀ t ∈ Tot R far, t.id ≠ id
          intro t ht
          rcases Tot.mem ht with h | ⟨k, hk, p, hp, rfl⟩
          · exact hnx t h
          · exact hno.out k hk p hp
        obtain ⟨W4, hW4⟩ : ∃ W4, W4 = wr.alloc (.cells #[.int .u64 0, .int .u64 0, .int .i64 0] thT) := ⟨_, rfl⟩
        obtain ⟨q, hq⟩ : ∃ q, q = wr.heap.size := ⟨_, rfl⟩
        have hB34 : Below wr.heap.size wr W4 := by rw [hW4]; exact below_new _ _
        have ht4 := (hB34.block b (Array.getElem?_eq_some_iff.1 ht3).1).trans ht3
        have hq4 : W4.heap[q]? = some (.cells #[.int .u64 0, .int .u64 0, .int .i64 0] thT (0, 0)) := by rw [hW4, hq]; exact heap_alloc_new _ _
        obtain ⟨c0, c1, c2, f0, f1, f2⟩ := set3_res (t := ⟨0, 0, 0⟩) ht4
        obtain ⟨q0, q1, q2, -, -, -⟩ := set3_res (t := ⟨0, 0, 0⟩) hq4
        have hql := (Array.getElem?_eq_some_iff.1 hq4).1
        have hbl := (Array.getElem?_eq_some_iff.1 ht4).1
        have hqb : q ≠ b := by have := (Array.getElem?_eq_some_iff.1 ht3).1; omega
        have hb4 := below_on hb3 hB34 (Nat.le_refl _)
        have hb5 := set3_below hb4 (Nat.le_of_eq Hb.out.symm) hb4.size ⟨0, 0, 0⟩
        obtain ⟨d0, d1, d2, -, -, -⟩ := set3_res (set3_blk ht4 ⟨0, 0, 0⟩)
        simp only [set3] at hb5 d0 d1 d2
        have Hd := Lib.hid (⟨d0, d1, d2⟩ : _ ∧ _ ∧ _)
        have Hb5 := Lib.hid hb5
        clear d0 d1 d2 hb5 ht3 ht4 hq4 hb4 hB34 hb3 hi hi4 h4
        try clear hp
        go_upto_region 11 with fail
        rw [← hW4, ← hq]
        clear hW4 hq
        go_wp2_with fail
        refine bodyPost_ret (v := .tuple #[thVal ⟨0, 0, 0⟩, .bool false]) ?_ rfl ⟨.inr ⟨Hm.out, rfl⟩, Hb5.out⟩
        obtain ⟨d0, d1, d2⟩ := Hd.out
        simp [results, Try.results22, go_sem, thVal, d0, d1, d2]
end Go.Proofs.Ytadghaiengonoaa
