/- Lemmas for DeadlineBytes (Xf Xg Xh Xi). No statement of the seat is proved here. -/
import Derived.Test.YtedlplkomfiahaaT13
namespace Go.Proofs.Ytedlplkomfiahaa
set_option linter.unusedVariables false
set_option linter.unusedSimpArgs false
set_option linter.unusedSectionVars false
open Go Go.RowKit Go.Maps
/-- a look at the map beyond the rings -/
theorem Whm.look_yes {W : World} {F : Nat → Prop} {G : Nat → Nat → Prop} {w : Nat} {now : Int} {rs : Nat → Nat} {pf mf n : Nat} {R : Nat → RLs} {far : List Th} (h : Whm W F G w now rs pf mf n R far) {t : Th} (ht : t ∈ far) (hw : IdOk t.id) {W' : World} (hb : W'.heap[mf]? = W.heap[mf]?) :
    (Instr.lookup mfT (.map (some mf)) (.int .u64 t.id) true).run Try.prog W' = .ok (.tuple #[thVal t, .bool true]) W' := by
  obtain ⟨D, ⟨es, clock, h1, h1'⟩, h2⟩ := h.map
  have ho : W'.ownsMap Try.prog 28 thElem mf n D := ⟨es, clock, hb.trans h1, h1'⟩
  obtain ⟨v, ps, hrun, hv⟩ := ho.look_ok u64law Try.underlying26 (zeroTh W') (thElem_mk _) (keyOf_int_mk Try.underlying28 hw.wf)
  have hm : (t.id, thD t) ∈ fpairs far := List.mem_map.2 ⟨t, ht, rfl⟩
  rw [(h2.has t.id).2 ⟨_, hm, rfl⟩] at hrun
  rw [h2.at_ _ hm] at hv
  obtain ⟨c, rfl, hc⟩ := thElem_inv hv
  simp only [Prod.mk.injEq] at hc
  rw [hrun, thD_inj hc.1]
theorem Whm.look_no {W : World} {F : Nat → Prop} {G : Nat → Nat → Prop} {w : Nat} {now : Int} {rs : Nat → Nat} {pf mf n : Nat} {R : Nat → RLs} {far : List Th} (h : Whm W F G w now rs pf mf n R far) {id : Int} (hf : ∀ t ∈ far, t.id ≠ id) (hw : IdOk id) {W' : World} (hb : W'.heap[mf]? = W.heap[mf]?) :
    (Instr.lookup mfT (.map (some mf)) (.int .u64 id) true).run Try.prog W' = .ok (.tuple #[thVal ⟨0, 0, 0⟩, .bool false]) W' := by
  obtain ⟨D, ⟨es, clock, h1, h1'⟩, h2⟩ := h.map
  have ho : W'.ownsMap Try.prog 28 thElem mf n D := ⟨es, clock, hb.trans h1, h1'⟩
  obtain ⟨v, ps, hrun, hv⟩ := ho.look_ok u64law Try.underlying26 (zeroTh W') (thElem_mk _) (keyOf_int_mk Try.underlying28 hw.wf)
  have hm : ∀ q ∈ fpairs far, q.1 ≠ id := fun q hq => by
    obtain ⟨p, hp, rfl⟩ := List.mem_map.1 hq
    exact hf p hp
  rw [h2.hasnt hm] at hrun
  rw [h2.atnt hm] at hv
  obtain ⟨c, rfl, hc⟩ := thElem_inv hv
  simp only [Prod.mk.injEq] at hc
  rw [hrun, thD_inj hc.1]
/-- the ring at its place -/
theorem idxk (rs : Nat → Nat) (k : Nat) (hk : k < 4) (V : World) : (Instr.index raT (.agg #[.pointer (some ⟨rs 0, 0, none⟩), .pointer (some ⟨rs 1, 0, none⟩), .pointer (some ⟨rs 2, 0, none⟩), .pointer (some ⟨rs 3, 0, none⟩)]) (.int .i64 (k : Nat))).run Try.prog V = .ok (.pointer (some ⟨rs k, 0, none⟩)) V := by
  have h := idx4 (some ⟨rs 0, 0, none⟩) (some ⟨rs 1, 0, none⟩) (some ⟨rs 2, 0, none⟩) (some ⟨rs 3, 0, none⟩) V
  rcases (by omega : k = 0 ∨ k = 1 ∨ k = 2 ∨ k = 3) with rfl | rfl | rfl | rfl
  · exact h.1
  · exact h.2.1
  · exact h.2.2.1
  · exact h.2.2.2
theorem upto_succ {Q : Nat → Prop} {i : Nat} (h : ∀ j, j < i → Q j) (hi : Q i) : ∀ j, j < i + 1 → Q j := fun j hj => by
  rcases Nat.lt_or_ge j i with h1 | h1
  · exact h j h1
  · obtain rfl : j = i := by omega
    exact hi
set_option maxRecDepth 100000 in
set_option maxHeartbeats 4000000 in
theorem wget_any (W : World) (F : Nat → Prop) (G : Nat → Nat → Prop) (w : Nat) (now : Int) (rs : Nat → Nat) (pf mf n : Nat) (R : Nat → RLs) (far : List Th) (id : Int) (h : Whm W F G w now rs pf mf n R far) (hw : IdOk id) (hn : n ≤ 1000000) :
    Calls Try.prog 48 #[.pointer (some ⟨w, 0, none⟩), .int .u64 id] W fun e W' => ((∃ t ∈ Tot R far, t.id = id ∧ e = .returned (.tuple #[thVal t, .bool true])) ∨ ((∀ t ∈ Tot R far, t.id ≠ id) ∧ e = .returned (.tuple #[thVal ⟨0, 0, 0⟩, .bool false]))) ∧ Below W.heap.size W W' := by
  obtain ⟨W1, hW1⟩ : ∃ W1, W1 = W.alloc (.cells #[.int .u64 0, .int .u64 0, .int .i64 0] thT) := ⟨_, rfl⟩
  obtain ⟨b, hb⟩ : ∃ b, b = W.heap.size := ⟨_, rfl⟩
  have hB1 : Below W.heap.size W W1 := by rw [hW1]; exact below_new _ _
  have ht1 : W1.heap[b]? = some (.cells #[.int .u64 0, .int .u64 0, .int .i64 0] thT (0, 0)) := by rw [hW1, hb]; exact heap_alloc_new _ _
  have hbl := (Array.getElem?_eq_some_iff.1 ht1).1
  have h1 := h.below hB1
  obtain ⟨a0, a1, a2, a3, a4, a5, b0, hwl, hfl⟩ := h1.cells
  have Hno := Lib.hid (wnone_no W1 w pf a5 hwl)
  have HB1 := Lib.hid hB1
  have Ht1 := Lib.hid ht1
  have H1 := Lib.hid h1
  have Hb := Lib.hid hb
  clear h h1 hB1 ht1
  go_enter Try.func48, Try.ntmps48
  go_wp2_with fail
  rw [← hW1, ← hb]
  clear hW1 hb
  refine Hno.out.mono ?_
  rintro e W2 ⟨rfl, hW2⟩
  subst hW2
  go_wp2_with fail
  clear a0 a1 a2 a3 a4 a5 b0 hwl hfl hbl
  go_loopw [20] (fun u wr => ∃ i : Nat, u = .int .i64 (i : Nat) ∧ i ≤ 4 ∧ Hid (∀ j, j < i → ∀ p ∈ R j, p.1.id ≠ id) ∧ Hid (Below W2.heap.size W2 wr)) (fun u _ => 4 - (intOf u).toNat)
  case atStart => exact ⟨0, rfl, by omega, (fun j hj => by omega : ∀ j, j < 0 → _), (Below.refl _ _ : Below _ W2 W2)⟩
  case round =>
    obtain ⟨i, rfl, hi, hno, hb⟩ := hrel
    by_cases hi4 : i < 4
    · have x1 : (i : Int) < 4 := by omega
      have w1 : wrap64 ((i : Int) + 1) = (i : Int) + 1 := IntWalk.wrap64_in _ (by omega)
      have ix := idxk rs i hi4
      have hrg := (H1.out.below hb.out).ring i hi4
      have Hrg := Lib.hid hrg
      have Hi4 := Lib.hid hi4
      clear hrg hi hi4
      go_wp2_with fail
      by_cases hex : ∃ p ∈ R i, p.1.id = id
      · obtain ⟨p, hp, rfl⟩ := hex
        have Hgt := Lib.hid (get_yes wr (G i) (rs i) n (R i) Hrg.out p hp hn)
        obtain ⟨⟨pi, pg, pd⟩, s⟩ := p
        unfold thVal at Hgt
        refine Hgt.out.mono ?_
        rintro e W3 ⟨rfl, hB3⟩
        have hB23 := below_on hb.out hB3 (Nat.le_refl _)
        have ht3 := (hB23.block b (Array.getElem?_eq_some_iff.1 Ht1.out).1).trans Ht1.out
        obtain ⟨W4, hW4⟩ : ∃ W4, W4 = W3.alloc (.cells #[.int .u64 pi, .int .u64 pg, .int .i64 pd] thT) := ⟨_, rfl⟩
        obtain ⟨q, hq⟩ : ∃ q, q = W3.heap.size := ⟨_, rfl⟩
        have hB34 : Below W3.heap.size W3 W4 := by rw [hW4]; exact below_new _ _
        have ht4 := (hB34.block b (Array.getElem?_eq_some_iff.1 ht3).1).trans ht3
        have hq4 : W4.heap[q]? = some (.cells #[.int .u64 pi, .int .u64 pg, .int .i64 pd] thT (0, 0)) := by rw [hW4, hq]; exact heap_alloc_new _ _
        obtain ⟨c0, c1, c2, f0, f1, f2⟩ := set3_res (t := ⟨0, 0, 0⟩) ht4
        obtain ⟨q0, q1, q2, -, -, -⟩ := set3_res (t := ⟨pi, pg, pd⟩) hq4
        have hql := (Array.getElem?_eq_some_iff.1 hq4).1
        have hbl := (Array.getElem?_eq_some_iff.1 ht4).1
        have hqb : q ≠ b := by have := (Array.getElem?_eq_some_iff.1 ht3).1; omega
        have hb4 := below_on (below_on HB1.out hB23 (Nat.le_refl _)) hB34 (Nat.le_refl _)
        have hb5 := set3_below hb4 (Nat.le_of_eq Hb.out.symm) hb4.size ⟨pi, pg, pd⟩
        obtain ⟨d0, d1, d2, -, -, -⟩ := set3_res (set3_blk ht4 ⟨pi, pg, pd⟩)
        simp only [set3] at hb5 d0 d1 d2
        have Hd := Lib.hid (⟨d0, d1, d2⟩ : _ ∧ _ ∧ _)
        have Hb5 := Lib.hid hb5
        have Hm := Lib.hid (Tot.ring (far := far) Hi4.out hp)
        clear d0 d1 d2 hb5 ht3 ht4 hq4 hb4 hB34 hB23 hB3 hp
        go_upto_region 7 with fail
        rw [← hW4, ← hq]
        clear hW4 hq
        go_wp2_with fail
        refine bodyPost_ret (v := .tuple #[thVal ⟨pi, pg, pd⟩, .bool true]) ?_ rfl ⟨.inl ⟨_, Hm.out, rfl, rfl⟩, Hb5.out⟩
        obtain ⟨d0, d1, d2⟩ := Hd.out
        simp [results, Try.results48, go_sem, thVal, d0, d1, d2]
      · have hnx : ∀ p ∈ R i, p.1.id ≠ id := fun p hp e => hex ⟨p, hp, e⟩
        have Hnx := Lib.hid hnx
        have Hgt := Lib.hid (get_no wr (G i) (rs i) n (R i) Hrg.out id hw hnx)
        unfold thVal at Hgt
        clear hex hnx
        refine Hgt.out.mono ?_
        rintro e W3 ⟨rfl, hB3⟩
        have hB23 := below_on hb.out hB3 (Nat.le_refl _)
        have HB23 := Lib.hid (below_on hB23 (below_new W3 (.cells #[.int .u64 0, .int .u64 0, .int .i64 0] thT)) (Nat.le_refl _))
        clear hB3 hB23
        go_wp2_with fail
        go_roundw
        case rel => exact ⟨i + 1, by first | rfl | rw [w1]; rfl, Hi4.out, upto_succ hno.out Hnx.out, HB23.out⟩
        case measure =>
          first | rw [w1] | skip
          exact meas4 i Hi4.out
    · obtain rfl : i = 4 := by omega
      have h4 := H1.out.below hb.out
      obtain ⟨a0, a1, a2, a3, a4, a5, b0, hwl, hfl⟩ := h4.cells
      have ht3 := (hb.out.block b (Array.getElem?_eq_some_iff.1 Ht1.out).1).trans Ht1.out
      have hb3 := below_on HB1.out hb.out (Nat.le_refl _)
      by_cases hex : ∃ t ∈ far, t.id = id
      · obtain ⟨⟨pi, pg, pd⟩, hp, rfl⟩ := hex
        have hlk := h4.look_yes hp hw (W' := wr) rfl
        unfold thVal at hlk
        simp only at hlk
        have Hm := Lib.hid (Tot.far (R := R) hp)
        obtain ⟨W4, hW4⟩ : ∃ W4, W4 = wr.alloc (.cells #[.int .u64 pi, .int .u64 pg, .int .i64 pd] thT) := ⟨_, rfl⟩
        obtain ⟨q, hq⟩ : ∃ q, q = wr.heap.size := ⟨_, rfl⟩
        have hB34 : Below wr.heap.size wr W4 := by rw [hW4]; exact below_new _ _
        have ht4 := (hB34.block b (Array.getElem?_eq_some_iff.1 ht3).1).trans ht3
        have hq4 : W4.heap[q]? = some (.cells #[.int .u64 pi, .int .u64 pg, .int .i64 pd] thT (0, 0)) := by rw [hW4, hq]; exact heap_alloc_new _ _
        obtain ⟨c0, c1, c2, f0, f1, f2⟩ := set3_res (t := ⟨0, 0, 0⟩) ht4
        obtain ⟨q0, q1, q2, -, -, -⟩ := set3_res (t := ⟨pi, pg, pd⟩) hq4
        have hql := (Array.getElem?_eq_some_iff.1 hq4).1
        have hbl := (Array.getElem?_eq_some_iff.1 ht4).1
        have hqb : q ≠ b := by have := (Array.getElem?_eq_some_iff.1 ht3).1; omega
        have hb4 := below_on hb3 hB34 (Nat.le_refl _)
        have hb5 := set3_below hb4 (Nat.le_of_eq Hb.out.symm) hb4.size ⟨pi, pg, pd⟩
        obtain ⟨d0, d1, d2, -, -, -⟩ := set3_res (set3_blk ht4 ⟨pi, pg, pd⟩)
        simp only [set3] at hb5 d0 d1 d2
        have Hd := Lib.hid (⟨d0, d1, d2⟩ : _ ∧ _ ∧ _)
        have Hb5 := Lib.hid hb5
        clear d0 d1 d2 hb5 ht3 ht4 hq4 hb4 hB34 hb3 hi hi4 h4
        try clear hp
        go_upto_region 11 with fail
        rw [← hW4, ← hq]
        clear hW4 hq
        go_wp2_with fail
        refine bodyPost_ret (v := .tuple #[thVal ⟨pi, pg, pd⟩, .bool true]) ?_ rfl ⟨.inl ⟨_, Hm.out, rfl, rfl⟩, Hb5.out⟩
        obtain ⟨d0, d1, d2⟩ := Hd.out
        simp [results, Try.results48, go_sem, thVal, d0, d1, d2]
      · have hnx : ∀ t ∈ far, t.id ≠ id := fun p hp e => hex ⟨p, hp, e⟩
        have hlk := h4.look_no hnx hw (W' := wr) rfl
        unfold thVal at hlk
        have Hm : Hid (∀ t ∈ Tot R far, t.id ≠ id) := by
          show ∀ t ∈ Tot R far, t.id ≠ id
          intro t ht
          rcases Tot.mem ht with h | ⟨k, hk, p, hp, rfl⟩
          · exact hnx t h
          · exact hno.out k hk p hp
        obtain ⟨W4, hW4⟩ : ∃ W4, W4 = wr.alloc (.cells #[.int .u64 0, .int .u64 0, .int .i64 0] thT) := ⟨_, rfl⟩
        obtain ⟨q, hq⟩ : ∃ q, q = wr.heap.size := ⟨_, rfl⟩
        have hB34 : Below wr.heap.size wr W4 := by rw [hW4]; exact below_new _ _
        have ht4 := (hB34.block b (Array.getElem?_eq_some_iff.1 ht3).1).trans ht3
        have hq4 : W4.heap[q]? = some (.cells #[.int .u64 0, .int .u64 0, .int .i64 0] thT (0, 0)) := by rw [hW4, hq]; exact heap_alloc_new _ _
        obtain ⟨c0, c1, c2, f0, f1, f2⟩ := set3_res (t := ⟨0, 0, 0⟩) ht4
        obtain ⟨q0, q1, q2, -, -, -⟩ := set3_res (t := ⟨0, 0, 0⟩) hq4
        have hql := (Array.getElem?_eq_some_iff.1 hq4).1
        have hbl := (Array.getElem?_eq_some_iff.1 ht4).1
        have hqb : q ≠ b := by have := (Array.getElem?_eq_some_iff.1 ht3).1; omega
        have hb4 := below_on hb3 hB34 (Nat.le_refl _)
        have hb5 := set3_below hb4 (Nat.le_of_eq Hb.out.symm) hb4.size ⟨0, 0, 0⟩
        obtain ⟨d0, d1, d2, -, -, -⟩ := set3_res (set3_blk ht4 ⟨0, 0, 0⟩)
        simp only [set3] at hb5 d0 d1 d2
        have Hd := Lib.hid (⟨d0, d1, d2⟩ : _ ∧ _ ∧ _)
        have Hb5 := Lib.hid hb5
        clear d0 d1 d2 hb5 ht3 ht4 hq4 hb4 hB34 hb3 hi hi4 h4
        try clear hp
        go_upto_region 11 with fail
        rw [← hW4, ← hq]
        clear hW4 hq
        go_wp2_with fail
        refine bodyPost_ret (v := .tuple #[thVal ⟨0, 0, 0⟩, .bool false]) ?_ rfl ⟨.inr ⟨Hm.out, rfl⟩, Hb5.out⟩
        obtain ⟨d0, d1, d2⟩ := Hd.out
        simp [results, Try.results48, go_sem, thVal, d0, d1, d2]
end Go.Proofs.Ytedlplkomfiahaa
namespace Go.Proofs.Ytedlplkomfiahaa
set_option linter.unusedVariables false
set_option linter.unusedSimpArgs false
set_option linter.unusedSectionVars false
open Go Go.RowKit Go.Maps
def lessId (l : List Th) (i : Int) : List Th := l.filter (fun t => decide (t.id ≠ i))
theorem fpairs_less (l : List Th) (i : Int) : fpairs (lessId l i) = (fpairs l).filter (fun p => decide (p.1 ≠ i)) := by
  unfold fpairs lessId
  rw [List.filter_map]
  rfl
theorem lessId_twice (l : List Th) (i : Int) : lessId (lessId l i) i = lessId l i := by
  unfold lessId
  rw [List.filter_filter]
  apply List.filter_congr
  intro t _
  simp
theorem same_u (a b : Int) : (Lit.int .u64 a).sameKey (.int .u64 b) = decide (a = b) := by
  simp [Lit.sameKey]
/-- a range over a map of things under way: these things are to come -/
structure Rgs (W : World) (mf r n : Nat) (D : DataW Unit) (far todo : List Th) (cnt : Nat) : Prop where
  run : ∃ left, W.ranges Try.prog 28 thElem mf r n D left cnt ∧ ∀ i, left (.int .u64 i) = true ↔ ∃ t ∈ todo, t.id = i
  map : MapL D (fpairs far)
  sub : ∀ t ∈ todo, t ∈ far
theorem Rgs.ids {W : World} {mf r n : Nat} {D : DataW Unit} {far todo : List Th} {cnt : Nat} (h : Rgs W mf r n D far todo cnt) {s t : Th} (hs : s ∈ far) (ht : t ∈ far) (e : s.id = t.id) : s = t := by
  have h1 := h.map.at_ (s.id, thD s) (List.mem_map.2 ⟨s, hs, rfl⟩) .nil
  have h2 := h.map.at_ (t.id, thD t) (List.mem_map.2 ⟨t, ht, rfl⟩) .nil
  simp only at h1 h2
  rw [e, h2] at h1
  exact (thD_inj h1).symm
theorem Rgs.start {W : World} {mf n : Nat} {D : DataW Unit} {far : List Th} (h : W.ownsMap Try.prog 28 thElem mf n D) (hD : MapL D (fpairs far)) :
    ∃ w', (Instr.range mfT (.map (some mf))).run Try.prog W = .ok (.pointer (some ⟨W.heap.size, 0, none⟩)) w' ∧ Rgs w' mf W.heap.size n D far far (Maps.size D) ∧ W.grownBy w' none ∧ w'.heap.size = W.heap.size + 1 := by
  obtain ⟨w', hrun, h1, h2, h3⟩ := h.range u64law Try.underlying26
  refine ⟨w', hrun, ⟨⟨_, h1, fun i => ?_⟩, hD, fun _ h => h⟩, h2, h3⟩
  rw [hD.has i]
  constructor
  · rintro ⟨p, hp, e⟩
    obtain ⟨t, ht, rfl⟩ := List.mem_map.1 hp
    exact ⟨t, ht, e⟩
  · rintro ⟨t, ht, e⟩
    exact ⟨_, List.mem_map.2 ⟨t, ht, rfl⟩, e⟩
theorem Rgs.kept {W W' : World} {mf r n : Nat} {D : DataW Unit} {far todo : List Th} {cnt : Nat} {row : Option Nat} (h : Rgs W mf r n D far todo cnt) (hg : W.grownBy W' row) (hb' : some mf ≠ row) (hr' : some r ≠ row) : Rgs W' mf r n D far todo cnt := by
  obtain ⟨left, h1, h2⟩ := h.run
  exact ⟨⟨left, h1.kept hg hb' hr', h2⟩, h.map, h.sub⟩
theorem Rgs.left_eq {W : World} {mf r n : Nat} {D : DataW Unit} {far todo : List Th} {cnt : Nat} (h : Rgs W mf r n D far todo cnt) : W.rangeLeft mf r = cnt := by
  obtain ⟨left, h1, h2⟩ := h.run
  exact h1.left_eq
theorem Rgs.owns {W : World} {mf r n : Nat} {D : DataW Unit} {far todo : List Th} {cnt : Nat} (h : Rgs W mf r n D far todo cnt) : W.ownsMap Try.prog 28 thElem mf n D := by
  obtain ⟨left, h1, h2⟩ := h.run
  exact h1.owns
theorem Rgs.lt {W : World} {mf r n : Nat} {D : DataW Unit} {far todo : List Th} {cnt : Nat} (h : Rgs W mf r n D far todo cnt) : mf < W.heap.size ∧ r < W.heap.size ∧ r ≠ mf := by
  obtain ⟨left, h1, h2⟩ := h.run
  exact ⟨h1.owns.lt, h1.lt, h1.ne⟩
theorem Rgs.strike {todo : List Th} {left : Lit → Bool} (h : ∀ i, left (.int .u64 i) = true ↔ ∃ t ∈ todo, t.id = i) (x : Int) : ∀ i, (left (.int .u64 i) && !(Lit.int .u64 i).sameKey (.int .u64 x)) = true ↔ ∃ t ∈ lessId todo x, t.id = i := by
  intro i
  rw [same_u, Bool.and_eq_true, h i]
  simp only [Bool.not_eq_true', decide_eq_false_iff_not, lessId, List.mem_filter, decide_eq_true_eq]
  constructor
  · rintro ⟨⟨t, ht, e⟩, hne⟩
    exact ⟨t, ⟨ht, by rw [e]; exact hne⟩, e⟩
  · rintro ⟨t, ⟨ht, hne⟩, e⟩
    exact ⟨⟨t, ht, e⟩, by rw [← e]; exact hne⟩
theorem Rgs.drop {W : World} {mf r n : Nat} {D : DataW Unit} {far todo : List Th} {cnt : Nat} (h : Rgs W mf r n D far todo cnt) (i : Int) (hw : IdOk i) (ty : TypeId) :
    ∃ w' D' cnt', (Builtin.delete_ #[mfT, 28] ty #[.map (some mf), .int .u64 i]).run Try.prog W = .ok (.tuple #[]) w' ∧ Rgs w' mf r n D' (lessId far i) (lessId todo i) cnt' ∧ cnt' ≤ cnt ∧ W.grownBy w' (some mf) := by
  obtain ⟨left, h1, h2⟩ := h.run
  obtain ⟨w', cnt', hrun, r1, r2, r3⟩ := h1.drop u64law Try.underlying26 (keyOf_int_mk Try.underlying28 hw.wf) ty
  refine ⟨w', _, cnt', hrun, ⟨⟨_, r1, Rgs.strike h2 i⟩, ?_, fun t ht => ?_⟩, r2, r3.grown⟩
  · rw [fpairs_less]; exact h.map.del i
  · unfold lessId at ht ⊢
    have := List.mem_filter.1 ht
    exact List.mem_filter.2 ⟨h.sub t this.1, this.2⟩
section
variable {ops : Array Oper} {rest : List Oper} {o : Oper} {a : Act} {Q : Exit → Act → World → Prop}
theorem wpl_range_th (W : World) (hg : o.guard = none) (m : Operand) (hop : o.op = Op.range mfT m) (mf n : Nat) (D : DataW Unit) (far : List Th) (hm : a.eval m = .map (some mf)) (h : W.ownsMap Try.prog 28 thElem mf n D) (hD : MapL D (fpairs far))
    (hK : ∀ w' cnt, Rgs w' mf W.heap.size n D far far cnt → W.grownBy w' none → w'.heap.size = W.heap.size + 1 → wpList Try.prog ops Q rest (a.put o.dst (.pointer (some ⟨W.heap.size, 0, none⟩))) w') :
    wpList Try.prog ops Q (o :: rest) a W := by
  refine wpList_plain hg fun K' hK' => ?_
  obtain ⟨w', hrun, r1, r2, r3⟩ := Rgs.start h hD
  unfold Oper.wp
  simp [execOp, hop, hm, hrun, Result.andThen]
  exact hK' _ _ (hK w' _ r1 r2 r3)
theorem wpl_next_th (W : World) (hg : o.guard = none) (it : Operand) (hop : o.op = Op.next it false) (mf r n : Nat) (D : DataW Unit) (far todo : List Th) (cnt : Nat) (hit : a.eval it = .pointer (some ⟨r, 0, none⟩)) (h : Rgs W mf r n D far todo cnt)
    (hDone : todo = [] → wpList Try.prog ops Q rest (a.put o.dst (.tuple #[.bool false])) W)
    (hMore : ∀ (t : Th) (w' : World) (cnt' : Nat), t ∈ todo → Rgs w' mf r n D far (lessId todo t.id) cnt' → cnt' < cnt → W.grownBy w' (some r) → w'.heap.size = W.heap.size → (Instr.entry (.pointer (some ⟨r, 0, none⟩))).run Try.prog w' = .ok (.tuple #[.int .u64 t.id, thVal t]) w' → wpList Try.prog ops Q rest (a.put o.dst (.tuple #[.bool true, .int .u64 t.id, thVal t])) w') :
    wpList Try.prog ops Q (o :: rest) a W := by
  obtain ⟨left, h1, h2⟩ := h.run
  refine wpList_next_ranges W hg it hop 28 u64law thElem (Value.int .u64) thVal (fun key kl hkey => by obtain ⟨x, rfl, _⟩ := Maps.keyOf_int_inv Try.underlying28 hkey; exact ⟨x, rfl⟩) (fun v y hv => by obtain ⟨c, rfl, _⟩ := thElem_inv hv; exact ⟨c, rfl⟩) mf r n D left cnt hit h1 (fun h0 hl => hDone ?_) (fun x c kl y w' cnt' hkey hlk hv hat hrg hlt hgr hsz hen => ?_)
  · cases todo with
    | nil => rfl
    | cons t l =>
      have := (h2 t.id).2 ⟨t, by simp, rfl⟩
      rw [hl] at this; cases this
  · obtain ⟨x', ex, rfl, hwx⟩ := Maps.keyOf_int_inv Try.underlying28 hkey
    cases ex
    obtain ⟨t, ht, rfl⟩ := (h2 x).1 hlk
    have hc : c = t := by
      obtain ⟨c', ec, rfl⟩ := thElem_inv hv
      have e1 := h.map.at_ (t.id, thD t) (List.mem_map.2 ⟨t, h.sub t ht, rfl⟩) .nil
      have e2 := hat .nil
      simp only at e1 e2
      have e3 := thD_inj (e2.symm.trans e1)
      rw [← e3]
      obtain ⟨c1, c2, c3⟩ := c
      obtain ⟨d1, d2, d3⟩ := c'
      simp only [thVal, Value.agg.injEq, Array.mk.injEq, List.cons.injEq, Value.int.injEq, true_and, and_true] at ec
      obtain ⟨rfl, rfl, rfl⟩ := ec
      rfl
    subst hc
    exact hMore c w' cnt' ht ⟨⟨_, hrg, Rgs.strike h2 c.id⟩, h.map, fun s hs => h.sub s (List.mem_filter.1 hs).1⟩ hlt hgr hsz hen
end
end Go.Proofs.Ytedlplkomfiahaa
namespace Go.Proofs.Ytedlplkomfiahaa
set_option linter.unusedVariables false
set_option linter.unusedSimpArgs false
set_option linter.unusedSectionVars false
open Go Go.RowKit Go.Maps
/-- the wheel while its map is ranged over -/
structure Lst (W wr : World) (F : Nat → Prop) (G : Nat → Nat → Prop) (w : Nat) (now : Int) (rs : Nat → Nat) (pf mf n : Nat) (R : Nat → RLs) (far todo : List Th) (D : DataW Unit) (cnt : Nat) : Prop where
  rg : Rgs wr mf W.heap.size n D far todo cnt
  wh : Whm wr F G w now rs pf mf n R far
  gr : Gr F W wr
  sz : W.heap.size + 1 ≤ wr.heap.size
section
variable {W wr w' : World} {F : Nat → Prop} {G : Nat → Nat → Prop} {w : Nat} {now : Int} {rs : Nat → Nat} {pf mf n : Nat} {R : Nat → RLs} {far todo : List Th} {D : DataW Unit} {cnt : Nat}
theorem Lst.grow {row : Option Nat} (h : Lst W wr F G w now rs pf mf n R far todo D cnt) (hF : ∀ i, F i → i < W.heap.size) (hg : wr.grownBy w' row) (hrow : ∀ g, row = some g → W.heap.size + 1 ≤ g) : Lst W w' F G w now rs pf mf n R far todo D cnt := by
  have hm := hF mf h.wh.fm
  refine ⟨h.rg.kept hg (fun e => ?_) (fun e => ?_), h.wh.kept hg.size fun i hi => hg.block i (h.wh.bd i hi) (fun e => ?_), ⟨hg.os.trans h.gr.os, hg.tape.trans h.gr.tape, hg.output.trans h.gr.output, Nat.le_trans h.gr.size hg.size, fun i hi hn => (hg.block i (Nat.lt_of_lt_of_le hi h.gr.size) (fun e => ?_)).trans (h.gr.block i hi hn)⟩, Nat.le_trans h.sz hg.size⟩
  · have := hrow _ e.symm; omega
  · have := hrow _ e.symm; omega
  · have := hrow _ e.symm; have := hF i hi; omega
  · have := hrow _ e.symm; omega
theorem Lst.next {todo' : List Th} {cnt' : Nat} (h : Lst W wr F G w now rs pf mf n R far todo D cnt) (hF : ∀ i, F i → i < W.heap.size) (hr : Rgs w' mf W.heap.size n D far todo' cnt') (hg : wr.grownBy w' (some W.heap.size)) : Lst W w' F G w now rs pf mf n R far todo' D cnt' := by
  refine ⟨hr, h.wh.kept hg.size fun i hi => hg.block i (h.wh.bd i hi) (fun e => ?_), ⟨hg.os.trans h.gr.os, hg.tape.trans h.gr.tape, hg.output.trans h.gr.output, Nat.le_trans h.gr.size hg.size, fun i hi hn => (hg.block i (Nat.lt_of_lt_of_le hi h.gr.size) (fun e => ?_)).trans (h.gr.block i hi hn)⟩, Nat.le_trans h.sz hg.size⟩
  · simp only [Option.some.injEq] at e; have := hF i hi; omega
  · simp only [Option.some.injEq] at e; omega
theorem Lst.drop (h : Lst W wr F G w now rs pf mf n R far todo D cnt) (i : Int) (hw : IdOk i) (ty : TypeId) :
    ∃ w' D' cnt', (Builtin.delete_ #[mfT, 28] ty #[.map (some mf), .int .u64 i]).run Try.prog wr = .ok (.tuple #[]) w' ∧ Lst W w' F G w now rs pf mf n R (lessId far i) (lessId todo i) D' cnt' ∧ cnt' ≤ cnt ∧ wr.grownBy w' (some mf) := by
  obtain ⟨w', D', cnt', hrun, hr, hle, hg⟩ := h.rg.drop i hw ty
  have hm := h.wh.turn hg hr.owns hr.map (Nat.le_refl n)
  exact ⟨w', D', cnt', hrun, ⟨hr, hm.1, h.gr.trans hm.2, Nat.le_trans h.sz hg.size⟩, hle, hg⟩
end
/-- what late has done -/
structure LateIs (now : Int) (far0 far todo l : List Th) : Prop where
  perm : far0.Perm (l ++ far)
  late : ∀ t ∈ l, t.due ≤ now
  rest : ∀ t ∈ far, t ∈ todo ∨ now < t.due
theorem LateIs.start (now : Int) (far : List Th) : LateIs now far far far [] := ⟨List.Perm.refl _, by simp, fun t ht => .inl ht⟩
theorem perm_less {l : List Th} (h : ∀ s ∈ l, ∀ t ∈ l, s.id = t.id → s = t) (hnd : l.Nodup) {t : Th} (ht : t ∈ l) : l.Perm (t :: lessId l t.id) := by
  induction l with
  | nil => cases ht
  | cons x l ih =>
    rw [List.nodup_cons] at hnd
    by_cases e : x = t
    · subst e
      have hl : lessId (x :: l) x.id = l := by
        unfold lessId
        rw [List.filter_cons_of_neg (by simp)]
        exact List.filter_eq_self.2 fun y hy => by
          simp only [decide_eq_true_eq]
          intro e2
          exact hnd.1 (h y (by simp [hy]) x (by simp) e2 ▸ hy)
      rw [hl]
    · have ht2 : t ∈ l := by
        rcases List.mem_cons.1 ht with e2 | e2
        · exact absurd e2.symm e
        · exact e2
      have hne : x.id ≠ t.id := fun e2 => e (h x (by simp) t ht e2)
      have hl : lessId (x :: l) t.id = x :: lessId l t.id := by
        unfold lessId
        rw [List.filter_cons_of_pos (by simpa using hne)]
      rw [hl]
      exact ((ih (fun s hs u hu => h s (by simp [hs]) u (by simp [hu])) hnd.2 ht2).cons x).trans (List.Perm.swap _ _ _)
theorem LateIs.take {now : Int} {far0 far todo l : List Th} (h : LateIs now far0 far todo l) (hid : ∀ s ∈ far, ∀ t ∈ far, s.id = t.id → s = t) (hnd : far.Nodup) {t : Th} (ht : t ∈ far) (hd : t.due ≤ now) : LateIs now far0 (lessId far t.id) (lessId (lessId todo t.id) t.id) (l ++ [t]) := by
  refine ⟨?_, fun s hs => ?_, fun s hs => ?_⟩
  · refine h.perm.trans ?_
    rw [List.append_assoc]
    exact List.Perm.append (List.Perm.refl l) (perm_less hid hnd ht)
  · rcases List.mem_append.1 hs with h1 | h1
    · exact h.late s h1
    · simp at h1; subst h1; exact hd
  · have h1 := List.mem_filter.1 hs
    rw [lessId_twice]
    exact (h.rest s h1.1).imp (fun h2 => List.mem_filter.2 ⟨h2, h1.2⟩) id
theorem LateIs.skip {now : Int} {far0 far todo l : List Th} (h : LateIs now far0 far todo l) (hid : ∀ s ∈ far, ∀ t ∈ far, s.id = t.id → s = t) {t : Th} (ht : t ∈ far) (hd : now < t.due) : LateIs now far0 far (lessId todo t.id) l := by
  refine ⟨h.perm, h.late, fun s hs => ?_⟩
  by_cases e : s.id = t.id
  · obtain rfl := hid s hs t ht e
    exact .inr hd
  · exact (h.rest s hs).imp (fun h2 => List.mem_filter.2 ⟨h2, by simpa using e⟩) id
theorem fpairs_nodup {D : DataW Unit} {far : List Th} (h : MapL D (fpairs far)) : far.Nodup := by
  have := h.ids
  unfold fpairs at this
  rw [List.pairwise_map] at this
  exact this.imp fun {a b} hne e => hne (by rw [e])
abbrev thsT : TypeId := 35
theorem ths_snoc (l : List Th) (t : Th) : (l.map thCells ++ [thCells t]).flatten = thFlat (l ++ [t]) := thFlat_app l t
set_option maxRecDepth 100000 in
set_option maxHeartbeats 4000000 in
theorem late_any (W : World) (F : Nat → Prop) (G : Nat → Nat → Prop) (w : Nat) (now : Int) (rs : Nat → Nat) (pf mf n : Nat) (R : Nat → RLs) (far : List Th) (h : Whm W F G w now rs pf mf n R far) (hid : ∀ t ∈ far, IdOk t.id) (hlen : far.length ≤ 10000) :
    Calls Try.prog 68 #[.pointer (some ⟨w, 0, none⟩)] W fun e W' => ∃ ao cap l far', e = .returned (.slice ao l.length cap) ∧ W'.ownsRow (W.heap.size + 1) thT 3 (.slice ao l.length cap) l.length (thFlat l) ∧ Whm W' F G w now rs pf mf n R far' ∧ Gr F W W' ∧ W.heap.size + 1 ≤ W'.heap.size ∧ Hid (LateIs now far far' [] l) := by
  obtain ⟨a0, a1, a2, a3, a4, a5, b0, hwl, hfl⟩ := h.cells
  obtain ⟨D, hD, hE⟩ := h.map
  have HF := Lib.hid h.bd
  have H := Lib.hid h
  have Hid' := Lib.hid hid
  have Hlen := Lib.hid hlen
  obtain ⟨r, hr⟩ : ∃ r, r = W.heap.size := ⟨_, rfl⟩
  clear h hid hlen
  go_enter Try.func68, Try.ntmps68
  go_wp2_with (first
    | (at_range; refine wpl_range_th _ rfl _ rfl mf n D far rfl hD hE ?_; intro w0 cnt0 hrg0 hg0 hs0)
    | go_in)
  go_frame
  have hst : Lst W w0 F G w now rs pf mf n R far far D cnt0 := ⟨hrg0, H.out.kept hg0.size fun i hi => hg0.block i (HF.out i hi) (by simp), Gr.one hg0 (fun b hb => by cases hb), by omega⟩
  have Hst := Lib.hid hst
  clear hst hrg0 hg0 hs0 a0 a1 a2 a3 a4 a5 b0 hwl hfl hD hE
  go_loopw [2] (fun v wr => ∃ (D : DataW Unit) (far' todo l : List Th) (cnt : Nat) (ao : Option Addr) (cap : Nat), v = .slice ao l.length cap ∧ Hid (Lst W wr F G w now rs pf mf n R far' todo D cnt) ∧ Hid (LateIs now far far' todo l) ∧
    Hid (wr.ownsRow (W.heap.size + 1) thT 3 (.slice ao l.length cap) l.length (thFlat l))) (fun _ wr => wr.rangeLeft mf W.heap.size)
  case atStart => exact ⟨_, _, _, [], _, none, 0, rfl, Hst, LateIs.start now far, World.ownsRow_nil _ _ _ _⟩
  case round =>
    obtain ⟨D, far', todo, l, cnt, ao, cap, rfl, hst, hla, hrow⟩ := hrel
    have hrg := hst.out.rg
    have hll : l.length ≤ 10000 := by
      have h1 := hla.out.perm.length_eq
      have h2 := Hlen.out
      rw [List.length_append] at h1
      omega
    have HLL := Lib.hid hll
    clear hll
    go_wp2_with (first
      | (at_next; refine wpl_next_th _ rfl _ rfl mf W.heap.size n D far' todo cnt rfl hrg ?_ ?_)
      | go_in)
    · intro h0
      subst h0
      clear hrg
      go_wp2_with fail
      go_ret
      exact ⟨ao, cap, l, far', rfl, hrow.out, hst.out.wh, hst.out.gr, hst.out.sz, hla⟩
    · intro t w1 cnt1 htd hrg1 hlt hg1 hs1 hen
      have hst1 := hst.out.next HF.out hrg1 hg1
      have htf := hst.out.rg.sub t htd
      have hrow1 : w1.ownsRow (W.heap.size + 1) thT 3 (.slice ao l.length cap) l.length (thFlat l) := hrow.out.kept hg1 (by
        cases hx : (Value.slice ao l.length cap).ownBlock with
        | none => exact .inl rfl
        | some g => exact .inr (fun e => by have := (hrow.out.lt g hx).1; simp only [Option.some.injEq] at e; omega))
      have Hids := Lib.hid (fun s (hs : s ∈ far') u (hu : u ∈ far') e => hst.out.rg.ids hs hu e)
      have Hnd := Lib.hid (fpairs_nodup hst.out.rg.map)
      have hidt := Hid'.out t (hla.out.perm.mem_iff.2 (List.mem_append_right l htf))
      have Hleft := Lib.hid hst.out.rg.left_eq
      obtain ⟨ti, tg, td⟩ := t
      unfold thVal at hen
      obtain ⟨W2, hW2⟩ : ∃ W2, W2 = w1.alloc (.cells #[.int .u64 ti, .int .u64 tg, .int .i64 td] thT) := ⟨_, rfl⟩
      obtain ⟨q, hq⟩ : ∃ q, q = w1.heap.size := ⟨_, rfl⟩
      have hg2 : w1.grownBy W2 none := by rw [hW2]; exact World.grownBy_alloc _ _ _
      have hst2 := hst1.grow HF.out hg2 (fun g e => by cases e)
      have hrow2 : W2.ownsRow (W.heap.size + 1) thT 3 (.slice ao l.length cap) l.length (thFlat l) := by rw [hW2]; exact hrow1.alloc _
      have hq4 : W2.heap[q]? = some (.cells #[.int .u64 ti, .int .u64 tg, .int .i64 td] thT (0, 0)) := by rw [hW2, hq]; exact heap_alloc_new _ _
      obtain ⟨q0, q1, q2, -, -, -⟩ := set3_res (t := ⟨ti, tg, td⟩) hq4
      have hql := (Array.getElem?_eq_some_iff.1 hq4).1
      obtain ⟨a0, a1, a2, a3, a4, a5, b0, hwl, hfl⟩ := hst2.wh.cells
      have Hst2 := Lib.hid hst2
      have Hrow2 := Lib.hid hrow2
      have Hq4 := Lib.hid hq4
      have Htf := Lib.hid htf
      have Hidt := Lib.hid hidt
      have Hlt := Lib.hid hlt
      clear hst2 hrow2 hst1 hrow1 hg2 hrg hrg1 hg1 hs1 hq4 htf hidt hlt htd
      go_upto_region 4 with fail
      rw [← hW2, ← hq]
      clear hW2 hq hen
      by_cases hd : td ≤ now
      · have Hd := Lib.hid hd
        go_wp2_with fail
        go_quiet (fail)
        obtain ⟨W3, hW3⟩ : ∃ W3, W3 = W2.drewN nq := ⟨_, rfl⟩
        have hg3 : W2.grownBy W3 none := by rw [hW3]; exact ⟨rfl, rfl, rfl, Nat.le_refl _, fun _ _ _ => rfl⟩
        have hst3 := Hst2.out.grow HF.out hg3 (fun g e => by cases e)
        have hrow3 : W3.ownsRow (W.heap.size + 1) thT 3 (.slice ao l.length cap) l.length (thFlat l) := by rw [hW3]; exact Hrow2.out
        have hq3 : W3.heap[q]? = some (.cells #[.int .u64 ti, .int .u64 tg, .int .i64 td] thT (0, 0)) := by rw [hW3]; exact Hq4.out
        have hql3 := (Array.getElem?_eq_some_iff.1 hq3).1
        clear q0 q1 q2 hql a0 a1 a2 a3 a4 a5 b0 hwl hfl
        obtain ⟨q0, q1, q2, -, -, -⟩ := set3_res (t := ⟨ti, tg, td⟩) hq3
        have Hst3 := Lib.hid hst3
        have Hrow3 := Lib.hid hrow3
        have hl1 : l.length ≤ 10000 := HLL.out
        rw [← hW3]
        clear hW3 hg3 hst3 hrow3 hq3 hd
        go_upto_region 6 with (at_builtin; refine wpl_append_one rfl (.tmp 25) (.tmp 27) thsT rfl (W.heap.size + 1) thT infoTh Try.underlying35 rfl (by decide) (.slice ao l.length cap) l.length (l.map thCells) rfl (Hrow3.out.alloc _) _ 1 (thCells ⟨ti, tg, td⟩) rfl rfl (news_at _ rfl) (th_one _) ?_ ?_ ?_ ?_; omega; (unfold maxLen; omega); (have := Hst3.out.sz; simp; omega); intro g4 c4 w4 hown4 hg4 hlie)
        have hst4 := (Hst3.out.grow HF.out (World.grownBy_alloc _ _ none) (fun g e => by cases e)).grow HF.out hg4 (fun g e => (Hrow3.out.lt g e).1)
        obtain ⟨W5, D5, cnt5, hdel, hst5, hle5, hg5⟩ := hst4.drop ti Hidt.out 0
        have hrow5 := hown4.kept hg5 (.inr (fun e => by
          simp only [Value.ownBlock, Option.some.injEq] at e
          have h5 := (hown4.lt g4 rfl).1
          have h6 := HF.out mf hst4.wh.fm
          omega))
        rw [ths_snoc] at hrow5
        obtain ⟨a0, a1, a2, a3, a4, a5, b0, hwl, hfl⟩ := hst4.wh.cells
        have hla5 := hla.out.take Hids.out Hnd.out Htf.out Hd.out
        have Hla5 := Lib.hid hla5
        have Hst5 := Lib.hid hst5
        have hrow5' : W5.ownsRow (W.heap.size + 1) thT 3 (.slice (some ⟨g4, 0, none⟩) (l ++ [(⟨ti, tg, td⟩ : Th)]).length c4) (l ++ [(⟨ti, tg, td⟩ : Th)]).length (thFlat (l ++ [⟨ti, tg, td⟩])) := by rw [List.length_append]; exact hrow5
        have Hrow5 := Lib.hid hrow5'
        have hcl : cnt5 < cnt := Nat.lt_of_le_of_lt hle5 Hlt.out
        have Hcl := Lib.hid hcl
        clear hst4 hst5 hrow5 hrow5' hg5 hle5 hown4 hg4 hlie hla5 hcl q0 q1 q2 hql3
        go_wp2_with fail
        go_roundw
        case rel => exact ⟨D5, _, _, l ++ [⟨ti, tg, td⟩], cnt5, some ⟨g4, 0, none⟩, c4, by rw [List.length_append]; rfl, Hst5, Hla5, Hrow5⟩
        case measure => rw [Hst5.out.rg.left_eq, Hleft.out]; exact Hcl.out
      · have hla5 := hla.out.skip Hids.out Htf.out (Int.lt_of_not_ge hd)
        have Hla5 := Lib.hid hla5
        clear hla5
        go_wp2_with fail
        go_quiet (fail)
        go_wp2_with fail
        obtain ⟨W3, hW3⟩ : ∃ W3, W3 = W2.drewN nq := ⟨_, rfl⟩
        have hg3 : W2.grownBy W3 none := by rw [hW3]; exact ⟨rfl, rfl, rfl, Nat.le_refl _, fun _ _ _ => rfl⟩
        have hst3 := Hst2.out.grow HF.out hg3 (fun g e => by cases e)
        have hrow3 : W3.ownsRow (W.heap.size + 1) thT 3 (.slice ao l.length cap) l.length (thFlat l) := by rw [hW3]; exact Hrow2.out
        have Hst3 := Lib.hid hst3
        have Hrow3 := Lib.hid hrow3
        rw [← hW3]
        clear hW3 hst3 hrow3 hg3
        go_roundw
        case rel => exact ⟨D, far', lessId todo ti, l, cnt1, ao, cap, rfl, Hst3, Hla5, Hrow3⟩
        case measure => rw [Hst3.out.rg.left_eq, Hleft.out]; exact Hlt.out
end Go.Proofs.Ytedlplkomfiahaa
namespace Go.Proofs.Ytedlplkomfiahaa
set_option linter.unusedVariables false
set_option linter.unusedSimpArgs false
set_option linter.unusedSectionVars false
open Go Go.RowKit Go.Maps
def putsR (R : Nat → RLs) (b : Int) (l : List Th) : Nat → RLs := l.foldl (fun R t => if t.due ≤ b then R else putR R b t) R
def putsF (far : List Th) (b : Int) (l : List Th) : List Th := l.foldl (fun f t => if t.due ≤ b then f else putF f b t) far
def lateOf (b : Int) (l : List Th) : List Th := l.filter (fun t => decide (t.due ≤ b))
def soonOf (b : Int) (l : List Th) : List Th := l.filter (fun t => decide (b < t.due))
theorem putsR_snoc (R : Nat → RLs) (b : Int) (l : List Th) (t : Th) : putsR R b (l ++ [t]) = if t.due ≤ b then putsR R b l else putR (putsR R b l) b t := by
  unfold putsR; rw [List.foldl_append]; rfl
theorem putsF_snoc (far : List Th) (b : Int) (l : List Th) (t : Th) : putsF far b (l ++ [t]) = if t.due ≤ b then putsF far b l else putF (putsF far b l) b t := by
  unfold putsF; rw [List.foldl_append]; rfl
theorem lateOf_snoc (b : Int) (l : List Th) (t : Th) : lateOf b (l ++ [t]) = if t.due ≤ b then lateOf b l ++ [t] else lateOf b l := by
  unfold lateOf; rw [List.filter_append]
  by_cases h : t.due ≤ b <;> simp [h]
theorem soonOf_snoc (b : Int) (l : List Th) (t : Th) : soonOf b (l ++ [t]) = if t.due ≤ b then soonOf b l else soonOf b l ++ [t] := by
  unfold soonOf; rw [List.filter_append]
  by_cases h : t.due ≤ b
  · simp [h, Int.not_lt.2 h]
  · simp [h, Int.lt_of_not_ge h]
theorem split_late (b : Int) (l : List Th) : l.Perm (lateOf b l ++ soonOf b l) := by
  have h := (List.filter_append_perm (fun t : Th => decide (t.due ≤ b)) l).symm
  have e : soonOf b l = l.filter (fun t => !decide (t.due ≤ b)) := by
    unfold soonOf
    apply List.filter_congr
    intro t _
    rw [← decide_not, decide_eq_decide]; omega
  rw [e]; exact h
theorem Tot.put (R : Nat → RLs) (far : List Th) (b : Int) (t : Th) : (Tot (putR R b t) (putF far b t)).Perm (Tot R far ++ [t]) := by
  have h4 := ringN_le b t.due
  have key : ∀ (A B C : List Th), (A ++ [t] ++ (B ++ C)).Perm (A ++ (B ++ C) ++ [t]) := fun A B C => by
    rw [List.append_assoc, List.append_assoc A]
    exact List.Perm.append (List.Perm.refl _) List.perm_append_comm
  have app : ∀ (A X Y : List Th), X.Perm (Y ++ [t]) → (A ++ X).Perm (A ++ Y ++ [t]) := fun A X Y h => by
    rw [List.append_assoc]; exact List.Perm.append (List.Perm.refl _) h
  have fr : ∀ (A B : List Th), (A ++ [t] ++ B).Perm (A ++ B ++ [t]) := fun A B => by
    rw [List.append_assoc, List.append_assoc]
    exact List.Perm.append (List.Perm.refl _) List.perm_append_comm
  unfold Tot putR putF
  rcases (by omega : ringN b t.due = 0 ∨ ringN b t.due = 1 ∨ ringN b t.due = 2 ∨ ringN b t.due = 3 ∨ ringN b t.due = 4) with e | e | e | e | e
  · rw [e]
    simp only [show ¬ ((0 : Nat) = 4) from by decide, show ¬ ((0 : Nat) = 1) from by decide, show ¬ ((0 : Nat) = 2) from by decide, show ¬ ((0 : Nat) = 3) from by decide, if_true, if_false, List.map_append, List.map_cons, List.map_nil]
    exact app _ _ _ (fr _ _)
  · rw [e]
    simp only [show ¬ ((1 : Nat) = 4) from by decide, show ¬ ((1 : Nat) = 0) from by decide, show ¬ ((1 : Nat) = 2) from by decide, show ¬ ((1 : Nat) = 3) from by decide, if_true, if_false, List.map_append, List.map_cons, List.map_nil]
    exact app _ _ _ (app _ _ _ (fr _ _))
  · rw [e]
    simp only [show ¬ ((2 : Nat) = 4) from by decide, show ¬ ((2 : Nat) = 0) from by decide, show ¬ ((2 : Nat) = 1) from by decide, show ¬ ((2 : Nat) = 3) from by decide, if_true, if_false, List.map_append, List.map_cons, List.map_nil]
    exact app _ _ _ (app _ _ _ (app _ _ _ (fr _ _)))
  · rw [e]
    simp only [show ¬ ((3 : Nat) = 4) from by decide, show ¬ ((3 : Nat) = 0) from by decide, show ¬ ((3 : Nat) = 1) from by decide, show ¬ ((3 : Nat) = 2) from by decide, if_true, if_false, List.map_append, List.map_cons, List.map_nil]
    exact app _ _ _ (app _ _ _ (app _ _ _ (app _ _ _ (List.Perm.refl _))))
  · rw [e]
    simp only [show ¬ ((4 : Nat) = 0) from by decide, show ¬ ((4 : Nat) = 1) from by decide, show ¬ ((4 : Nat) = 2) from by decide, show ¬ ((4 : Nat) = 3) from by decide, if_true, if_false]
    exact fr _ _
theorem Tot.puts (R : Nat → RLs) (far : List Th) (b : Int) (l : List Th) : (Tot (putsR R b l) (putsF far b l)).Perm (Tot R far ++ soonOf b l) := by
  induction l using Sta.snoc_ind with
  | h0 => simp [putsR, putsF, soonOf]
  | h1 l t ih =>
    rw [putsR_snoc, putsF_snoc, soonOf_snoc]
    by_cases h : t.due ≤ b
    · rw [if_pos h, if_pos h, if_pos h]; exact ih
    · rw [if_neg h, if_neg h, if_neg h]
      refine (Tot.put _ _ b t).trans ?_
      rw [← List.append_assoc]
      exact List.Perm.append ih (List.Perm.refl _)
theorem putsR_mem (R : Nat → RLs) (b : Int) (l : List Th) (k : Nat) : ∀ p ∈ putsR R b l k, p ∈ R k ∨ (p.1 ∈ l ∧ b < p.1.due ∧ ringN b p.1.due = k ∧ p.2 = slotN k p.1.due) := by
  induction l using Sta.snoc_ind with
  | h0 => intro p hp; exact .inl hp
  | h1 l t ih =>
    intro p hp
    rw [putsR_snoc] at hp
    by_cases h : t.due ≤ b
    · rw [if_pos h] at hp
      exact (ih p hp).imp id (fun q => ⟨by simp [q.1], q.2⟩)
    · rw [if_neg h] at hp
      unfold putR at hp
      by_cases e : ringN b t.due = k
      · simp only [if_pos e] at hp
        rcases List.mem_append.1 hp with h1 | h1
        · exact (ih p h1).imp id (fun q => ⟨by simp [q.1], q.2⟩)
        · simp at h1; subst h1
          exact .inr ⟨by simp, Int.lt_of_not_ge h, e, rfl⟩
      · simp only [if_neg e] at hp
        exact (ih p hp).imp id (fun q => ⟨by simp [q.1], q.2⟩)
theorem putsF_mem (far : List Th) (b : Int) (l : List Th) : ∀ t ∈ putsF far b l, t ∈ far ∨ (t ∈ l ∧ b < t.due ∧ ringN b t.due = 4) := by
  induction l using Sta.snoc_ind with
  | h0 => intro p hp; exact .inl hp
  | h1 l t ih =>
    intro p hp
    rw [putsF_snoc] at hp
    by_cases h : t.due ≤ b
    · rw [if_pos h] at hp
      exact (ih p hp).imp id (fun q => ⟨by simp [q.1], q.2⟩)
    · rw [if_neg h] at hp
      unfold putF at hp
      by_cases e : ringN b t.due = 4
      · rw [if_pos e] at hp
        rcases List.mem_append.1 hp with h1 | h1
        · exact (ih p h1).imp id (fun q => ⟨by simp [q.1], q.2⟩)
        · simp at h1; subst h1
          exact .inr ⟨by simp, Int.lt_of_not_ge h, e⟩
      · rw [if_neg e] at hp
        exact (ih p hp).imp id (fun q => ⟨by simp [q.1], q.2⟩)
/-- a ring to which nothing goes -/
theorem putsR_other (R : Nat → RLs) (b : Int) (l : List Th) (k : Nat) (h : ∀ t ∈ l, t.due ≤ b ∨ ringN b t.due ≠ k) : putsR R b l k = R k := by
  induction l using Sta.snoc_ind with
  | h0 => rfl
  | h1 l t ih =>
    rw [putsR_snoc]
    have ih := ih fun t ht => h t (by simp [ht])
    by_cases h1 : t.due ≤ b
    · rw [if_pos h1]; exact ih
    · rw [if_neg h1]
      unfold putR
      rcases h t (by simp) with h2 | h2
      · exact absurd h2 h1
      · simp only [if_neg h2]; exact ih
theorem putsF_other (far : List Th) (b : Int) (l : List Th) (h : ∀ t ∈ l, t.due ≤ b ∨ ringN b t.due ≠ 4) : putsF far b l = far := by
  induction l using Sta.snoc_ind with
  | h0 => rfl
  | h1 l t ih =>
    rw [putsF_snoc]
    have ih := ih fun t ht => h t (by simp [ht])
    by_cases h1 : t.due ≤ b
    · rw [if_pos h1]; exact ih
    · rw [if_neg h1]
      unfold putF
      rcases h t (by simp) with h2 | h2
      · exact absurd h2 h1
      · rw [if_neg h2]; exact ih
/-- no two have one id -/
def Ids (l : List Th) : Prop := l.Pairwise (fun a b => a.id ≠ b.id)
theorem Ids.perm {l m : List Th} (h : Ids l) (hp : l.Perm m) : Ids m := (hp.pairwise_iff (fun {_ _} hne => Ne.symm hne)).1 h
theorem Ids.of_app {l m : List Th} (h : Ids (l ++ m)) {s t : Th} (hs : s ∈ l) (ht : t ∈ m) : s.id ≠ t.id := (List.pairwise_append.1 h).2.2 s hs t ht
/-- who is there when the next one is put -/
theorem puts_apart {R : Nat → RLs} {far : List Th} {b : Int} {l : List Th} (h : Ids (Tot R far ++ l)) (i : Nat) (hi : i < l.length) : ∀ u ∈ Tot (putsR R b (l.take i)) (putsF far b (l.take i)), u.id ≠ l[i].id := by
  intro u hu
  have h1 := (Tot.puts R far b (l.take i)).mem_iff.1 hu
  have hs : l = l.take i ++ l[i] :: l.drop (i + 1) := by rw [List.getElem_cons_drop, List.take_append_drop]
  rw [hs, ← List.append_assoc] at h
  refine Ids.of_app h (t := l[i]) ?_ (List.mem_cons_self ..)
  rcases List.mem_append.1 h1 with h2 | h2
  · exact List.mem_append_left _ h2
  · exact List.mem_append_right _ (List.mem_filter.1 h2).1
end Go.Proofs.Ytedlplkomfiahaa
