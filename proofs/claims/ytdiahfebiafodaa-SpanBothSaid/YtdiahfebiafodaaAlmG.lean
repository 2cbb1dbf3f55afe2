/- Almanac's Free, gone through by the law's free. No statement of the seat is proved here. -/
import Derived.Test.YtdiahfebiafodaaAlmF
import Derived.Maps.OwnIn
namespace Go.Proofs.Ytdiahfebiafodaa
set_option linter.unusedVariables false
set_option linter.unusedSimpArgs false
set_option linter.unusedSectionVars false
open Go Go.RowKit Go.Shelf
attribute [local go_sem] Oper.semAt_some

theorem free1_stops (B1 B2 B3 B9 : Nat) (f t : Int) (av : Value) (L : List Sp) (h0 : rowErr L = 0) (W0 W1 : World)
    (c1 : W0.cell? ⟨B1, 0, none⟩ = some (.int .i64 f)) (c2 : W0.cell? ⟨B2, 0, none⟩ = some (.int .i64 t)) (c3 : W0.cell? ⟨B3, 0, none⟩ = some av)
    (hA : Alm W0 av L) (hW1 : Below W0.heap.size W0 W1) (hB9 : W0.heap.size ≤ B9) (hB91 : B9 < W1.heap.size) (hp0 : ptr9 B9 W1 = none) :
    SeqStopsK Fence.wide 2 Try.prog 60 #[.pointer (some ⟨B1, 0, none⟩), .pointer (some ⟨B2, 0, none⟩), .pointer (some ⟨B3, 0, none⟩)] encSp (Kp9 B9) (fun ys => ys = freeL L f t) (fun pre => pre <+: freeL L f t) 40 W1 :=
  fun l J Jx W hW hJ _ hY hj0 => free1_in l B1 B2 B3 f t av L h0 J Jx B9 W0 W1 W hJ hY c1 c2 c3 hA hW1 hB9 hB91 hp0 hW hj0

set_option maxRecDepth 100000 in
theorem freeF_any (pa : Option Addr) (f t : Int) (w : World) : CallsIn Fence.wide 2 Try.prog 47 #[.pointer pa, .int .i64 f, .int .i64 t] w fun e w' =>
    e = .returned (.func (.func 60) #[] #[.pointer (some ⟨w.heap.size + 1, 0, none⟩), .pointer (some ⟨w.heap.size + 1 + 1, 0, none⟩), .pointer (some ⟨w.heap.size, 0, none⟩)]) ∧
    w' = ((w.alloc (.cells #[.pointer pa] 24)).alloc (.cells #[.int .i64 f] 2)).alloc (.cells #[.int .i64 t] 2) := by
  refine callsIn_wide.2 ?_
  have hmf : ∀ (fn : Fn) (first cap : Array Value) (w : World), (Instr.makeFunc fn first cap).run Try.prog w = .ok (.func fn first cap) w := fun _ _ _ _ => rfl
  go_enter Try.func47, Try.ntmps47
  go_wp2
  go_ret
  exact ⟨rfl, rfl⟩

theorem eql_seq (k : Nat) (caps : Array Value) (w : World) : (binOp .eql 67 (.func (.func k) #[] caps) .nilFunc).run Try.prog w = .ok (.bool false) w := by
  first | rfl | kernel_rfl | (simp [binOp, go_sem]; done)

set_option maxRecDepth 100000 in
set_option maxHeartbeats 2000000 in
theorem free_in (pa : Option Addr) (f t : Int) (L : List Sp) (w : World) (h0 : rowErr L = 0) (hA : Alm w (.pointer pa) L) :
    CallsIn Fence.wide 3 Try.prog 20 #[.pointer pa, .int .i64 f, .int .i64 t] w fun e w' => (∃ ao cap, e = .returned (.tuple #[.slice ao (freeL L f t).length cap, .bool true]) ∧ Sps w' ao cap (freeL L f t)) ∧ Below w.heap.size w w' := by
  obtain ⟨out, hout⟩ : ∃ out, out = freeL L f t := ⟨_, rfl⟩
  rw [← hout]
  have hol : out.length ≤ 33 := by
    have := refF_len L (lo0 f) (hi0 t)
    obtain ⟨_, h2⟩ := row_chain h0
    rw [hout]; unfold freeL; omega
  have hes := eql_seq
  refine callsIn_of_wp_marks Try.func20 rfl trivial ?_ rfl
  simp only [Try.ntmps20, List.size_toArray, List.length_cons, List.length_nil, Nat.reduceAdd, Nat.reduceSub, Array.replicate_succ, Array.replicate_zero, List.push_toArray, List.append_toArray, List.nil_append, List.cons_append]
  gi_wp2_with fail
  refine ⟨trivial, ?_⟩
  refine (freeF_any pa f t _).mono ?_
  rintro e w' ⟨rfl, rfl⟩
  gi_wp2_with fail
  obtain ⟨W0, hW0⟩ : ∃ W0, W0 = ((((w.alloc (.cells #[.slice none 0 0] 22)).alloc (.cells #[.bool false] 4)).alloc (.cells #[.pointer pa] 24)).alloc (.cells #[.int .i64 f] 2)).alloc (.cells #[.int .i64 t] 2) := ⟨_, rfl⟩
  rw [← hW0]
  have hz0 : W0.heap.size = w.heap.size + 1 + 1 + 1 + 1 + 1 := by rw [hW0]; simp
  have bR : Boxed W0 w.heap.size 22 (.slice none 0 0) := by rw [hW0]; exact ((((Boxed.new w _ _).alloc _).alloc _).alloc _).alloc _
  have bK : Boxed W0 (w.heap.size + 1) 4 (.bool false) := by
    rw [hW0]
    have := Boxed.new (w.alloc (.cells #[.slice none 0 0] 22)) 4 (.bool false)
    rw [World.size_alloc] at this
    exact ((this.alloc _).alloc _).alloc _
  have b3 : Boxed W0 (w.heap.size + 1 + 1) 24 (.pointer pa) := by
    rw [hW0]
    have := Boxed.new ((w.alloc (.cells #[.slice none 0 0] 22)).alloc (.cells #[.bool false] 4)) 24 (.pointer pa)
    rw [World.size_alloc, World.size_alloc] at this
    exact (this.alloc _).alloc _
  have b1 : Boxed W0 (w.heap.size + 1 + 1 + 1) 2 (.int .i64 f) := by
    rw [hW0]
    have := Boxed.new (((w.alloc (.cells #[.slice none 0 0] 22)).alloc (.cells #[.bool false] 4)).alloc (.cells #[.pointer pa] 24)) 2 (.int .i64 f)
    rw [World.size_alloc, World.size_alloc, World.size_alloc] at this
    exact this.alloc _
  have b2 : Boxed W0 (w.heap.size + 1 + 1 + 1 + 1) 2 (.int .i64 t) := by
    rw [hW0]
    have := Boxed.new ((((w.alloc (.cells #[.slice none 0 0] 22)).alloc (.cells #[.bool false] 4)).alloc (.cells #[.pointer pa] 24)).alloc (.cells #[.int .i64 f] 2)) 2 (.int .i64 t)
    rw [World.size_alloc, World.size_alloc, World.size_alloc, World.size_alloc] at this
    exact this
  have hB0 : Below w.heap.size w W0 := by
    rw [hW0]
    exact below_on (below_on (below_on (below_on (below_new _ _) (below_new _ _) (Nat.le_refl _)) (below_new _ _) (Nat.le_refl _)) (below_new _ _) (Nat.le_refl _)) (below_new _ _) (Nat.le_refl _)
  have b9 := Boxed.new W0 22 (.slice none 0 0)
  have hA0 := hA.below hB0
  rw [hz0] at b9
  have hzW : (W0.alloc (.cells #[.slice none 0 0] 22)).heap.size = W0.heap.size + 1 := by simp
  obtain ⟨i0, hi, hzz0, hzz1, hzz2⟩ := info_parts infoSp
  clear hW0 hA
  refine wpIn_rangeFunc_ownH rfl (by omega) (gf := 60) (lb := #[.pointer (some ⟨w.heap.size + 1 + 1 + 1, 0, none⟩), .pointer (some ⟨w.heap.size + 1 + 1 + 1 + 1, 0, none⟩), .pointer (some ⟨w.heap.size + 1 + 1, 0, none⟩)]) rfl trivial (enters_of Try.func60 (by kernel_rfl) rfl)
    (free1_stops (w.heap.size + 1 + 1 + 1) (w.heap.size + 1 + 1 + 1 + 1) (w.heap.size + 1 + 1) (w.heap.size + 1 + 1 + 1 + 1 + 1) f t (.pointer pa) L h0 W0 _ b1.cell b2.cell b3.cell hA0 (below_new _ _) (by omega) (by simp; omega) (ptr9_box b9)) (fun h k => Kp9.trans h k) (Kp9.put (by simp; omega)) (Below.refl _ _) (fun _ => rfl)
    (fun (pre : List Sp) (W : World) => ((∃ v, Boxed W (w.heap.size + 1 + 1 + 1 + 1 + 1) 22 v ∧ W.ownsRow w.heap.size 30 2 v pre.length (pre.map spCells).flatten ∧ True) ∧ Boxed W w.heap.size 22 (.slice none 0 0) ∧ Boxed W (w.heap.size + 1) 4 (.bool false)) ∧ Below w.heap.size w W)
    (fun _ _ _ => False)
    (OwnFrom.and (OwnFrom.and (Own.from (holdsRow_own w.heap.size (w.heap.size + 1 + 1 + 1 + 1 + 1) 22 30 2 (fun (pre : List Sp) => pre.length) (fun (pre : List Sp) => (pre.map spCells).flatten) (fun _ _ => True)) _) (OwnFrom.and (Own.from (boxed_own _ _ _) _) (Own.from (boxed_own _ _ _) _))) (ownFrom_below (Nat.le_refl _) (by simp; omega)))
    (fun _ _ _ _ _ hs _ _ => hs)
    ⟨⟨⟨_, b9, World.ownsRow_nil _ _ _ _, trivial⟩, bR.alloc _, bK.alloc _⟩, hB0.alloc hB0.size _⟩
    (fun x a' W => ∃ B10, a' = { tmps := #[.pointer pa, .int .i64 f, .int .i64 t, undef, undef, undef,
          .pointer (some ⟨w.heap.size, 0, none⟩), .pointer (some ⟨w.heap.size + 1, 0, none⟩), .func (.func 60) #[] #[.pointer (some ⟨w.heap.size + 1 + 1 + 1, 0, none⟩), .pointer (some ⟨w.heap.size + 1 + 1 + 1 + 1, 0, none⟩), .pointer (some ⟨w.heap.size + 1 + 1, 0, none⟩)],
          .pointer (some ⟨w.heap.size + 1 + 1 + 1 + 1 + 1, 0, none⟩), .pointer (some ⟨B10, 0, none⟩), .pointer pa, .int .i64 f, .int .i64 t,
          .func (.func 60) #[] #[.pointer (some ⟨w.heap.size + 1 + 1 + 1, 0, none⟩), .pointer (some ⟨w.heap.size + 1 + 1 + 1 + 1, 0, none⟩), .pointer (some ⟨w.heap.size + 1 + 1, 0, none⟩)],
          .func (.func 60) #[] #[.pointer (some ⟨w.heap.size + 1 + 1 + 1, 0, none⟩), .pointer (some ⟨w.heap.size + 1 + 1 + 1 + 1, 0, none⟩), .pointer (some ⟨w.heap.size + 1 + 1, 0, none⟩)],
          .bool false,
          .func (.func 60) #[] #[.pointer (some ⟨w.heap.size + 1 + 1 + 1, 0, none⟩), .pointer (some ⟨w.heap.size + 1 + 1 + 1 + 1, 0, none⟩), .pointer (some ⟨w.heap.size + 1 + 1, 0, none⟩)],
          .agg #[.int .i64 x.a, .int .i64 x.b], undef, undef, undef, undef, undef, undef, undef, undef, undef], defers := [] } ∧ W.heap[B10]? = some (.cells #[.int .i64 x.a, .int .i64 x.b] 30 (0, 0)))
    (fun x a' => Own.from (fun _ W W' row ⟨B10, e, hc⟩ hg hr => ⟨B10, e, (grownBy_keeps_cells hg hr hc rfl).trans hc⟩) _) ?assign ?body ?done ?stop
  case assign =>
    rintro l pre x W K ⟨⟨⟨v, hv, hrow, -⟩, hbr, hbk⟩, hB⟩ hK
    simp only [encSp]
    gi_wp2
    refine hK _ _ ((KeepsOthers.alloc W _).from _) (Kp9.of_below hv.lt (below_new _ _)) ⟨⟨⟨v, hv.alloc _, hrow.alloc _, trivial⟩, hbr.alloc _, hbk.alloc _⟩, hB.alloc hB.size _⟩ ⟨W.heap.size, rfl, heap_new2 _ _⟩
  case body =>
    rintro l pre x a' W - - ⟨⟨⟨v, hv, hrow, -⟩, hbr, hbk⟩, hB⟩ ⟨B10, rfl, hx⟩ hlen
    obtain ⟨ao, cap, rfl⟩ := own_slice hrow
    have hc := hv.cell
    have hx0 := block_cell hx 0
    have hx1 := block_cell hx 1
    simp at hx0 hx1
    have hp40 : (pre.length : Int) ≤ 40 := by omega
    have hBs := hB.size
    gi_wp2_with (gi_at_builtin; refine wpListIn_append_own_at _ rfl _ _ 22 rfl w.heap.size 30 i0 (.agg #[.int .i64 0, .int .i64 0]) 2 16 Try.underlying22 hi hzz0 hzz1 hzz2 rfl (by decide) (.slice ao pre.length cap) pre.length (pre.map spCells).flatten rfl (hrow.alloc _) ⟨W.heap.size, 0, none⟩ 1 1 (spCells x) rfl rfl (news_at _ rfl) (sp_one _) (by unfold maxLen; omega) (by omega) (by simp; omega) ?_; intro v' w1 hown' hgrow _ hat; obtain ⟨g', cap', rfl⟩ := ownsRow_succ hown'; obtain ⟨hv1, hv2, hr2, hk2, hb2⟩ := Boxed.appended hv (by decide) hrow hBs (by omega) hown' hgrow; have hc1 := hv1.cell; have hf1 := hv1.frozen)
    have hkp : Kp9 (w.heap.size + 1 + 1 + 1 + 1 + 1) W w1 := (Kp9.of_below hv.lt (below_new W _)).trans (Kp9.row (hv.alloc _) hv1 hgrow)
    have hbr1 : Boxed w1 w.heap.size 22 (.slice none 0 0) := (hbr.alloc _).kept hgrow (hbr.not_row (by decide) hrow)
    have hbk1 : Boxed w1 (w.heap.size + 1) 4 (.bool false) := (hbk.alloc _).kept hgrow (hbk.not_row (by decide) hrow)
    refine ⟨hk2.from _, Kp9.store hv1 (n := W.heap.size) ?_ hkp (ptr9_box hv) (Nat.le_refl _), ⟨⟨_, hv2, ?_, trivial⟩, hbr1.other (by omega) _, hbk1.other (by omega) _⟩, hB.trans hb2⟩
    · intro g hg
      rcases hat with e | e
      · rw [e] at hg; exact .inl hg
      · rw [e] at hg
        simp only [World.size_alloc, Option.some.injEq] at hg
        have h3 := (hown'.lt g' rfl).2
        have h4 : g' = W.heap.size + 1 := by simpa [Value.ownBlock] using e
        exact .inr ⟨by omega, by omega⟩
    · simpa using hr2
  case done =>
    rintro D ys W hD hys ⟨⟨⟨v, hv, hrow, -⟩, hbr, hbk⟩, hB⟩ hK
    rw [← hout] at hys
    subst hys
    obtain ⟨ao, cap, rfl⟩ := own_slice hrow
    have hc := hv.cell
    have hcr := hbr.cell
    have hfr := hbr.frozen
    have hck := hbk.cell
    have hfk := hbk.frozen
    have hD1 : w.heap.size + 1 + 1 + 1 + 1 + 1 + 1 ≤ D := by simp at hD; omega
    gi_wp2
    rw [← hout]
    have hbr2 : Boxed ((W.setCell ⟨w.heap.size, 0, none⟩ (.slice ao ys.length cap)).setCell ⟨w.heap.size + 1, 0, none⟩ (.bool true)) w.heap.size 22 (.slice ao ys.length cap) := (hbr.set _).other (by omega) _
    have hbk2 : Boxed ((W.setCell ⟨w.heap.size, 0, none⟩ (.slice ao ys.length cap)).setCell ⟨w.heap.size + 1, 0, none⟩ (.bool true)) (w.heap.size + 1) 4 (.bool true) := (hbk.other (by omega) _).set _
    have hr1 : (W.setCell ⟨w.heap.size, 0, none⟩ (.slice ao ys.length cap)).ownsRow w.heap.size 30 2 (.slice ao ys.length cap) ys.length (ys.map spCells).flatten := hrow.kept (grownBy_setCell' _ _ _) (.inr (hbr.not_row (by decide) hrow).symm)
    have hr2 : ((W.setCell ⟨w.heap.size, 0, none⟩ (.slice ao ys.length cap)).setCell ⟨w.heap.size + 1, 0, none⟩ (.bool true)).ownsRow w.heap.size 30 2 (.slice ao ys.length cap) ys.length (ys.map spCells).flatten := hr1.kept (grownBy_setCell' _ _ _) (.inr ((hbk.other (by omega) _).not_row (by decide) hr1).symm)
    have hK2 := (KeepsOthers.setCell (W.setCell ⟨w.heap.size, 0, none⟩ (.slice ao ys.length cap)) ⟨w.heap.size + 1, 0, none⟩ (.bool true)).same D _ ((KeepsOthers.setCell W ⟨w.heap.size, 0, none⟩ (.slice ao ys.length cap)).same D _ hK rfl) rfl
    have hB2 : Below w.heap.size w ((W.setCell ⟨w.heap.size, 0, none⟩ (.slice ao ys.length cap)).setCell ⟨w.heap.size + 1, 0, none⟩ (.bool true)) := (hB.setCell (p := ⟨w.heap.size, 0, none⟩) (Nat.le_refl _) _).setCell (p := ⟨w.heap.size + 1, 0, none⟩) (by simp) _
    generalize (W.setCell ⟨w.heap.size, 0, none⟩ (.slice ao ys.length cap)).setCell ⟨w.heap.size + 1, 0, none⟩ (.bool true) = W2 at hbr2 hbk2 hr2 hK2 hB2 ⊢
    refine ⟨by simp, .inl ⟨_, _, rfl, run_takeDeferred hK2, ?_⟩⟩
    have hbr3 := (hbr2.kept (grownBy_putObj' W2 D (.deferred none)) (by simp; omega)).cell
    have hbk3 := (hbk2.kept (grownBy_putObj' W2 D (.deferred none)) (by simp; omega)).cell
    refine ⟨.tuple #[.slice ao ys.length cap, .bool true], ?_, ⟨⟨ao, cap, rfl, Sps.of_own (ownsRow_putObj hr2 _ hK2 rfl)⟩, hB2.trans (belowK_b (w := w) (Nat.le_refl _) _ D _ _ (by omega) hK2 rfl rfl)⟩⟩
    simp [results, Try.f20, go_sem, hbr3, hbk3]
  case stop =>
    rintro D c pre W _ _ h _
    exact h.elim
theorem free_any (pa : Option Addr) (f t : Int) (L : List Sp) (w : World) (h0 : rowErr L = 0) (hA : Alm w (.pointer pa) L) :
    Calls Try.prog 20 #[.pointer pa, .int .i64 f, .int .i64 t] w fun e w' => (∃ ao cap, e = .returned (.tuple #[.slice ao (freeL L f t).length cap, .bool true]) ∧ Sps w' ao cap (freeL L f t)) ∧ Below w.heap.size w w' := callsIn_wide.1 (free_in pa f t L w h0 hA)
end Go.Proofs.Ytdiahfebiafodaa
