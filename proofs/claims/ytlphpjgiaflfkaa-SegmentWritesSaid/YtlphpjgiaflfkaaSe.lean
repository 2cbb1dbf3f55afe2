/- segment.Read: the walk of its body. No statement of the seat is proved here. -/
import Derived.Test.YtlphpjgiaflfkaaSd
import Derived.Scope
namespace Go.Proofs.Ytlphpjgiaflfkaa
set_option linter.unusedVariables false
set_option linter.unusedSimpArgs false
set_option linter.unusedSectionVars false
open Go Go.RowKit Go.Shelf
attribute [local go_sem] Oper.semAt_some

/-- what segment.Read answers -/
def ReadIs (b : List UInt8) (w : World) (e : Ending) (w' : World) : Prop :=
  ∃ (v : Value) (l : List Ep), e = .returned (.tuple #[.int .u64 ((segRead b).first : Nat), v, .int .i64 ((segRead b).good : Nat)]) ∧ EnsO w' w.heap.size v l ∧ l.map Ep.e = (segRead b).l ∧ Below w.heap.size w w'
/-- in the midst of it -/
def SegI (w : World) (A : Nat) (b : List UInt8) (pre : List Fb) (W : World) : Prop := ∃ s v l, segAll seg0 (pre.map Fb.key) = some s ∧ SegAt w A s v l W
/-- it ends at the last frame of these -/
def SegX (w : World) (A : Nat) (pre : List Fb) (W : World) : Prop := ∃ s v l pre' x, pre = pre' ++ [x] ∧ segAll seg0 (pre'.map Fb.key) = some s ∧ segStep s (Fb.key x) = none ∧ SegAt w A s v l W
theorem news4f {w W : World} {o1 o2 o3 o4 : Obj} (hW : W = (((w.alloc o1).alloc o2).alloc o3).alloc o4) :
    W.heap[w.heap.size]? = some o1 ∧ W.heap[w.heap.size + 1]? = some o2 ∧ W.heap[w.heap.size + 1 + 1]? = some o3 ∧ W.heap[w.heap.size + 1 + 1 + 1]? = some o4 ∧ W.heap.size = w.heap.size + 4 ∧ Below w.heap.size w W := by
  subst hW
  have e1 : (w.alloc o1).heap.size = w.heap.size + 1 := by simp
  have e2 : ((w.alloc o1).alloc o2).heap.size = w.heap.size + 1 + 1 := by simp
  have e3 : (((w.alloc o1).alloc o2).alloc o3).heap.size = w.heap.size + 1 + 1 + 1 := by simp
  have h2 := heap_alloc_new (w.alloc o1) o2
  have h3 := heap_alloc_new ((w.alloc o1).alloc o2) o3
  have h4 := heap_alloc_new (((w.alloc o1).alloc o2).alloc o3) o4
  rw [e1] at h2
  rw [e2] at h3
  rw [e3] at h4
  exact ⟨(heap_alloc_old _ _ (by simp <;> omega)).trans ((heap_alloc_old _ _ (by simp <;> omega)).trans ((heap_alloc_old _ _ (by simp <;> omega)).trans (heap_alloc_new _ _))), (heap_alloc_old _ _ (by simp <;> omega)).trans ((heap_alloc_old _ _ (by simp <;> omega)).trans h2), (heap_alloc_old _ _ (by simp <;> omega)).trans h3, h4, by simp, (((below_new _ _).alloc (by simp) _).alloc (by simp <;> omega) _).alloc (by simp <;> omega) _⟩
theorem sum8_app (a b : List Nat) : sum8 (a ++ b) = sum8 a + sum8 b := by
  induction a with
  | nil => simp [sum8]
  | cons x a ih => simp only [List.cons_append, sum8, ih]; omega
theorem good_le {b : List UInt8} {pre : List Fb} {x : Fb} (h : (pre ++ [x]).map Fb.key <+: Fr.all b) : sum8 ((pre.map Fb.key).map (·.2.length)) + (x.body.length + 8) ≤ b.length := by
  obtain ⟨t, ht⟩ := h
  have h1 := Fr.sum_le b.length b
  have h2 : sum8 ((Fr.all b).map (·.2.length)) = sum8 (Fr.bl b.length b) := by rw [← Fr.rows_bl]; rfl
  rw [← h2, ← ht, List.map_append, sum8_app, List.map_append, List.map_append, sum8_app] at h1
  simp only [List.map_cons, List.map_nil, sum8, Fb.key] at h1 ⊢
  omega
theorem wide_scope {c : Code} {n : Nat} {Q : Exit → Act → World → Prop} {a : Act} {w : World} (h : c.wpIn Fence.wide n Try.prog (Exit.noGoto Q) a w) : (Code.scope c).wpIn Fence.wide n Try.prog Q a w :=
  (wpIn_wide (n := n)).2 (wp_scope_straight ((wpIn_wide (n := n)).1 h))
set_option maxRecDepth 100000 in
set_option maxHeartbeats 4000000 in
theorem segRead_in (ao : Option Addr) (cap : Nat) (b : List UInt8) (w : World) (hl : b.length ≤ 1000000) (hb : Bs w ao cap b) :
    CallsIn Fence.wide 3 Try.prog 12 #[.slice ao b.length cap] w (ReadIs b w) := by
  refine callsIn_of_wp_marks Try.func12 rfl trivial ?_ rfl
  simp only [Try.ntmps12, List.size_toArray, List.length_cons, List.length_nil, Nat.reduceAdd, Nat.reduceSub, Array.replicate_succ, Array.replicate_zero, List.push_toArray, List.append_toArray, List.nil_append, List.cons_append]
  gi_wp2_with fail
  refine wide_scope ?_
  refine wpIn_seq ?_
  refine wpIn_label ?_
  gi_wp2_with fail
  refine ⟨trivial, ?_⟩
  refine (each_any ao b.length cap _).mono ?_
  rintro e w' ⟨rfl, rfl⟩
  gi_wp2_with fail
  obtain ⟨W4, hW4⟩ : ∃ W4, W4 = (((w.alloc (.cells #[.int .u64 0] 24)).alloc (.cells #[.slice none 0 0] 25)).alloc (.cells #[.int .i64 0] 3)).alloc (.cells #[.slice ao b.length cap] 22) := ⟨_, rfl⟩
  obtain ⟨k2, k3, k4, kc, kz, hB4⟩ := news4f hW4
  rw [← hW4]
  clear hW4
  have cc : W4.cell? ⟨w.heap.size + 1 + 1 + 1, 0, none⟩ = some (.slice ao b.length cap) := block_cell kc 0
  have hS0 : SegI w w.heap.size b [] W4 := ⟨seg0, .slice none 0 0, [], rfl, k2, k3, k4, EnsO.nil _ _, rfl, hB4⟩
  refine wpIn_range_good (by omega) (gf := 80) (lb := #[.pointer (some ⟨w.heap.size + 1 + 1 + 1, 0, none⟩)]) rfl (enters_of Try.func80 (by kernel_rfl) rfl)
    (each2_good (w.heap.size + 1 + 1 + 1) w.heap.size ao cap b (by omega) W4 (by omega) (by omega) cc ⟨hb.below hB4, bs_low hb⟩) (by omega) (fun _ => rfl) (FbGood.put b)
    (fun pre W => SegI w w.heap.size b pre W) (fun c pre W => c = Code.exit 0 ∧ SegX w w.heap.size pre W)
    (fun s A B row hs hg hr => by
      obtain ⟨s, v, l, h1, h2⟩ := hs
      exact ⟨s, v, l, h1, h2.turned (Nat.le_refl _) hg fun r e => ⟨by have := (hr r e).1; omega, (hr r e).2⟩⟩)
    (fun c s A B row hs hg hr => by
      obtain ⟨hc, s, v, l, pre', x, h1, h2, h3, h4⟩ := hs
      exact ⟨hc, s, v, l, pre', x, h1, h2, h3, h4.turned (Nat.le_refl _) hg fun r e => ⟨by have := (hr r e).1; omega, (hr r e).2⟩⟩) hS0
    (fun x => { tmps := #[.slice ao b.length cap, undef, .pointer (some ⟨w.heap.size, 0, none⟩), .pointer (some ⟨w.heap.size + 1, 0, none⟩), .pointer (some ⟨w.heap.size + 1 + 1, 0, none⟩), .int .u8 (x.kind.toNat : Nat), .slice x.ao x.body.length x.cap, undef, undef, .slice ao b.length cap, .func (.func 80) #[] #[.pointer (some ⟨w.heap.size + 1 + 1 + 1, 0, none⟩)], .int .u8 (x.kind.toNat : Nat), .slice x.ao x.body.length x.cap, undef, undef, undef, undef, undef, undef, undef, undef, undef, undef, undef, undef, undef, undef, undef, undef, undef, undef, undef, undef, undef, undef, undef, undef, undef, undef, undef, undef, undef, undef, undef, undef], defers := [] }) ?assign ?body ?done ?stop
  case assign =>
    intro l x W K hK
    simp only [encFb]
    gi_wp2
    exact hK
  case body =>
    rintro l pre x W hlW hr ⟨s, v, el, hseg, hS⟩ hlen ⟨hbx, hpre⟩
    obtain ⟨hb1, hb2, hb3⟩ := segAll_len _ _ _ hseg
    have hb3 := hb3 (by simp [seg0])
    have hgood := good_le hpre
    simp only [seg0, List.length_nil, List.length_map, Nat.zero_add] at hb1 hb2
    have hlt := hS.lt
    obtain ⟨av, cv, rfl⟩ := own_slice hS.ens.own
    have hel : el.length = s.l.length := by rw [← hS.el]; simp
    have c2 : W.cell? ⟨w.heap.size, 0, none⟩ = some (.int .u64 (s.first : Nat)) := block_cell hS.k2 0
    have c3 : W.cell? ⟨w.heap.size + 1, 0, none⟩ = some (.slice av el.length cv) := block_cell hS.k3 0
    have c4 : W.cell? ⟨w.heap.size + 1 + 1, 0, none⟩ = some (.int .i64 (s.good : Nat)) := block_cell hS.k4 0
    have f2 := block_free hS.k2 0
    have f3 := block_free hS.k3 0
    have f4 := block_free hS.k4 0
    by_cases hf : s.first = 0
    · have c2' : W.cell? ⟨w.heap.size, 0, none⟩ = some (.int .u64 0) := by rw [c2, hf]; rfl
      clear c2
      gi_wp2_with fail
      refine ⟨trivial, ?_⟩
      refine (CallsIn.inRound l (callsIn_wide.2 (head_any x.kind x.ao x.cap x.body W hbx))).mono ?_
      rintro e W1 ⟨rfl, hB1⟩
      have hS1 := hS.below (Nat.le_refl _) hB1
      have hlt1 := hS1.lt
      clear c2' c3 c4 f2 f3 f4
      have hstep : segStep s (Fb.key x) = if headV x.kind x.body = 0 then none else some ⟨headV x.kind x.body, s.l, s.good + (x.body.length + 8)⟩ := by unfold segStep; rw [if_pos hf]; rfl
      obtain ⟨f, hfd⟩ : ∃ f, f = headV x.kind x.body := ⟨_, rfl⟩
      rw [← hfd] at hstep ⊢
      have hS2 := hS1.first_ (Nat.le_refl _) f
      have c2 : W1.cell? ⟨w.heap.size, 0, none⟩ = some (.int .u64 (s.first : Nat)) := block_cell hS1.k2 0
      have f2 := block_free hS1.k2 0
      have c4 : (W1.setCell ⟨w.heap.size, 0, none⟩ (.int .u64 (f : Nat))).cell? ⟨w.heap.size + 1 + 1, 0, none⟩ = some (.int .i64 (s.good : Nat)) := block_cell hS2.k4 0
      have f4 := block_free hS2.k4 0
      have hko := (KeepsOthers.of_below hB1).trans (KeepsOthers.setCell W1 ⟨w.heap.size, 0, none⟩ (.int .u64 (f : Nat)))
      have hbl : Below w.heap.size W (W1.setCell ⟨w.heap.size, 0, none⟩ (.int .u64 (f : Nat))) := (hB1.mono (show w.heap.size ≤ W.heap.size by omega)).setCell (p := ⟨w.heap.size, 0, none⟩) (Nat.le_refl _) _
      by_cases hf0 : f = 0
      · have hfb : ((f : Int) == 0) = true := by simp [hf0]
        have es : (⟨f, s.l, s.good⟩ : SegS) = s := by obtain ⟨a1, a2, a3⟩ := s; simp only at hf; subst hf; rw [hf0]
        rw [es] at hS2
        rw [if_pos hf0] at hstep
        have Hfin := Lib.hid (⟨hko.from W4.heap.size, rfl, s, _, el, pre, x, rfl, hseg, hstep, hS2⟩ : KeepsFrom W4.heap.size W (W1.setCell ⟨w.heap.size, 0, none⟩ (.int .u64 (f : Nat))) ∧ Code.exit 0 = Code.exit 0 ∧ SegX w w.heap.size (pre ++ [x]) (W1.setCell ⟨w.heap.size, 0, none⟩ (.int .u64 (f : Nat))))
        clear hS hS1 hS2 hstep hseg hko hbl es hfd hf0 hf
        gi_wp2_with fail
        exact ⟨Hfin.out.1, rfl, Hfin.out.2.2⟩
      · have hfb : ((f : Int) == 0) = false := by simpa using hf0
        rw [if_neg hf0] at hstep
        have hS3 := hS2.good_ (Nat.le_refl _) (s.good + (x.body.length + 8))
        have eg : ((s.good + (x.body.length + 8) : Nat) : Int) = (s.good : Int) + ((x.body.length : Int) + 8) := by omega
        rw [eg] at hS3
        have g1 : (s.good : Int) + ((x.body.length : Int) + 8) ≤ 1000000 := by omega
        have hseg2 : segAll seg0 ((pre ++ [x]).map Fb.key) = some ⟨f, s.l, s.good + (x.body.length + 8)⟩ := by
          rw [List.map_append, List.map_singleton, segAll_snoc _ _ _ _ hseg, hstep]
        have hko2 := hko.trans (KeepsOthers.setCell _ ⟨w.heap.size + 1 + 1, 0, none⟩ (.int .i64 ((s.good : Int) + ((x.body.length : Int) + 8))))
        have hbl2 := hbl.setCell (p := ⟨w.heap.size + 1 + 1, 0, none⟩) (by show w.heap.size ≤ w.heap.size + 1 + 1; omega) (.int .i64 ((s.good : Int) + ((x.body.length : Int) + 8)))
        have Hfin := Lib.hid (And.intro (hko2.from W4.heap.size) (And.intro hbl2 (⟨_, _, el, hseg2, hS3⟩ : SegI w w.heap.size b (pre ++ [x]) _)))
        clear hS hS1 hS2 hS3 hstep hseg hko hbl hko2 hbl2 hfd hf0 hf hseg2 eg hb1 hb2 hgood hpre
        gi_wp2_with fail
        exact Hfin.out
    · have hfb : ((s.first : Int) == 0) = false := by simpa using hf
      have m1 : IntKind.u64.wrap (el.length : Int) = (el.length : Int) := IntWalk.u64_in _ (by omega)
      have m2 : IntKind.u64.wrap ((s.first : Int) + (el.length : Int)) = ((s.first + el.length : Nat) : Int) := by rw [IntWalk.u64_in _ (by omega)]; simp
      have hstep : segStep s (Fb.key x) = if lineOk x.kind x.body (s.first + el.length) = true then some ⟨s.first, s.l ++ [lineE x.body], s.good + (x.body.length + 8)⟩ else none := by unfold segStep; rw [if_neg hf, hel]; rfl
      have hbl9 : x.body.length ≤ 1000000 := by omega
      have hel9 : el.length ≤ 1000000 := by omega
      clear hel hf
      gi_wp2_with fail
      refine ⟨trivial, ?_⟩
      refine (CallsIn.inRound l (callsIn_wide.2 (line_any x.kind x.ao x.cap x.body (s.first + el.length) W hbx hbl9))).mono ?_
      rintro e W1 ⟨ad, cd, rfl, hbt, hB1⟩
      have hS1 := hS.below (Nat.le_refl _) hB1
      clear c2 c3 c4 f2 f3 f4
      obtain ⟨E, hE⟩ : ∃ E, E = lineE x.body := ⟨_, rfl⟩
      rw [← hE] at hbt hstep ⊢
      have hB2 := below_new W1 (.cells #[.int .u64 E.term, .int .i64 E.kind, .slice ad E.data.length cd] 38)
      have hS2 := hS1.below (Nat.le_refl _) hB2
      have hbt2 := hbt.below hB2
      have hko := (KeepsOthers.of_below hB1).trans (KeepsOthers.alloc W1 (.cells #[.int .u64 E.term, .int .i64 E.kind, .slice ad E.data.length cd] 38))
      have hbl := (hB1.mono (by omega : w.heap.size ≤ W.heap.size)).trans (hB2.mono (by have := hB1.size; omega : w.heap.size ≤ W1.heap.size))
      cases hok : lineOk x.kind x.body (s.first + el.length) with
      | false =>
        rw [hok, if_neg (by simp)] at hstep
        have Hfin := Lib.hid (⟨hko.from W4.heap.size, rfl, s, _, el, pre, x, rfl, hseg, hstep, hS2⟩ : KeepsFrom W4.heap.size W (W1.alloc (.cells #[.int .u64 E.term, .int .i64 E.kind, .slice ad E.data.length cd] 38)) ∧ Code.exit 0 = Code.exit 0 ∧ SegX w w.heap.size (pre ++ [x]) (W1.alloc (.cells #[.int .u64 E.term, .int .i64 E.kind, .slice ad E.data.length cd] 38)))
        clear hS hS1 hS2 hstep hseg hko hbl hE hok
        gi_wp2_with fail
        exact ⟨Hfin.out.1, rfl, Hfin.out.2.2⟩
      | true =>
        rw [hok, if_pos rfl] at hstep
        obtain ⟨i0, hi, hz0, hz1, hz2⟩ := info_parts infoEn
        have c3 : (W1.alloc (.cells #[.int .u64 E.term, .int .i64 E.kind, .slice ad E.data.length cd] 38)).cell? ⟨w.heap.size + 1, 0, none⟩ = some (.slice av el.length cv) := block_cell hS2.k3 0
        have hz1' := hB1.size
        have hB3 := below_new (W1.alloc (.cells #[.int .u64 E.term, .int .i64 E.kind, .slice ad E.data.length cd] 38)) (.cells #[.int .u64 E.term, .int .i64 E.kind, .slice ad E.data.length cd] 38)
        have hS3 := hS2.below (Nat.le_refl _) hB3
        have hbt3 := hbt2.below hB3
        have hlt3 := hS3.lt
        have hnews : ∀ j u, (epCells ⟨E, ad, cd⟩)[j]? = some u → ((W1.alloc (.cells #[.int .u64 E.term, .int .i64 E.kind, .slice ad E.data.length cd] 38)).alloc (.cells #[.int .u64 E.term, .int .i64 E.kind, .slice ad E.data.length cd] 38)).cell? ((⟨W1.heap.size + 1, 0, none⟩ : Addr).add j) = some u := by
          intro j u hu
          rw [Addr.add_none, Nat.zero_add]
          have h := cell?_new (W1.alloc (.cells #[.int .u64 E.term, .int .i64 E.kind, .slice ad E.data.length cd] 38)) #[.int .u64 E.term, .int .i64 E.kind, .slice ad E.data.length cd] 38 (0, 0) j
          rw [World.size_alloc] at h
          rw [h]
          simpa [epCells] using hu
        have Hpush := Lib.hid (fun (v' : Value) (W5 : World) ho hg => hS3.push (v' := v') (Y := W5) (x := ⟨E, ad, cd⟩) (Nat.le_refl _) ho hg hbt3)
        have hown3 := hS3.ens.own
        have h1c : ∀ u ∈ epCells ⟨E, ad, cd⟩, u.oneCell' = true := by
          intro u hu
          simp [epCells] at hu
          rcases hu with rfl | rfl | rfl <;> rfl
        have hko3 := hko.trans (KeepsOthers.alloc _ (.cells #[.int .u64 E.term, .int .i64 E.kind, .slice ad E.data.length cd] 38))
        have hbl3 := hbl.trans (hB3.mono (by simp; omega : w.heap.size ≤ _))
        have Hstep := Lib.hid hstep
        have Hseg := Lib.hid hseg
        have Hn := Lib.hid hnews
        have eg : ((s.good + (x.body.length + 8) : Nat) : Int) = (s.good : Int) + ((x.body.length : Int) + 8) := by omega
        have g1 : (s.good : Int) + ((x.body.length : Int) + 8) ≤ 1000000 := by omega
        have Heg := Lib.hid eg
        have hAW : w.heap.size ≤ w.heap.size + 1 + 1 := by omega
        clear hS hS1 hS2 hS3 hstep hseg hko hbl hE hok hbt hbt2 hbt3 hB1 hB2 hB3 hnews eg hb1 hb2 hgood hpre
        gi_wp2_with (gi_at_builtin; refine wpListIn_append_own_at _ rfl _ _ 25 rfl w.heap.size 38 i0 (.agg #[.int .u64 0, .int .i64 0, .slice none 0 0]) 3 40 Try.underlying25 hi hz0 hz1 hz2 rfl (by decide) (.slice av el.length cv) el.length (el.map epCells).flatten rfl hown3 ⟨W1.heap.size + 1, 0, none⟩ 1 1 (epCells ⟨E, ad, cd⟩) rfl rfl Hn.out h1c (by unfold maxLen; omega) (by omega) (by simp; omega) ?_; intro v' W5 hown' hgrow _ hat; obtain ⟨g', cap', rfl⟩ := ownsRow_succ hown'; obtain ⟨hS5, hk5, hko5, hbl5⟩ := Hpush.out _ W5 (by simpa using hown') hgrow; have c5 : W5.cell? ⟨w.heap.size + 1, 0, none⟩ = some (.slice av el.length cv) := block_cell hk5 0; have f5 := block_free hk5 0; have c6 : (W5.setCell ⟨w.heap.size + 1, 0, none⟩ (.slice (some ⟨g', 0, none⟩) (el.length + 1) cap')).cell? ⟨w.heap.size + 1 + 1, 0, none⟩ = some (.int .i64 (s.good : Nat)) := block_cell hS5.k4 0; have f6 := block_free hS5.k4 0)
        have hS6 := hS5.good_ (Nat.le_refl _) (s.good + (x.body.length + 8))
        rw [Heg.out] at hS6
        have hseg2 : segAll seg0 ((pre ++ [x]).map Fb.key) = some ⟨s.first, s.l ++ [E], s.good + (x.body.length + 8)⟩ := by
          rw [List.map_append, List.map_singleton, segAll_snoc _ _ _ _ Hseg.out, Hstep.out]
        exact ⟨((hko3.trans hko5).trans (KeepsOthers.setCell _ _ _)).from _, (hbl3.trans hbl5).setCell (p := ⟨w.heap.size + 1 + 1, 0, none⟩) hAW _, ⟨_, _, el ++ [⟨E, ad, cd⟩], hseg2, hS6⟩⟩
  case done =>
    rintro D ys W hD hys ⟨s, v, el, hseg, hS⟩ hK
    have hrd : segRead b = s := by unfold segRead; rw [← hys]; exact segAll_run _ _ _ hseg
    have c2 : W.cell? ⟨w.heap.size, 0, none⟩ = some (.int .u64 (s.first : Nat)) := block_cell hS.k2 0
    have c3 : W.cell? ⟨w.heap.size + 1, 0, none⟩ = some v := block_cell hS.k3 0
    have c4 : W.cell? ⟨w.heap.size + 1 + 1, 0, none⟩ = some (.int .i64 (s.good : Nat)) := block_cell hS.k4 0
    have f2 := block_free hS.k2 0
    have f3 := block_free hS.k3 0
    have f4 := block_free hS.k4 0
    obtain ⟨av, cv, rfl⟩ := own_slice hS.ens.own
    have hDA : w.heap.size ≤ D := by omega
    have hX := hS.again (Nat.le_refl _)
    have hkX := ((((KeepsOthers.setCell W ⟨w.heap.size, 0, none⟩ (.int .u64 (s.first : Nat))).trans (KeepsOthers.setCell _ ⟨w.heap.size + 1, 0, none⟩ (.slice av el.length cv))).trans (KeepsOthers.setCell _ ⟨w.heap.size + 1 + 1, 0, none⟩ (.int .i64 (s.good : Nat)))).trans (KeepsOthers.drew _)).same D _ hK rfl
    gi_wp2_with fail
    refine (wpIn_wide (n := 3)).2 ?_
    go_region
    all_goals
      gi_wp2_with fail
      refine ⟨by simp, .inl ⟨_, _, rfl, run_takeDeferred hkX, ?_⟩⟩
      have hZ := hX.turned (row := some D) (Nat.le_refl _) (grownBy_putObj' _ D (.deferred none)) (fun r e => by cases e; exact ⟨hDA, _, hkX, rfl⟩)
      have z2 := block_cell hZ.k2 0
      have z3 := block_cell hZ.k3 0
      have z4 := block_cell hZ.k4 0
      simp at z2 z3 z4
      refine ⟨.tuple #[.int .u64 (s.first : Nat), .slice av el.length cv, .int .i64 (s.good : Nat)], by simp [results, Try.f12, go_sem, z2, z3, z4], ?_⟩
      exact ⟨_, el, by rw [hrd], hZ.ens, by rw [hrd]; exact hZ.el, hZ.bel⟩
  case stop =>
    rintro D c pre W hD hSp ⟨rfl, s, v, el, pre', x, hpre, hseg, hstep, hS⟩ hK
    have hrd : segRead b = s := by
      obtain ⟨more, hm⟩ := hSp
      subst hpre
      rw [List.map_append, List.map_singleton, List.append_assoc] at hm
      unfold segRead
      rw [← hm]
      exact segRun_stop _ _ _ _ _ hseg hstep
    have c2 : W.cell? ⟨w.heap.size, 0, none⟩ = some (.int .u64 (s.first : Nat)) := block_cell hS.k2 0
    have c3 : W.cell? ⟨w.heap.size + 1, 0, none⟩ = some v := block_cell hS.k3 0
    have c4 : W.cell? ⟨w.heap.size + 1 + 1, 0, none⟩ = some (.int .i64 (s.good : Nat)) := block_cell hS.k4 0
    have f2 := block_free hS.k2 0
    have f3 := block_free hS.k3 0
    have f4 := block_free hS.k4 0
    obtain ⟨av, cv, rfl⟩ := own_slice hS.ens.own
    have hDA : w.heap.size ≤ D := by omega
    have hX := hS.again (Nat.le_refl _)
    have hkX := ((((KeepsOthers.setCell W ⟨w.heap.size, 0, none⟩ (.int .u64 (s.first : Nat))).trans (KeepsOthers.setCell _ ⟨w.heap.size + 1, 0, none⟩ (.slice av el.length cv))).trans (KeepsOthers.setCell _ ⟨w.heap.size + 1 + 1, 0, none⟩ (.int .i64 (s.good : Nat)))).trans (KeepsOthers.drew _)).same D _ hK rfl
    gi_wp2_with fail
    refine (wpIn_wide (n := 3)).2 ?_
    go_region
    all_goals
      gi_wp2_with fail
      refine ⟨by simp, .inl ⟨_, _, rfl, run_takeDeferred hkX, ?_⟩⟩
      have hZ := hX.turned (row := some D) (Nat.le_refl _) (grownBy_putObj' _ D (.deferred none)) (fun r e => by cases e; exact ⟨hDA, _, hkX, rfl⟩)
      have z2 := block_cell hZ.k2 0
      have z3 := block_cell hZ.k3 0
      have z4 := block_cell hZ.k4 0
      simp at z2 z3 z4
      refine ⟨.tuple #[.int .u64 (s.first : Nat), .slice av el.length cv, .int .i64 (s.good : Nat)], by simp [results, Try.f12, go_sem, z2, z3, z4], ?_⟩
      exact ⟨_, el, by rw [hrd], hZ.ens, by rw [hrd]; exact hZ.el, hZ.bel⟩
theorem segRead_any (ao : Option Addr) (cap : Nat) (b : List UInt8) (w : World) (hl : b.length ≤ 1000000) (hb : Bs w ao cap b) :
    Calls Try.prog 12 #[.slice ao b.length cap] w (ReadIs b w) := callsIn_wide.1 (segRead_in ao cap b w hl hb)
end Go.Proofs.Ytlphpjgiaflfkaa
