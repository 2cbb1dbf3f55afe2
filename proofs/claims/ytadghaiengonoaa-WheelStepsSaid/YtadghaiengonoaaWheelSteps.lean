/- WheelSteps: the walk. No statement of the seat is proved here. -/
import Derived.Test.YtadghaiengonoaaXs
namespace Go.Proofs.Ytadghaiengonoaa
set_option linter.unusedVariables false
set_option linter.unusedSimpArgs false
set_option linter.unusedSectionVars false
open Go Go.RowKit Go.Maps

theorem sl_th {W : World} {ao : Option Addr} {cap : Nat} {l : List Th} (h : Sl W 3 ao l.length cap (thFlat l)) (i : Nat) (hi : i < l.length) : ∃ b off, ao = some ⟨b, off, .none⟩ ∧ b < W.heap.size ∧
    W.cell? ⟨b, off + i * 3, none⟩ = some (.int .u64 l[i].id) ∧ W.cell? ⟨b, off + i * 3 + 1, none⟩ = some (.int .u64 l[i].gen) ∧ W.cell? ⟨b, off + i * 3 + 2, none⟩ = some (.int .i64 l[i].due) := by
  have h3 : (thCells l[i]).length = 3 := rfl
  have g := fun j (hj : j < 3) => thFlat_get l i hi j hj
  obtain ⟨b, off, e, c0⟩ := h.cell (i * 3) _ (g 0 (by decide))
  obtain ⟨b1, off1, e1, c1⟩ := h.cell (i * 3 + 1) _ (g 1 (by decide))
  obtain ⟨b2, off2, e2, c2⟩ := h.cell (i * 3 + 2) _ (g 2 (by decide))
  have q1 := e.symm.trans e1
  have q2 := e.symm.trans e2
  simp only [Option.some.injEq, Addr.mk.injEq, and_true] at q1 q2
  obtain ⟨rfl, rfl⟩ := q1
  obtain ⟨rfl, rfl⟩ := q2
  exact ⟨b, off, e, cell?_lt c0, c0, c1, c2⟩
/-- what many steps have told -/
structure StepsIs (now tb at_ : Int) (X Y many : List Th) : Prop where
  perm : ∀ x, X.count x = many.count x + Y.count x
  due : ∀ t ∈ many, t.due ≤ tb
  lo : now ≤ at_
  hi : at_ ≤ tb
theorem StepsIs.start (now tb : Int) (X : List Th) (h : now ≤ tb) : StepsIs now tb now X X [] := ⟨fun x => by simp, by simp, Int.le_refl _, h⟩
theorem split_due (b : Int) (l : List Th) (x : Th) : l.count x = (dueT l b).count x + (soonT l b).count x := by
  have h := cnt_of (split_late b l) x
  rw [List.count_append] at h
  exact h
theorem StepsIs.step {now tb at_ t : Int} {X Y many : List Th} (h : StepsIs now tb at_ X Y many) (h1 : at_ ≤ t) (h2 : t ≤ tb) : StepsIs now tb t X (soonT Y t) (many ++ dueT Y t) := by
  refine ⟨fun x => ?_, fun u hu => ?_, Int.le_trans h.lo h1, h2⟩
  · have g1 := h.perm x
    have g2 := split_due t Y x
    rw [List.count_append]
    omega
  · rcases List.mem_append.1 hu with h3 | h3
    · exact h.due u h3
    · have := (List.mem_filter.1 h3).2
      simp only [decide_eq_true_eq] at this
      omega
theorem StepsIs.len {now tb at_ : Int} {X Y many : List Th} (h : StepsIs now tb at_ X Y many) : many.length ≤ X.length := by
  have hp : X.Perm (many ++ Y) := of_cnt fun x => by rw [List.count_append]; exact h.perm x
  have := hp.length_eq
  rw [List.length_append] at this
  omega
theorem StepsIs.done {now tb at_ : Int} {X Y many : List Th} (h : StepsIs now tb at_ X Y many) (hX : Asc X) (hI : Ids X) (hY : Asc Y) (hd : ∀ t ∈ Y, tb < t.due) : Y = soonT X tb ∧ Sta.srt thLe many = dueT X tb := by
  have hp : X.Perm (many ++ Y) := of_cnt fun x => by rw [List.count_append]; exact h.perm x
  have e1 : many.filter (fun t => decide (tb < t.due)) = [] := List.filter_eq_nil_iff.2 fun t ht => by have := h.due t ht; simp; omega
  have e2 : Y.filter (fun t => decide (tb < t.due)) = Y := List.filter_eq_self.2 fun t ht => by simpa using hd t ht
  have e3 : many.filter (fun t => decide (t.due ≤ tb)) = many := List.filter_eq_self.2 fun t ht => by simpa using h.due t ht
  have e4 : Y.filter (fun t => decide (t.due ≤ tb)) = [] := List.filter_eq_nil_iff.2 fun t ht => by have := hd t ht; simp; omega
  have p1 := hp.filter (fun t => decide (tb < t.due))
  have p2 := hp.filter (fun t => decide (t.due ≤ tb))
  rw [List.filter_append, e1, e2, List.nil_append] at p1
  rw [List.filter_append, e3, e4, List.append_nil] at p2
  exact ⟨(asc_uniq (hX.filter _) hY p1).symm, srt_is (hX.filter _) (List.Pairwise.filter _ hI) p2.symm⟩
theorem loadThW {W : World} {b o : Nat} {t : Th} (h0 : W.cell? ⟨b, o, none⟩ = some (.int .u64 t.id)) (h1 : W.cell? ⟨b, o + 1, none⟩ = some (.int .u64 t.gen)) (h2 : W.cell? ⟨b, o + 2, none⟩ = some (.int .i64 t.due)) : (Instr.loadAt thT (.pointer (some ⟨b, o, none⟩))).run Try.prog W = .ok (thVal t) W := loadTh h0 h1 h2
def intsV (l : List Int) : List Value := l.map (Value.int .i64)
theorem ints_one (l : List Int) : ∀ u ∈ intsV l, u.oneCell' = true := by
  intro u hu; obtain ⟨x, _, rfl⟩ := List.mem_map.1 hu; rfl
theorem flat_ints (l : List Int) : (l.map fun x => [Value.int .i64 x]).flatten = intsV l := by
  induction l with
  | nil => rfl
  | cons x l ih => simp only [List.map_cons, List.flatten_cons, ih]; rfl
theorem row_keptG {W W' : World} {F : Nat → Prop} {base e k n : Nat} {g cap : Nat} {xs : List Value} (h : W.ownsRow base e k (.slice (some ⟨g, 0, none⟩) n cap) n xs) (hg : Gr F W W') (hF : ¬ F g) : W'.ownsRow base e k (.slice (some ⟨g, 0, none⟩) n cap) n xs := by
  refine ⟨h.1, ?_⟩
  rcases h.2 with hn | ⟨g', cap', cur, he, hb, hh, rest⟩
  · exact .inl hn
  · have e1 : g' = g := by
      have := congrArg Value.ownBlock he
      simpa [Value.ownBlock] using this.symm
    subst e1
    exact .inr ⟨g', cap', cur, he, hb, (hg.block g' (h.lt g' rfl).2 hF).trans hh, rest⟩
theorem ints_cell {W : World} {base g n cap : Nat} {S : List Int} (h : W.ownsRow base i64T 1 (.slice (some ⟨g, 0, none⟩) n cap) n (intsV S)) (i : Nat) (hi : i < S.length) : W.cell? ⟨g, i, none⟩ = some (.int .i64 S[i]) ∧ g < W.heap.size := by
  refine ⟨?_, (h.lt g rfl).2⟩
  have h1 := (Sl.of_own h).cell i (.int .i64 S[i]) (by unfold intsV; simp [hi])
  obtain ⟨b, off, e, hc⟩ := h1
  simp only [Option.some.injEq, Addr.mk.injEq, and_true] at e
  obtain ⟨rfl, rfl⟩ := e
  simpa using hc
theorem lt_succ_of (j m n : Nat) (h : j < m) (e : m = n + 1) : (j : Int) < (n : Int) + 1 := by omega
theorem wrap_k2 (j m n : Nat) (h : j < m) (e : m = n + 1) (hn : n ≤ 60) : wrap64 ((j : Int) + 1) = (j : Int) + 1 := IntWalk.wrap64_in _ (by omega)
theorem not_lt_of (m n : Nat) (e : m = n + 1) : ¬ ((m : Int) < (n : Int) + 1) := by omega
theorem wrap_k3 (k n : Nat) (h : k < n) (hn : n ≤ 256) : wrap64 ((k : Int) + 1) = (k : Int) + 1 := IntWalk.wrap64_in _ (by omega)
theorem guard_th (p q : Operand) (a b c d e f : Int) (V : World) : (eqGuard .neq thT p q (.agg #[.int .u64 a, .int .u64 b, .int .i64 c]) (.agg #[.int .u64 d, .int .u64 e, .int .i64 f])).run Try.prog V = .ok () V := run_eqGuard_agg V .neq _ p q _ _ (by kernel_rfl)
theorem infoI64 : (Try.prog.info? i64T).map (fun i => (i.zero, i.size, i.bytes)) = some (some (.int .i64 0), 1, 8) := by kernel_rfl
set_option maxRecDepth 100000 in
set_option maxHeartbeats 8000000 in
theorem wheelSteps_run (W : World) (now tb : Int) (ao : Option Addr) (cap : Nat) (l : List Th) (bo : Option Addr) (cb : Nat) (S : List Int) (hs : Sl W 3 ao l.length cap (thFlat l)) (hok : ∀ t ∈ l, ThOk t) (hS : Sl W 1 bo S.length cb (intsV S)) (hSok : ∀ a ∈ S, (Lit.int .i64 a).wf = true) :
    Calls Try.prog 4 #[.int .i64 now, .slice ao l.length cap, .slice bo S.length cb, .int .i64 tb] W fun e W' => e = .returned (.bool true) ∧ Below W.heap.size W W' := by
  by_cases hcond : l.length ≤ 100 ∧ S.length ≤ 60 ∧ 0 ≤ now ∧ now ≤ tb ∧ tb ≤ 1125899906842624
  · obtain ⟨hl, hSl, n1, n2, n3⟩ := hcond
    have x1 : ¬ (l.length : Int) > 100 := by omega
    have x2 : ¬ (S.length : Int) > 60 := by omega
    have x3 : ¬ now < 0 := by omega
    have x4 : ¬ now > tb := by omega
    have x5 : ¬ tb > 1125899906842624 := by omega
    have hn : Inst now := ⟨n1, by omega⟩
    have ht : Inst tb := ⟨by omega, n3⟩
    have Hn1 := Lib.hid (new_o W W now hn (Below.refl _ _))
    have Hn := Lib.hid hn
    have Htb := Lib.hid ht
    have Hle := Lib.hid n2
    have Hl := Lib.hid hl
    have HSl := Lib.hid hSl
    have Hs := Lib.hid hs
    have HS := Lib.hid hS
    have Hok := Lib.hid hok
    clear hl hSl n1 n2 n3 hn ht hs hok hS
    go_enter Try.func4, Try.ntmps4
    go_wp2_with fail
    refine Hn1.out.mono ?_
    rintro e W1 ⟨wa, Fa, rfl, hu1, hb1, hF1⟩
    have Hn2 := Lib.hid (new_o W W1 now Hn.out hu1.bel)
    have Hu1 := Lib.hid hu1
    clear hu1 Hn1
    go_wp2_with fail
    refine Hn2.out.mono ?_
    rintro e W2 ⟨wb, Fb, rfl, hu2, hb2, hF2⟩
    have htwo : Two W W2 Fa Fb wa wb now now [] [] := ⟨Hu1.out.below hb2, hu2, fun i hi hj => by have := Hu1.out.bd i hi; have := hF2 i hj; omega⟩
    have Htwo := Lib.hid htwo
    clear htwo hu2 hb2 hF2 hb1 hF1 Hn2 x1 x2 x3 x4 x5
    go_wp2_with fail
    go_loopw [53] (fun u wr => ∃ (i : Nat) (Fa Fb : Nat → Prop) (X : List Th), u = .int .i64 (i : Nat) ∧ i ≤ l.length ∧ Hid (Two W wr Fa Fb wa wb now now X X)) (fun u _ => l.length - (intOf u).toNat)
    case atStart => exact ⟨0, Fa, Fb, [], rfl, Nat.zero_le _, Htwo⟩
    case round =>
      clear Htwo Hu1
      obtain ⟨i, Fa, Fb, X, rfl, hi, htw⟩ := hrel
      by_cases hil : i < l.length
      · obtain ⟨x1, x2⟩ := i_nums i l.length hil
        obtain ⟨bx, fx, rfl, hbx, c0, c1, c2⟩ := sl_th (Hs.out.below htw.out.fst.bel) i hil
        obtain ⟨⟨ti, tg, td⟩, hy⟩ : ∃ y, y = l[i] := ⟨_, rfl⟩
        have hto : ThOk ⟨ti, tg, td⟩ := by rw [hy]; exact Hok.out _ (List.getElem_mem hil)
        rw [← hy] at c0 c1 c2
        simp only at c0 c1 c2
        have w1 : wrap64 ((i : Int) + 1) = (i : Int) + 1 := IntWalk.wrap64_in _ (by have := Hl.out; omega)
        obtain ⟨W3, hW3⟩ : ∃ W3, W3 = wr.alloc (.cells #[.int .u64 ti, .int .u64 tg, .int .i64 td] thT) := ⟨_, rfl⟩
        obtain ⟨p, hp⟩ : ∃ p, p = wr.heap.size := ⟨_, rfl⟩
        have hb3 : Below wr.heap.size wr W3 := by rw [hW3]; exact below_new _ _
        have ht3 : W3.heap[p]? = some (.cells #[.int .u64 ti, .int .u64 tg, .int .i64 td] thT (0, 0)) := by rw [hW3, hp]; exact heap_alloc_new _ _
        have htw3 := htw.out.below hb3
        have hpa : ¬ Fa p := fun e => by have := htw.out.fst.bd p e; omega
        have hpb : ¬ Fb p := fun e => by have := htw.out.snd.bd p e; omega
        have hpl := (Array.getElem?_eq_some_iff.1 ht3).1
        have hldp : ∀ W', W'.heap[p]? = W3.heap[p]? → (Instr.loadAt thT (.pointer (some ⟨p, 0, none⟩))).run Try.prog W' = .ok (thVal ⟨ti, tg, td⟩) W' := fun W' h => by
          obtain ⟨e0, e1, e2, -, -, -⟩ := set3_res (t := ⟨ti, tg, td⟩) (h.trans ht3)
          exact loadTh (t := ⟨ti, tg, td⟩) e0 e1 e2
        have Hi := Lib.hid hil
        have Htw3 := Lib.hid htw3
        have Hldp := Lib.hid hldp
        have Hpa := Lib.hid hpa
        have Hpb := Lib.hid hpb
        have Hidt := Lib.hid hto.id
        have Hpl := Lib.hid hpl
        clear htw3 hldp hpa hpb hto hb3 ht3 hy hil hi hpl
        go_upto_region 7 with fail
        rw [← hW3, ← hp]
        clear hW3 hp c0 c1 c2 hbx
        refine wp_region_held_drew (S := fun W' => (Instr.loadAt thT (.pointer (some ⟨p, 0, none⟩))).run Try.prog W' = .ok (thVal ⟨ti, tg, td⟩) W') (by kernel_rfl) (Hldp.out _ rfl) (fun hHeld => ?_)
        have htw4 : Two W W3.drew Fa Fb wa wb now now X X := Htw3.out.below (Below.refl _ W3).drew
        refine wpAnyH_take (i := 0) (v := ?_) rfl (by kernel_rfl) (by kernel_rfl) (by kernel_rfl) (fun _ _ _ h => h) (Or.inl ⟨by rfl, ?_⟩) (by assumption) ?_
        rotate_left
        · intro w8 hSw; clear hSw; go_simp; (try with_reducible rfl)
        simp only [Act.put, List.getElem_toArray, List.getElem_cons_zero, List.getElem_cons_succ, List.setIfInBounds_toArray, List.set_cons_zero, List.set_cons_succ]
        refine wpAnyH_take (i := 1) (v := thVal ⟨ti, tg, td⟩) rfl (by kernel_rfl) (by kernel_rfl) (by kernel_rfl) (fun _ _ _ h => h) (Or.inl ⟨by rfl, ?_⟩) (by assumption) ?_
        · intro w8 hSw; exact ld_takeT rfl hSw rfl
        simp only [Act.put, List.getElem_toArray, List.getElem_cons_zero, List.getElem_cons_succ, List.setIfInBounds_toArray, List.set_cons_zero, List.set_cons_succ]
        refine wpAnyH_take (i := 3) (v := ?_) rfl (by kernel_rfl) (by kernel_rfl) (by kernel_rfl) (fun _ _ _ h => h) (Or.inl ⟨by rfl, ?_⟩) (by assumption) ?_
        rotate_left
        · intro w8 hSw; clear hSw; go_simp; (try with_reducible rfl)
        simp only [Act.put, List.getElem_toArray, List.getElem_cons_zero, List.getElem_cons_succ, List.setIfInBounds_toArray, List.set_cons_zero, List.set_cons_succ]
        refine wpAnyH_take (i := 4) (v := thVal ⟨ti, tg, td⟩) rfl (by kernel_rfl) (by kernel_rfl) (by kernel_rfl) (fun _ _ _ h => h) (Or.inl ⟨by rfl, ?_⟩) (by assumption) ?_
        · intro w8 hSw; exact ld_takeT rfl hSw rfl
        simp only [Act.put, List.getElem_toArray, List.getElem_cons_zero, List.getElem_cons_succ, List.setIfInBounds_toArray, List.set_cons_zero, List.set_cons_succ]
        try unfold thVal
        refine wpAnyH_ready (rs := [2]) (by kernel_rfl) (by simp) ?_
        refine AllReadyH.cons rfl (fun K hK => ?_) AllReadyH.nil
        go_simp
        go_at_call 10
        refine (arm_o htw4.fst ⟨ti, tg, td⟩ Hidt.out).mono ?_
        rintro e V1 ⟨rfl, hn1⟩; obtain ⟨Ga, htw5, hga, hGa⟩ := htw4.left hn1
        refine hK.out _ _ (Hldp.out _ ((hga.block p (Nat.lt_of_lt_of_le Hpl.out (Nat.le_refl _)) Hpa.out).trans rfl)) (fun hHeld => ?_)
        clear hK K
        try simp only [Act.put, List.getElem_toArray, List.getElem_cons_zero, List.getElem_cons_succ, List.setIfInBounds_toArray, List.set_cons_zero, List.set_cons_succ]
        refine wpAnyH_ready (rs := [5]) (by kernel_rfl) (by simp) ?_
        refine AllReadyH.cons rfl (fun K hK => ?_) AllReadyH.nil
        go_simp
        go_at_call 10
        refine (arm_o htw5.snd ⟨ti, tg, td⟩ Hidt.out).mono ?_
        rintro e V2 ⟨rfl, hn2⟩; obtain ⟨Gb, htw6, hgb, hGb⟩ := htw5.right hn2
        refine hK.out _ _ (Hldp.out _ (((hgb.block p (Nat.lt_of_lt_of_le Hpl.out hga.size) Hpb.out).trans (hga.block p (Nat.lt_of_lt_of_le Hpl.out (Nat.le_refl _)) Hpa.out)).trans rfl)) (fun hHeld => ?_)
        clear hK K
        try simp only [Act.put, List.getElem_toArray, List.getElem_cons_zero, List.getElem_cons_succ, List.setIfInBounds_toArray, List.set_cons_zero, List.set_cons_succ]
        refine wpAnyH_take (i := 6) (v := ?_) rfl (by kernel_rfl) (by kernel_rfl) (by kernel_rfl) (fun _ _ _ h => h) (Or.inl ⟨by rfl, ?_⟩) (by assumption) ?_
        rotate_left
        · intro w8 hSw; clear hSw; go_simp; (try with_reducible rfl)
        simp only [Act.put, List.getElem_toArray, List.getElem_cons_zero, List.getElem_cons_succ, List.setIfInBounds_toArray, List.set_cons_zero, List.set_cons_succ]
        refine wpAnyH_done (by kernel_rfl) ?_ _
        have Htw6 := Lib.hid htw6
        clear htw6 htw5 htw4 hga hGa hgb hGb hn1 hn2 Hldp
        go_wp2_with fail
        go_roundw
        case rel => exact ⟨i + 1, Ga, Gb, _, by first | rfl | rw [w1]; rfl, Hi.out, Htw6⟩
        case measure =>
          first | rw [w1] | skip
          exact ts_meas l.length i Hi.out
      · obtain rfl : i = l.length := Nat.le_antisymm hi (Nat.le_of_not_lt hil)
        have x1 : ¬ (l.length : Int) < (l.length : Int) := by omega
        have hXok := htw.out.fst.okX
        have hav := adv_r htw.out.fst tb
        obtain ⟨g1, g2, g3, g4⟩ := adv_in (X := X) Htb.out Hle.out
        rw [g1, g2, g3, g4] at hav
        have Hav := Lib.hid hav
        have HXok := Lib.hid hXok
        clear hav hXok g1 g2 g3 g4 hi hil
        go_wp2_with fail
        refine Hav.out.mono ?_
        rintro e W3 ⟨ao3, cap3, rfl, hn3, hrow3⟩
        obtain ⟨Ga, htw3, hga, hGa⟩ := htw.out.left hn3
        have hone : ∀ g, (Value.slice ao3 (dueT X tb).length cap3).ownBlock = some g → ¬ Fb g := fun g hg e => by
          have := (hrow3.lt g hg).1
          have := htw.out.snd.bd g e
          omega
        have hS3 : Sl W3 1 bo S.length cb (intsV S) := HS.out.below htw3.fst.bel
        have hsl : S.length ≤ 60 := HSl.out
        have Htw3 := Lib.hid htw3
        have Hrow3 := Lib.hid hrow3
        have Hone := Lib.hid hone
        have HS3 := Lib.hid hS3
        clear htw3 hrow3 hone hga hGa hn3 hS3
        go_upto_region 14 with (first
          | (at_builtin; refine wpl_append rfl (.tmp 72) (.tmp 73) 22 rfl W3.heap.size i64T infoI64 Try.underlying22 rfl (by decide) (.slice (some ⟨W3.heap.size, 0, none⟩) 0 0) 0 [] rfl (own_empty W3 W3.heap.size _ 1 (Nat.le_refl _)) _ _ _ _ rfl (HS3.out.below (below_new _ _)) (ints_one S) ?_ ?_ ?_ ?_; (unfold maxLen; omega); omega; exact (below_new _ _).size; intro ao4 cap4 w4 hown4 hg4; rw [List.nil_append, Nat.zero_add, ← flat_ints] at hown4; have hb4 := below_app (below_new W3 _) hg4 (own_empty W3 W3.heap.size i64T 1 (Nat.le_refl _)) (Nat.le_refl _) (below_new W3 _).size)
          | (at_builtin; refine wpl_append_one rfl (.tmp 74) (.tmp 76) 22 rfl W3.heap.size i64T infoI64 Try.underlying22 rfl (by decide) (.slice ao4 S.length cap4) S.length (S.map fun x => [Value.int .i64 x]) rfl (hown4.alloc _) _ 1 [Value.int .i64 tb] rfl rfl (news_at _ rfl) (ints_one [tb]) ?_ ?_ ?_ ?_; omega; (unfold maxLen; omega); (have := hb4.size; simp; omega); intro g5 c5 w5 hown5 hg5 hlie5))
        have hb5 : Below W3.heap.size W3 w5 := below_app (below_on hb4 (below_new w4 _) (Nat.le_refl _)) hg5 (hown4.alloc _) (Nat.le_refl _) (Nat.le_trans hb4.size (below_new w4 _).size)
        obtain ⟨SS, hSS⟩ : ∃ SS, SS = S ++ [tb] := ⟨_, rfl⟩
        have hSl1 : SS.length = S.length + 1 := by rw [hSS]; simp
        have hown6 : w5.ownsRow W3.heap.size i64T 1 (.slice (some ⟨g5, 0, none⟩) SS.length c5) SS.length (intsV SS) := by
          have e : (S.map (fun x => [Value.int .i64 x]) ++ [[Value.int .i64 tb]]).flatten = intsV SS := by rw [List.flatten_append, flat_ints, hSS]; simp [intsV]
          rw [e] at hown5
          rw [hSl1]; exact hown5
        have htw5 := Htw3.out.below hb5
        have hone5 := own_below Hrow3.out hb5
        have hg5F : ¬ Fb g5 := fun e => by have h1 := Htw3.out.snd.bd g5 e; have h2 := (hown6.lt g5 rfl).1; omega
        rw [← hSl1]
        have Htw5 := Lib.hid htw5
        have Hown6 := Lib.hid hown6
        have Hone5 := Lib.hid hone5
        have Hg5F := Lib.hid hg5F
        have HSS := Lib.hid hSS
        have HSl1 := Lib.hid hSl1
        have Hb5 := Lib.hid hb5
        clear hb5 htw5 hown6 hone5 hg5F hSS hSl1 hown5 hg5 hlie5 hown4 hg4 hb4 hsl HS3 Htw3
        go_loopw [15, 16, 79] (fun v z u wx => ∃ (j : Nat) (Gb : Nat → Prop) (Y many : List Th) (ao : Option Addr) (cap : Nat) (at_ : Int), v = .slice ao many.length cap ∧ z = .int .i64 at_ ∧ u = .int .i64 (j : Nat) ∧ j ≤ SS.length ∧
          Hid (Two W wx Ga Gb wa wb tb at_ (soonT X tb) Y) ∧ Hid (StepsIs now tb at_ X Y many) ∧ Hid (wx.ownsRow w5.heap.size thT 3 (.slice ao many.length cap) many.length (thFlat many)) ∧ Hid (∀ g, (Value.slice ao many.length cap).ownBlock = some g → ¬ Gb g) ∧
          Hid (Gr Fb w5 wx) ∧ Hid (∀ i, Gb i → Fb i ∨ w5.heap.size ≤ i) ∧ Hid (j = SS.length → at_ = tb ∧ ∀ u ∈ Y, tb < u.due)) (fun _ _ u _ => SS.length - (intOf u).toNat)
        case atStart => exact ⟨0, Fb, X, [], none, 0, now, rfl, rfl, rfl, Nat.zero_le _, Htw5, StepsIs.start now tb X Hle.out, World.ownsRow_nil _ _ _ _, (fun g h => (by cases h) : ∀ g, (Value.slice none ([] : List Th).length 0).ownBlock = some g → ¬ Fb g), Gr.refl _ _, (fun i hi => .inl hi : ∀ i, Fb i → Fb i ∨ w5.heap.size ≤ i), (fun h => (by rw [HSl1.out] at h; omega) : 0 = SS.length → now = tb ∧ ∀ u ∈ X, tb < u.due)⟩
        case round =>
          obtain ⟨j, Gb, Y, many, ao6, cap6, at_, rfl, rfl, rfl, hj, htw6, hsi, hmr, hmF, hgr, hGF, hend⟩ := hrel
          by_cases hjl : j < SS.length
          · obtain ⟨x2, x3⟩ := i_nums j SS.length hjl
            have x4 := lt_succ_of j _ _ hjl HSl1.out
            have hSr := row_keptG Hown6.out hgr.out Hg5F.out
            obtain ⟨hcx, hgl⟩ := ints_cell hSr j hjl
            obtain ⟨t, ht⟩ : ∃ t, t = SS[j] := ⟨_, rfl⟩
            rw [← ht] at hcx
            have w1 := wrap_k2 j _ _ hjl HSl1.out HSl.out
            have hlast : j + 1 = SS.length → t = tb := fun e => by
              have h2 : j = S.length := Nat.succ_inj.1 (e.trans HSl1.out)
              subst h2
              rw [ht]
              simp only [HSS.out]
              simp
            have Hlast := Lib.hid hlast
            have Hjl := Lib.hid hjl
            clear hSr ht hlast hjl hj
            by_cases hsk : t < at_ ∨ tb < t
            · have hend2 : j + 1 = SS.length → at_ = tb ∧ ∀ u ∈ Y, tb < u.due := fun e => by
                have h1 := Hlast.out e
                have h2 := hsi.out.hi
                omega
              have Hend2 := Lib.hid hend2
              have hor : t < at_ ∨ (¬ t < at_ ∧ t > tb) := by omega
              clear hend2 hsk
              rcases hor with h1 | ⟨h1, h2⟩
              all_goals
                go_wp2_with fail
                go_roundw
                case rel => exact ⟨j + 1, Gb, Y, many, ao6, cap6, at_, rfl, rfl, by first | rfl | rw [w1]; rfl, Hjl.out, htw6, hsi, hmr, hmF, hgr, hGF, Hend2⟩
                case measure =>
                  first | rw [w1] | skip
                  exact ts_meas SS.length j Hjl.out
            · have h1 : ¬ t < at_ := fun h => hsk (.inl h)
              have h2 : ¬ t > tb := fun h => hsk (.inr h)
              have hti : Inst t := ⟨by have := Hn.out.1; have := hsi.out.lo; omega, by have := Htb.out.2; omega⟩
              have hav := adv_r htw6.out.snd t
              obtain ⟨g1, g2, g3, g4⟩ := adv_in (now := at_) (X := Y) hti (by omega)
              rw [g1, g2, g3, g4] at hav
              have hst2 := hsi.out.step (t := t) (by omega) (by omega)
              have hend2 : j + 1 = SS.length → t = tb ∧ ∀ u ∈ soonT Y t, tb < u.due := fun e => ⟨Hlast.out e, fun u hu => by
                have h3 := Hlast.out e
                have h4 := (List.mem_filter.1 hu).2
                simp only [decide_eq_true_eq] at h4
                omega⟩
              have Hend2 := Lib.hid hend2
              have Hst2 := Lib.hid hst2
              have Hav := Lib.hid hav
              clear hend2 hst2 hav g1 g2 g3 g4 hti hsk
              go_wp2_with fail
              refine Hav.out.mono ?_
              rintro e W8 ⟨ao8, cap8, rfl, hn8, hrow8⟩
              obtain ⟨Gc, htw8, hgc, hGc⟩ := htw6.out.right hn8
              have hmr8 : W8.ownsRow w5.heap.size thT 3 (.slice ao6 many.length cap6) many.length (thFlat many) := row_kept hmr.out fun g hg => hgc.block g (hmr.out.lt g hg).2 (hmF.out g hg)
              have hmF8 : ∀ g, (Value.slice ao6 many.length cap6).ownBlock = some g → ¬ Gc g := fun g hg e => (hGc g e).elim (hmF.out g hg) (fun x => by have := (hmr.out.lt g hg).2; omega)
              have hsl8 := Sl.of_own hrow8
              have hml : many.length ≤ 256 := Nat.le_trans hsi.out.len HXok.out.2.2.2.2
              have hdl : (dueT Y t).length ≤ 256 := Nat.le_trans (List.length_filter_le _ _) htw6.out.snd.okX.2.2.2.2
              have hgr8 : Gr Fb w5 W8 := Gr.after hgr.out hgc hGF.out
              have hGF8 : ∀ i, Gc i → Fb i ∨ w5.heap.size ≤ i := fun i hi => (hGc i hi).elim (hGF.out i) (fun x => .inr (Nat.le_trans hgr.out.size x))
              have Hmr8 := Lib.hid hmr8
              have HmF8 := Lib.hid hmF8
              have Hsl8 := Lib.hid hsl8
              have Hml := Lib.hid hml
              have Hdl := Lib.hid hdl
              have Hgr8 := Lib.hid hgr8
              have HGF8 := Lib.hid hGF8
              have Htw8 := Lib.hid htw8
              clear hmr8 hmF8 hsl8 hml hdl hgr8 hGF8 htw8 hgc hGc hrow8 hn8
              go_wp2_with (at_builtin; refine wpl_append_lie rfl (.tmp 99) (.tmp 100) thsT rfl w5.heap.size thT infoTh Try.underlying32 rfl (by decide) (.slice ao6 many.length cap6) many.length (thFlat many) rfl Hmr8.out _ _ _ _ rfl Hsl8.out (ths_one (dueT Y t)) ?_ ?_ ?_ ?_; (have := Hml.out; have := Hdl.out; unfold maxLen; omega); (have := Hml.out; have := Hdl.out; omega); exact Hgr8.out.size; intro ao9 cap9 w9 hown9 hg9 hlie9)
              rw [← thFlat_two, ← List.length_append] at hown9
              rw [← List.length_append] at hlie9
              have hm9 : ∀ g, (Value.slice ao9 (many ++ dueT Y t).length cap9).ownBlock = some g → ¬ Gc g := fun g hg e => by
                rcases hlie9 g hg with h3 | h3
                · exact HmF8.out g h3 e
                · have := Htw8.out.snd.bd g e; omega
              have hgo : Gr (fun i => (Value.slice ao6 many.length cap6).ownBlock = some i) W8 w9 := Gr.one hg9 fun x hx => hx
              have hbase : ∀ g, (Value.slice ao6 many.length cap6).ownBlock = some g → w5.heap.size ≤ g := fun g hg => (Hmr8.out.lt g hg).1
              have hW5 := Htw5.out.fst.bel.size
              have hmGa : ∀ i, Ga i → ¬ (Value.slice ao6 many.length cap6).ownBlock = some i := fun i hi e => absurd (hbase i e) (Nat.not_le.2 (Htw5.out.fst.bd i hi))
              have hup : ∀ i, (Value.slice ao6 many.length cap6).ownBlock = some i → W.heap.size ≤ i := fun i e => Nat.le_trans hW5 (hbase i e)
              have htw9 : Two W w9 Ga Gc wa wb tb t (soonT X tb) (soonT Y t) := ⟨Htw8.out.fst.beside hgo hmGa hup, Htw8.out.snd.beside hgo (fun i hi e => HmF8.out i e hi) hup, Htw8.out.apart⟩
              have hgr9 : Gr Fb w5 w9 := Gr.after Hgr8.out hgo fun i hi => .inr (hbase i hi)
              have Htw9 := Lib.hid htw9
              have Hgr9 := Lib.hid hgr9
              have Hown9 := Lib.hid hown9
              have Hm9 := Lib.hid hm9
              clear htw9 hgr9 hown9 hm9 hgo hbase hW5 hmGa hup hg9 hlie9
              go_roundw
              case rel => exact ⟨j + 1, Gc, soonT Y t, many ++ dueT Y t, ao9, cap9, t, by rw [List.length_append], rfl, by first | rfl | rw [w1]; rfl, Hjl.out, Htw9, Hst2, Hown9, Hm9, Hgr9, HGF8, Hend2⟩
              case measure =>
                first | rw [w1] | skip
                exact ts_meas SS.length j Hjl.out
          · obtain rfl : j = SS.length := Nat.le_antisymm hj (Nat.le_of_not_lt hjl)
            have x2 : ¬ ((SS.length : Int) < (S.length : Int) + 1) := not_lt_of _ _ HSl1.out
            have hdn := hsi.out.done HXok.out.2.1 HXok.out.2.2.1 htw6.out.snd.okX.2.1 (hend.out rfl).2
            have hone6 : wr.ownsRow 0 thT 3 (.slice ao3 (dueT X tb).length cap3) (dueT X tb).length (thFlat (dueT X tb)) := own_base (row_kept Hone5.out fun g hg => hgr.out.block g (Hone5.out.lt g hg).2 (Hone.out g hg)) (Nat.zero_le _)
            have hone3 : ∀ g, (Value.slice ao3 (dueT X tb).length cap3).ownBlock = some g → g < w5.heap.size := fun g hg => (Hone5.out.lt g hg).2
            have hst := sort_any wr (fun _ => True) (.slice ao6 many.length cap6) many ⟨own_base hmr.out (Nat.zero_le _), fun _ _ => trivial⟩ (Nat.le_trans hsi.out.len (Nat.le_trans HXok.out.2.2.2.2 (by decide)))
            rw [hdn.2] at hst
            have hlen : (dueT X tb).length = many.length := by rw [← hdn.2, Sta.srt_len]
            have Hat := Lib.hid (hend.out rfl).1
            have htwE := htw6.out
            rw [hdn.1] at htwE
            have Hst := Lib.hid hst
            have HtwE := Lib.hid htwE
            have Hone6 := Lib.hid hone6
            have Hone3 := Lib.hid hone3
            have Hlen := Lib.hid hlen
            clear hst htwE hone6 hone3 hdn hj hjl hend hlen
            go_wp2_with fail
            refine Hst.out.mono ?_
            rintro e W7 ⟨rfl, hr7, hg7⟩
            have hgo : Gr (fun i => (Value.slice ao6 many.length cap6).ownBlock = some i) wr W7 := Gr.one hg7 fun x hx => hx
            have hbase : ∀ g, (Value.slice ao6 many.length cap6).ownBlock = some g → w5.heap.size ≤ g := fun g hg => (hmr.out.lt g hg).1
            have hmGa : ∀ i, Ga i → ¬ (Value.slice ao6 many.length cap6).ownBlock = some i := fun i hi e => absurd (hbase i e) (Nat.not_le.2 (Htw5.out.fst.bd i hi))
            have hup : ∀ i, (Value.slice ao6 many.length cap6).ownBlock = some i → W.heap.size ≤ i := fun i e => Nat.le_trans Htw5.out.fst.bel.size (hbase i e)
            have htw7 : Two W W7 Ga Gb wa wb tb at_ (soonT X tb) (soonT X tb) := ⟨HtwE.out.fst.beside hgo hmGa hup, HtwE.out.snd.beside hgo (fun i hi e => hmF.out i e hi) hup, HtwE.out.apart⟩
            have hone7 : W7.ownsRow 0 thT 3 (.slice ao3 (dueT X tb).length cap3) (dueT X tb).length (thFlat (dueT X tb)) := row_kept Hone6.out fun g hg => hgo.block g (Hone6.out.lt g hg).2 (fun e => absurd (hbase g e) (Nat.not_le.2 (Hone3.out g hg)))
            have hmany7 := hr7.own
            rw [← Hlen.out] at hmany7
            have hdl : (dueT X tb).length ≤ 256 := Nat.le_trans (List.length_filter_le _ _) HXok.out.2.2.2.2
            obtain ⟨N, hN⟩ : ∃ N, N = (dueT X tb).length := ⟨_, rfl⟩
            rw [show many.length = N from by rw [hN, Hlen.out], show (dueT X tb).length = N from hN.symm]
            have ht1 := Tt.of_own hone7
            have ht2 := Tt.of_own hmany7
            have Htw7 := Lib.hid htw7
            have Hdl := Lib.hid (show N ≤ 256 from by rw [hN]; exact hdl)
            have T1 : Hid (∃ Z : List Th, N = Z.length ∧ Tt W7 ao3 cap3 Z ∧ Tt W7 ao6 cap6 Z) := by show ∃ Z : List Th, N = Z.length ∧ Tt W7 ao3 cap3 Z ∧ Tt W7 ao6 cap6 Z; exact ⟨_, hN, ht1, ht2⟩
            clear hgo hbase hmGa hup htw7 hone7 hmany7 hr7 hg7 hdl ht1 ht2 hN Hlen
            obtain ⟨Z, hZ, ht1, ht2⟩ := T1.out
            subst hZ
            have T1 := Lib.hid ht1
            have T2 := Lib.hid ht2
            clear ht1 ht2
            go_wp2_with fail
            go_loopw [117] (fun u wx => ∃ k : Nat, u = .int .i64 (k : Nat) ∧ k ≤ Z.length ∧ Hid (Below W7.heap.size W7 wx)) (fun u _ => Z.length - (intOf u).toNat)
            case atStart => exact ⟨0, rfl, Nat.zero_le _, (Below.refl _ _ : Below _ W7 W7)⟩
            case round =>
              obtain ⟨k, rfl, hk, hb⟩ := hrel
              by_cases hkl : k < Z.length
              · obtain ⟨y1, y2⟩ := i_nums k _ hkl
                obtain ⟨bx, fx, rfl, hbx, c0, c1, c2⟩ := Tt.cells (T1.out.below hb.out) k hkl
                obtain ⟨bz, fz, rfl, hbz, d0, d1, d2⟩ := Tt.cells (T2.out.below hb.out) k hkl
                obtain ⟨⟨yi, yg, yd⟩, hy⟩ : ∃ y, y = Z[k] := ⟨_, rfl⟩
                rw [← hy] at c0 c1 c2 d0 d1 d2
                simp only at c0 c1 c2 d0 d1 d2
                have hne := neq_th ⟨yi, yg, yd⟩
                have hgd := fun p q V => guard_th p q yi yg yd yi yg yd V
                unfold thVal at hne
                have w1 := wrap_k3 k _ hkl Hdl.out
                have Hkl := Lib.hid hkl
                clear hy hkl hk
                go_wp2_with fail
                go_quiet (fail)
                go_wp2_with fail
                have HB := Lib.hid (below_on hb.out (below_drewN1 (Below.refl _ wr) nq) (Nat.le_refl _))
                go_roundw
                case rel => exact ⟨k + 1, by first | rfl | rw [w1]; rfl, Hkl.out, HB⟩
                case measure =>
                  first | rw [w1] | skip
                  exact ts_meas _ k Hkl.out
              · obtain rfl : k = Z.length := Nat.le_antisymm hk (Nat.le_of_not_lt hkl)
                have y1 : ¬ (Z.length : Int) < (Z.length : Int) := Int.lt_irrefl _
                have htw8 := Htw7.out.below hb.out
                have Ha1 := Lib.hid (all_r htw8.fst)
                have Htw8 := Lib.hid htw8
                clear htw8 hk hkl hb
                go_wp2_with fail
                refine Ha1.out.mono ?_
                rintro e W8 ⟨ao8, cap8, rfl, hr8, hb8⟩
                have htw9 := Htw8.out.below hb8
                have Ha2 := Lib.hid (all_r htw9.snd)
                have Htw9 := Lib.hid htw9
                have Hr8 := Lib.hid hr8
                clear htw9 hr8 hb8 Ha1
                go_wp2_with fail
                refine Ha2.out.mono ?_
                rintro e W9 ⟨ao9, cap9, rfl, hr9, hb9⟩
                have htwA := Htw9.out.below hb9
                have hr8' := own_below Hr8.out hb9
                obtain ⟨Y, hY⟩ : ∃ Y, Y = soonT X tb := ⟨_, rfl⟩
                rw [← hY] at htwA hr8' hr9 ⊢
                have HtwA := Lib.hid htwA
                have U1 := Lib.hid (Tt.of_own hr8')
                have U2 := Lib.hid (Tt.of_own hr9)
                have Hyl := Lib.hid htwA.fst.okX.2.2.2.2
                clear htwA hr8' hr9 hb9 Ha2 Hr8 Htw8 Htw9 hY
                go_wp2_with fail
                go_loopw [136] (fun u wx => ∃ k : Nat, u = .int .i64 (k : Nat) ∧ k ≤ Y.length ∧ Hid (Below W9.heap.size W9 wx)) (fun u _ => Y.length - (intOf u).toNat)
                case atStart => exact ⟨0, rfl, Nat.zero_le _, (Below.refl _ _ : Below _ W9 W9)⟩
                case round =>
                  obtain ⟨k, rfl, hk, hb⟩ := hrel
                  by_cases hkl : k < Y.length
                  · obtain ⟨y1, y2⟩ := i_nums k _ hkl
                    have y3 : ¬ (Y.length : Int) ≤ (k : Int) := by omega
                    obtain ⟨bx, fx, rfl, hbx, c0, c1, c2⟩ := Tt.cells (U1.out.below hb.out) k hkl
                    obtain ⟨bz, fz, rfl, hbz, d0, d1, d2⟩ := Tt.cells (U2.out.below hb.out) k hkl
                    obtain ⟨⟨yi, yg, yd⟩, hy⟩ : ∃ y, y = Y[k] := ⟨_, rfl⟩
                    rw [← hy] at c0 c1 c2 d0 d1 d2
                    simp only at c0 c1 c2 d0 d1 d2
                    have hne := neq_th ⟨yi, yg, yd⟩
                    have hgd := fun p q V => guard_th p q yi yg yd yi yg yd V
                    unfold thVal at hne
                    have w1 := wrap_k3 k _ hkl Hyl.out
                    have Hkl := Lib.hid hkl
                    clear hy hkl hk
                    have hld1 : ∀ W', Below wr.heap.size wr W' → (Instr.loadAt thT (.pointer (some ⟨bx, fx + k * 3, none⟩))).run Try.prog W' = .ok (thVal ⟨yi, yg, yd⟩) W' := fun W' h => loadTh (t := ⟨yi, yg, yd⟩) ((h.cell (p := ⟨bx, fx + k * 3, none⟩) hbx).trans c0) ((h.cell (p := ⟨bx, fx + k * 3 + 1, none⟩) hbx).trans c1) ((h.cell (p := ⟨bx, fx + k * 3 + 2, none⟩) hbx).trans c2)
                    have hld2 : ∀ W', Below wr.heap.size wr W' → (Instr.loadAt thT (.pointer (some ⟨bz, fz + k * 3, none⟩))).run Try.prog W' = .ok (thVal ⟨yi, yg, yd⟩) W' := fun W' h => loadTh (t := ⟨yi, yg, yd⟩) ((h.cell (p := ⟨bz, fz + k * 3, none⟩) hbz).trans d0) ((h.cell (p := ⟨bz, fz + k * 3 + 1, none⟩) hbz).trans d1) ((h.cell (p := ⟨bz, fz + k * 3 + 2, none⟩) hbz).trans d2)
                    have Hld1 := Lib.hid hld1
                    have Hld2 := Lib.hid hld2
                    clear hld1 hld2 c0 c1 c2 d0 d1 d2
                    go_upto_region 36 with fail
                    refine wp_region_held_drew (S := fun W' => Below wr.heap.size wr W') (by kernel_rfl) (Below.refl _ wr).drew (fun hHeld => ?_)
                    refine wpAnyH_take (i := 0) (v := ?_) rfl (by kernel_rfl) (by kernel_rfl) (by kernel_rfl) (fun _ _ _ h => h) (Or.inl ⟨by rfl, ?_⟩) (by assumption) ?_
                    rotate_left
                    · intro w8 hSw; clear hSw; go_simp; (try with_reducible rfl)
                    simp only [Act.put, List.getElem_toArray, List.getElem_cons_zero, List.getElem_cons_succ, List.setIfInBounds_toArray, List.set_cons_zero, List.set_cons_succ]
                    refine wpAnyH_take (i := 1) (v := ?_) rfl (by kernel_rfl) (by kernel_rfl) (by kernel_rfl) (fun _ _ _ h => h) (Or.inl ⟨by rfl, ?_⟩) (by assumption) ?_
                    rotate_left
                    · intro w8 hSw; clear hSw; go_simp; (try with_reducible rfl)
                    simp only [Act.put, List.getElem_toArray, List.getElem_cons_zero, List.getElem_cons_succ, List.setIfInBounds_toArray, List.set_cons_zero, List.set_cons_succ]
                    refine wpAnyH_take (i := 2) (v := ?_) rfl (by kernel_rfl) (by kernel_rfl) (by kernel_rfl) (fun _ _ _ h => h) (Or.inl ⟨by rfl, ?_⟩) (by assumption) ?_
                    rotate_left
                    · intro w8 hSw; clear hSw; go_simp; (try with_reducible rfl)
                    simp only [Act.put, List.getElem_toArray, List.getElem_cons_zero, List.getElem_cons_succ, List.setIfInBounds_toArray, List.set_cons_zero, List.set_cons_succ]
                    refine wpAnyH_take (i := 3) (v := ?_) rfl (by kernel_rfl) (by kernel_rfl) (by kernel_rfl) (fun _ _ _ h => h) (Or.inl ⟨by rfl, ?_⟩) (by assumption) ?_
                    rotate_left
                    · intro w8 hSw; clear hSw; go_simp; (try with_reducible rfl)
                    simp only [Act.put, List.getElem_toArray, List.getElem_cons_zero, List.getElem_cons_succ, List.setIfInBounds_toArray, List.set_cons_zero, List.set_cons_succ]
                    refine wpAnyH_take (i := 4) (v := ?_) rfl (by kernel_rfl) (by kernel_rfl) (by kernel_rfl) (fun _ _ _ h => h) (Or.inl ⟨by rfl, ?_⟩) (by assumption) ?_
                    rotate_left
                    · intro w8 hSw; clear hSw; go_simp; (try with_reducible rfl)
                    simp only [Act.put, List.getElem_toArray, List.getElem_cons_zero, List.getElem_cons_succ, List.setIfInBounds_toArray, List.set_cons_zero, List.set_cons_succ]
                    refine wpAnyH_take (i := 5) (v := ?_) rfl (by kernel_rfl) (by kernel_rfl) (by kernel_rfl) (fun _ _ _ h => h) (Or.inl ⟨by rfl, ?_⟩) (by assumption) ?_
                    rotate_left
                    · intro w8 hSw; clear hSw; go_simp; (try with_reducible rfl)
                    simp only [Act.put, List.getElem_toArray, List.getElem_cons_zero, List.getElem_cons_succ, List.setIfInBounds_toArray, List.set_cons_zero, List.set_cons_succ]
                    refine wpAnyH_take (i := 6) (v := ?_) rfl (by kernel_rfl) (by kernel_rfl) (by kernel_rfl) (fun _ _ _ h => h) (Or.inl ⟨by rfl, ?_⟩) (by assumption) ?_
                    rotate_left
                    · intro w8 hSw; clear hSw; go_simp; (try with_reducible rfl)
                    simp only [Act.put, List.getElem_toArray, List.getElem_cons_zero, List.getElem_cons_succ, List.setIfInBounds_toArray, List.set_cons_zero, List.set_cons_succ]
                    refine wpAnyH_take (i := 7) (v := ?_) rfl (by kernel_rfl) (by kernel_rfl) (by kernel_rfl) (fun _ _ _ h => h) (Or.inl ⟨by rfl, ?_⟩) (by assumption) ?_
                    rotate_left
                    · intro w8 hSw; clear hSw; go_simp; (try with_reducible rfl)
                    simp only [Act.put, List.getElem_toArray, List.getElem_cons_zero, List.getElem_cons_succ, List.setIfInBounds_toArray, List.set_cons_zero, List.set_cons_succ]
                    refine wpAnyH_take (i := 8) (v := thVal ⟨yi, yg, yd⟩) rfl (by kernel_rfl) (by kernel_rfl) (by kernel_rfl) (fun _ _ _ h => h) (Or.inl ⟨by rfl, ?_⟩) (by assumption) ?_
                    · intro w8 hSw; exact ld_takeT rfl (Hld1.out w8 hSw) rfl
                    simp only [Act.put, List.getElem_toArray, List.getElem_cons_zero, List.getElem_cons_succ, List.setIfInBounds_toArray, List.set_cons_zero, List.set_cons_succ]
                    refine wpAnyH_take (i := 9) (v := ?_) rfl (by kernel_rfl) (by kernel_rfl) (by kernel_rfl) (fun _ _ _ h => h) (Or.inl ⟨by rfl, ?_⟩) (by assumption) ?_
                    rotate_left
                    · intro w8 hSw; clear hSw; go_simp; (try with_reducible rfl)
                    simp only [Act.put, List.getElem_toArray, List.getElem_cons_zero, List.getElem_cons_succ, List.setIfInBounds_toArray, List.set_cons_zero, List.set_cons_succ]
                    refine wpAnyH_take (i := 10) (v := ?_) rfl (by kernel_rfl) (by kernel_rfl) (by kernel_rfl) (fun _ _ _ h => h) (Or.inl ⟨by rfl, ?_⟩) (by assumption) ?_
                    rotate_left
                    · intro w8 hSw; clear hSw; go_simp; (try with_reducible rfl)
                    simp only [Act.put, List.getElem_toArray, List.getElem_cons_zero, List.getElem_cons_succ, List.setIfInBounds_toArray, List.set_cons_zero, List.set_cons_succ]
                    refine wpAnyH_take (i := 11) (v := ?_) rfl (by kernel_rfl) (by kernel_rfl) (by kernel_rfl) (fun _ _ _ h => h) (Or.inl ⟨by rfl, ?_⟩) (by assumption) ?_
                    rotate_left
                    · intro w8 hSw; clear hSw; go_simp; (try with_reducible rfl)
                    simp only [Act.put, List.getElem_toArray, List.getElem_cons_zero, List.getElem_cons_succ, List.setIfInBounds_toArray, List.set_cons_zero, List.set_cons_succ]
                    refine wpAnyH_take (i := 12) (v := thVal ⟨yi, yg, yd⟩) rfl (by kernel_rfl) (by kernel_rfl) (by kernel_rfl) (fun _ _ _ h => h) (Or.inl ⟨by rfl, ?_⟩) (by assumption) ?_
                    · intro w8 hSw; exact ld_takeT rfl (Hld2.out w8 hSw) rfl
                    simp only [Act.put, List.getElem_toArray, List.getElem_cons_zero, List.getElem_cons_succ, List.setIfInBounds_toArray, List.set_cons_zero, List.set_cons_succ]
                    try unfold thVal
                    refine wpAnyH_take (i := 13) (v := ?_) rfl (by kernel_rfl) (by kernel_rfl) (by kernel_rfl) (fun _ _ _ h => h) (Or.inl ⟨by rfl, ?_⟩) (by assumption) ?_
                    rotate_left
                    · intro w8 hSw; clear hSw; go_simp; (try with_reducible rfl)
                    simp only [Act.put, List.getElem_toArray, List.getElem_cons_zero, List.getElem_cons_succ, List.setIfInBounds_toArray, List.set_cons_zero, List.set_cons_succ]
                    refine wpAnyH_take (i := 14) (v := ?_) rfl (by kernel_rfl) (by kernel_rfl) (by kernel_rfl) (fun _ _ _ h => h) (Or.inl ⟨by rfl, ?_⟩) (by assumption) ?_
                    rotate_left
                    · intro w8 hSw; clear hSw; go_simp; (try with_reducible rfl)
                    simp only [Act.put, List.getElem_toArray, List.getElem_cons_zero, List.getElem_cons_succ, List.setIfInBounds_toArray, List.set_cons_zero, List.set_cons_succ]
                    refine wpAnyH_done (by kernel_rfl) ?_ _
                    go_wp2_with fail
                    have HB := Lib.hid (below_on hb.out (Below.refl _ wr).drew (Nat.le_refl _))
                    go_roundw
                    case rel => exact ⟨k + 1, by first | rfl | rw [w1]; rfl, Hkl.out, HB⟩
                    case measure =>
                      first | rw [w1] | skip
                      exact ts_meas _ k Hkl.out
                  · obtain rfl : k = Y.length := Nat.le_antisymm hk (Nat.le_of_not_lt hkl)
                    have y1 : ¬ (Y.length : Int) < (Y.length : Int) := Int.lt_irrefl _
                    have htwB := HtwA.out.below hb.out
                    have Hs1 := Lib.hid (spread_o htwB.fst)
                    have HtwB := Lib.hid htwB
                    clear htwB hk hkl hb
                    go_wp2_with fail
                    refine Hs1.out.mono ?_
                    rintro e V1 ⟨rfl, hb1⟩
                    have htwC := HtwB.out.below hb1
                    have Hs2 := Lib.hid (spread_o htwC.snd)
                    have HtwC := Lib.hid htwC
                    clear htwC hb1 Hs1 HtwB
                    go_wp2_with fail
                    refine Hs2.out.mono ?_
                    rintro e V2 ⟨rfl, hb2⟩
                    rw [Hat.out]
                    have heq := eq_fi (cntR tb Y)
                    have Hlv := Lib.hid (lives_wheel V2)
                    have Hbel := Lib.hid (below_on HtwC.out.fst.bel hb2 (Nat.le_refl _))
                    unfold fiVal at heq ⊢
                    clear hb2
                    go_wp2_with fail
                    refine Hlv.out.mono ?_
                    rintro e V3 ⟨rfl, hb3⟩
                    go_wp2_with fail
                    go_ret
                    exact ⟨rfl, below_on Hbel.out hb3 (Nat.le_refl _)⟩
  · have Hlv := Lib.hid (lives_wheel W)
    have hor : (l.length : Int) > 100 ∨ (¬ (l.length : Int) > 100 ∧ (S.length : Int) > 60) ∨ (¬ (l.length : Int) > 100 ∧ ¬ (S.length : Int) > 60 ∧ now < 0) ∨ (¬ (l.length : Int) > 100 ∧ ¬ (S.length : Int) > 60 ∧ ¬ now < 0 ∧ now > tb) ∨ (¬ (l.length : Int) > 100 ∧ ¬ (S.length : Int) > 60 ∧ ¬ now < 0 ∧ ¬ now > tb ∧ tb > 1125899906842624) := by
      omega
    clear hcond hs hS hok hSok
    rcases hor with h1 | ⟨h1, h2⟩ | ⟨h1, h2, h3⟩ | ⟨h1, h2, h3, h4⟩ | ⟨h1, h2, h3, h4, h5⟩
    all_goals
      go_enter Try.func4, Try.ntmps4
      go_wp2_with fail
      refine Hlv.out.mono ?_
      rintro e W10 ⟨rfl, hb10⟩
      go_wp2_with fail
      go_ret
      exact ⟨rfl, hb10⟩
theorem wheelSteps_walk (now : Int) (ao : Option Addr) (cap : Nat) (l : List Th) (bo : Option Addr) (cb : Nat) (S : List Int) (tb : Int) (W : World) (n1 : -9223372036854775808 ≤ now) (n2 : now ≤ 9223372036854775807) (hs : Sl W 3 ao l.length cap (thFlat l)) (hok : ∀ a ∈ l, ThOk a)
    (hS : Sl W 1 bo S.length cb (S.map (Value.int .i64))) (hSok : ∀ a ∈ S, (Lit.int .i64 a).wf = true) (t1 : -9223372036854775808 ≤ tb) (t2 : tb ≤ 9223372036854775807) :
    Calls Try.prog 4 #[.int .i64 now, .slice ao l.length cap, .slice bo S.length cb, .int .i64 tb] W fun e W' => e = .returned (.bool true) ∧ Below W.heap.size W W' := wheelSteps_run W now tb ao cap l bo cb S hs hok hS hSok
end Go.Proofs.Ytadghaiengonoaa
