/- slots: the reference's Put, Next. No statement of the seat is proved here. -/
import Derived.Test.YtadghaiengonoaaDoorVe
namespace Go.Proofs.YtadghaiengonoaaDoor
set_option linter.unusedVariables false
set_option linter.unusedSimpArgs false
set_option linter.unusedSectionVars false
open Go Go.RowKit Go.Maps

/-- append as one operation; where the new row lies -/
theorem wpo_append_at {P : Program} {w : World} {o : Oper} {a : Act} {K : Act → World → Prop} {Q : Exit → Act → World → Prop} (s x : Operand) (t : TypeId)
    (ho : o.op = .call { callee := .builtin .append, args := #[s, x], argTypes := #[t, t] })
    (base : Nat) (e : TypeId) {z : Value} {size bytes : Nat} (hi : (P.info? e).map (fun i => (i.zero, i.size, i.bytes)) = some (some z, size, bytes)) (ht : P.underlying t = some (.slice e))
    (hzs : z.cells.size = size) (hsz : 0 < size)
    (v : Value) (n : Nat) (xs : List Value) (hs : a.eval s = v) (hown : w.ownsRow base e size v n xs)
    (ao : Option Addr) (m c : Nat) (news : List Value) (hx : a.eval x = .slice ao m c) (hsl : Sl w size ao m c news) (h1 : ∀ u ∈ news, u.oneCell' = true)
    (h63 : n + m ≤ maxLen) (hbytes : (n + m) * bytes ≤ 140737488355328) (hbase : base ≤ w.heap.size)
    (h : ∀ ao' cap' w', w'.ownsRow base e size (.slice ao' (n + m) cap') (n + m) (xs ++ news) → w.grownBy w' v.ownBlock → (∀ g, (Value.slice ao' (n + m) cap').ownBlock = some g → v.ownBlock = some g ∨ g = w.heap.size) → K (a.put o.dst (.slice ao' (n + m) cap')) w') : o.wp P a w K Q := by
  obtain ⟨i, hi1, hi2, hi3, hi4⟩ := info_parts hi
  cases ao with
  | none =>
    have hc := hsl.none rfl
    have hle := hsl.le
    obtain rfl : c = 0 := hc
    obtain rfl : m = 0 := by omega
    have hnews : news = [] := List.eq_nil_of_length_eq_zero (by simpa using hsl.len)
    subst hnews
    have hrun := run_append_owned_none (P := P) (w := w) base t o.type e i size ht hi1 v n xs hown
    obtain ⟨ao', cap', rfl⟩ := own_slice hown
    unfold Oper.wp
    simp [execOp, ho, resolve, invoke, builtin, hs, hx, hrun, Result.andThen]
    exact h ao' cap' _ (by simpa using hown) (World.grownBy.refl _ _) (fun g hg => .inl hg)
  | some ad =>
    have hnews : ∀ j u, news[j]? = some u → w.cell? (ad.add j) = some u := by
      intro j u hu
      obtain ⟨b, off, e, hc⟩ := hsl.cell j u hu
      simp only [Option.some.injEq] at e
      subst e
      rw [← hc]; congr 1
      unfold Addr.add; split <;> simp_all
    obtain ⟨v', w', hr, h2, h3, _, h5⟩ := run_append_own_at (P := P) w base t o.type e i z size bytes ht hi1 hi2 hi3 hi4 hzs hsz v n xs hown ad m c news hsl.len hnews h1 h63 hbytes hbase
    obtain ⟨ao', cap', rfl⟩ := own_slice h2
    unfold Oper.wp execOp
    simp only [ho, resolve, invoke, builtin, Sem.run_bind, Sem.run_pure, Result.andThen_ok, List.map_toArray, List.map_cons, List.map_nil, hs, hx, hr]
    refine h ao' cap' w' h2 h3 fun g hg => ?_
    rcases h5 with h5 | h5
    · exact .inl (by rw [← h5]; exact hg)
    · right
      exact Option.some.inj (hg.symm.trans h5)
theorem own_rt1 (w : World) (base : Nat) (p : Th × Nat) (hb : base ≤ w.heap.size) : (w.alloc (.cells #[.int .u64 p.1.id, .int .u64 p.1.gen, .int .i64 p.1.due, .int .i64 (p.2 : Nat)] rtT)).ownsRow base rtT 4 (.slice (some ⟨w.heap.size, 0, .none⟩) 1 1) 1 (rtFlat [p]) :=
  ⟨by simp [rtFlat, rtCells], .inr ⟨w.heap.size, 1, _, rfl, hb, heap_alloc_new w _, Nat.le_refl _, by unfold maxLen; omega, by simp, by simp [rtFlat, rtCells]⟩⟩
theorem refPut_out (W : World) (ao : Option Addr) (cap : Nat) (l : RLs) (s : Int) (t : Th) (hs : s < 0 ∨ 63 < s) :
    Calls Tryd.prog 30 #[.slice ao l.length cap, .int .i64 s, rtVal (t, 0)] W fun e W' => e = .returned (.tuple #[.slice ao l.length cap, .int .i64 2]) ∧ Below W.heap.size W W' := by
  obtain ⟨ti, tg, td⟩ := t
  unfold rtVal
  obtain ⟨W1, hW1⟩ : ∃ W1, W1 = W.alloc (.cells #[.int .u64 ti, .int .u64 tg, .int .i64 td, .int .i64 0] rtT) := ⟨_, rfl⟩
  have hB1 : Below W.heap.size W W1 := by rw [hW1]; exact below_new _ _
  rcases hs with h | h
  · go_enter Tryd.func30, Tryd.ntmps30
    go_upto_region 1 with fail
    rw [← hW1]
    clear hW1
    go_wp2_with fail
    go_ret2
    exact ⟨rfl, hB1⟩
  · have h2 : ¬ s < 0 := by omega
    go_enter Tryd.func30, Tryd.ntmps30
    go_upto_region 1 with fail
    rw [← hW1]
    clear hW1
    go_wp2_with fail
    go_ret2
    exact ⟨rfl, hB1⟩
theorem refPut_dup (W : World) (ao : Option Addr) (cap : Nat) (l : RLs) (k i : Nat) (t : Th) (h : Rt W ao cap l) (hl : l.length ≤ 10000) (hk : k < 64) (hf : findI l t.id = some i) :
    Calls Tryd.prog 30 #[.slice ao l.length cap, .int .i64 (k : Nat), rtVal (t, 0)] W fun e W' => e = .returned (.tuple #[.slice ao l.length cap, .int .i64 32]) ∧ Below W.heap.size W W' := by
  obtain ⟨ti, tg, td⟩ := t
  unfold rtVal
  obtain ⟨W1, hW1⟩ : ∃ W1, W1 = W.alloc (.cells #[.int .u64 ti, .int .u64 tg, .int .i64 td, .int .i64 0] rtT) := ⟨_, rfl⟩
  have hB1 : Below W.heap.size W W1 := by rw [hW1]; exact below_new _ _
  have hc : W1.heap[W.heap.size]? = some (.cells #[.int .u64 ti, .int .u64 tg, .int .i64 td, .int .i64 0] rtT) := by rw [hW1]; exact heap_alloc_new _ _
  have c0 := block_cell hc 0
  simp at c0
  have k1 : ¬ (k : Int) < 0 := by omega
  have k2 : ¬ (63 : Int) < (k : Int) := by omega
  have hv : findV l ti = (i : Int) := by unfold findV; rw [show findI l ti = some i from hf]
  have hfd := find_any W1 ao cap l ti (h.below hB1) hl
  rw [hv] at hfd
  have Hfd := Lib.hid hfd
  have n1 : ¬ (i : Int) < 0 := by omega
  have n2 : (0 : Int) ≤ (i : Int) := by omega
  clear hv hfd hc hk
  go_enter Tryd.func30, Tryd.ntmps30
  go_upto_region 1 with fail
  rw [← hW1]
  clear hW1
  go_wp2_with fail
  refine Hfd.out.mono ?_
  rintro e W2 ⟨rfl, hB2⟩
  have hBw := below_on hB1 hB2 (Nat.le_refl _)
  go_wp2_with fail
  go_ret2
  exact ⟨rfl, hBw⟩
set_option maxRecDepth 100000 in
set_option maxHeartbeats 4000000 in
theorem refPut_new (W : World) (ao : Option Addr) (cap : Nat) (l : RLs) (k : Nat) (t : Th) (h : Rt W ao cap l) (hl : l.length ≤ 10000) (hk : k < 64) (hf : findI l t.id = none) :
    Calls Tryd.prog 30 #[.slice ao l.length cap, .int .i64 (k : Nat), rtVal (t, 0)] W fun e W' => ∃ ao' cap', e = .returned (.tuple #[.slice ao' (l.length + 1) cap', .int .i64 0]) ∧
      W'.ownsRow W.heap.size rtT 4 (.slice ao' (l.length + 1) cap') (l.length + 1) (rtFlat (l ++ [(t, k)])) ∧ Below W.heap.size W W' := by
  obtain ⟨ti, tg, td⟩ := t
  unfold rtVal
  obtain ⟨W1, hW1⟩ : ∃ W1, W1 = W.alloc (.cells #[.int .u64 ti, .int .u64 tg, .int .i64 td, .int .i64 0] rtT) := ⟨_, rfl⟩
  have hB1 : Below W.heap.size W W1 := by rw [hW1]; exact below_new _ _
  have hc : W1.heap[W.heap.size]? = some (.cells #[.int .u64 ti, .int .u64 tg, .int .i64 td, .int .i64 0] rtT) := by rw [hW1]; exact heap_alloc_new _ _
  have hz1 : W1.heap.size = W.heap.size + 1 := by rw [hW1]; simp
  obtain ⟨b, hbd⟩ : ∃ b, b = W.heap.size := ⟨_, rfl⟩
  have k1 : ¬ (k : Int) < 0 := by omega
  have k2 : ¬ (63 : Int) < (k : Int) := by omega
  have hv : findV l ti = -1 := by unfold findV; rw [show findI l ti = none from hf]
  have hfd := find_any W1 ao cap l ti (h.below hB1) hl
  rw [hv] at hfd
  have Hfd := Lib.hid hfd
  have Hh := Lib.hid h
  have HL := Lib.hid hl
  have c0 := block_cell hc 0
  simp at c0
  have Hc := Lib.hid hc
  clear hv hfd hk h hl hc
  go_enter Tryd.func30, Tryd.ntmps30
  go_upto_region 1 with fail
  rw [← hW1]
  clear hW1
  rw [← hbd] at c0 ⊢
  have Hbd := Lib.hid hbd
  clear hbd
  go_wp2_with fail
  refine Hfd.out.mono ?_
  rintro e W2 ⟨rfl, hB2⟩
  have hc2 := (hB2.block _ (Array.getElem?_eq_some_iff.1 Hc.out).1).trans Hc.out
  rw [← Hbd.out] at hc2
  have d3 := block_cell hc2 3
  have f3 := block_free hc2 3
  simp at d3 f3
  clear c0
  go_upto_region 6 with fail
  obtain ⟨W3, hW3⟩ : ∃ W3, W3 = W2.setCell ⟨b, 3, none⟩ (.int .i64 (k : Nat)) := ⟨_, rfl⟩
  rw [← hW3]
  have hb3 : b < W2.heap.size := (Array.getElem?_eq_some_iff.1 hc2).1
  have hbz : W.heap.size ≤ b := Nat.le_of_eq Hbd.out.symm
  have hB3 : Below W.heap.size W W3 := by rw [hW3]; exact (below_on hB1 hB2 (Nat.le_refl _)).grown (grown_set W2 b 3 _) (Nat.le_trans hB1.size hB2.size) (fun q hq => by have := Option.some.inj hq; omega)
  obtain ⟨E, hEd⟩ : ∃ E, E = W3.heap.size := ⟨_, rfl⟩
  have hE0 : E ≤ W3.heap.size := Nat.le_of_eq hEd
  have hz3 : W3.heap.size = W2.heap.size := by rw [hW3]; simp
  have hEW : W.heap.size ≤ E := by rw [hEd]; exact hB3.size
  have hbE : b < E := by rw [hEd, hz3]; exact hb3
  have hc3 := block_set hc2 3 (.int .i64 (k : Nat))
  rw [← hW3] at hc3
  have e0 := block_cell hc3 0
  have e1 := block_cell hc3 1
  have e2 := block_cell hc3 2
  have e3 := block_cell hc3 3
  simp at e0 e1 e2 e3
  have hld : ∀ W', Below E W3 W' → (Instr.loadAt rtT (.pointer (some ⟨b, 0, none⟩))).run Tryd.prog W' = .ok (rtVal (⟨ti, tg, td⟩, k)) W' := fun W' hw => rt_load (p := (⟨ti, tg, td⟩, k)) ((hw.cell (p := ⟨b, 0, none⟩) hbE).trans e0) ((hw.cell (p := ⟨b, 1, none⟩) hbE).trans e1) ((hw.cell (p := ⟨b, 2, none⟩) hbE).trans e2) ((hw.cell (p := ⟨b, 3, none⟩) hbE).trans e3)
  have hfin : ∀ W', Below E W3 W' → Below W.heap.size W W' := fun W' hw => hB3.trans (hw.mono hEW)
  have hrt : ∀ W', Below E W3 W' → Rt W' ao cap l := fun W' hw => Hh.out.below (hfin W' hw)
  have Hld := Lib.hid hld
  have Hrt := Lib.hid hrt
  have Hfin := Lib.hid hfin
  clear hld hrt hfin hc3 e0 e1 e2 e3 hc2 f3 d3 hW3 hB2 hB3 hz3 hEd hb3 hbz hbE Hfd Hc Hbd hz1 hB1 hf
  refine wp_region_held_drew (S := fun W' => Below E W3 W') (by kernel_rfl) (Below.refl E W3).drew (fun hHeld => ?_)
  obtain ⟨V0, hV0⟩ : ∃ V0, V0 = W3.drew := ⟨_, rfl⟩
  rw [← hV0] at hHeld ⊢
  have hB := hHeld
  have hE : E ≤ V0.heap.size := by rw [hV0]; exact hE0
  clear hV0
  refine wpAnyH_take (i := 1) (v := ?_) rfl (by kernel_rfl) (by kernel_rfl) (by kernel_rfl) (fun _ _ _ h => h) (Or.inl ⟨by rfl, ?_⟩) (by assumption) ?_
  rotate_left
  · intro w8 hSw; clear hSw; go_simp; (try with_reducible rfl)
  simp only [Act.put, List.getElem_toArray, List.getElem_cons_zero, List.getElem_cons_succ, List.setIfInBounds_toArray, List.set_cons_zero, List.set_cons_succ]
  refine wpAnyH_take (i := 3) (v := rtVal (⟨ti, tg, td⟩, k)) rfl (by kernel_rfl) (by kernel_rfl) (by kernel_rfl) (fun _ _ _ h => h) (Or.inl ⟨by rfl, ?_⟩) (by assumption) ?_
  · intro w8 hSw; exact ld_takeT rfl (Hld.out w8 hSw) rfl
  simp only [Act.put, List.getElem_toArray, List.getElem_cons_zero, List.getElem_cons_succ, List.setIfInBounds_toArray, List.set_cons_zero, List.set_cons_succ]
  unfold rtVal
  refine wpAnyH_ready (rs := [0, 4]) (by kernel_rfl) (by simp) ?_
  refine AllReadyH.cons rfl (fun K hK => ?_) (AllReadyH.cons rfl (fun K hK => ?_) AllReadyH.nil)
  · go_simp
    obtain ⟨V1, hX⟩ : ∃ X, X = V0.alloc (.cells #[] rtT) := ⟨_, rfl⟩
    have own0 := own_empty V0 E rtT 4 hE
    have hBx := below_on hB (below_new V0 (.cells #[] rtT)) hE0
    have hlt := hE
    obtain ⟨g0, hg⟩ : ∃ g, g = V0.heap.size := ⟨_, rfl⟩
    rw [← hX] at own0 hBx
    rw [← hg] at own0
    have HX := Lib.hid hX
    have HG := Lib.hid hg
    clear hX hg
    rw [show V0.alloc (.cells #[] rtT) = V1 from HX.out.symm, ← HG.out]
    have hE1 : E ≤ V1.heap.size := by rw [HX.out]; simp; omega
    clear hE hlt HX HG hB
    have hE := hE1
    have hB := hBx
    clear hE1 hBx
    refine hK.out _ _ hB (fun hHeld => ?_)
    clear hK K
    try simp only [Act.put, List.getElem_toArray, List.getElem_cons_zero, List.getElem_cons_succ, List.setIfInBounds_toArray, List.set_cons_zero, List.set_cons_succ]
    refine wpAnyH_ready (rs := [2, 4]) (by kernel_rfl) (by simp) ?_
    refine AllReadyH.cons rfl (fun K hK => ?_) (AllReadyH.cons rfl (fun K hK => ?_) AllReadyH.nil)
    · rw [if_pos (by rfl)]
      refine wpo_append_at (.tmp 23) (.tmp 24) rtsT rfl E rtT infoRt Tryd.underlying24 rfl (by decide) _ 0 [] rfl own0 _ _ _ _ rfl (Hrt.out _ hB).sl (rts_one _) (by unfold maxLen; have := HL.out; omega) (by have := HL.out; omega) hE fun a2 c2 V2 own2 hgr hat => ?_
      rw [Nat.zero_add, List.nil_append] at own2
      rw [Nat.zero_add]
      have hBx := below_app hB hgr own0 (Nat.le_refl _) hE
      have hE1 : E ≤ V2.heap.size := Nat.le_trans hE hgr.size
      clear own0
      clear hgr hat hE hB
      have hE := hE1
      have hB := hBx
      clear hE1 hBx
      refine hK.out _ _ hB (fun hHeld => ?_)
      clear hK K
      try simp only [Act.put, List.getElem_toArray, List.getElem_cons_zero, List.getElem_cons_succ, List.setIfInBounds_toArray, List.set_cons_zero, List.set_cons_succ]
      refine wpAnyH_ready (rs := [4]) (by kernel_rfl) (by simp) ?_
      refine AllReadyH.cons rfl (fun K hK => ?_) AllReadyH.nil
      go_simp
      obtain ⟨V3, hX⟩ : ∃ X, X = V2.alloc (.cells #[.int .u64 ti, .int .u64 tg, .int .i64 td, .int .i64 (k : Nat)] rtT) := ⟨_, rfl⟩
      have own1 := own_rt1 V2 E (⟨ti, tg, td⟩, k) hE
      simp only at own1
      have hBx := below_on hB (below_new V2 (.cells #[.int .u64 ti, .int .u64 tg, .int .i64 td, .int .i64 (k : Nat)] rtT)) hE0
      have own2n := World.ownsRow.alloc own2 (.cells #[.int .u64 ti, .int .u64 tg, .int .i64 td, .int .i64 (k : Nat)] rtT)
      have hlt := hE
      have hap2 : ∀ g, (Value.slice a2 l.length c2).ownBlock = some g → g ≠ V2.heap.size := by intro g hg; have := (own2.lt g hg).2; omega
      obtain ⟨g1, hg⟩ : ∃ g, g = V2.heap.size := ⟨_, rfl⟩
      rw [← hX] at own1 hBx own2n
      rw [← hg] at own1 hap2
      have HX := Lib.hid hX
      have HG := Lib.hid hg
      clear hX hg
      rw [show V2.alloc (.cells #[.int .u64 ti, .int .u64 tg, .int .i64 td, .int .i64 (k : Nat)] rtT) = V3 from HX.out.symm, ← HG.out]
      have hE1 : E ≤ V3.heap.size := by rw [HX.out]; simp; omega
      clear own2
      have own2 := own2n
      clear own2n
      clear hE hlt HX HG hB
      have hE := hE1
      have hB := hBx
      clear hE1 hBx
      refine hK.out _ _ hB (fun hHeld => ?_)
      clear hK K
      try simp only [Act.put, List.getElem_toArray, List.getElem_cons_zero, List.getElem_cons_succ, List.setIfInBounds_toArray, List.set_cons_zero, List.set_cons_succ]
      refine wpAnyH_ready (rs := [5]) (by kernel_rfl) (by simp) ?_
      refine AllReadyH.cons rfl (fun K hK => ?_) AllReadyH.nil
      rw [if_pos (by rfl)]
      refine wpo_append_at (.tmp 25) (.tmp 27) rtsT rfl E rtT infoRt Tryd.underlying24 rfl (by decide) _ l.length _ rfl own2 _ _ _ _ rfl (Rt.of_own (l := [(⟨ti, tg, td⟩, k)]) own1).sl (rts_one _) (by unfold maxLen; have := HL.out; simp; omega) (by have := HL.out; simp; omega) hE fun a3 c3 V4 own3 hgr _ => ?_
      have hBx := below_app hB hgr own2 (Nat.le_refl _) hE
      rw [← rt_two] at own3
      clear own2 own1 hgr hE hB
      have hB := hBx
      clear hBx
      refine hK.out _ _ hB (fun hHeld => ?_)
      clear hK K
      try simp only [Act.put, List.getElem_toArray, List.getElem_cons_zero, List.getElem_cons_succ, List.setIfInBounds_toArray, List.set_cons_zero, List.set_cons_succ]
      refine wpAnyH_take (i := 6) (v := ?_) rfl (by kernel_rfl) (by kernel_rfl) (by kernel_rfl) (fun _ _ _ h => h) (Or.inl ⟨by rfl, ?_⟩) (by assumption) ?_
      rotate_left
      · intro w8 hSw; clear hSw; go_simp; (try with_reducible rfl)
      simp only [Act.put, List.getElem_toArray, List.getElem_cons_zero, List.getElem_cons_succ, List.setIfInBounds_toArray, List.set_cons_zero, List.set_cons_succ]
      refine wpAnyH_take (i := 7) (v := ?_) rfl (by kernel_rfl) (by kernel_rfl) (by kernel_rfl) (fun _ _ _ h => h) (Or.inl ⟨by rfl, ?_⟩) (by assumption) ?_
      rotate_left
      · intro w8 hSw; clear hSw; go_simp; (try with_reducible rfl)
      simp only [Act.put, List.getElem_toArray, List.getElem_cons_zero, List.getElem_cons_succ, List.setIfInBounds_toArray, List.set_cons_zero, List.set_cons_succ]
      refine wpAnyH_done (by kernel_rfl) ?_ _
      go_wp2_with fail
      go_ret2
      exact ⟨a3, c3, rfl, own_base own3 hEW, Hfin.out _ hB⟩
    · go_simp
      obtain ⟨V5, hX⟩ : ∃ X, X = V1.alloc (.cells #[.int .u64 ti, .int .u64 tg, .int .i64 td, .int .i64 (k : Nat)] rtT) := ⟨_, rfl⟩
      have own1 := own_rt1 V1 E (⟨ti, tg, td⟩, k) hE
      simp only at own1
      have hBx := below_on hB (below_new V1 (.cells #[.int .u64 ti, .int .u64 tg, .int .i64 td, .int .i64 (k : Nat)] rtT)) hE0
      have own0n := World.ownsRow.alloc own0 (.cells #[.int .u64 ti, .int .u64 tg, .int .i64 td, .int .i64 (k : Nat)] rtT)
      have hlt := hE
      have hap : g0 ≠ V1.heap.size := by have := (own0.lt g0 rfl).2; omega
      obtain ⟨g1, hg⟩ : ∃ g, g = V1.heap.size := ⟨_, rfl⟩
      rw [← hX] at own1 hBx own0n
      rw [← hg] at own1 hap
      have HX := Lib.hid hX
      have HG := Lib.hid hg
      clear hX hg
      rw [show V1.alloc (.cells #[.int .u64 ti, .int .u64 tg, .int .i64 td, .int .i64 (k : Nat)] rtT) = V5 from HX.out.symm, ← HG.out]
      have hE1 : E ≤ V5.heap.size := by rw [HX.out]; simp; omega
      clear own0
      have own0 := own0n
      clear own0n
      clear hE hlt HX HG hB
      have hE := hE1
      have hB := hBx
      clear hE1 hBx
      refine hK.out _ _ hB (fun hHeld => ?_)
      clear hK K
      try simp only [Act.put, List.getElem_toArray, List.getElem_cons_zero, List.getElem_cons_succ, List.setIfInBounds_toArray, List.set_cons_zero, List.set_cons_succ]
      refine wpAnyH_ready (rs := [2]) (by kernel_rfl) (by simp) ?_
      refine AllReadyH.cons rfl (fun K hK => ?_) AllReadyH.nil
      rw [if_pos (by rfl)]
      refine wpo_append_at (.tmp 23) (.tmp 24) rtsT rfl E rtT infoRt Tryd.underlying24 rfl (by decide) _ 0 [] rfl own0 _ _ _ _ rfl (Hrt.out _ hB).sl (rts_one _) (by unfold maxLen; have := HL.out; omega) (by have := HL.out; omega) hE fun a2 c2 V6 own2 hgr hat => ?_
      rw [Nat.zero_add, List.nil_append] at own2
      rw [Nat.zero_add]
      have hBx := below_app hB hgr own0 (Nat.le_refl _) hE
      have own1n := own1.kept hgr (.inr (by intro e; exact hap (Option.some.inj e).symm))
      have hap2 : ∀ g, (Value.slice a2 l.length c2).ownBlock = some g → g ≠ g1 := by intro g hg; rcases hat g (by rw [Nat.zero_add]; exact hg) with h5 | h5; exact fun e => hap ((Option.some.inj h5).trans e); (have := (own1.lt g1 rfl).2; omega)
      have hE1 : E ≤ V6.heap.size := Nat.le_trans hE hgr.size
      clear own0
      clear own1
      have own1 := own1n
      clear own1n
      clear hgr hat hE hB
      have hE := hE1
      have hB := hBx
      clear hE1 hBx
      refine hK.out _ _ hB (fun hHeld => ?_)
      clear hK K
      try simp only [Act.put, List.getElem_toArray, List.getElem_cons_zero, List.getElem_cons_succ, List.setIfInBounds_toArray, List.set_cons_zero, List.set_cons_succ]
      refine wpAnyH_ready (rs := [5]) (by kernel_rfl) (by simp) ?_
      refine AllReadyH.cons rfl (fun K hK => ?_) AllReadyH.nil
      rw [if_pos (by rfl)]
      refine wpo_append_at (.tmp 25) (.tmp 27) rtsT rfl E rtT infoRt Tryd.underlying24 rfl (by decide) _ l.length _ rfl own2 _ _ _ _ rfl (Rt.of_own (l := [(⟨ti, tg, td⟩, k)]) own1).sl (rts_one _) (by unfold maxLen; have := HL.out; simp; omega) (by have := HL.out; simp; omega) hE fun a3 c3 V7 own3 hgr _ => ?_
      have hBx := below_app hB hgr own2 (Nat.le_refl _) hE
      rw [← rt_two] at own3
      clear own2 own1 hgr hE hB
      have hB := hBx
      clear hBx
      refine hK.out _ _ hB (fun hHeld => ?_)
      clear hK K
      try simp only [Act.put, List.getElem_toArray, List.getElem_cons_zero, List.getElem_cons_succ, List.setIfInBounds_toArray, List.set_cons_zero, List.set_cons_succ]
      refine wpAnyH_take (i := 6) (v := ?_) rfl (by kernel_rfl) (by kernel_rfl) (by kernel_rfl) (fun _ _ _ h => h) (Or.inl ⟨by rfl, ?_⟩) (by assumption) ?_
      rotate_left
      · intro w8 hSw; clear hSw; go_simp; (try with_reducible rfl)
      simp only [Act.put, List.getElem_toArray, List.getElem_cons_zero, List.getElem_cons_succ, List.setIfInBounds_toArray, List.set_cons_zero, List.set_cons_succ]
      refine wpAnyH_take (i := 7) (v := ?_) rfl (by kernel_rfl) (by kernel_rfl) (by kernel_rfl) (fun _ _ _ h => h) (Or.inl ⟨by rfl, ?_⟩) (by assumption) ?_
      rotate_left
      · intro w8 hSw; clear hSw; go_simp; (try with_reducible rfl)
      simp only [Act.put, List.getElem_toArray, List.getElem_cons_zero, List.getElem_cons_succ, List.setIfInBounds_toArray, List.set_cons_zero, List.set_cons_succ]
      refine wpAnyH_done (by kernel_rfl) ?_ _
      go_wp2_with fail
      go_ret2
      exact ⟨a3, c3, rfl, own_base own3 hEW, Hfin.out _ hB⟩
  · go_simp
    obtain ⟨V8, hX⟩ : ∃ X, X = V0.alloc (.cells #[.int .u64 ti, .int .u64 tg, .int .i64 td, .int .i64 (k : Nat)] rtT) := ⟨_, rfl⟩
    have own1 := own_rt1 V0 E (⟨ti, tg, td⟩, k) hE
    simp only at own1
    have hBx := below_on hB (below_new V0 (.cells #[.int .u64 ti, .int .u64 tg, .int .i64 td, .int .i64 (k : Nat)] rtT)) hE0
    have hlt := hE
    obtain ⟨g1, hg⟩ : ∃ g, g = V0.heap.size := ⟨_, rfl⟩
    rw [← hX] at own1 hBx
    rw [← hg] at own1
    have HX := Lib.hid hX
    have HG := Lib.hid hg
    clear hX hg
    rw [show V0.alloc (.cells #[.int .u64 ti, .int .u64 tg, .int .i64 td, .int .i64 (k : Nat)] rtT) = V8 from HX.out.symm, ← HG.out]
    have hE1 : E ≤ V8.heap.size := by rw [HX.out]; simp; omega
    clear hE hlt HX HG hB
    have hE := hE1
    have hB := hBx
    clear hE1 hBx
    refine hK.out _ _ hB (fun hHeld => ?_)
    clear hK K
    try simp only [Act.put, List.getElem_toArray, List.getElem_cons_zero, List.getElem_cons_succ, List.setIfInBounds_toArray, List.set_cons_zero, List.set_cons_succ]
    refine wpAnyH_ready (rs := [0]) (by kernel_rfl) (by simp) ?_
    refine AllReadyH.cons rfl (fun K hK => ?_) AllReadyH.nil
    go_simp
    obtain ⟨V9, hX⟩ : ∃ X, X = V8.alloc (.cells #[] rtT) := ⟨_, rfl⟩
    have own0 := own_empty V8 E rtT 4 hE
    have hBx := below_on hB (below_new V8 (.cells #[] rtT)) hE0
    have own1n := World.ownsRow.alloc own1 (.cells #[] rtT)
    have hlt := hE
    have hap : V8.heap.size ≠ g1 := by have := (own1.lt g1 rfl).2; omega
    obtain ⟨g0, hg⟩ : ∃ g, g = V8.heap.size := ⟨_, rfl⟩
    rw [← hX] at own0 hBx own1n
    rw [← hg] at own0 hap
    have HX := Lib.hid hX
    have HG := Lib.hid hg
    clear hX hg
    rw [show V8.alloc (.cells #[] rtT) = V9 from HX.out.symm, ← HG.out]
    have hE1 : E ≤ V9.heap.size := by rw [HX.out]; simp; omega
    clear own1
    have own1 := own1n
    clear own1n
    clear hE hlt HX HG hB
    have hE := hE1
    have hB := hBx
    clear hE1 hBx
    refine hK.out _ _ hB (fun hHeld => ?_)
    clear hK K
    try simp only [Act.put, List.getElem_toArray, List.getElem_cons_zero, List.getElem_cons_succ, List.setIfInBounds_toArray, List.set_cons_zero, List.set_cons_succ]
    refine wpAnyH_ready (rs := [2]) (by kernel_rfl) (by simp) ?_
    refine AllReadyH.cons rfl (fun K hK => ?_) AllReadyH.nil
    rw [if_pos (by rfl)]
    refine wpo_append_at (.tmp 23) (.tmp 24) rtsT rfl E rtT infoRt Tryd.underlying24 rfl (by decide) _ 0 [] rfl own0 _ _ _ _ rfl (Hrt.out _ hB).sl (rts_one _) (by unfold maxLen; have := HL.out; omega) (by have := HL.out; omega) hE fun a2 c2 V10 own2 hgr hat => ?_
    rw [Nat.zero_add, List.nil_append] at own2
    rw [Nat.zero_add]
    have hBx := below_app hB hgr own0 (Nat.le_refl _) hE
    have own1n := own1.kept hgr (.inr (by intro e; exact hap (Option.some.inj e).symm))
    have hap2 : ∀ g, (Value.slice a2 l.length c2).ownBlock = some g → g ≠ g1 := by intro g hg; rcases hat g (by rw [Nat.zero_add]; exact hg) with h5 | h5; exact fun e => hap ((Option.some.inj h5).trans e); (have := (own1.lt g1 rfl).2; omega)
    have hE1 : E ≤ V10.heap.size := Nat.le_trans hE hgr.size
    clear own0
    clear own1
    have own1 := own1n
    clear own1n
    clear hgr hat hE hB
    have hE := hE1
    have hB := hBx
    clear hE1 hBx
    refine hK.out _ _ hB (fun hHeld => ?_)
    clear hK K
    try simp only [Act.put, List.getElem_toArray, List.getElem_cons_zero, List.getElem_cons_succ, List.setIfInBounds_toArray, List.set_cons_zero, List.set_cons_succ]
    refine wpAnyH_ready (rs := [5]) (by kernel_rfl) (by simp) ?_
    refine AllReadyH.cons rfl (fun K hK => ?_) AllReadyH.nil
    rw [if_pos (by rfl)]
    refine wpo_append_at (.tmp 25) (.tmp 27) rtsT rfl E rtT infoRt Tryd.underlying24 rfl (by decide) _ l.length _ rfl own2 _ _ _ _ rfl (Rt.of_own (l := [(⟨ti, tg, td⟩, k)]) own1).sl (rts_one _) (by unfold maxLen; have := HL.out; simp; omega) (by have := HL.out; simp; omega) hE fun a3 c3 V11 own3 hgr _ => ?_
    have hBx := below_app hB hgr own2 (Nat.le_refl _) hE
    rw [← rt_two] at own3
    clear own2 own1 hgr hE hB
    have hB := hBx
    clear hBx
    refine hK.out _ _ hB (fun hHeld => ?_)
    clear hK K
    try simp only [Act.put, List.getElem_toArray, List.getElem_cons_zero, List.getElem_cons_succ, List.setIfInBounds_toArray, List.set_cons_zero, List.set_cons_succ]
    refine wpAnyH_take (i := 6) (v := ?_) rfl (by kernel_rfl) (by kernel_rfl) (by kernel_rfl) (fun _ _ _ h => h) (Or.inl ⟨by rfl, ?_⟩) (by assumption) ?_
    rotate_left
    · intro w8 hSw; clear hSw; go_simp; (try with_reducible rfl)
    simp only [Act.put, List.getElem_toArray, List.getElem_cons_zero, List.getElem_cons_succ, List.setIfInBounds_toArray, List.set_cons_zero, List.set_cons_succ]
    refine wpAnyH_take (i := 7) (v := ?_) rfl (by kernel_rfl) (by kernel_rfl) (by kernel_rfl) (fun _ _ _ h => h) (Or.inl ⟨by rfl, ?_⟩) (by assumption) ?_
    rotate_left
    · intro w8 hSw; clear hSw; go_simp; (try with_reducible rfl)
    simp only [Act.put, List.getElem_toArray, List.getElem_cons_zero, List.getElem_cons_succ, List.setIfInBounds_toArray, List.set_cons_zero, List.set_cons_succ]
    refine wpAnyH_done (by kernel_rfl) ?_ _
    go_wp2_with fail
    go_ret2
    exact ⟨a3, c3, rfl, own_base own3 hEW, Hfin.out _ hB⟩
theorem tmod_facts (f : Int) : f = 64 * f.tdiv 64 + f.tmod 64 ∧ -64 < f.tmod 64 ∧ f.tmod 64 < 64 := by
  refine ⟨(Int.mul_tdiv_add_tmod f 64).symm, ?_, Int.tmod_lt_of_pos f (by decide)⟩
  have := Int.lt_tmod_of_pos f (b := 64) (by decide)
  exact this
theorem atM_mod (f : Int) : (if f.tmod 64 < 0 then f.tmod 64 + 64 else f.tmod 64) = (atM f : Nat) := by
  unfold atM
  obtain ⟨h1, h2, h3⟩ := tmod_facts f
  split <;> omega
theorem next_out (l : RLs) (a : Nat) (ha : a < 64) (hok : RLok l) (h : ∀ j, j < 64 → ∀ p ∈ l, p.2 ≠ (a + j) % 64) : l = [] := by
  cases l with
  | nil => rfl
  | cons p l =>
    have hp := hok.slot p (by simp)
    exact absurd (show p.2 = (a + (64 + p.2 - a) % 64) % 64 by omega) (h _ (Nat.mod_lt _ (by decide)) p (by simp))
theorem meas64 (i : Nat) (h : i < 64) : 64 - (intOf (.int .i64 ((i : Int) + 1))).toNat < 64 - (intOf (.int .i64 (i : Nat))).toNat := by simp only [intOf]; omega
set_option maxRecDepth 100000 in
set_option maxHeartbeats 4000000 in
theorem refNext_any (W : World) (ao : Option Addr) (cap : Nat) (l : RLs) (f : Int) (h : Rt W ao cap l) (hok : RLok l) (hl : l.length ≤ 10000) :
    Calls Tryd.prog 29 #[.slice ao l.length cap, .int .i64 f] W fun e W' => ((∃ st, NextIs l (atM f) st ∧ e = .returned (.tuple #[.int .i64 (((atM f + st) % 64 : Nat) : Int), .int .i64 (st : Nat), .bool true])) ∨ (l = [] ∧ e = .returned (.tuple #[.int .i64 0, .int .i64 0, .bool false]))) ∧ W' = W := by
  have hm := atM_mod f
  have ha := atM_lt f
  obtain ⟨a, haa⟩ : ∃ a, a = atM f := ⟨_, rfl⟩
  rw [← haa] at hm ha ⊢
  have hxb := (tmod_facts f).2
  obtain ⟨wc, hwc⟩ : ∃ wc, wc = W := ⟨_, rfl⟩
  rw [← hwc] at h ⊢
  have Ha := Lib.hid ha
  have Hok := Lib.hid hok
  have HL := Lib.hid hl
  by_cases hneg : f.tmod 64 < 0
  · rw [if_pos hneg] at hm
    obtain ⟨x, hx⟩ : ∃ x, f.tmod 64 = x := ⟨_, rfl⟩
    have hneg2 : x < 0 := hx ▸ hneg
    have wx : wrap64 x = x := IntWalk.wrap64_in _ (by omega)
    have wx2 : wrap64 (x + 64) = (a : Int) := by rw [IntWalk.wrap64_in _ (by omega)]; omega
    clear haa hm hneg hxb ha hok hwc hl
    go_enter Tryd.func29, Tryd.ntmps29
    go_upto_region 4 with fail
    simp only [wx2]
    clear hx hneg2 wx wx2
    go_wp2_with fail
    go_loopw [8] (fun u wr => ∃ st : Nat, u = .int .i64 (st : Nat) ∧ st ≤ 64 ∧ Hid (∀ j, j < st → ∀ p ∈ l, p.2 ≠ (a + j) % 64) ∧ wr = wc) (fun u _ => 64 - (intOf u).toNat)
    case atStart => exact ⟨0, rfl, by omega, fun j hj => by omega, rfl⟩
    case round =>
      obtain ⟨st, rfl, hst, hno, hwr⟩ := hrel
      subst hwr
      by_cases hlt : st < 64
      · have x1 : (st : Int) < 64 := by omega
        have w1 : wrap64 ((st : Int) + 1) = (st : Int) + 1 := IntWalk.wrap64_in _ (by omega)
        have y5 : wrap64 ((a : Int) + (st : Int)) = ((a + st : Nat) : Int) := by rw [IntWalk.wrap64_in _ (by have := Ha.out; omega)]; simp
        have y6 : (((a + st : Nat) : Int)).tmod 64 = (((a + st) % 64 : Nat) : Int) := by rw [Int.tmod_eq_emod_of_nonneg (by omega)]; simp
        obtain ⟨m, hm⟩ : ∃ m : Int, m = (((a + st) % 64 : Nat) : Int) := ⟨_, rfl⟩
        obtain ⟨q0, hq0⟩ : ∃ q0, q0 = a + st := ⟨_, rfl⟩
        rw [← hm] at y6
        rw [← hq0] at y5 y6
        have w6 : wrap64 m = m := IntWalk.wrap64_in _ (by rw [hm]; omega)
        have Hm := Lib.hid hm
        have Hlt := Lib.hid hlt
        have Hst := Lib.hid x1
        clear hm hq0 hlt hst
        go_wp2_with fail
        go_loopw [9] (fun v wi => ∃ i : Nat, v = .int .i64 (i : Nat) ∧ i ≤ l.length ∧ Hid (∀ j (hj : j < l.length), j < i → ((l[j].2 : Nat) : Int) ≠ m) ∧ wi = wr) (fun v _ => l.length - (intOf v).toNat)
        case atStart => exact ⟨0, rfl, Nat.zero_le _, fun j _ hj => by omega, rfl⟩
        case round =>
          obtain ⟨i, rfl, hi, hni, hwi⟩ := hrel
          subst hwi
          by_cases hil : i < l.length
          · obtain ⟨z1, z2⟩ := i_nums i l.length hil
            obtain ⟨bx, fx, rfl, hbx, -, -, -, d3⟩ := Rt.cells h i hil
            have w2 : wrap64 ((i : Int) + 1) = (i : Int) + 1 := IntWalk.wrap64_in _ (by have := HL.out; omega)
            obtain ⟨y, hy⟩ : ∃ y : Int, y = ((l[i].2 : Nat) : Int) := ⟨_, rfl⟩
            rw [← hy] at d3
            by_cases hyk : y = m
            · have hnx : NextIs l a st := ⟨Hlt.out, ⟨l[i], List.getElem_mem hil, Int.ofNat.inj (hy.symm.trans (hyk.trans Hm.out))⟩, hno.out⟩
              have Hnx := Lib.hid hnx
              subst hyk
              have Hy := Lib.hid hy
              clear hnx hy hi
              go_wp2_with fail
              go_ret3
              exact ⟨.inl ⟨st, Hnx.out, by rw [← Hm.out]; rfl⟩, rfl⟩
            · have y7 : (y == m) = false := by simp [hyk]
              have Hy := Lib.hid hy
              have Hyk := Lib.hid hyk
              have Hi := Lib.hid hil
              clear hy hi hyk
              go_wp2_with fail
              go_roundw
              case rel => exact ⟨i + 1, by first | rfl | rw [w2]; rfl, Hi.out, fun j hj hji => by
                by_cases e : j = i
                · subst e; exact fun e2 => Hyk.out (Hy.out.trans e2)
                · exact hni.out j hj (Nat.lt_of_le_of_ne (Nat.le_of_lt_succ hji) e), by first | trivial | rfl⟩
              case measure =>
                first | rw [w2] | skip
                exact meas_w l.length i Hi.out
          · obtain rfl : i = l.length := Nat.le_antisymm hi (Nat.le_of_not_lt hil)
            have x2 : ¬ (l.length : Int) < (l.length : Int) := by omega
            clear hil hi
            go_wp2_with fail
            go_roundw
            case rel => exact ⟨st + 1, by first | rfl | rw [w1]; rfl, Hlt.out, fun j hj p hp => by
              by_cases e : j = st
              · subst e
                obtain ⟨q, hq, rfl⟩ := List.mem_iff_getElem.1 hp
                exact fun e2 => hni.out q hq hq ((congrArg Int.ofNat e2).trans Hm.out.symm)
              · exact hno.out j (Nat.lt_of_le_of_ne (Nat.le_of_lt_succ hj) e) p hp, by first | trivial | rfl⟩
            case measure =>
              first | rw [w1] | skip
              exact meas64 st Hlt.out
      · obtain rfl : st = 64 := by omega
        have hnil := next_out l a Ha.out Hok.out hno.out
        have Hn := Lib.hid hnil
        clear hnil hlt hst
        go_wp2_with fail
        go_ret3
        exact ⟨.inr ⟨Hn.out, rfl⟩, rfl⟩
  · rw [if_neg hneg] at hm
    have x0 : ¬ (a : Int) < 0 := by omega
    have wx : wrap64 (a : Int) = (a : Int) := IntWalk.wrap64_in _ (by omega)
    clear haa hneg hxb ha hok hwc hl
    go_enter Tryd.func29, Tryd.ntmps29
    go_upto_region 4 with fail
    clear hm wx x0
    go_wp2_with fail
    go_loopw [8] (fun u wr => ∃ st : Nat, u = .int .i64 (st : Nat) ∧ st ≤ 64 ∧ Hid (∀ j, j < st → ∀ p ∈ l, p.2 ≠ (a + j) % 64) ∧ wr = wc) (fun u _ => 64 - (intOf u).toNat)
    case atStart => exact ⟨0, rfl, by omega, fun j hj => by omega, rfl⟩
    case round =>
      obtain ⟨st, rfl, hst, hno, hwr⟩ := hrel
      subst hwr
      by_cases hlt : st < 64
      · have x1 : (st : Int) < 64 := by omega
        have w1 : wrap64 ((st : Int) + 1) = (st : Int) + 1 := IntWalk.wrap64_in _ (by omega)
        have y5 : wrap64 ((a : Int) + (st : Int)) = ((a + st : Nat) : Int) := by rw [IntWalk.wrap64_in _ (by have := Ha.out; omega)]; simp
        have y6 : (((a + st : Nat) : Int)).tmod 64 = (((a + st) % 64 : Nat) : Int) := by rw [Int.tmod_eq_emod_of_nonneg (by omega)]; simp
        obtain ⟨m, hm⟩ : ∃ m : Int, m = (((a + st) % 64 : Nat) : Int) := ⟨_, rfl⟩
        obtain ⟨q0, hq0⟩ : ∃ q0, q0 = a + st := ⟨_, rfl⟩
        rw [← hm] at y6
        rw [← hq0] at y5 y6
        have w6 : wrap64 m = m := IntWalk.wrap64_in _ (by rw [hm]; omega)
        have Hm := Lib.hid hm
        have Hlt := Lib.hid hlt
        have Hst := Lib.hid x1
        clear hm hq0 hlt hst
        go_wp2_with fail
        go_loopw [9] (fun v wi => ∃ i : Nat, v = .int .i64 (i : Nat) ∧ i ≤ l.length ∧ Hid (∀ j (hj : j < l.length), j < i → ((l[j].2 : Nat) : Int) ≠ m) ∧ wi = wr) (fun v _ => l.length - (intOf v).toNat)
        case atStart => exact ⟨0, rfl, Nat.zero_le _, fun j _ hj => by omega, rfl⟩
        case round =>
          obtain ⟨i, rfl, hi, hni, hwi⟩ := hrel
          subst hwi
          by_cases hil : i < l.length
          · obtain ⟨z1, z2⟩ := i_nums i l.length hil
            obtain ⟨bx, fx, rfl, hbx, -, -, -, d3⟩ := Rt.cells h i hil
            have w2 : wrap64 ((i : Int) + 1) = (i : Int) + 1 := IntWalk.wrap64_in _ (by have := HL.out; omega)
            obtain ⟨y, hy⟩ : ∃ y : Int, y = ((l[i].2 : Nat) : Int) := ⟨_, rfl⟩
            rw [← hy] at d3
            by_cases hyk : y = m
            · have hnx : NextIs l a st := ⟨Hlt.out, ⟨l[i], List.getElem_mem hil, Int.ofNat.inj (hy.symm.trans (hyk.trans Hm.out))⟩, hno.out⟩
              have Hnx := Lib.hid hnx
              subst hyk
              have Hy := Lib.hid hy
              clear hnx hy hi
              go_wp2_with fail
              go_ret3
              exact ⟨.inl ⟨st, Hnx.out, by rw [← Hm.out]; rfl⟩, rfl⟩
            · have y7 : (y == m) = false := by simp [hyk]
              have Hy := Lib.hid hy
              have Hyk := Lib.hid hyk
              have Hi := Lib.hid hil
              clear hy hi hyk
              go_wp2_with fail
              go_roundw
              case rel => exact ⟨i + 1, by first | rfl | rw [w2]; rfl, Hi.out, fun j hj hji => by
                by_cases e : j = i
                · subst e; exact fun e2 => Hyk.out (Hy.out.trans e2)
                · exact hni.out j hj (Nat.lt_of_le_of_ne (Nat.le_of_lt_succ hji) e), by first | trivial | rfl⟩
              case measure =>
                first | rw [w2] | skip
                exact meas_w l.length i Hi.out
          · obtain rfl : i = l.length := Nat.le_antisymm hi (Nat.le_of_not_lt hil)
            have x2 : ¬ (l.length : Int) < (l.length : Int) := by omega
            clear hil hi
            go_wp2_with fail
            go_roundw
            case rel => exact ⟨st + 1, by first | rfl | rw [w1]; rfl, Hlt.out, fun j hj p hp => by
              by_cases e : j = st
              · subst e
                obtain ⟨q, hq, rfl⟩ := List.mem_iff_getElem.1 hp
                exact fun e2 => hni.out q hq hq ((congrArg Int.ofNat e2).trans Hm.out.symm)
              · exact hno.out j (Nat.lt_of_le_of_ne (Nat.le_of_lt_succ hj) e) p hp, by first | trivial | rfl⟩
            case measure =>
              first | rw [w1] | skip
              exact meas64 st Hlt.out
      · obtain rfl : st = 64 := by omega
        have hnil := next_out l a Ha.out Hok.out hno.out
        have Hn := Lib.hid hnil
        clear hnil hlt hst
        go_wp2_with fail
        go_ret3
        exact ⟨.inr ⟨Hn.out, rfl⟩, rfl⟩
end Go.Proofs.YtadghaiengonoaaDoor
