/- Lemmas for DeadlineBytes (Tj). No statement of the seat is proved here. -/
import Derived.Laws.CopyOwn
import Derived.Laws.MakeOwn
import Derived.Laws.OwnMore
import Derived.Test.YtedlplkomfiahaaT11
namespace Go.Proofs.Ytedlplkomfiahaa
set_option linter.unusedVariables false
set_option linter.unusedSimpArgs false
set_option linter.unusedSectionVars false
open Go Go.RowKit Go.Maps
/-- copy(d, s) of elements of k cells into a row of one's own -/
theorem run_copyk {P : Program} (w : World) (dT sT elem : TypeId) (k g o dLen dCap : Nat) (dp sp : Option Addr) (sLen sCap m : Nat) (cur : List Value) (t : TypeId) (cs : List Value)
    (hu : P.underlying dT = some (.slice elem)) (hs : (P.info? elem).map (·.size) = some k) (hg : w.heap[g]? = some (.cells cur.toArray t (0, 0))) (hm : Nat.min sLen dLen = m) (hn : cs.length = m * k)
    (hpos : 0 < m → dp = some ⟨g, o, none⟩ ∧ ∃ a, sp = some a ∧ ∀ j v, cs[j]? = some v → w.cell? (a.add j) = some v) (hfit : o + cs.length ≤ cur.length) (h1 : ∀ v ∈ cs, v.oneCell' = true) :
    ∃ w', (∀ ty, (Builtin.copy_ #[dT, sT] ty #[.slice dp dLen dCap, .slice sp sLen sCap]).run P w = .ok (.int .i64 (m : Nat)) w') ∧ w'.heap[g]? = some (.cells (splice cur o cs).toArray t (0, 0)) ∧ w.grownBy w' (some g) := by
  cases hq : P.info? elem with
  | none => simp [hq] at hs
  | some i =>
    have hi : i.size = k := by simpa [hq] using hs
    by_cases h0 : m = 0
    · subst h0
      obtain rfl : cs = [] := List.eq_nil_of_length_eq_zero (by simpa using hn)
      have hl : ∀ (x : Addr), (loadCells x 0).run P w = .ok #[] w := fun x => by simpa using run_loadCells_list (P := P) w x [] (by simp)
      refine ⟨w, fun ty => ?_, by simpa [splice] using hg, World.grownBy.refl _ _⟩
      cases dp <;> cases sp <;> simp [Builtin.copy_, run_underlying hu, Builtin.lenOf, Builtin.firstCells, sizeOf, typeInfo, hq, hm, storeCells, hl, goInt]
    · obtain ⟨rfl, a, rfl, hsrc⟩ := hpos (by omega)
      have hl := run_loadCells_list (P := P) w a cs hsrc
      have hst := run_storeCells_at P g o t cs 0 cur.toArray w hg (by simpa using hfit) h1
      refine ⟨w.setRow g (splice cur o cs).toArray, fun ty => ?_, setRow_heap w g _ _ t _ hg, ⟨rfl, rfl, rfl, by simp [World.setRow], fun j hj hne => setRow_other w g j _ (fun e => hne (by rw [e]))⟩⟩
      rw [hn] at hl
      simp [Builtin.copy_, run_underlying hu, Builtin.lenOf, Builtin.firstCells, sizeOf, typeInfo, hq, hi, hm, hl, hst, goInt, splice]
/-- a slot's row is one that is new -/
theorem Rm.newRow {W : World} {F G : Nat → Prop} {r n mb : Nat} {sv : List Value} {u : Nat} {ρ : Nat → List Th} {E : List (Int × DataW Unit)} (h : Rm W F r n mb sv u ρ E) (k : Nat) (hk : k < sv.length) (v : Value) (l : List Th)
    (ho : W.ownsRow 0 thT 3 v l.length (thFlat l)) (hv : ∀ g, v.ownBlock = some g → ¬ F g) (hG : ∀ i, F i → G i) (hvG : ∀ g, v.ownBlock = some g → G g) :
    Rm (W.setCell ⟨r, k, none⟩ v) G r n mb (sv.set k v) u (updR ρ k l) E ∧ Gr F W (W.setCell ⟨r, k, none⟩ v) := by
  have hl := h.lt
  have hs := block_set h.blk k v
  have oth : ∀ i, i ≠ r → (W.setCell ⟨r, k, none⟩ v).heap[i]? = W.heap[i]? := fun i hi => heap_setCell_other W ⟨r, k, none⟩ i v hi
  have hF : ∀ j (hj : j < sv.length) g, sv[j].ownBlock = some g → F g := fun j hj g hg => (h.rows j hj).foot g hg
  refine ⟨⟨?_, by simp [h.len], fun j hj => ?_, fun i j hi hj hij g he => ?_, ?_, hG r h.footR, hG mb h.footM⟩, Gr.one (grown_set W r k v) fun b hb => by simp only [Option.some.injEq] at hb; subst hb; exact h.footR⟩
  · rw [hs]
    simp only [List.setIfInBounds_toArray, List.set_append_left _ _ hk]
  · simp only [List.length_set] at hj
    by_cases e : k = j
    · subst e
      rw [List.getElem_set_self]
      have h2 : TR W G v l := ⟨ho, hvG⟩
      unfold updR
      rw [if_pos rfl]
      exact h2.kept fun g hg2 => oth g (fun e => hv g hg2 (e ▸ h.footR))
    · rw [List.getElem_set_ne e]
      unfold updR
      rw [if_neg (Ne.symm e)]
      have h2 := h.rows j hj
      exact ⟨(h2.kept fun g hg2 => oth g (h.row_ne hj hg2).1).own, fun g hg2 => hG g (h2.foot g hg2)⟩
  · simp only [List.length_set] at hi hj
    by_cases e : k = i
    · subst e
      rw [List.getElem_set_self] at he
      rw [List.getElem_set_ne hij]
      exact fun e2 => hv g he (hF j hj g e2)
    · rw [List.getElem_set_ne e] at he
      by_cases e3 : k = j
      · subst e3
        rw [List.getElem_set_self]
        exact fun e2 => hv g e2 (hF i hi g he)
      · rw [List.getElem_set_ne e3]; exact h.apart i j hi hj hij g he
  · obtain ⟨D, ⟨es, clock, h1, h2⟩, h3⟩ := h.map
    exact ⟨D, ⟨es, clock, (oth mb (Ne.symm h.ne)).trans h1, h2⟩, h3⟩
theorem drop_no' (W : World) (q : Option Addr) (id : Int) (hat : ∀ W', Below W.heap.size W W' → Calls Try.prog 85 #[.pointer q, .int .u64 id] W' fun e W'' => e = .returned (.tuple #[.int .i64 0, .int .i64 0, .bool false]) ∧ Below W'.heap.size W' W'') :
    Calls Try.prog 66 #[.pointer q, .int .u64 id] W fun e W' => e = .returned (.tuple #[thVal ⟨0, 0, 0⟩, .bool false]) ∧ Below W.heap.size W W' := by
  obtain ⟨W1, hW1⟩ : ∃ W1, W1 = W.alloc (.cells #[.int .u64 0, .int .u64 0, .int .i64 0] thT) := ⟨_, rfl⟩
  have hB1 : Below W.heap.size W W1 := by rw [hW1]; exact below_new _ _
  have ht1 : W1.heap[W.heap.size]? = some (.cells #[.int .u64 0, .int .u64 0, .int .i64 0] thT (0, 0)) := by rw [hW1]; exact heap_alloc_new _ _
  have hz1 : W.heap.size < W1.heap.size := by rw [hW1]; simp
  have Hat := Lib.hid (hat W1 hB1)
  have Ht1 := Lib.hid ht1
  clear ht1
  go_enter Try.func66, Try.ntmps66
  go_wp2_with fail
  rw [← hW1]
  clear hW1
  refine Hat.out.mono ?_
  rintro e W2 ⟨rfl, hb2⟩
  have ht2 := (hb2.block _ hz1).trans Ht1.out
  obtain ⟨c0, c1, c2, f0, f1, f2⟩ := set3_res (t := ⟨0, 0, 0⟩) ht2
  have hz2 : W.heap.size < W2.heap.size := Nat.lt_of_lt_of_le hz1 hb2.size
  have hb3 := set3_below (below_on hB1 hb2 (Nat.le_refl _)) (Nat.le_refl _) (Nat.le_of_lt hz2) ⟨0, 0, 0⟩
  obtain ⟨d0, d1, d2, -, -, -⟩ := set3_res (set3_blk ht2 ⟨0, 0, 0⟩)
  simp only [set3] at hb3 d0 d1 d2
  have Hd := Lib.hid (⟨d0, d1, d2⟩ : _ ∧ _ ∧ _)
  have Hb := Lib.hid hb3
  clear d0 d1 d2 hb3
  go_wp2_with fail
  refine bodyPost_ret (v := .tuple #[thVal ⟨0, 0, 0⟩, .bool false]) ?_ rfl ⟨rfl, Hb.out⟩
  obtain ⟨d0, d1, d2⟩ := Hd.out
  simp [results, Try.results66, go_sem, thVal, d0, d1, d2]
theorem drop_no (W : World) (F : Nat → Prop) (r n : Nat) (L : RLs) (h : Rng W F r n L) (id : Int) (hw : IdOk id) (hf : ∀ p ∈ L, p.1.id ≠ id) :
    Calls Try.prog 66 #[.pointer (some ⟨r, 0, none⟩), .int .u64 id] W fun e W' => e = .returned (.tuple #[thVal ⟨0, 0, 0⟩, .bool false]) ∧ Below W.heap.size W W' :=
  drop_no' W _ id fun W' hb => at_no W' F r n L (h.below hb) id hw hf
theorem thFlat_two (a b : List Th) : thFlat (a ++ b) = thFlat a ++ thFlat b := by simp [thFlat]
structure CutC (T : List Th) (i M : Nat) (A B : List Value) : Prop where
  lA : A.length = i * 3
  lB : B.length = (M - i) * 3
  inA : ∀ j v, A[j]? = some v → (thFlat T)[0 + j]? = some v
  inB : ∀ j v, B[j]? = some v → (thFlat T)[(i + 1) * 3 + j]? = some v
  both : thFlat (T.take i ++ T.drop (i + 1)) = A ++ B
  len : (T.take i ++ T.drop (i + 1)).length = M
  one : (∀ v ∈ A, v.oneCell' = true) ∧ ∀ v ∈ B, v.oneCell' = true
theorem cut_cells (T : List Th) (i M : Nat) (hT : T.length = M + 1) (hi : i ≤ M) : CutC T i M (thFlat (T.take i)) (thFlat (T.drop (i + 1))) := by
  have l1 : (T.take i).length = i := by rw [List.length_take]; omega
  have l2 : (T.drop (i + 1)).length = M - i := by rw [List.length_drop]; omega
  have l3 : (T.take (i + 1)).length = i + 1 := by rw [List.length_take]; omega
  refine ⟨by rw [thFlat_len, l1], by rw [thFlat_len, l2], fun j v hv => ?_, fun j v hv => ?_, thFlat_two _ _, by rw [List.length_append, l1, l2]; omega, ths_one _, ths_one _⟩
  · rw [← List.take_append_drop i T, thFlat_two, Nat.zero_add]
    rw [List.getElem?_append_left (by exact (List.getElem?_eq_some_iff.1 hv).1)]
    simpa using hv
  · rw [← List.take_append_drop (i + 1) T, thFlat_two, List.getElem?_append_right (by rw [thFlat_len, l3]; omega), thFlat_len, l3, Nat.add_sub_cancel_left]
    simpa using hv
theorem splice_two (cur A B : List Value) (h : cur.length = A.length + B.length) : splice (splice cur 0 A) A.length B = A ++ B := by
  unfold splice
  simp
  omega
theorem drop_mem (W3 : World) (g cap N M i : Nat) (T : List Th) (hN : N = T.length) (hM : N = M + 1) (hi : i ≤ M) (hN1 : N ≤ 1000000) (ho : W3.ownsRow 0 thT 3 (.slice (some ⟨g, 0, none⟩) N cap) N (thFlat T)) :
    ∃ W4 W5 W6 dp2 sp3, (Instr.makeSlice 35 (.int .i64 ((N : Int) - 1)) (.int .i64 ((N : Int) - 1))).run Try.prog W3 = .ok (.slice (some ⟨W3.heap.size, 0, none⟩) M M) W4 ∧
      (∀ W, (Instr.sliceAt 35 (.slice (some ⟨g, 0, none⟩) N cap) none (some (.int .i64 (i : Nat))) none).run Try.prog W = .ok (.slice (some ⟨g, 0, none⟩) i cap) W) ∧
      (∀ ty, (Builtin.copy_ #[35, 35] ty #[.slice (some ⟨W3.heap.size, 0, none⟩) M M, .slice (some ⟨g, 0, none⟩) i cap]).run Try.prog W4 = .ok (.int .i64 (i : Nat)) W5) ∧
      (∀ W, (Instr.sliceAt 35 (.slice (some ⟨W3.heap.size, 0, none⟩) M M) (some (.int .i64 (i : Nat))) none none).run Try.prog W = .ok (.slice dp2 (M - i) (M - i)) W) ∧
      (∀ W, (Instr.sliceAt 35 (.slice (some ⟨g, 0, none⟩) N cap) (some (.int .i64 ((i : Int) + 1))) none none).run Try.prog W = .ok (.slice sp3 (N - (i + 1)) (cap - (i + 1))) W) ∧
      (∀ ty, (Builtin.copy_ #[35, 35] ty #[.slice dp2 (M - i) (M - i), .slice sp3 (N - (i + 1)) (cap - (i + 1))]).run Try.prog W5.drew = .ok (.int .i64 ((M - i : Nat) : Int)) W6) ∧
      Below W3.heap.size W3 W6 ∧ W6.ownsRow 0 thT 3 (.slice (some ⟨W3.heap.size, 0, none⟩) M M) M (thFlat (T.take i ++ T.drop (i + 1))) := by
  have hC := cut_cells T i M (by omega) hi
  generalize thFlat (T.take i) = A at hC
  generalize thFlat (T.drop (i + 1)) = B at hC
  obtain ⟨ii, hii1, hii2, hii3, hii4⟩ := info_parts infoTh
  have hsz3 : (Try.prog.info? 32).map (·.size) = some 3 := by rw [hii1]; simp [hii3]
  have hNM : (N : Int) - 1 = (M : Int) := by omega
  obtain ⟨hcapN, hgl⟩ : N ≤ cap ∧ g < W3.heap.size := by
    refine ⟨?_, (ho.lt g rfl).2⟩
    rcases ho.2 with ⟨h0, _⟩ | ⟨g', cap', cur, hv, _, _, hle, _⟩
    · cases h0
    · simp only [Value.slice.injEq, Option.some.injEq, Addr.mk.injEq, true_and, and_true] at hv; omega
  obtain ⟨W4, hmk, ho4, hg4⟩ := run_makeSlice_full (P := Try.prog) (w := W3) W3.heap.size 35 32 ii _ 3 Try.underlying35 hii1 hii2 hii3 .i64 .i64 M (by omega) (by rw [hii4]; omega) (by unfold maxLen; omega) (Nat.le_refl _)
  obtain ⟨cur, hcur, lcur⟩ : ∃ cur : List Value, W4.heap[W3.heap.size]? = some (.cells cur.toArray thT (0, 0)) ∧ cur.length = M * 3 := by
    rcases ho4.2 with ⟨h0, _⟩ | ⟨g', cap', cu, hv, _, hh, _, _, hsz, _⟩
    · cases h0
    · simp only [Value.slice.injEq, Option.some.injEq, Addr.mk.injEq, true_and, and_true] at hv
      obtain ⟨rfl, rfl⟩ := hv
      exact ⟨cu.toList, by simpa using hh, by simpa using hsz⟩
  have ho4' : W4.ownsRow 0 thT 3 (.slice (some ⟨g, 0, none⟩) N cap) N (thFlat T) := ho.kept hg4 (.inr (by simp [Value.ownBlock]))
  obtain ⟨W5, hcp1, hb5, hg5⟩ := run_copyk (P := Try.prog) W4 35 35 32 3 W3.heap.size 0 M M (some ⟨W3.heap.size, 0, none⟩) (some ⟨g, 0, none⟩) i cap i cur thT A Try.underlying35 hsz3 hcur (Nat.min_eq_left hi) hC.lA
    (fun _ => ⟨rfl, _, rfl, fun j v hv => ho4'.cells rfl j v (by have := hC.inA j v hv; rwa [Nat.zero_add] at this)⟩) (by rw [hC.lA, lcur]; omega) hC.one.1
  have ho5 : W5.drew.ownsRow 0 thT 3 (.slice (some ⟨g, 0, none⟩) N cap) N (thFlat T) := ho4'.kept (grown_drew hg5) (.inr (by simp [Value.ownBlock]; omega))
  have hs2 := fun W => run_slice_sl (P := Try.prog) (w := W) Try.underlying35 hsz3 (some ⟨W3.heap.size, 0, none⟩) M M (some (.int .i64 (i : Nat))) none i M (.inl rfl) (.inr ⟨rfl, rfl⟩) hi (Nat.le_refl _)
  have hs3 := fun W => run_slice_sl (P := Try.prog) (w := W) Try.underlying35 hsz3 (some ⟨g, 0, none⟩) N cap (some (.int .i64 ((i + 1 : Nat) : Int))) none (i + 1) N (.inl rfl) (.inr ⟨rfl, rfl⟩) (by omega) hcapN
  have hs1 := fun W => run_slice_sl (P := Try.prog) (w := W) Try.underlying35 hsz3 (some ⟨g, 0, none⟩) N cap none (some (.int .i64 (i : Nat))) 0 i (.inr ⟨rfl, rfl⟩) (.inl rfl) (Nat.zero_le _) (by omega)
  obtain ⟨dp2, hdp2⟩ : ∃ dp2, dp2 = (if M = i then (some ⟨W3.heap.size, 0, none⟩ : Option Addr) else (some ⟨W3.heap.size, 0, none⟩ : Option Addr).map (·.add (i * 3))) := ⟨_, rfl⟩
  obtain ⟨sp3, hsp3⟩ : ∃ sp3, sp3 = (if cap = i + 1 then (some ⟨g, 0, none⟩ : Option Addr) else (some ⟨g, 0, none⟩ : Option Addr).map (·.add ((i + 1) * 3))) := ⟨_, rfl⟩
  rw [← hdp2] at hs2
  rw [← hsp3] at hs3
  obtain ⟨W6, hcp2, hb6, hg6⟩ := run_copyk (P := Try.prog) W5.drew 35 35 32 3 W3.heap.size (i * 3) (M - i) (M - i) dp2 sp3 (N - (i + 1)) (cap - (i + 1)) (M - i) (splice cur 0 A) thT B Try.underlying35 hsz3 hb5 (Nat.min_eq_right (by omega)) hC.lB
    (fun hp => ⟨by rw [hdp2, if_neg (by omega)]; simp [Addr.add_none], ⟨g, (i + 1) * 3, none⟩, by rw [hsp3, if_neg (by omega)]; simp [Addr.add_none], fun j v hv => by
      have := ho5.cells rfl ((i + 1) * 3 + j) v (hC.inB j v hv)
      rw [Addr.add_none] at this ⊢
      simpa using this⟩) (by rw [length_splice _ _ _ (by rw [hC.lA, lcur]; omega), hC.lB, lcur]; omega) hC.one.2
  refine ⟨W4, W5, W6, dp2, sp3, by rw [hNM]; exact hmk, fun W => by rw [hs1 W]; simp [Addr.add_none], hcp1, hs2, fun W => by have := hs3 W; simpa using this, hcp2, ?_, ?_⟩
  · have b4 : Below W3.heap.size W3 W4 := ⟨hg4.os, hg4.tape, hg4.output, hg4.size, fun q hq => hg4.block q hq (by simp)⟩
    have b5 : Below W3.heap.size W3 W5.drew := (below_grown b4 hg5 (Nat.le_refl _) b4.size).drew
    exact below_grown b5 hg6 (Nat.le_refl _) b5.size
  · have e1 : splice (splice cur 0 A) (i * 3) B = A ++ B := by
      rw [← hC.lA]
      exact splice_two cur A B (by rw [lcur, hC.lA, hC.lB]; omega)
    rw [e1] at hb6
    rw [hC.both]
    refine ⟨by rw [List.length_append, hC.lA, hC.lB]; omega, .inr ⟨W3.heap.size, M, (A ++ B).toArray, rfl, Nat.zero_le _, hb6, Nat.le_refl _, by unfold maxLen; omega, by simp [hC.lA, hC.lB]; omega, ?_⟩⟩
    rw [List.take_of_length_le]
    simp [hC.lA, hC.lB]; omega
set_option maxRecDepth 100000 in
set_option maxHeartbeats 4000000 in
theorem drop_yes (W : World) (F : Nat → Prop) (r n : Nat) (L : RLs) (h : Rng W F r n L) (p : Th × Nat) (hp : p ∈ L) (hn : n ≤ 1000000) :
    Calls Try.prog 66 #[.pointer (some ⟨r, 0, none⟩), .int .u64 p.1.id] W fun e W' => e = .returned (.tuple #[thVal p.1, .bool true]) ∧ Rng W' (More F W W') r n (gone L p.1.id) ∧ Gr F W W' := by
  obtain ⟨W1, hW1⟩ : ∃ W1, W1 = W.alloc (.cells #[.int .u64 0, .int .u64 0, .int .i64 0] thT) := ⟨_, rfl⟩
  have hB1 : Below W.heap.size W W1 := by rw [hW1]; exact below_new _ _
  have ht1 : W1.heap[W.heap.size]? = some (.cells #[.int .u64 0, .int .u64 0, .int .i64 0] thT (0, 0)) := by rw [hW1]; exact heap_alloc_new _ _
  have hz1 : W.heap.size < W1.heap.size := by rw [hW1]; simp
  have Hat := Lib.hid (at_yes W1 F r n L (h.below hB1) p hp hn)
  have Ht1 := Lib.hid ht1
  have hk := h.ok.slot p hp
  have hpw := h.ok.wf p hp
  have k1 : ¬ (p.2 : Int) < 0 := by omega
  have k2 : (p.2 : Int) < 64 := by omega
  clear ht1
  obtain ⟨⟨pi, pg, pd⟩, k⟩ := p
  simp only at *
  go_enter Try.func66, Try.ntmps66
  go_wp2_with fail
  rw [← hW1]
  clear hW1
  refine Hat.out.mono ?_
  rintro e W2 ⟨i, hi, rfl, hb2⟩
  have ht2 := (hb2.block _ hz1).trans Ht1.out
  obtain ⟨c0, c1, c2, f0, f1, f2⟩ := set3_res (t := ⟨0, 0, 0⟩) ht2
  have hz2 : W.heap.size < W2.heap.size := Nat.lt_of_lt_of_le hz1 hb2.size
  have hB2 : Below W.heap.size W W2 := below_on hB1 hb2 (Nat.le_refl _)
  obtain ⟨W3, hW3⟩ : ∃ W3, W3 = set3 W2 W.heap.size ⟨pi, pg, pd⟩ := ⟨_, rfl⟩
  have hB3 : Below W.heap.size W W3 := by rw [hW3]; exact set3_below hB2 (Nat.le_refl _) (Nat.le_of_lt hz2) ⟨pi, pg, pd⟩
  have ht3 : W3.heap[W.heap.size]? = some (.cells #[.int .u64 pi, .int .u64 pg, .int .i64 pd] thT (0, 0)) := by rw [hW3]; exact set3_blk ht2 ⟨pi, pg, pd⟩
  simp only [set3] at hW3
  obtain ⟨mb, sv, u, hm, hu⟩ := h.mem
  have hkl : k < sv.length := by rw [hm.len]; exact hk
  have hmF := hm.footM
  have hrF := hm.footR
  have hm2 := hm.below hB2
  have hm3 := hm.below hB3
  have hck := hm2.cell k hkl
  have hrow := (hm2.rows k hkl).own
  have hrow3 := (hm3.rows k hkl).own
  obtain ⟨N, hN⟩ : ∃ N, N = (rowOf L k).length := ⟨_, rfl⟩
  have hil := hi.lt
  simp only at hil
  rw [← hN] at hil
  have hNs : N ≤ 1000000 := by rw [hN]; have := rowOf_len L k; have := h.few; omega
  obtain ⟨g, cap, hsv⟩ : ∃ g cap, sv[k] = .slice (some ⟨g, 0, none⟩) N cap := by
    rcases hrow.2 with ⟨_, h0⟩ | ⟨g, cap, cur, hv, _⟩
    · omega
    · exact ⟨g, cap, by rw [hN]; exact hv⟩
  rw [hsv] at hck hrow hrow3
  rw [← hN] at hrow hrow3
  have hsr : SR thT W2 W2 0 g N cap (rowOf L k) := ⟨hrow, World.grownBy.refl _ _, hN.symm⟩
  obtain ⟨e0, e1, e2⟩ := hsr.cells i hi.lt
  have he := hi.eq
  simp only at he
  rw [he] at e0 e1 e2
  have x1 : (i : Int) < (N : Int) := by omega
  have hrl := hm2.lt.1
  have hgl := hsr.lt
  have hcapN : N ≤ cap := by
    rcases hrow.2 with ⟨h0, _⟩ | ⟨g', cap', cur, hv, _, _, hle, _⟩
    · cases h0
    · simp only [Value.slice.injEq, Option.some.injEq, Addr.mk.injEq, true_and, and_true] at hv; omega
  obtain ⟨M, hM⟩ : ∃ M, N = M + 1 := ⟨N - 1, by omega⟩
  have w1 : wrap64 ((N : Int) - 1) = (M : Int) := by rw [IntWalk.wrap64_in _ (by omega)]; omega
  have w2 : wrap64 ((i : Int) + 1) = ((i + 1 : Nat) : Int) := by rw [IntWalk.wrap64_in _ (by omega)]; simp
  obtain ⟨W4, W5, W6, dp2, sp3, m1, m2, m3, m4, m5, m6, hb6, ho6⟩ := drop_mem W3 g cap N M i (rowOf L k) hN hM (Nat.le_of_lt_succ (Nat.lt_of_lt_of_eq hil hM)) hNs hrow3
  have hB6 : Below W.heap.size W W6 := below_on hB3 hb6 (Nat.le_refl _)
  have hz3 : W.heap.size < W3.heap.size := (Array.getElem?_eq_some_iff.1 ht3).1
  have ht6 : W6.heap[W.heap.size]? = some (.cells #[.int .u64 pi, .int .u64 pg, .int .i64 pd] thT (0, 0)) := (hb6.block _ hz3).trans ht3
  have hm6 := hm.below hB6
  have hup := hi.rest
  simp only at hup
  have lT : (List.take i (rowOf L k) ++ List.drop (i + 1) (rowOf L k)).length = M := (cut_cells (rowOf L k) i M (by rw [← hN]; exact hM) (Nat.le_of_lt_succ (Nat.lt_of_lt_of_eq hil hM))).len
  rw [← hup] at ho6 lT
  have ho6' : W6.ownsRow 0 thT 3 (.slice (some ⟨W3.heap.size, 0, none⟩) M M) (rowOf (gone L pi) k).length (thFlat (rowOf (gone L pi) k)) := by rw [lT]; exact ho6
  have hst := hm6.newRow (G := fun j => F j ∨ j = W3.heap.size) k hkl (.slice (some ⟨W3.heap.size, 0, none⟩) M M) (rowOf (gone L pi) k) ho6' (fun g' hg' e => by
    have h1 := h.bd _ e
    simp only [Value.ownBlock, Option.some.injEq] at hg'
    rw [← hg'] at h1
    exact Nat.lt_irrefl _ (Nat.lt_trans h1 hz3)) (fun _ hj => .inl hj) (fun g' hg' => by
    simp only [Value.ownBlock, Option.some.injEq] at hg'
    rw [← hg']
    exact .inr rfl)
  obtain ⟨W7, hW7⟩ : ∃ W7, W7 = W6.setCell ⟨r, k, none⟩ (.slice (some ⟨W3.heap.size, 0, none⟩) M M) := ⟨_, rfl⟩
  rw [← hW7] at hst
  have hck6 := hm6.cell k hkl
  have hfk6 := hm6.free k
  have hrl6 := hm6.lt.1
  have Hst := Lib.hid hst
  have LT := Lib.hid lT
  rw [hsv] at hck6
  have HM := Lib.hid hM
  have Ht6 := Lib.hid ht6
  have Ho6 := Lib.hid ho6
  have HB6 := Lib.hid hB6
  have Hi := Lib.hid hi
  have Hz3 := Lib.hid hz3
  have x2 : ¬ (i : Int) < 0 := Int.not_lt.2 (Int.natCast_nonneg i)
  clear hsr hrow hm hm2 hm3 ht2 ht3 hrow3 hM hN hb6 hi hsv he ht6 ho6 hB6 hz3 hm6 hcapN hst lT ho6' hup
  go_upto_region 6 with fail
  rw [← hW3]
  clear hW3 c0 c1 c2 f0 f1 f2 e0 e1 e2 hck
  go_wp2_with fail
  go_region
  all_goals
    go_upto_region 10 with fail
    rw [← hW7]
    clear hW7 hck6 hfk6
    obtain ⟨hm7, hg7⟩ := Hst.out
    have Hm7 := Lib.hid hm7
    have Hg7 := Lib.hid hg7
    have hcu := hm7.cellU
    have hfu := hm7.free 64
    have hr7 := hm7.lt.1
    have hbo := bits_off u k hk
    have hslot : ∀ q ∈ L, q.1.id = pi → q.2 = k := fun q hq e => congrArg Prod.snd (ids_eq h.ok.ids hq hp e)
    have Hslot := Lib.hid hslot
    clear hm7 hg7 hslot m1 m2 m3 m4 m5 m6
    go_upto_if 55 with fail
    go_cut [6] (fun v wx => v = .int .i64 (k : Nat) ∧ ∃ u', Rm wx (fun j => F j ∨ j = W3.heap.size) r n mb (sv.set k (.slice (some ⟨W3.heap.size, 0, none⟩) M M)) u' (updR (rowOf L) k (rowOf (gone L pi) k)) (pairs L) ∧ UsedIs u' (gone L pi) ∧ Gr F W6 wx)
    case first =>
      by_cases hM0 : M = 0
      · have y1 : ((M : Int) == 0) = true := by rw [hM0]; rfl
        have he0 : rowOf (gone L pi) k = [] := List.eq_nil_of_length_eq_zero (by rw [LT.out, hM0])
        have hu2 := hu.gone_off pi k hk he0 Hslot.out
        have hs7 := Hm7.out.setU (offBit u k)
        have HF := Lib.hid (⟨hs7.1, hu2, Hg7.out.trans (Gr.one (grown_set W7 r 64 (.int .u64 (offBit u k : Nat))) fun b hb => by simp only [Option.some.injEq] at hb; subst hb; exact hrF)⟩ : _ ∧ _ ∧ _)
        clear he0 hu2 hs7
        subst hM0
        go_wp2_with fail
        go_region
        all_goals
          go_wp2_with fail
          go_meet
          obtain ⟨q1, q2, q3⟩ := HF.out
          exact ⟨rfl, _, q1.kept (fun _ _ _ => rfl), q2, q3.drew⟩
      · have y1 : ((M : Int) == 0) = false := by simp; omega
        have y2 : ¬ (M : Int) = 0 := by omega
        have he0 : rowOf (gone L pi) k ≠ [] := fun e => hM0 (by rw [← LT.out, e]; rfl)
        have hu2 := hu.gone_same pi k he0 Hslot.out
        have HF := Lib.hid (⟨Hm7.out, hu2, Hg7.out⟩ : _ ∧ _ ∧ _)
        clear he0 hu2
        go_wp2_with fail
        go_meet
        exact ⟨rfl, _, HF.out⟩
    case rest =>
      obtain ⟨rfl, u', hmc, huc, hgc⟩ := hcut
      have hcm := hmc.cellM
      have hrc := hmc.lt.1
      obtain ⟨D, hD, hE⟩ := hmc.map
      obtain ⟨W9, hdel, hD9, hg9⟩ := mapdel_run hD pi hpw 0
      have hE9 : MapL (D.del (.int .u64 pi)) (pairs (gone L pi)) := by rw [pairs_gone]; exact hE.del pi
      have hm9 := hmc.turn hg9 hD9 hE9
      have hnF : ¬ F W.heap.size := fun e => Nat.lt_irrefl _ (h.bd _ e)
      have hz6 : W.heap.size < W6.heap.size := (Array.getElem?_eq_some_iff.1 Ht6.out).1
      have hmbF : F mb := by
        exact hmF
      have hG9 : Gr F W6 W9 := hgc.trans (Gr.one hg9 fun b hb => by simp only [Option.some.injEq] at hb; subst hb; exact hmbF)
      have ht9 := (hG9.block _ hz6 hnF).trans Ht6.out
      obtain ⟨c0, c1, c2, f0, f1, f2⟩ := set3_res (t := ⟨pi, pg, pd⟩) ht9
      have hz9 : W.heap.size < W9.heap.size := Nat.lt_of_lt_of_le hz6 hG9.size
      obtain ⟨WX, hWX⟩ : ∃ WX, WX = set3 W9 W.heap.size ⟨pi, pg, pd⟩ := ⟨_, rfl⟩
      obtain ⟨d0, d1, d2, -, -, -⟩ := set3_res (set3_blk ht9 ⟨pi, pg, pd⟩)
      have hgX := set3_grown W9 W.heap.size ⟨pi, pg, pd⟩
      rw [← hWX] at d0 d1 d2 hgX
      simp only [set3] at hWX
      have hGX : Gr F W WX := by
        refine ((Gr.below HB6.out).trans hG9).then (Gr.one (F := fun j => j = W.heap.size) hgX fun b hb => by simpa using hb.symm) fun j hj => .inr (Nat.le_of_eq hj.symm)
      have hmX : Rm WX (More F W WX) r n mb (sv.set k (.slice (some ⟨W3.heap.size, 0, none⟩) M M)) u' (rowOf (gone L pi)) (pairs (gone L pi)) := by
        refine ((hm9.1.kept (W' := WX) fun g' hg' hl9 => hgX.block g' hl9 ?_).refoot fun g' hg' hl => ?_).same (fun j hj => ?_) rfl
        · rcases hg' with h1 | h1
          · intro e
            simp only [Option.some.injEq] at e
            exact hnF (e ▸ h1)
          · intro e
            simp only [Option.some.injEq] at e
            have := Hz3.out
            omega
        · rcases hg' with h1 | h1
          · exact .inl h1
          · exact .inr ⟨by rw [h1]; exact Nat.le_of_lt Hz3.out, hl⟩
        · unfold updR
          by_cases e : j = k
          · rw [if_pos e, e]
          · rw [if_neg e, rowOf_gone]
            refine (List.filter_eq_self.2 fun t ht => ?_).symm
            simp only [decide_eq_true_eq]
            intro e2
            have h3 := congrArg Prod.snd (ids_eq h.ok.ids (mem_rowOf.1 ht) hp e2)
            exact e h3
      have HX := Lib.hid (⟨hmX, hGX⟩ : _ ∧ _)
      have Hd := Lib.hid (⟨d0, d1, d2⟩ : _ ∧ _ ∧ _)
      clear hm9 hE9 hD9 hg9 hG9 ht9 hD hE hGX hmX hgX d0 d1 d2 hmc
      go_wp2_with fail
      rw [← hWX]
      refine bodyPost_ret (v := .tuple #[thVal ⟨pi, pg, pd⟩, .bool true]) ?_ rfl ⟨rfl, ?_⟩
      · obtain ⟨d0, d1, d2⟩ := Hd.out
        simp [results, Try.results66, go_sem, thVal, d0, d1, d2]
      · exact ⟨⟨h.ok.filter _, Nat.le_trans (List.length_filter_le _ _) h.few, More.bd h.bd HX.out.2.size, mb, _, u', HX.out.1, huc⟩, HX.out.2⟩
end Go.Proofs.Ytedlplkomfiahaa
