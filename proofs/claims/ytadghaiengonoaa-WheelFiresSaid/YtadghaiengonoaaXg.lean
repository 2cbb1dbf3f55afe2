/- wheel: the map beyond the rings, ranged over. No statement of the seat is proved here. -/
import Derived.Test.YtadghaiengonoaaXf
namespace Go.Proofs.Ytadghaiengonoaa
set_option linter.unusedVariables false
set_option linter.unusedSimpArgs false
set_option linter.unusedSectionVars false
open Go Go.RowKit Go.Maps

def lessId (l : List Th) (i : Int) : List Th := l.filter (fun t => decide (t.id ≠ i))
theorem fpairs_less (l : List Th) (i : Int) : fpairs (lessId l i) = (fpairs l).filter (fun p => decide (p.1 ≠ i)) := by
  unfold fpairs lessId
  rw [List.filter_map]
  rfl
theorem lessId_twice (l : List Th) (i : Int) : lessId (lessId l i) i = lessId l i := by
  unfold lessId
  rw [List.filter_filter]
  apply List.filter_congr
  intro t _
  simp
theorem same_u (a b : Int) : (Lit.int .u64 a).sameKey (.int .u64 b) = decide (a = b) := by
  simp [Lit.sameKey]
/-- a range over a map of things under way: these things are to come -/
structure Rgs (W : World) (mf r n : Nat) (D : DataW Unit) (far todo : List Th) (cnt : Nat) : Prop where
  run : ∃ left, W.ranges Try.prog 28 thElem mf r n D left cnt ∧ ∀ i, left (.int .u64 i) = true ↔ ∃ t ∈ todo, t.id = i
  map : MapL D (fpairs far)
  sub : ∀ t ∈ todo, t ∈ far
theorem Rgs.ids {W : World} {mf r n : Nat} {D : DataW Unit} {far todo : List Th} {cnt : Nat} (h : Rgs W mf r n D far todo cnt) {s t : Th} (hs : s ∈ far) (ht : t ∈ far) (e : s.id = t.id) : s = t := by
  have h1 := h.map.at_ (s.id, thD s) (List.mem_map.2 ⟨s, hs, rfl⟩) .nil
  have h2 := h.map.at_ (t.id, thD t) (List.mem_map.2 ⟨t, ht, rfl⟩) .nil
  simp only at h1 h2
  rw [e, h2] at h1
  exact (thD_inj h1).symm
theorem Rgs.start {W : World} {mf n : Nat} {D : DataW Unit} {far : List Th} (h : W.ownsMap Try.prog 28 thElem mf n D) (hD : MapL D (fpairs far)) :
    ∃ w', (Instr.range mfT (.map (some mf))).run Try.prog W = .ok (.pointer (some ⟨W.heap.size, 0, none⟩)) w' ∧ Rgs w' mf W.heap.size n D far far (Maps.size D) ∧ W.grownBy w' none ∧ w'.heap.size = W.heap.size + 1 := by
  obtain ⟨w', hrun, h1, h2, h3⟩ := h.range u64law Try.underlying69
  refine ⟨w', hrun, ⟨⟨_, h1, fun i => ?_⟩, hD, fun _ h => h⟩, h2, h3⟩
  rw [hD.has i]
  constructor
  · rintro ⟨p, hp, e⟩
    obtain ⟨t, ht, rfl⟩ := List.mem_map.1 hp
    exact ⟨t, ht, e⟩
  · rintro ⟨t, ht, e⟩
    exact ⟨_, List.mem_map.2 ⟨t, ht, rfl⟩, e⟩
theorem Rgs.kept {W W' : World} {mf r n : Nat} {D : DataW Unit} {far todo : List Th} {cnt : Nat} {row : Option Nat} (h : Rgs W mf r n D far todo cnt) (hg : W.grownBy W' row) (hb' : some mf ≠ row) (hr' : some r ≠ row) : Rgs W' mf r n D far todo cnt := by
  obtain ⟨left, h1, h2⟩ := h.run
  exact ⟨⟨left, h1.kept hg hb' hr', h2⟩, h.map, h.sub⟩
theorem Rgs.left_eq {W : World} {mf r n : Nat} {D : DataW Unit} {far todo : List Th} {cnt : Nat} (h : Rgs W mf r n D far todo cnt) : W.rangeLeft mf r = cnt := by
  obtain ⟨left, h1, h2⟩ := h.run
  exact h1.left_eq
theorem Rgs.owns {W : World} {mf r n : Nat} {D : DataW Unit} {far todo : List Th} {cnt : Nat} (h : Rgs W mf r n D far todo cnt) : W.ownsMap Try.prog 28 thElem mf n D := by
  obtain ⟨left, h1, h2⟩ := h.run
  exact h1.owns
theorem Rgs.lt {W : World} {mf r n : Nat} {D : DataW Unit} {far todo : List Th} {cnt : Nat} (h : Rgs W mf r n D far todo cnt) : mf < W.heap.size ∧ r < W.heap.size ∧ r ≠ mf := by
  obtain ⟨left, h1, h2⟩ := h.run
  exact ⟨h1.owns.lt, h1.lt, h1.ne⟩
theorem Rgs.strike {todo : List Th} {left : Lit → Bool} (h : ∀ i, left (.int .u64 i) = true ↔ ∃ t ∈ todo, t.id = i) (x : Int) : ∀ i, (left (.int .u64 i) && !(Lit.int .u64 i).sameKey (.int .u64 x)) = true ↔ ∃ t ∈ lessId todo x, t.id = i := by
  intro i
  rw [same_u, Bool.and_eq_true, h i]
  simp only [Bool.not_eq_true', decide_eq_false_iff_not, lessId, List.mem_filter, decide_eq_true_eq]
  constructor
  · rintro ⟨⟨t, ht, e⟩, hne⟩
    exact ⟨t, ⟨ht, by rw [e]; exact hne⟩, e⟩
  · rintro ⟨t, ⟨ht, hne⟩, e⟩
    exact ⟨⟨t, ht, e⟩, by rw [← e]; exact hne⟩
theorem Rgs.drop {W : World} {mf r n : Nat} {D : DataW Unit} {far todo : List Th} {cnt : Nat} (h : Rgs W mf r n D far todo cnt) (i : Int) (hw : IdOk i) (ty : TypeId) :
    ∃ w' D' cnt', (Builtin.delete_ #[mfT, 28] ty #[.map (some mf), .int .u64 i]).run Try.prog W = .ok (.tuple #[]) w' ∧ Rgs w' mf r n D' (lessId far i) (lessId todo i) cnt' ∧ cnt' ≤ cnt ∧ W.grownBy w' (some mf) := by
  obtain ⟨left, h1, h2⟩ := h.run
  obtain ⟨w', cnt', hrun, r1, r2, r3⟩ := h1.drop u64law Try.underlying69 (keyOf_int_mk Try.underlying28 hw.wf) ty
  refine ⟨w', _, cnt', hrun, ⟨⟨_, r1, Rgs.strike h2 i⟩, ?_, fun t ht => ?_⟩, r2, r3.grown⟩
  · rw [fpairs_less]; exact h.map.del i
  · unfold lessId at ht ⊢
    have := List.mem_filter.1 ht
    exact List.mem_filter.2 ⟨h.sub t this.1, this.2⟩
section
variable {ops : Array Oper} {rest : List Oper} {o : Oper} {a : Act} {Q : Exit → Act → World → Prop}
theorem wpl_range_th (W : World) (hg : o.guard = none) (m : Operand) (hop : o.op = Op.range mfT m) (mf n : Nat) (D : DataW Unit) (far : List Th) (hm : a.eval m = .map (some mf)) (h : W.ownsMap Try.prog 28 thElem mf n D) (hD : MapL D (fpairs far))
    (hK : ∀ w' cnt, Rgs w' mf W.heap.size n D far far cnt → W.grownBy w' none → w'.heap.size = W.heap.size + 1 → wpList Try.prog ops Q rest (a.put o.dst (.pointer (some ⟨W.heap.size, 0, none⟩))) w') :
    wpList Try.prog ops Q (o :: rest) a W := by
  refine wpList_plain hg fun K' hK' => ?_
  obtain ⟨w', hrun, r1, r2, r3⟩ := Rgs.start h hD
  unfold Oper.wp
  simp [execOp, hop, hm, hrun, Result.andThen]
  exact hK' _ _ (hK w' _ r1 r2 r3)
theorem wpl_next_th (W : World) (hg : o.guard = none) (it : Operand) (hop : o.op = Op.next it false) (mf r n : Nat) (D : DataW Unit) (far todo : List Th) (cnt : Nat) (hit : a.eval it = .pointer (some ⟨r, 0, none⟩)) (h : Rgs W mf r n D far todo cnt)
    (hDone : todo = [] → wpList Try.prog ops Q rest (a.put o.dst (.tuple #[.bool false])) W)
    (hMore : ∀ (t : Th) (w' : World) (cnt' : Nat), t ∈ todo → Rgs w' mf r n D far (lessId todo t.id) cnt' → cnt' < cnt → W.grownBy w' (some r) → w'.heap.size = W.heap.size → (Instr.entry (.pointer (some ⟨r, 0, none⟩))).run Try.prog w' = .ok (.tuple #[.int .u64 t.id, thVal t]) w' → wpList Try.prog ops Q rest (a.put o.dst (.tuple #[.bool true, .int .u64 t.id, thVal t])) w') :
    wpList Try.prog ops Q (o :: rest) a W := by
  obtain ⟨left, h1, h2⟩ := h.run
  refine wpList_next_ranges W hg it hop 28 u64law thElem (Value.int .u64) thVal (fun key kl hkey => by obtain ⟨x, rfl, _⟩ := Maps.keyOf_int_inv Try.underlying28 hkey; exact ⟨x, rfl⟩) (fun v y hv => by obtain ⟨c, rfl, _⟩ := thElem_inv hv; exact ⟨c, rfl⟩) mf r n D left cnt hit h1 (fun h0 hl => hDone ?_) (fun x c kl y w' cnt' hkey hlk hv hat hrg hlt hgr hsz hen => ?_)
  · cases todo with
    | nil => rfl
    | cons t l =>
      have := (h2 t.id).2 ⟨t, by simp, rfl⟩
      rw [hl] at this; cases this
  · obtain ⟨x', ex, rfl, hwx⟩ := Maps.keyOf_int_inv Try.underlying28 hkey
    cases ex
    obtain ⟨t, ht, rfl⟩ := (h2 x).1 hlk
    have hc : c = t := by
      obtain ⟨c', ec, rfl⟩ := thElem_inv hv
      have e1 := h.map.at_ (t.id, thD t) (List.mem_map.2 ⟨t, h.sub t ht, rfl⟩) .nil
      have e2 := hat .nil
      simp only at e1 e2
      have e3 := thD_inj (e2.symm.trans e1)
      rw [← e3]
      obtain ⟨c1, c2, c3⟩ := c
      obtain ⟨d1, d2, d3⟩ := c'
      simp only [thVal, Value.agg.injEq, Array.mk.injEq, List.cons.injEq, Value.int.injEq, true_and, and_true] at ec
      obtain ⟨rfl, rfl, rfl⟩ := ec
      rfl
    subst hc
    exact hMore c w' cnt' ht ⟨⟨_, hrg, Rgs.strike h2 c.id⟩, h.map, fun s hs => h.sub s (List.mem_filter.1 hs).1⟩ hlt hgr hsz hen
end
end Go.Proofs.Ytadghaiengonoaa
