/- Lemmas for DeadlineBytes (Ua Ub Uc Ud Xa Xb Va Xc Xd Xe). No statement of the seat is proved here. -/
import Derived.Maps.RangeWalk
import Derived.Test.YtedlplkomfiahaaT12
namespace Go.Proofs.Ytedlplkomfiahaa
set_option linter.unusedVariables false
set_option linter.unusedSimpArgs false
set_option linter.unusedSectionVars false
open Go Go.RowKit Go.Maps
abbrev rtT : TypeId := 88
abbrev rtsT : TypeId := 48
def rtCells (p : Th × Nat) : List Value := [.int .u64 p.1.id, .int .u64 p.1.gen, .int .i64 p.1.due, .int .i64 (p.2 : Nat)]
def rtVal (p : Th × Nat) : Value := .agg #[.int .u64 p.1.id, .int .u64 p.1.gen, .int .i64 p.1.due, .int .i64 (p.2 : Nat)]
abbrev rtFlat (l : RLs) : List Value := (l.map rtCells).flatten
theorem rt_one (p : Th × Nat) : ∀ u ∈ rtCells p, u.oneCell' = true := by
  intro u hu; simp [rtCells] at hu; rcases hu with rfl | rfl | rfl | rfl <;> rfl
theorem rts_one (l : RLs) : ∀ u ∈ rtFlat l, u.oneCell' = true := by
  intro u hu
  obtain ⟨r, hr, hu⟩ := List.mem_flatten.1 hu
  obtain ⟨x, _, rfl⟩ := List.mem_map.1 hr
  exact rt_one x u hu
theorem rt_each (l : RLs) : ∀ r ∈ l.map rtCells, r.length = 4 := by
  intro r hr; obtain ⟨x, _, rfl⟩ := List.mem_map.1 hr; rfl
theorem infoRt : (Try.prog.info? rtT).map (fun i => (i.zero, i.size, i.bytes)) = some (some (.agg #[.int .u64 0, .int .u64 0, .int .i64 0, .int .i64 0]), 4, 32) := by kernel_rfl
/-- the reference's row -/
abbrev Rt (W : World) (ao : Option Addr) (cap : Nat) (l : RLs) : Prop := Rw W rtT 4 ao l.length cap (l.map rtCells)
theorem Rt.cells {W : World} {ao : Option Addr} {cap : Nat} {l : RLs} (h : Rt W ao cap l) (i : Nat) (hi : i < l.length) : ∃ b off, ao = some ⟨b, off, .none⟩ ∧ b < W.heap.size ∧
    W.cell? ⟨b, off + i * 4, none⟩ = some (.int .u64 l[i].1.id) ∧ W.cell? ⟨b, off + i * 4 + 1, none⟩ = some (.int .u64 l[i].1.gen) ∧ W.cell? ⟨b, off + i * 4 + 2, none⟩ = some (.int .i64 l[i].1.due) ∧ W.cell? ⟨b, off + i * 4 + 3, none⟩ = some (.int .i64 (l[i].2 : Nat)) := by
  obtain ⟨b, off, e, hc⟩ := Rw.get h (by decide) i hi
  have hl : (l.map rtCells)[i]'(by simpa using hi) = rtCells l[i] := by simp
  rw [hl] at hc
  have h4 : (rtCells l[i]).length = 4 := rfl
  have c0 := hc 0 (by omega)
  have c1 := hc 1 (by omega)
  have c2 := hc 2 (by omega)
  have c3 := hc 3 (by omega)
  exact ⟨b, off, e, cell?_lt c0, c0, c1, c2, c3⟩
theorem Rt.of_own {W : World} {base cap : Nat} {ao : Option Addr} {l : RLs} (h : W.ownsRow base rtT 4 (.slice ao l.length cap) l.length (rtFlat l)) : Rt W ao cap l := Rw.of_own h (by simp) (rt_each l)
theorem Rt.nil (W : World) : Rt W none 0 [] := Rw.nil W rtT 4
/-- a piece of a row -/
theorem Rt.piece {W : World} {ao : Option Addr} {cap : Nat} {l : RLs} (h : Rt W ao cap l) (a b : Nat) (hab : a ≤ b) (hb : b ≤ l.length) :
    Sl W 4 (if cap = a then ao else ao.map (·.add (a * 4))) (b - a) (cap - a) (rtFlat ((l.take b).drop a)) := by
  have := h.sl.cut a b hab hb (by decide)
  have e : ∀ (l : RLs) (k : Nat), (rtFlat l).take (k * 4) = rtFlat (l.take k) ∧ (rtFlat l).drop (k * 4) = rtFlat (l.drop k) := by
    intro l
    induction l with
    | nil => intro k; simp [rtFlat]
    | cons p l ih =>
      intro k
      cases k with
      | zero => simp [rtFlat]
      | succ k =>
        have h1 := ih k
        simp only [rtFlat, List.map_cons, List.flatten_cons, List.take_succ_cons, List.drop_succ_cons] at h1 ⊢
        have h4 : (rtCells p).length = 4 := rfl
        refine ⟨?_, ?_⟩
        · rw [List.take_append, List.take_of_length_le (by rw [h4]; omega), h4, show (k + 1) * 4 - 4 = k * 4 from by omega, h1.1]
        · rw [List.drop_append, List.drop_of_length_le (by rw [h4]; omega), h4, show (k + 1) * 4 - 4 = k * 4 from by omega, h1.2]; simp
  rw [(e l b).1, (e (l.take b) a).2] at this
  exact this
/-- Before -/
theorem before_any (a b : Th × Nat) (W : World) : Calls Try.prog 42 #[rtVal a, rtVal b] W fun e W' => e = .returned (.bool (thLt a.1 b.1)) ∧ Below W.heap.size W W' := by
  obtain ⟨⟨ai, ag, ad⟩, aslo⟩ := a
  obtain ⟨⟨bi, bg, bd⟩, bslo⟩ := b
  unfold rtVal thLt
  simp only
  obtain ⟨W1, hW1⟩ : ∃ W1, W1 = W.alloc (.cells #[.int .u64 ai, .int .u64 ag, .int .i64 ad, .int .i64 (aslo : Nat)] rtT) := ⟨_, rfl⟩
  obtain ⟨W2, hW2⟩ : ∃ W2, W2 = W1.alloc (.cells #[.int .u64 bi, .int .u64 bg, .int .i64 bd, .int .i64 (bslo : Nat)] rtT) := ⟨_, rfl⟩
  have hb : Below W.heap.size W W2 := by rw [hW2, hW1]; exact below_on (below_new _ _) (below_new _ _) (Nat.le_refl _)
  by_cases h1 : ad < bd
  · have e : (decide (ad < bd) || (decide (ad = bd) && decide (ai < bi))) = true := by simp [h1]
    rw [e]
    go_enter Try.func42, Try.ntmps42
    go_wp2
    go_ret
    exact ⟨rfl, by rw [hW2, hW1] at hb; exact hb⟩
  · by_cases h2 : ad = bd
    · subst h2
      have e : (decide (ad < ad) || (decide (ad = ad) && decide (ai < bi))) = decide (ai < bi) := by simp
      rw [e]
      have h3 : ¬ ad < ad := h1
      go_enter Try.func42, Try.ntmps42
      go_wp2
      go_ret
      exact ⟨by simp, by rw [hW2, hW1] at hb; exact hb⟩
    · have e : (decide (ad < bd) || (decide (ad = bd) && decide (ai < bi))) = false := by simp [h1, h2]
      rw [e]
      go_enter Try.func42, Try.ntmps42
      go_wp2
      go_ret
      exact ⟨by simp [h1, h2], by rw [hW2, hW1] at hb; exact hb⟩
end Go.Proofs.Ytedlplkomfiahaa
namespace Go.Proofs.Ytedlplkomfiahaa
set_option linter.unusedVariables false
set_option linter.unusedSimpArgs false
set_option linter.unusedSectionVars false
open Go Go.RowKit Go.Maps
theorem i_nums (i n : Nat) (h : i < n) : (i : Int) < (n : Int) ∧ n - (i + 1) < n - i := by omega
theorem ts_meas (n i : Nat) (h : i < n) : n - (intOf (.int .i64 ((i : Int) + 1))).toNat < n - (intOf (.int .i64 (i : Nat))).toNat := by simp only [intOf]; omega
theorem rt_two (a b : RLs) : rtFlat (a ++ b) = rtFlat a ++ rtFlat b := by simp [rtFlat]
end Go.Proofs.Ytedlplkomfiahaa
namespace Go.Proofs.Ytedlplkomfiahaa
set_option linter.unusedVariables false
set_option linter.unusedSimpArgs false
set_option linter.unusedSectionVars false
open Go Go.RowKit Go.Maps
theorem zeroRt (w : World) : (zeroValue rtT).run Try.prog w = .ok (.agg #[.int .u64 0, .int .u64 0, .int .i64 0, .int .i64 0]) w := by kernel_rfl
/-- Plain -/
theorem plain_any (W : World) (t : Th) : Calls Try.prog 41 #[thVal t] W fun e W' => e = .returned (rtVal (t, 0)) ∧ Below W.heap.size W W' := by
  obtain ⟨ti, tg, td⟩ := t
  obtain ⟨W1, hW1⟩ : ∃ W1, W1 = (W.alloc (.cells #[.int .u64 ti, .int .u64 tg, .int .i64 td] thT)).alloc (.cells #[.int .u64 0, .int .u64 0, .int .i64 0, .int .i64 0] rtT) := ⟨_, rfl⟩
  have hB1 : Below W.heap.size W W1 := by rw [hW1]; exact below_on (below_new _ _) (below_new _ _) (Nat.le_refl _)
  have hzr := zeroRt
  unfold thVal
  have ht : ((W.alloc (.cells #[.int .u64 ti, .int .u64 tg, .int .i64 td] thT)).alloc (.cells #[.int .u64 ti, .int .u64 tg, .int .i64 td, .int .i64 0] rtT)).heap[W.heap.size + 1]? = some (.cells #[.int .u64 ti, .int .u64 tg, .int .i64 td, .int .i64 0] rtT (0, 0)) := by
    have := heap_alloc_new (W.alloc (.cells #[.int .u64 ti, .int .u64 tg, .int .i64 td] thT)) (.cells #[.int .u64 ti, .int .u64 tg, .int .i64 td, .int .i64 0] rtT)
    simpa using this
  have hb : Below W.heap.size W ((W.alloc (.cells #[.int .u64 ti, .int .u64 tg, .int .i64 td] thT)).alloc (.cells #[.int .u64 ti, .int .u64 tg, .int .i64 td, .int .i64 0] rtT)) := below_on (below_new _ _) (below_new _ _) (Nat.le_refl _)
  obtain ⟨W5, hW5⟩ : ∃ W5, W5 = (W.alloc (.cells #[.int .u64 ti, .int .u64 tg, .int .i64 td] thT)).alloc (.cells #[.int .u64 ti, .int .u64 tg, .int .i64 td, .int .i64 0] rtT) := ⟨_, rfl⟩
  rw [← hW5] at ht hb
  have c0 := block_cell ht 0
  have c1 := block_cell ht 1
  have c2 := block_cell ht 2
  have c3 := block_cell ht 3
  simp at c0 c1 c2 c3
  have Hc := Lib.hid (⟨c0, c1, c2, c3⟩ : _ ∧ _ ∧ _ ∧ _)
  clear c0 c1 c2 c3 hB1 hW1 ht
  go_enter Try.func41, Try.ntmps41
  go_wp2_with fail
  rw [← hW5]
  refine bodyPost_ret (v := rtVal (⟨ti, tg, td⟩, 0)) ?_ rfl ⟨rfl, hb⟩
  obtain ⟨c0, c1, c2, c3⟩ := Hc.out
  simp [results, Try.results41, go_sem, rtVal, c0, c1, c2, c3]
end Go.Proofs.Ytedlplkomfiahaa
namespace Go.Proofs.Ytedlplkomfiahaa
set_option linter.unusedVariables false
set_option linter.unusedSimpArgs false
set_option linter.unusedSectionVars false
open Go Go.RowKit Go.Maps
theorem eqin_rt (i g d s i' g' d' s' : Int) (w : World) : (Op.equalIn 10000 rtT (.agg #[.int .u64 i, .int .u64 g, .int .i64 d, .int .i64 s]) (.agg #[.int .u64 i', .int .u64 g', .int .i64 d', .int .i64 s'])).run Try.prog w = .ok (decide (i = i') && (decide (g = g') && (decide (d = d') && decide (s = s')))) w := by
  rw [run_equalIn_agg _ _ _ _ _ (by kernel_rfl) (by kernel_rfl)]
  by_cases h0 : i = i'
  · by_cases h1 : g = g'
    · by_cases h2 : d = d'
      · by_cases h3 : s = s'
        · simp [Program.fieldsOf, Try.underlying88, Op.eqFields, go_sem, h0, h1, h2, h3]
        · simp [Program.fieldsOf, Try.underlying88, Op.eqFields, go_sem, h0, h1, h2, h3]
      · simp [Program.fieldsOf, Try.underlying88, Op.eqFields, go_sem, h0, h1, h2]
    · simp [Program.fieldsOf, Try.underlying88, Op.eqFields, go_sem, h0, h1]
  · simp [Program.fieldsOf, Try.underlying88, Op.eqFields, go_sem, h0]
theorem eqin_th (i g d i' g' d' : Int) (w : World) : (Op.equalIn 10000 32 (.agg #[.int .u64 i, .int .u64 g, .int .i64 d]) (.agg #[.int .u64 i', .int .u64 g', .int .i64 d'])).run Try.prog w = .ok (decide (i = i') && (decide (g = g') && decide (d = d'))) w := by
  rw [run_equalIn_agg _ _ _ _ _ (by kernel_rfl) (by kernel_rfl)]
  by_cases h0 : i = i'
  · by_cases h1 : g = g'
    · by_cases h2 : d = d'
      · simp [Program.fieldsOf, Try.underlying32, Op.eqFields, go_sem, h0, h1, h2]
      · simp [Program.fieldsOf, Try.underlying32, Op.eqFields, go_sem, h0, h1, h2]
    · simp [Program.fieldsOf, Try.underlying32, Op.eqFields, go_sem, h0, h1]
  · simp [Program.fieldsOf, Try.underlying32, Op.eqFields, go_sem, h0]
theorem th_ext (a b : Th) : a = b ↔ (decide (a.id = b.id) && (decide (a.gen = b.gen) && decide (a.due = b.due))) = true := by
  obtain ⟨a1, a2, a3⟩ := a
  obtain ⟨b1, b2, b3⟩ := b
  simp only [Th.mk.injEq, Bool.and_eq_true, decide_eq_true_eq]
theorem neq_rtv (x : Th) (p : Th × Nat) (w : World) : (binOp .neq rtT (rtVal (x, 0)) (.agg #[.int .u64 p.1.id, .int .u64 p.1.gen, .int .i64 p.1.due, .int .i64 0])).run Try.prog w = .ok (.bool (!decide (x = p.1))) w := by
  unfold rtVal
  rw [run_neq_struct, eqin_rt]
  simp only [Result.andThen]
  congr 3
  rw [Bool.eq_iff_iff]
  simp only [Bool.not_eq_true', decide_eq_false_iff_not, th_ext]
  simp
theorem guard_rt (op : BinOp) (p q : Operand) (x : Th × Nat) (ys : Array Value) (w : World) : (eqGuard op rtT p q (rtVal x) (.agg ys)).run Try.prog w = .ok () w := run_eqGuard_agg w op _ p q _ ys (by kernel_rfl)
/-- a row of things, to be read -/
abbrev Tt (W : World) (ao : Option Addr) (cap : Nat) (l : List Th) : Prop := Rw W thT 3 ao l.length cap (l.map thCells)
theorem th_each (l : List Th) : ∀ r ∈ l.map thCells, r.length = 3 := by
  intro r hr; obtain ⟨x, _, rfl⟩ := List.mem_map.1 hr; rfl
theorem Tt.of_own {W : World} {base cap : Nat} {ao : Option Addr} {l : List Th} (h : W.ownsRow base thT 3 (.slice ao l.length cap) l.length (thFlat l)) : Tt W ao cap l := Rw.of_own h (by simp) (th_each l)
theorem Tt.nil (W : World) : Tt W none 0 [] := Rw.nil W thT 3
theorem Tt.cells {W : World} {ao : Option Addr} {cap : Nat} {l : List Th} (h : Tt W ao cap l) (i : Nat) (hi : i < l.length) : ∃ b off, ao = some ⟨b, off, .none⟩ ∧ b < W.heap.size ∧
    W.cell? ⟨b, off + i * 3, none⟩ = some (.int .u64 l[i].id) ∧ W.cell? ⟨b, off + i * 3 + 1, none⟩ = some (.int .u64 l[i].gen) ∧ W.cell? ⟨b, off + i * 3 + 2, none⟩ = some (.int .i64 l[i].due) := by
  obtain ⟨b, off, e, hc⟩ := Rw.get h (by decide) i hi
  have hl : (l.map thCells)[i]'(by simpa using hi) = thCells l[i] := by simp
  rw [hl] at hc
  have h4 : (thCells l[i]).length = 3 := rfl
  have c0 := hc 0 (by omega)
  have c1 := hc 1 (by omega)
  have c2 := hc 2 (by omega)
  exact ⟨b, off, e, cell?_lt c0, c0, c1, c2⟩
/-- slots.Before -/
theorem sbefore_any (a b : Th) (W : World) : Calls Try.prog 50 #[thVal a, thVal b] W fun e W' => e = .returned (.bool (thLt a b)) ∧ Below W.heap.size W W' := by
  obtain ⟨W1, hW1⟩ : ∃ W1, W1 = (W.alloc (.cells #[.int .u64 a.id, .int .u64 a.gen, .int .i64 a.due] thT)).alloc (.cells #[.int .u64 b.id, .int .u64 b.gen, .int .i64 b.due] thT) := ⟨_, rfl⟩
  have hB1 : Below W.heap.size W W1 := by rw [hW1]; exact below_on (below_new _ _) (below_new _ _) (Nat.le_refl _)
  have Hord := Lib.hid (order_any a b W1)
  have hlt : decide (orderN a b < 0) = thLt a b := by
    rw [Bool.eq_iff_iff]; simp [orderN_lt]
  have Hlt := Lib.hid hlt
  clear hlt
  unfold thVal
  unfold thVal at Hord
  go_enter Try.func50, Try.ntmps50
  go_wp2_with fail
  rw [← hW1]
  clear hW1
  refine Hord.out.mono ?_
  rintro e W2 ⟨rfl, hb2⟩
  go_wp2_with fail
  go_ret
  exact ⟨ret_bool (by rw [← Hlt.out]), below_on hB1 hb2 (Nat.le_refl _)⟩
end Go.Proofs.Ytedlplkomfiahaa
namespace Go.Proofs.Ytedlplkomfiahaa
set_option linter.unusedVariables false
set_option linter.unusedSimpArgs false
set_option linter.unusedSectionVars false
open Go Go.RowKit Go.Maps
/-- the ring (4: beyond, or late) -/
def ringN (now due : Int) : Nat := if due ≤ now then 4 else if due / 64 = now / 64 then 0 else if due / 4096 = now / 4096 then 1 else if due / 262144 = now / 262144 then 2 else if due / 16777216 = now / 16777216 then 3 else 4
/-- the width of a ring's slot -/
def wid : Nat → Int
  | 0 => 1
  | 1 => 64
  | 2 => 4096
  | 3 => 262144
  | _ => 16777216
def slotN (k : Nat) (due : Int) : Nat := if k = 4 then 0 else (due / wid k % 64).toNat
theorem ringN_le (now due : Int) : ringN now due ≤ 4 := by unfold ringN; split <;> (try split) <;> (try split) <;> (try split) <;> (try split) <;> omega
theorem slotN_lt (k : Nat) (due : Int) : slotN k due < 64 := by unfold slotN; split <;> omega
/-- what the ring says -/
theorem ring_cases (now due : Int) : (due ≤ now ∧ ringN now due = 4) ∨ (now < due ∧ due / 64 = now / 64 ∧ ringN now due = 0) ∨ (now < due ∧ due / 64 ≠ now / 64 ∧ due / 4096 = now / 4096 ∧ ringN now due = 1) ∨
    (now < due ∧ due / 4096 ≠ now / 4096 ∧ due / 262144 = now / 262144 ∧ ringN now due = 2) ∨ (now < due ∧ due / 262144 ≠ now / 262144 ∧ due / 16777216 = now / 16777216 ∧ ringN now due = 3) ∨ (now < due ∧ due / 16777216 ≠ now / 16777216 ∧ ringN now due = 4) := by
  unfold ringN
  by_cases h0 : due ≤ now
  · rw [if_pos h0]; exact .inl ⟨h0, rfl⟩
  rw [if_neg h0]
  by_cases h1 : due / 64 = now / 64
  · rw [if_pos h1]; exact .inr (.inl ⟨by omega, h1, rfl⟩)
  rw [if_neg h1]
  by_cases h2 : due / 4096 = now / 4096
  · rw [if_pos h2]; exact .inr (.inr (.inl ⟨by omega, h1, h2, rfl⟩))
  rw [if_neg h2]
  by_cases h3 : due / 262144 = now / 262144
  · rw [if_pos h3]; exact .inr (.inr (.inr (.inl ⟨by omega, h2, h3, rfl⟩)))
  rw [if_neg h3]
  by_cases h4 : due / 16777216 = now / 16777216
  · rw [if_pos h4]; exact .inr (.inr (.inr (.inr (.inl ⟨by omega, h3, h4, rfl⟩))))
  · rw [if_neg h4]; exact .inr (.inr (.inr (.inr (.inr ⟨by omega, h4, rfl⟩))))
/-- the rings below one that stands: all is late -/
theorem turn_low (i j : Nat) (a b due : Int) (hi : i ≤ 4) (hj : j < i) (h0 : 0 ≤ a) (h1 : a ≤ b) (hne : a / wid i ≠ b / wid i) (hr : ringN a due = j) : due ≤ b := by
  have hc := ring_cases a due
  rcases (by omega : i = 1 ∨ i = 2 ∨ i = 3 ∨ i = 4) with rfl | rfl | rfl | rfl <;> simp only [wid] at hne <;> rcases hc with ⟨c1, c2⟩ | ⟨c1, c2, c3⟩ | ⟨c1, c2, c3, c4⟩ | ⟨c1, c2, c3, c4⟩ | ⟨c1, c2, c3, c4⟩ | ⟨c1, c2, c3⟩ <;> omega
/-- a slot of the ring that stands: what lies ahead of it stays -/
theorem turn_stay (i : Nat) (a b due : Int) (hi : i ≤ 3) (h0 : 0 ≤ a) (h1 : a ≤ b) (he : a / wid (i + 1) = b / wid (i + 1)) (hr : ringN a due = i) (hs : slotN i b < slotN i due) : b < due ∧ ringN b due = i := by
  have hc := ring_cases a due
  have hd := ring_cases b due
  rcases (by omega : i = 0 ∨ i = 1 ∨ i = 2 ∨ i = 3) with rfl | rfl | rfl | rfl <;> simp [wid, slotN] at he hs <;> rcases hc with ⟨c1, c2⟩ | ⟨c1, c2, c3⟩ | ⟨c1, c2, c3, c4⟩ | ⟨c1, c2, c3, c4⟩ | ⟨c1, c2, c3, c4⟩ | ⟨c1, c2, c3⟩ <;> (try omega) <;> rcases hd with ⟨d1, d2⟩ | ⟨d1, d2, d3⟩ | ⟨d1, d2, d3, d4⟩ | ⟨d1, d2, d3, d4⟩ | ⟨d1, d2, d3, d4⟩ | ⟨d1, d2, d3⟩ <;> (try omega) <;> exact ⟨by omega, by omega⟩
/-- what is taken and not late goes down -/
theorem turn_down (i : Nat) (a b due : Int) (hi : i ≤ 3) (h0 : 0 ≤ a) (h1 : a ≤ b) (he : a / wid (i + 1) = b / wid (i + 1)) (hr : ringN a due = i) (hs : slotN i due ≤ slotN i b) (hb : b < due) : ringN b due < i := by
  have hc := ring_cases a due
  have hd := ring_cases b due
  rcases (by omega : i = 0 ∨ i = 1 ∨ i = 2 ∨ i = 3) with rfl | rfl | rfl | rfl <;> simp [wid, slotN] at he hs <;> rcases hc with ⟨c1, c2⟩ | ⟨c1, c2, c3⟩ | ⟨c1, c2, c3, c4⟩ | ⟨c1, c2, c3, c4⟩ | ⟨c1, c2, c3, c4⟩ | ⟨c1, c2, c3⟩ <;> (try omega) <;> rcases hd with ⟨d1, d2⟩ | ⟨d1, d2, d3⟩ | ⟨d1, d2, d3, d4⟩ | ⟨d1, d2, d3, d4⟩ | ⟨d1, d2, d3, d4⟩ | ⟨d1, d2, d3⟩ <;> omega
/-- where a slot begins -/
theorem turn_from (i : Nat) (a b due : Int) (hi : i ≤ 3) (h0 : 0 ≤ a) (h1 : a ≤ b) (he : a / wid (i + 1) = b / wid (i + 1)) (hr : ringN a due = i) : slotN i a ≤ slotN i due := by
  have hc := ring_cases a due
  rcases (by omega : i = 0 ∨ i = 1 ∨ i = 2 ∨ i = 3) with rfl | rfl | rfl | rfl <;> simp [wid, slotN] at he ⊢ <;> rcases hc with ⟨c1, c2⟩ | ⟨c1, c2, c3⟩ | ⟨c1, c2, c3, c4⟩ | ⟨c1, c2, c3, c4⟩ | ⟨c1, c2, c3, c4⟩ | ⟨c1, c2, c3⟩ <;> omega
/-- the rings above stand still -/
theorem turn_high (i j : Nat) (a b due : Int) (hi : i ≤ 3) (hj : i < j) (hj4 : j ≤ 4) (h0 : 0 ≤ a) (h1 : a ≤ b) (he : a / wid (i + 1) = b / wid (i + 1)) (hr : ringN a due = j) (hd : a < due) : b < due ∧ ringN b due = j := by
  have hc := ring_cases a due
  have hd := ring_cases b due
  rcases (by omega : i = 0 ∨ i = 1 ∨ i = 2 ∨ i = 3) with rfl | rfl | rfl | rfl <;> simp only [wid] at he <;> rcases hc with ⟨c1, c2⟩ | ⟨c1, c2, c3⟩ | ⟨c1, c2, c3, c4⟩ | ⟨c1, c2, c3, c4⟩ | ⟨c1, c2, c3, c4⟩ | ⟨c1, c2, c3⟩ <;> (try omega) <;> rcases hd with ⟨d1, d2⟩ | ⟨d1, d2, d3⟩ | ⟨d1, d2, d3, d4⟩ | ⟨d1, d2, d3, d4⟩ | ⟨d1, d2, d3, d4⟩ | ⟨d1, d2, d3⟩ <;> (try omega) <;> exact ⟨by omega, by omega⟩
end Go.Proofs.Ytedlplkomfiahaa
namespace Go.Proofs.Ytedlplkomfiahaa
set_option linter.unusedVariables false
set_option linter.unusedSimpArgs false
set_option linter.unusedSectionVars false
open Go Go.RowKit Go.Maps
abbrev whT : TypeId := 116
abbrev faT : TypeId := 112
abbrev mfT : TypeId := 26
def thD (t : Th) : DataW Unit := .agg [.lit (.int .u64 t.id), .lit (.int .u64 t.gen), .lit (.int .i64 t.due)]
/-- how a thing in the map reads -/
def thElem : Value → Option (DataW Unit × List MemPlace)
  | .agg cs => match cs.toList with
    | [.int .u64 i, .int .u64 g, .int .i64 d] => some (thD ⟨i, g, d⟩, [])
    | _ => none
  | _ => none
theorem thElem_mk (t : Th) : thElem (thVal t) = some (thD t, []) := rfl
theorem thElem_inv {v : Value} {z : DataW Unit × List MemPlace} (h : thElem v = some z) : ∃ t, v = thVal t ∧ z = (thD t, []) := by
  unfold thElem at h
  split at h
  · rename_i cs
    split at h
    · rename_i i g d he
      simp only [Option.some.injEq] at h
      refine ⟨⟨i, g, d⟩, ?_, h.symm⟩
      unfold thVal
      congr 1
      exact Array.toList_inj.1 he
    · cases h
  · cases h
theorem thD_inj {a b : Th} (h : thD a = thD b) : a = b := by
  obtain ⟨a1, a2, a3⟩ := a
  obtain ⟨b1, b2, b3⟩ := b
  simp only [thD, DataW.agg.injEq, List.cons.injEq, DataW.lit.injEq, Lit.int.injEq, true_and, and_true] at h
  obtain ⟨rfl, rfl, rfl⟩ := h
  rfl
def fpairs (l : List Th) : List (Int × DataW Unit) := l.map (fun t => (t.id, thD t))
theorem zeroTh (w : World) : (zeroValue thT).run Try.prog w = .ok (thVal ⟨0, 0, 0⟩) w := by kernel_rfl
theorem Rng.widen {W : World} {F G : Nat → Prop} {r n : Nat} {L : RLs} (h : Rng W F r n L) (hG : ∀ i, F i → G i) (hb : ∀ i, G i → i < W.heap.size) : Rng W G r n L := by
  obtain ⟨mb, sv, u, h1, h2⟩ := h.mem
  exact ⟨h.ok, h.few, hb, mb, sv, u, h1.refoot fun i hi _ => hG i hi, h2⟩
/-- a wheel's memory: at 'now', its rings, what lies beyond them -/
structure Whm (W : World) (F : Nat → Prop) (G : Nat → Nat → Prop) (w : Nat) (now : Int) (rs : Nat → Nat) (pf mf n : Nat) (R : Nat → RLs) (far : List Th) : Prop where
  blk : W.heap[w]? = some (.cells #[.int .i64 now, .pointer (some ⟨rs 0, 0, none⟩), .pointer (some ⟨rs 1, 0, none⟩), .pointer (some ⟨rs 2, 0, none⟩), .pointer (some ⟨rs 3, 0, none⟩), .pointer (some ⟨pf, 0, none⟩)] whT (0, 0))
  fblk : W.heap[pf]? = some (.cells #[.map (some mf)] faT (0, 0))
  ring : ∀ k, k < 4 → Rng W (G k) (rs k) n (R k)
  apart : ∀ j k, j < 4 → k < 4 → j ≠ k → ∀ i, G j i → ¬ G k i
  sub : ∀ k, k < 4 → ∀ i, G k i → F i
  out : ∀ k, k < 4 → ¬ G k w ∧ ¬ G k pf ∧ ¬ G k mf
  fw : F w
  ff : F pf
  fm : F mf
  bd : ∀ i, F i → i < W.heap.size
  map : ∃ D, W.ownsMap Try.prog 28 thElem mf n D ∧ MapL D (fpairs far)
theorem Whm.ne {W : World} {F : Nat → Prop} {G : Nat → Nat → Prop} {w : Nat} {now : Int} {rs : Nat → Nat} {pf mf n : Nat} {R : Nat → RLs} {far : List Th} (h : Whm W F G w now rs pf mf n R far) : w ≠ pf ∧ w ≠ mf ∧ pf ≠ mf := by
  obtain ⟨D, ⟨es, clock, h1, _⟩, _⟩ := h.map
  refine ⟨fun e => ?_, fun e => ?_, fun e => ?_⟩
  · have a := h.blk; rw [e, h.fblk] at a
    simp only [Option.some.injEq, Obj.cells.injEq] at a
    exact absurd a.2.1 (by decide)
  · have a := h.blk; rw [e, h1] at a; cases a
  · have a := h.fblk; rw [e, h1] at a; cases a
theorem Whm.kept {W W' : World} {F : Nat → Prop} {G : Nat → Nat → Prop} {w : Nat} {now : Int} {rs : Nat → Nat} {pf mf n : Nat} {R : Nat → RLs} {far : List Th} (h : Whm W F G w now rs pf mf n R far) (hs : W.heap.size ≤ W'.heap.size) (hk : ∀ i, F i → W'.heap[i]? = W.heap[i]?) : Whm W' F G w now rs pf mf n R far := by
  refine ⟨(hk w h.fw).trans h.blk, (hk pf h.ff).trans h.fblk, fun k hk4 => (h.ring k hk4).kept hs fun i hi => hk i (h.sub k hk4 i hi), h.apart, h.sub, h.out, h.fw, h.ff, h.fm, fun i hi => Nat.lt_of_lt_of_le (h.bd i hi) hs, ?_⟩
  obtain ⟨D, ⟨es, clock, h1, h2⟩, h3⟩ := h.map
  exact ⟨D, ⟨es, clock, (hk mf h.fm).trans h1, h2⟩, h3⟩
theorem Whm.below {W W' : World} {F : Nat → Prop} {G : Nat → Nat → Prop} {w : Nat} {now : Int} {rs : Nat → Nat} {pf mf n : Nat} {R : Nat → RLs} {far : List Th} (h : Whm W F G w now rs pf mf n R far) (hb : Below W.heap.size W W') : Whm W' F G w now rs pf mf n R far := h.kept hb.size fun i hi => hb.block i (h.bd i hi)
theorem Whm.beside {W W' : World} {F H : Nat → Prop} {G : Nat → Nat → Prop} {w : Nat} {now : Int} {rs : Nat → Nat} {pf mf n : Nat} {R : Nat → RLs} {far : List Th} (h : Whm W F G w now rs pf mf n R far) (hg : Gr H W W') (hd : ∀ i, F i → ¬ H i) : Whm W' F G w now rs pf mf n R far := h.kept hg.size fun i hi => hg.block i (h.bd i hi) (hd i hi)
theorem Whm.mono {W : World} {F : Nat → Prop} {G : Nat → Nat → Prop} {w : Nat} {now : Int} {rs : Nat → Nat} {pf mf n n' : Nat} {R : Nat → RLs} {far : List Th} (h : Whm W F G w now rs pf mf n R far) (hn : n ≤ n') : Whm W F G w now rs pf mf n' R far := by
  obtain ⟨D, h1, h2⟩ := h.map
  exact ⟨h.blk, h.fblk, fun k hk => (h.ring k hk).mono hn, h.apart, h.sub, h.out, h.fw, h.ff, h.fm, h.bd, D, h1.mono hn, h2⟩
def updF {α : Type} (R : Nat → α) (k : Nat) (x : α) : Nat → α := fun j => if j = k then x else R j
/-- a ring's call -/
theorem Whm.step {W W' : World} {F : Nat → Prop} {G : Nat → Nat → Prop} {w : Nat} {now : Int} {rs : Nat → Nat} {pf mf n n' : Nat} {R : Nat → RLs} {far : List Th} (h : Whm W F G w now rs pf mf n R far) (k : Nat) (hk : k < 4) (L' : RLs)
    (hr : Rng W' (More (G k) W W') (rs k) n' L') (hn : n ≤ n') (hg : Gr (G k) W W') : Whm W' (More F W W') (updF G k (More (G k) W W')) w now rs pf mf n' (updF R k L') far ∧ Gr F W W' := by
  have hgF : Gr F W W' := hg.mono (h.sub k hk)
  have hkw := h.out k hk
  refine ⟨⟨(hg.block w (h.bd w h.fw) hkw.1).trans h.blk, (hg.block pf (h.bd pf h.ff) hkw.2.1).trans h.fblk, fun j hj => ?_, fun i j hi hj hij q hq => ?_, fun j hj q hq => ?_, fun j hj => ?_, .inl h.fw, .inl h.ff, .inl h.fm, More.bd h.bd hg.size, ?_⟩, hgF⟩
  · unfold updF
    by_cases e : j = k
    · subst e; simp only [if_true]; exact hr
    · simp only [if_neg e]
      exact ((h.ring j hj).beside hg fun i hi => h.apart j k hj hk e i hi).mono hn
  · unfold updF at hq ⊢
    have hb : ∀ m, m < 4 → ∀ q, G m q → q < W.heap.size := fun m hm q hq => h.bd q (h.sub m hm q hq)
    by_cases e : i = k
    · subst e
      rw [if_neg (Ne.symm hij)]
      rw [if_pos rfl] at hq
      intro hjq
      rcases hq with h1 | h1
      · exact h.apart i j hi hj hij q h1 hjq
      · have := hb j hj q hjq; omega
    · rw [if_neg e] at hq
      by_cases e2 : j = k
      · subst e2
        rw [if_pos rfl]
        rintro (h1 | h1)
        · exact h.apart i j hi hj hij q hq h1
        · have := hb i hi q hq; omega
      · rw [if_neg e2]; exact h.apart i j hi hj hij q hq
  · unfold updF at hq
    by_cases e : j = k
    · subst e
      rw [if_pos rfl] at hq
      exact hq.imp (h.sub j hj q) id
    · rw [if_neg e] at hq; exact .inl (h.sub j hj q hq)
  · unfold updF
    by_cases e : j = k
    · subst e
      rw [if_pos rfl]
      have b1 := h.bd w h.fw
      have b2 := h.bd pf h.ff
      have b3 := h.bd mf h.fm
      exact ⟨fun q => q.elim hkw.1 (fun x => by omega), fun q => q.elim hkw.2.1 (fun x => by omega), fun q => q.elim hkw.2.2 (fun x => by omega)⟩
    · rw [if_neg e]; exact h.out j hj
  · obtain ⟨D, ⟨es, clock, h1, h2⟩, h3⟩ := h.map
    exact ⟨D, World.ownsMap.mono ⟨es, clock, (hg.block mf (h.bd mf h.fm) hkw.2.2).trans h1, h2⟩ hn, h3⟩
/-- the map beyond has turned -/
theorem Whm.turn {W W' : World} {F : Nat → Prop} {G : Nat → Nat → Prop} {w : Nat} {now : Int} {rs : Nat → Nat} {pf mf n n' : Nat} {R : Nat → RLs} {far far' : List Th} {D' : DataW Unit} (h : Whm W F G w now rs pf mf n R far)
    (hg : W.grownBy W' (some mf)) (ho : W'.ownsMap Try.prog 28 thElem mf n' D') (hD : MapL D' (fpairs far')) (hn : n ≤ n') : Whm W' F G w now rs pf mf n' R far' ∧ Gr F W W' := by
  have hne := h.ne
  have hG : Gr (fun i => i = mf) W W' := Gr.one hg fun b hb => by simpa using hb.symm
  refine ⟨⟨(hG.block w (h.bd w h.fw) hne.2.1).trans h.blk, (hG.block pf (h.bd pf h.ff) hne.2.2).trans h.fblk, fun k hk => ((h.ring k hk).beside hG fun i hi e => (h.out k hk).2.2 (e ▸ hi)).mono hn, h.apart, h.sub, h.out, h.fw, h.ff, h.fm, fun i hi => Nat.lt_of_lt_of_le (h.bd i hi) hG.size, D', ho, hD⟩, hG.mono fun i e => e ▸ h.fm⟩
/-- time has gone on -/
theorem Whm.setNow {W : World} {F : Nat → Prop} {G : Nat → Nat → Prop} {w : Nat} {now : Int} {rs : Nat → Nat} {pf mf n : Nat} {R : Nat → RLs} {far : List Th} (h : Whm W F G w now rs pf mf n R far) (b : Int) :
    Whm (W.setCell ⟨w, 0, none⟩ (.int .i64 b)) F G w b rs pf mf n R far ∧ Gr F W (W.setCell ⟨w, 0, none⟩ (.int .i64 b)) := by
  have hne := h.ne
  have hG : Gr (fun i => i = w) W (W.setCell ⟨w, 0, none⟩ (.int .i64 b)) := Gr.one (grown_set W w 0 _) fun b hb => by simpa using hb.symm
  have hs := block_set h.blk 0 (.int .i64 b)
  simp only [List.setIfInBounds_toArray, List.set_cons_zero] at hs
  refine ⟨⟨hs, (hG.block pf (h.bd pf h.ff) (Ne.symm hne.1)).trans h.fblk, fun k hk => (h.ring k hk).beside hG fun i hi e => (h.out k hk).1 (e ▸ hi), h.apart, h.sub, h.out, h.fw, h.ff, h.fm, fun i hi => Nat.lt_of_lt_of_le (h.bd i hi) hG.size, ?_⟩, hG.mono fun i e => e ▸ h.fw⟩
  obtain ⟨D, ⟨es, clock, h1, h2⟩, h3⟩ := h.map
  exact ⟨D, ⟨es, clock, (hG.block mf (h.bd mf h.fm) (Ne.symm hne.2.1)).trans h1, h2⟩, h3⟩
end Go.Proofs.Ytedlplkomfiahaa
namespace Go.Proofs.Ytedlplkomfiahaa
set_option linter.unusedVariables false
set_option linter.unusedSimpArgs false
set_option linter.unusedSectionVars false
open Go Go.RowKit Go.Maps
/-- where a turn begins -/
def atM (f : Int) : Nat := (f % 64).toNat
theorem atM_lt (f : Int) : atM f < 64 := by unfold atM; omega
theorem atM_and (f : Int) : bits .and .i64 f 63 = (atM f : Nat) := by
  have h1 : bits .and .i64 f 63 = IntKind.i64.wrap (((BitVec.ofInt 64 f &&& BitVec.ofInt 64 63).toNat : Nat) : Int) := rfl
  have h2 : (BitVec.ofInt 64 f &&& BitVec.ofInt 64 63).toNat = atM f := by
    rw [BitVec.toNat_and, BitVec.toNat_ofInt, BitVec.toNat_ofInt]
    have e1 : ((63 : Int) % ((2 ^ 64 : Nat) : Int)).toNat = 2 ^ 6 - 1 := by decide
    rw [e1, Nat.and_two_pow_sub_one_eq_mod]
    unfold atM
    have e2 : ((2 ^ 64 : Nat) : Int) = 18446744073709551616 := by decide
    rw [e2]
    omega
  rw [h1, h2]
  have := atM_lt f
  simp [IntKind.wrap, IntKind.signed, IntKind.bits]; omega
end Go.Proofs.Ytedlplkomfiahaa
namespace Go.Proofs.Ytedlplkomfiahaa
set_option linter.unusedVariables false
set_option linter.unusedSimpArgs false
set_option linter.unusedSectionVars false
open Go Go.RowKit Go.Maps
theorem meas4 (i : Nat) (h : i < 4) : 4 - (intOf (.int .i64 ((i : Int) + 1))).toNat < 4 - (intOf (.int .i64 (i : Nat))).toNat := by simp only [intOf]; omega
theorem below_drewN1 {B : Nat} {W0 W : World} (h : Below B W0 W) (n : Nat) : Below B W0 (W.drewN n) := ⟨h.os, h.tape, h.output, h.size, h.block⟩
theorem below_drewN2 {B : Nat} {W0 W : World} (h : Below B W0 W) (n m : Nat) : Below B W0 ((W.drewN n).drewN m) := ⟨h.os, h.tape, h.output, h.size, h.block⟩
def Inst (t : Int) : Prop := 0 ≤ t ∧ t ≤ 1125899906842624
theorem sinst_any (t : Int) (W : World) : Calls Try.prog 89 #[.int .i64 t] W fun e W' => e = .returned (.bool (decide (0 ≤ t) && decide (t ≤ 1125899906842624))) ∧ W' = W := by
  by_cases h : 0 ≤ t
  · go_enter Try.func89, Try.ntmps89
    go_wp2_with fail
    go_ret
    exact ⟨ret_bool (by simp [h]), rfl⟩
  · have h2 : ¬ (0 ≤ t) := h
    go_enter Try.func89, Try.ntmps89
    go_wp2_with fail
    go_ret
    exact ⟨ret_bool (by simp; omega), rfl⟩
theorem add_yes (t : Int) (h : Inst t) (W : World) : Calls Try.prog 71 #[.int .i64 t, .int .i64 0] W fun e W' => e = .returned (.tuple #[.int .i64 t, .int .i64 0]) ∧ W' = W := by
  have Hs := Lib.hid (sinst_any t W)
  obtain ⟨h1, h2⟩ := h
  have y1 : (decide (0 ≤ t) && decide (t ≤ 1125899906842624)) = true := by simp [h1, h2]
  rw [y1] at Hs
  have w1 : wrap64 (1125899906842624 - t) = 1125899906842624 - t := IntWalk.wrap64_in _ (by omega)
  have w2 : wrap64 (-t) = -t := IntWalk.wrap64_in _ (by omega)
  have w3 : wrap64 (t + 0) = t := by rw [Int.add_zero]; exact IntWalk.wrap64_in _ (by omega)
  have w4 : wrap64 t = t := IntWalk.wrap64_in _ (by omega)
  clear y1
  go_enter Try.func71, Try.ntmps71
  go_wp2_with fail
  refine Hs.out.mono ?_
  rintro e W2 ⟨rfl, rfl⟩
  go_wp2_with fail
  all_goals
    go_ret2
    first | exact ⟨rfl, rfl⟩ | exact ⟨by rw [w4]; rfl, rfl⟩ | exact ⟨by rw [w3]; rfl, rfl⟩
theorem add_no (t : Int) (h : ¬ Inst t) (W : World) : Calls Try.prog 71 #[.int .i64 t, .int .i64 0] W fun e W' => e = .returned (.tuple #[.int .i64 0, .int .i64 2]) ∧ W' = W := by
  have Hs := Lib.hid (sinst_any t W)
  have y1 : (decide (0 ≤ t) && decide (t ≤ 1125899906842624)) = false := by
    unfold Inst at h
    simp only [Bool.and_eq_false_iff, decide_eq_false_iff_not]; omega
  rw [y1] at Hs
  clear y1
  go_enter Try.func71, Try.ntmps71
  go_wp2_with fail
  refine Hs.out.mono ?_
  rintro e W2 ⟨rfl, rfl⟩
  go_wp2_with fail
  go_ret2
  exact ⟨rfl, rfl⟩
theorem inst_yes (t : Int) (h : Inst t) (W : World) : Calls Try.prog 64 #[.int .i64 t] W fun e W' => e = .returned (.bool true) ∧ W' = W := by
  have Ha := Lib.hid (add_yes t h W)
  go_enter Try.func64, Try.ntmps64
  go_wp2_with fail
  refine Ha.out.mono ?_
  rintro e W2 ⟨rfl, rfl⟩
  go_wp2_with fail
  go_ret
  exact ⟨rfl, rfl⟩
theorem inst_no (t : Int) (h : ¬ Inst t) (W : World) : Calls Try.prog 64 #[.int .i64 t] W fun e W' => e = .returned (.bool false) ∧ W' = W := by
  have Ha := Lib.hid (add_no t h W)
  go_enter Try.func64, Try.ntmps64
  go_wp2_with fail
  refine Ha.out.mono ?_
  rintro e W2 ⟨rfl, rfl⟩
  go_wp2_with fail
  go_ret
  exact ⟨rfl, rfl⟩
theorem wnone_no (W : World) (w pf : Nat) (hc : W.cell? ⟨w, 5, none⟩ = some (.pointer (some ⟨pf, 0, none⟩))) (hl : w < W.heap.size) : Calls Try.prog 67 #[.pointer (some ⟨w, 0, none⟩)] W fun e W' => e = .returned (.bool false) ∧ W' = W := by
  go_enter Try.func67, Try.ntmps67
  go_wp2_with fail
  go_ret
  exact ⟨rfl, rfl⟩
def WNone (W : World) (q : Option Addr) : Prop := ∀ W', Below W.heap.size W W' → Calls Try.prog 67 #[.pointer q] W' fun e W'' => e = .returned (.bool true) ∧ W'' = W'
theorem WNone.nil (W : World) : WNone W none := fun W' _ => by
  go_enter Try.func67, Try.ntmps67
  go_wp2_with fail
  go_ret
  exact ⟨rfl, rfl⟩
theorem WNone.zero {W : World} {w : Nat} (hc : W.cell? ⟨w, 5, none⟩ = some (.pointer none)) : WNone W (some ⟨w, 0, none⟩) := fun W' hb => by
  have hl := cell?_lt hc
  have hc2 : W'.cell? ⟨w, 5, none⟩ = some (.pointer none) := (hb.cell (p := ⟨w, 5, none⟩) hl).trans hc
  have hl2 : w < W'.heap.size := Nat.lt_of_lt_of_le hl hb.size
  go_enter Try.func67, Try.ntmps67
  go_wp2_with fail
  go_ret
  exact ⟨rfl, rfl⟩
set_option maxRecDepth 100000 in
set_option maxHeartbeats 4000000 in
theorem place_any (W : World) (w : Nat) (now due : Int) (hc : W.cell? ⟨w, 0, none⟩ = some (.int .i64 now)) (hn : Inst now) (hd : Inst due) :
    Calls Try.prog 91 #[.pointer (some ⟨w, 0, none⟩), .int .i64 due] W fun e W' => e = .returned (.tuple #[.int .i64 (ringN now due : Nat), .int .i64 (slotN (ringN now due) due : Nat)]) ∧ Below W.heap.size W W' := by
  have hl := cell?_lt hc
  obtain ⟨hn1, hn2⟩ := hn
  obtain ⟨hd1, hd2⟩ := hd
  go_enter Try.func91, Try.ntmps91
  go_wp2_with fail
  go_loopw [6] (fun u wr => ∃ i : Nat, u = .int .i64 (i : Nat) ∧ i ≤ 4 ∧ Hid (i ≤ ringN now due) ∧ Below W.heap.size W wr) (fun u _ => 4 - (intOf u).toNat)
  case atStart => exact ⟨0, rfl, by omega, Nat.zero_le _, Below.refl _ _⟩
  case round =>
    obtain ⟨i, rfl, hi, hge, hb⟩ := hrel
    have hc2 : wr.cell? ⟨w, 0, none⟩ = some (.int .i64 now) := (hb.cell (p := ⟨w, 0, none⟩) hl).trans hc
    have hl2 : w < wr.heap.size := Nat.lt_of_lt_of_le hl hb.size
    have Hb := Lib.hid hb
    clear hb
    by_cases hi4 : i = 4
    · subst hi4
      have hr : ringN now due = 4 := Nat.le_antisymm (ringN_le _ _) hge.out
      have Hr := Lib.hid hr
      clear hr
      go_wp2_with fail
      go_ret2
      exact ⟨by rw [Hr.out]; rfl, Hb.out⟩
    · by_cases hdn : now < due
      · have x1 : due > now := hdn
        have hcases := Lib.hid (ring_cases now due)
        rcases (by omega : i = 0 ∨ i = 1 ∨ i = 2 ∨ i = 3) with rfl | rfl | rfl | rfl
        · by_cases hx : due / 64 = now / 64
          · have hxb : (due / 64 == now / 64) = true := by simp [hx]
            have hr : ringN now due = 0 := by
              have := hge.out
              have hc3 := hcases.out
              omega
            have Hr := Lib.hid hr
            have hs : slotN 0 due = (due % 64).toNat := by simp [slotN, wid]
            have Hs := Lib.hid hs
            have hat := atM_and (due)
            clear hr hs
            go_wp2_with fail
            go_quiet (fail)
            go_wp2_with fail
            go_quiet (fail)
            go_wp2_with fail
            go_ret2
            refine ⟨?_, below_drewN2 Hb.out _ _⟩
            rw [Hr.out, Hs.out]
            rfl
          · have hxb : (due / 64 == now / 64) = false := by simp [hx]
            have Hx := Lib.hid hx
            clear hx
            go_wp2_with fail
            go_quiet (fail)
            go_wp2_with fail
            go_roundw
            case rel => exact ⟨1, rfl, by omega, (by
              have := hge.out
              have hx2 := Hx.out
              have hc3 := hcases.out
              show 1 ≤ ringN now due
              omega), below_drewN1 Hb.out _⟩
            case measure => simp [intOf]
        · by_cases hx : due / 4096 = now / 4096
          · have hxb : (due / 4096 == now / 4096) = true := by simp [hx]
            have hr : ringN now due = 1 := by
              have := hge.out
              have hc3 := hcases.out
              omega
            have Hr := Lib.hid hr
            have hs : slotN 1 due = (due / 64 % 64).toNat := by simp [slotN, wid]
            have Hs := Lib.hid hs
            have hat := atM_and (due / 64)
            clear hr hs
            go_wp2_with fail
            go_quiet (fail)
            go_wp2_with fail
            go_quiet (fail)
            go_wp2_with fail
            go_ret2
            refine ⟨?_, below_drewN2 Hb.out _ _⟩
            rw [Hr.out, Hs.out]
            rfl
          · have hxb : (due / 4096 == now / 4096) = false := by simp [hx]
            have Hx := Lib.hid hx
            clear hx
            go_wp2_with fail
            go_quiet (fail)
            go_wp2_with fail
            go_roundw
            case rel => exact ⟨2, rfl, by omega, (by
              have := hge.out
              have hx2 := Hx.out
              have hc3 := hcases.out
              show 2 ≤ ringN now due
              omega), below_drewN1 Hb.out _⟩
            case measure => simp [intOf]
        · by_cases hx : due / 262144 = now / 262144
          · have hxb : (due / 262144 == now / 262144) = true := by simp [hx]
            have hr : ringN now due = 2 := by
              have := hge.out
              have hc3 := hcases.out
              omega
            have Hr := Lib.hid hr
            have hs : slotN 2 due = (due / 4096 % 64).toNat := by simp [slotN, wid]
            have Hs := Lib.hid hs
            have hat := atM_and (due / 4096)
            clear hr hs
            go_wp2_with fail
            go_quiet (fail)
            go_wp2_with fail
            go_quiet (fail)
            go_wp2_with fail
            go_ret2
            refine ⟨?_, below_drewN2 Hb.out _ _⟩
            rw [Hr.out, Hs.out]
            rfl
          · have hxb : (due / 262144 == now / 262144) = false := by simp [hx]
            have Hx := Lib.hid hx
            clear hx
            go_wp2_with fail
            go_quiet (fail)
            go_wp2_with fail
            go_roundw
            case rel => exact ⟨3, rfl, by omega, (by
              have := hge.out
              have hx2 := Hx.out
              have hc3 := hcases.out
              show 3 ≤ ringN now due
              omega), below_drewN1 Hb.out _⟩
            case measure => simp [intOf]
        · by_cases hx : due / 16777216 = now / 16777216
          · have hxb : (due / 16777216 == now / 16777216) = true := by simp [hx]
            have hr : ringN now due = 3 := by
              have := hge.out
              have hc3 := hcases.out
              omega
            have Hr := Lib.hid hr
            have hs : slotN 3 due = (due / 262144 % 64).toNat := by simp [slotN, wid]
            have Hs := Lib.hid hs
            have hat := atM_and (due / 262144)
            clear hr hs
            go_wp2_with fail
            go_quiet (fail)
            go_wp2_with fail
            go_quiet (fail)
            go_wp2_with fail
            go_ret2
            refine ⟨?_, below_drewN2 Hb.out _ _⟩
            rw [Hr.out, Hs.out]
            rfl
          · have hxb : (due / 16777216 == now / 16777216) = false := by simp [hx]
            have Hx := Lib.hid hx
            clear hx
            go_wp2_with fail
            go_quiet (fail)
            go_wp2_with fail
            go_roundw
            case rel => exact ⟨4, rfl, by omega, (by
              have := hge.out
              have hx2 := Hx.out
              have hc3 := hcases.out
              show 4 ≤ ringN now due
              omega), below_drewN1 Hb.out _⟩
            case measure => simp [intOf]
      · have x1 : ¬ due > now := hdn
        have hld : ∀ W', Below wr.heap.size wr W' → (Instr.loadAt 2 (.pointer (some ⟨w, 0, none⟩))).run Try.prog W' = .ok (.int .i64 now) W' := fun W' hw => by
          have hc3 : W'.cell? ⟨w, 0, none⟩ = some (.int .i64 now) := (hw.cell (p := ⟨w, 0, none⟩) hl2).trans hc2
          go_simp
        have hr : ringN now due = 4 := by unfold ringN; rw [if_pos (by omega)]
        have Hr := Lib.hid hr
        have hi3 : i < 4 := by omega
        have x2 : (i : Int) < 4 := by omega
        have w1 : wrap64 ((i : Int) + 1) = (i : Int) + 1 := IntWalk.wrap64_in _ (by omega)
        clear hr
        go_upto_region 4 with fail
        go_cut [6, 30] (fun v u wx => v = .int .i64 (i : Nat) ∧ u = .bool false ∧ Below wr.heap.size wr wx)
        case first =>
          refine wp_region_held_drew (S := fun W' => (Instr.loadAt 2 (.pointer (some ⟨w, 0, none⟩))).run Try.prog W' = .ok (.int .i64 now) W') (by kernel_rfl) (hld wr.drew (Below.refl _ _).drew) (fun hHeld => ?_)
          refine wpAnyH_take (i := 0) (v := ?_) rfl (by kernel_rfl) (by kernel_rfl) (by kernel_rfl) (fun _ _ _ h => h) (Or.inl ⟨by rfl, ?_⟩) (by assumption) ?_
          rotate_left
          · intro w8 hSw; clear hSw; go_simp; (try with_reducible rfl)
          simp only [Act.put, List.getElem_toArray, List.getElem_cons_zero, List.getElem_cons_succ, List.setIfInBounds_toArray, List.set_cons_zero, List.set_cons_succ]
          refine wpAnyH_take (i := 1) (v := ?_) rfl (by kernel_rfl) (by kernel_rfl) (by kernel_rfl) (fun _ _ _ h => h) (Or.inl ⟨by rfl, ?_⟩) (by assumption) ?_
          rotate_left
          · intro w8 hSw; clear hSw; go_simp; (try with_reducible rfl)
          simp only [Act.put, List.getElem_toArray, List.getElem_cons_zero, List.getElem_cons_succ, List.setIfInBounds_toArray, List.set_cons_zero, List.set_cons_succ]
          refine wpAnyH_take (i := 2) (v := ?_) rfl (by kernel_rfl) (by kernel_rfl) (by kernel_rfl) (fun _ _ _ h => h) (Or.inl ⟨by rfl, ?_⟩) (by assumption) ?_
          rotate_left
          · intro w8 hSw; clear hSw; go_simp; (try with_reducible rfl)
          simp only [Act.put, List.getElem_toArray, List.getElem_cons_zero, List.getElem_cons_succ, List.setIfInBounds_toArray, List.set_cons_zero, List.set_cons_succ]
          refine wpAnyH_take (i := 3) (v := ?_) rfl (by kernel_rfl) (by kernel_rfl) (by kernel_rfl) (fun _ _ _ h => h) (Or.inl ⟨by rfl, ?_⟩) (by assumption) ?_
          rotate_left
          · intro w8 hSw; clear hSw; go_simp; (try with_reducible rfl)
          simp only [Act.put, List.getElem_toArray, List.getElem_cons_zero, List.getElem_cons_succ, List.setIfInBounds_toArray, List.set_cons_zero, List.set_cons_succ]
          refine wpAnyH_take (i := 4) (v := .int .i64 now) rfl (by kernel_rfl) (by kernel_rfl) (by kernel_rfl) (fun _ _ _ h => h) (Or.inl ⟨by rfl, ?_⟩) (by assumption) ?_
          · intro w8 hSw; exact ld_takeT rfl hSw rfl
          simp only [Act.put, List.getElem_toArray, List.getElem_cons_zero, List.getElem_cons_succ, List.setIfInBounds_toArray, List.set_cons_zero, List.set_cons_succ]
          refine wpAnyH_take (i := 5) (v := ?_) rfl (by kernel_rfl) (by kernel_rfl) (by kernel_rfl) (fun _ _ _ h => h) (Or.inl ⟨by rfl, ?_⟩) (by assumption) ?_
          rotate_left
          · intro w8 hSw; clear hSw; go_simp; (try with_reducible rfl)
          simp only [Act.put, List.getElem_toArray, List.getElem_cons_zero, List.getElem_cons_succ, List.setIfInBounds_toArray, List.set_cons_zero, List.set_cons_succ]
          refine wpAnyH_take (i := 6) (v := ?_) rfl (by kernel_rfl) (by kernel_rfl) (by kernel_rfl) (fun _ _ _ h => h) (Or.inl ⟨by rfl, ?_⟩) (by assumption) ?_
          rotate_left
          · intro w8 hSw; clear hSw; go_simp; (try with_reducible rfl)
          simp only [Act.put, List.getElem_toArray, List.getElem_cons_zero, List.getElem_cons_succ, List.setIfInBounds_toArray, List.set_cons_zero, List.set_cons_succ]
          refine wpAnyH_take (i := 7) rfl (by kernel_rfl) (by kernel_rfl) (by kernel_rfl) (fun _ _ _ h => h) (Or.inr ⟨by rfl, rfl⟩) (by assumption) ?_
          simp only [Act.put, List.getElem_toArray, List.getElem_cons_zero, List.getElem_cons_succ, List.setIfInBounds_toArray, List.set_cons_zero, List.set_cons_succ]
          refine wpAnyH_take (i := 8) rfl (by kernel_rfl) (by kernel_rfl) (by kernel_rfl) (fun _ _ _ h => h) (Or.inr ⟨by rfl, rfl⟩) (by assumption) ?_
          simp only [Act.put, List.getElem_toArray, List.getElem_cons_zero, List.getElem_cons_succ, List.setIfInBounds_toArray, List.set_cons_zero, List.set_cons_succ]
          refine wpAnyH_take (i := 9) rfl (by kernel_rfl) (by kernel_rfl) (by kernel_rfl) (fun _ _ _ h => h) (Or.inr ⟨by rfl, rfl⟩) (by assumption) ?_
          simp only [Act.put, List.getElem_toArray, List.getElem_cons_zero, List.getElem_cons_succ, List.setIfInBounds_toArray, List.set_cons_zero, List.set_cons_succ]
          refine wpAnyH_take (i := 10) rfl (by kernel_rfl) (by kernel_rfl) (by kernel_rfl) (fun _ _ _ h => h) (Or.inr ⟨by rfl, rfl⟩) (by assumption) ?_
          simp only [Act.put, List.getElem_toArray, List.getElem_cons_zero, List.getElem_cons_succ, List.setIfInBounds_toArray, List.set_cons_zero, List.set_cons_succ]
          refine wpAnyH_take (i := 11) rfl (by kernel_rfl) (by kernel_rfl) (by kernel_rfl) (fun _ _ _ h => h) (Or.inr ⟨by rfl, rfl⟩) (by assumption) ?_
          simp only [Act.put, List.getElem_toArray, List.getElem_cons_zero, List.getElem_cons_succ, List.setIfInBounds_toArray, List.set_cons_zero, List.set_cons_succ]
          refine wpAnyH_take (i := 12) rfl (by kernel_rfl) (by kernel_rfl) (by kernel_rfl) (fun _ _ _ h => h) (Or.inr ⟨by rfl, rfl⟩) (by assumption) ?_
          simp only [Act.put, List.getElem_toArray, List.getElem_cons_zero, List.getElem_cons_succ, List.setIfInBounds_toArray, List.set_cons_zero, List.set_cons_succ]
          refine wpAnyH_take (i := 13) rfl (by kernel_rfl) (by kernel_rfl) (by kernel_rfl) (fun _ _ _ h => h) (Or.inr ⟨by rfl, rfl⟩) (by assumption) ?_
          simp only [Act.put, List.getElem_toArray, List.getElem_cons_zero, List.getElem_cons_succ, List.setIfInBounds_toArray, List.set_cons_zero, List.set_cons_succ]
          refine wpAnyH_take (i := 14) rfl (by kernel_rfl) (by kernel_rfl) (by kernel_rfl) (fun _ _ _ h => h) (Or.inr ⟨by rfl, rfl⟩) (by assumption) ?_
          simp only [Act.put, List.getElem_toArray, List.getElem_cons_zero, List.getElem_cons_succ, List.setIfInBounds_toArray, List.set_cons_zero, List.set_cons_succ]
          refine wpAnyH_take (i := 15) rfl (by kernel_rfl) (by kernel_rfl) (by kernel_rfl) (fun _ _ _ h => h) (Or.inr ⟨by rfl, rfl⟩) (by assumption) ?_
          simp only [Act.put, List.getElem_toArray, List.getElem_cons_zero, List.getElem_cons_succ, List.setIfInBounds_toArray, List.set_cons_zero, List.set_cons_succ]
          refine wpAnyH_take (i := 16) rfl (by kernel_rfl) (by kernel_rfl) (by kernel_rfl) (fun _ _ _ h => h) (Or.inr ⟨by rfl, rfl⟩) (by assumption) ?_
          simp only [Act.put, List.getElem_toArray, List.getElem_cons_zero, List.getElem_cons_succ, List.setIfInBounds_toArray, List.set_cons_zero, List.set_cons_succ]
          refine wpAnyH_take (i := 17) rfl (by kernel_rfl) (by kernel_rfl) (by kernel_rfl) (fun _ _ _ h => h) (Or.inr ⟨by rfl, rfl⟩) (by assumption) ?_
          simp only [Act.put, List.getElem_toArray, List.getElem_cons_zero, List.getElem_cons_succ, List.setIfInBounds_toArray, List.set_cons_zero, List.set_cons_succ]
          refine wpAnyH_take (i := 18) rfl (by kernel_rfl) (by kernel_rfl) (by kernel_rfl) (fun _ _ _ h => h) (Or.inr ⟨by rfl, rfl⟩) (by assumption) ?_
          simp only [Act.put, List.getElem_toArray, List.getElem_cons_zero, List.getElem_cons_succ, List.setIfInBounds_toArray, List.set_cons_zero, List.set_cons_succ]
          refine wpAnyH_take (i := 19) rfl (by kernel_rfl) (by kernel_rfl) (by kernel_rfl) (fun _ _ _ h => h) (Or.inr ⟨by rfl, rfl⟩) (by assumption) ?_
          simp only [Act.put, List.getElem_toArray, List.getElem_cons_zero, List.getElem_cons_succ, List.setIfInBounds_toArray, List.set_cons_zero, List.set_cons_succ]
          refine wpAnyH_take (i := 20) rfl (by kernel_rfl) (by kernel_rfl) (by kernel_rfl) (fun _ _ _ h => h) (Or.inr ⟨by rfl, rfl⟩) (by assumption) ?_
          simp only [Act.put, List.getElem_toArray, List.getElem_cons_zero, List.getElem_cons_succ, List.setIfInBounds_toArray, List.set_cons_zero, List.set_cons_succ]
          refine wpAnyH_take (i := 21) (v := ?_) rfl (by kernel_rfl) (by kernel_rfl) (by kernel_rfl) (fun _ _ _ h => h) (Or.inl ⟨by rfl, ?_⟩) (by assumption) ?_
          rotate_left
          · intro w8 hSw; clear hSw; go_simp; (try with_reducible rfl)
          simp only [Act.put, List.getElem_toArray, List.getElem_cons_zero, List.getElem_cons_succ, List.setIfInBounds_toArray, List.set_cons_zero, List.set_cons_succ]
          refine wpAnyH_done (by kernel_rfl) ?_ _
          go_wp2_with fail
          go_meet
          exact ⟨rfl, rfl, (Below.refl _ _).drew⟩
        case rest =>
          obtain ⟨rfl, rfl, hB5⟩ := hcut
          go_wp2_with fail
          go_roundw
          case rel => exact ⟨i + 1, by first | rfl | rw [w1]; rfl, hi3, (by show i + 1 ≤ ringN now due; rw [Hr.out]; exact hi3), below_on Hb.out hB5 (Nat.le_refl _)⟩
          case measure =>
            first | rw [w1] | skip
            exact meas4 i hi3
end Go.Proofs.Ytedlplkomfiahaa
namespace Go.Proofs.Ytedlplkomfiahaa
set_option linter.unusedVariables false
set_option linter.unusedSimpArgs false
set_option linter.unusedSectionVars false
open Go Go.RowKit Go.Maps
abbrev rpT : TypeId := 113
theorem Whm.cells {W : World} {F : Nat → Prop} {G : Nat → Nat → Prop} {w : Nat} {now : Int} {rs : Nat → Nat} {pf mf n : Nat} {R : Nat → RLs} {far : List Th} (h : Whm W F G w now rs pf mf n R far) :
    W.cell? ⟨w, 0, none⟩ = some (.int .i64 now) ∧ W.cell? ⟨w, 1, none⟩ = some (.pointer (some ⟨rs 0, 0, none⟩)) ∧ W.cell? ⟨w, 2, none⟩ = some (.pointer (some ⟨rs 1, 0, none⟩)) ∧ W.cell? ⟨w, 3, none⟩ = some (.pointer (some ⟨rs 2, 0, none⟩)) ∧ W.cell? ⟨w, 4, none⟩ = some (.pointer (some ⟨rs 3, 0, none⟩)) ∧ W.cell? ⟨w, 5, none⟩ = some (.pointer (some ⟨pf, 0, none⟩)) ∧ W.cell? ⟨pf, 0, none⟩ = some (.map (some mf)) ∧ w < W.heap.size ∧ pf < W.heap.size := by
  have a0 := block_cell h.blk 0
  have a1 := block_cell h.blk 1
  have a2 := block_cell h.blk 2
  have a3 := block_cell h.blk 3
  have a4 := block_cell h.blk 4
  have a5 := block_cell h.blk 5
  have b0 := block_cell h.fblk 0
  simp at a0 a1 a2 a3 a4 a5 b0
  exact ⟨a0, a1, a2, a3, a4, a5, b0, h.bd w h.fw, h.bd pf h.ff⟩
theorem Whm.rcell {W : World} {F : Nat → Prop} {G : Nat → Nat → Prop} {w : Nat} {now : Int} {rs : Nat → Nat} {pf mf n : Nat} {R : Nat → RLs} {far : List Th} (h : Whm W F G w now rs pf mf n R far) (k : Nat) (hk : k < 4) :
    W.cell? ⟨w, 1 + k, none⟩ = some (.pointer (some ⟨rs k, 0, none⟩)) := by
  obtain ⟨a0, a1, a2, a3, a4, -⟩ := h.cells
  rcases (by omega : k = 0 ∨ k = 1 ∨ k = 2 ∨ k = 3) with rfl | rfl | rfl | rfl
  · exact a1
  · exact a2
  · exact a3
  · exact a4
theorem Whm.same {W : World} {F : Nat → Prop} {G : Nat → Nat → Prop} {w : Nat} {now : Int} {rs : Nat → Nat} {pf mf n : Nat} {R R' : Nat → RLs} {far far' : List Th} (h : Whm W F G w now rs pf mf n R far) (hR : ∀ k, k < 4 → R k = R' k) (hf : far = far') : Whm W F G w now rs pf mf n R' far' := by
  subst hf
  exact ⟨h.blk, h.fblk, fun k hk => by rw [← hR k hk]; exact h.ring k hk, h.apart, h.sub, h.out, h.fw, h.ff, h.fm, h.bd, h.map⟩
theorem loadP {W : World} {b o : Nat} {q : Option Addr} (c : W.cell? ⟨b, o, none⟩ = some (.pointer q)) : (Instr.loadAt rpT (.pointer (some ⟨b, o, none⟩))).run Try.prog W = .ok (.pointer q) W := by go_simp
theorem loadTh {W : World} {b o : Nat} {t : Th} (h0 : W.cell? ⟨b, o, none⟩ = some (.int .u64 t.id)) (h1 : W.cell? ⟨b, o + 1, none⟩ = some (.int .u64 t.gen)) (h2 : W.cell? ⟨b, o + 2, none⟩ = some (.int .i64 t.due)) : (Instr.loadAt thT (.pointer (some ⟨b, o, none⟩))).run Try.prog W = .ok (thVal t) W := by
  unfold thVal
  go_simp
theorem fmapset_run {W : World} {b n : Nat} {D : DataW Unit} (h : W.ownsMap Try.prog 28 thElem b n D) (hn : n < 1000000) (t : Th) (hw : IdOk t.id) :
    ∃ W', (Instr.mapUpdate mfT (.map (some b)) (.int .u64 t.id) (thVal t)).run Try.prog W = .ok () W' ∧ W'.ownsMap Try.prog 28 thElem b (n + 1) (D.put (.int .u64 t.id) (thD t)) ∧ W.grownBy W' (some b) :=
  h.update u64law Try.underlying26 (by unfold maxLen; omega) (keyOf_int_mk Try.underlying28 hw.wf) (thElem_mk t)
theorem fpairs_snoc (l : List Th) (t : Th) : fpairs (l ++ [t]) = fpairs l ++ [(t.id, thD t)] := by simp [fpairs]
def putF (far : List Th) (now : Int) (t : Th) : List Th := if ringN now t.due = 4 then far ++ [t] else far
def putR (R : Nat → RLs) (now : Int) (t : Th) : Nat → RLs := fun k => if ringN now t.due = k then R k ++ [(t, slotN k t.due)] else R k
/-- all that waits -/
def Tot (R : Nat → RLs) (far : List Th) : List Th := far ++ ((R 0).map (·.1) ++ ((R 1).map (·.1) ++ ((R 2).map (·.1) ++ (R 3).map (·.1))))
theorem Tot.ring {R : Nat → RLs} {far : List Th} {k : Nat} (hk : k < 4) {p : Th × Nat} (hp : p ∈ R k) : p.1 ∈ Tot R far := by
  unfold Tot
  have hm : p.1 ∈ (R k).map (·.1) := List.mem_map.2 ⟨p, hp, rfl⟩
  simp only [List.mem_append]
  rcases (by omega : k = 0 ∨ k = 1 ∨ k = 2 ∨ k = 3) with rfl | rfl | rfl | rfl
  · exact .inr (.inl hm)
  · exact .inr (.inr (.inl hm))
  · exact .inr (.inr (.inr (.inl hm)))
  · exact .inr (.inr (.inr (.inr hm)))
theorem Tot.far {R : Nat → RLs} {far : List Th} {t : Th} (ht : t ∈ far) : t ∈ Tot R far := by
  unfold Tot
  simp only [List.mem_append]
  exact .inl ht
theorem Tot.mem {R : Nat → RLs} {far : List Th} {t : Th} (h : t ∈ Tot R far) : t ∈ far ∨ ∃ k, k < 4 ∧ ∃ p ∈ R k, p.1 = t := by
  unfold Tot at h
  simp only [List.mem_append, List.mem_map] at h
  rcases h with h | ⟨p, h, e⟩ | ⟨p, h, e⟩ | ⟨p, h, e⟩ | ⟨p, h, e⟩
  · exact .inl h
  · exact .inr ⟨0, by decide, p, h, e⟩
  · exact .inr ⟨1, by decide, p, h, e⟩
  · exact .inr ⟨2, by decide, p, h, e⟩
  · exact .inr ⟨3, by decide, p, h, e⟩
/-- what a call that writes the wheel leaves -/
def Wd (W : World) (F : Nat → Prop) (w : Nat) (now : Int) (rs : Nat → Nat) (pf mf n : Nat) (R : Nat → RLs) (far : List Th) (W' : World) : Prop :=
  ∃ F' G', Whm W' F' G' w now rs pf mf n R far ∧ Gr F W W' ∧ ∀ i, F' i → F i ∨ W.heap.size ≤ i
/-- what put loads -/
def LdS (w k p r : Nat) (t : Th) (W' : World) : Prop := (Instr.loadAt rpT (.pointer (some ⟨w, 1 + k, none⟩))).run Try.prog W' = .ok (.pointer (some ⟨r, 0, none⟩)) W' ∧ (Instr.loadAt thT (.pointer (some ⟨p, 0, none⟩))).run Try.prog W' = .ok (thVal t) W'
set_option maxRecDepth 100000 in
set_option maxHeartbeats 4000000 in
theorem wput_any (W : World) (F : Nat → Prop) (G : Nat → Nat → Prop) (w : Nat) (now : Int) (rs : Nat → Nat) (pf mf n : Nat) (R : Nat → RLs) (far : List Th) (t : Th) (h : Whm W F G w now rs pf mf n R far) (hnow : Inst now) (hd : Inst t.due) (hw : IdOk t.id) (hn : n < 1000000) (hf : ∀ u ∈ Tot R far, u.id ≠ t.id) :
    Calls Try.prog 73 #[.pointer (some ⟨w, 0, none⟩), thVal t] W fun e W' => e = .returned (.tuple #[]) ∧ Wd W F w now rs pf mf (n + 1) (putR R now t) (putF far now t) W' := by
  obtain ⟨ti, tg, td⟩ := t
  obtain ⟨p, hp⟩ : ∃ p, p = W.heap.size := ⟨_, rfl⟩
  obtain ⟨W1, hW1⟩ : ∃ W1, W1 = W.alloc (.cells #[.int .u64 ti, .int .u64 tg, .int .i64 td] thT) := ⟨_, rfl⟩
  have hB1 : Below W.heap.size W W1 := by rw [hW1]; exact below_new _ _
  have ht1 : W1.heap[p]? = some (.cells #[.int .u64 ti, .int .u64 tg, .int .i64 td] thT (0, 0)) := by rw [hW1, hp]; exact heap_alloc_new _ _
  have hcs : ∀ W', Below W1.heap.size W1 W' → W'.cell? ⟨p, 0, none⟩ = some (.int .u64 ti) ∧ W'.cell? ⟨p, 1, none⟩ = some (.int .u64 tg) ∧ W'.cell? ⟨p, 2, none⟩ = some (.int .i64 td) ∧ p < W'.heap.size := fun W' hw => by
    have a := (hw.block _ (Array.getElem?_eq_some_iff.1 ht1).1).trans ht1
    have a0 := block_cell a 0
    have a1 := block_cell a 1
    have a2 := block_cell a 2
    simp at a0 a1 a2
    exact ⟨a0, a1, a2, (Array.getElem?_eq_some_iff.1 a).1⟩
  have h1 := h.below hB1
  obtain ⟨c0, c1, c2, hpl⟩ := hcs W1 (Below.refl _ _)
  have Hpl := Lib.hid (place_any W1 w now td h1.cells.1 hnow hd)
  have HB1 := Lib.hid hB1
  have Hcs := Lib.hid hcs
  have H := Lib.hid h
  have Ht1 := Lib.hid ht1
  have Hp := Lib.hid hp
  obtain ⟨k, hk⟩ : ∃ k, k = ringN now td := ⟨_, rfl⟩
  obtain ⟨s, hs⟩ : ∃ s, s = slotN k td := ⟨_, rfl⟩
  rw [← hk, ← hs] at Hpl
  have hk4 : k ≤ 4 := by rw [hk]; exact ringN_le _ _
  have hs6 : s < 64 := by rw [hs]; exact slotN_lt _ _
  have HK := Lib.hid hk
  have HS := Lib.hid hs
  have Hf := Lib.hid hf
  clear hf hk hs h h1 hB1 ht1 hcs
  unfold thVal
  go_enter Try.func73, Try.ntmps73
  go_wp2_with fail
  rw [← hW1, ← hp]
  clear hW1 hp
  refine Hpl.out.mono ?_
  rintro e W2 ⟨rfl, hB2⟩
  have hB12 := below_on HB1.out hB2 (Nat.le_refl _)
  have h2 := H.out.below hB12
  have HB12 := Lib.hid hB12
  obtain ⟨d0, d1, d2, hpl2⟩ := Hcs.out W2 hB2
  have Hb2 := Lib.hid hB2
  clear Hpl hB2 hB12 c0 c1 c2 hpl
  by_cases e4 : k = 4
  · subst e4
    obtain ⟨a0, a1, a2, a3, a4, a5, b0, hwl, hfl⟩ := h2.cells
    obtain ⟨D, hD, hE⟩ := h2.map
    have hfr : ∀ u ∈ far, u.id ≠ ti := fun u hu => Hf.out u (Tot.far hu)
    obtain ⟨W6, hupd, hD6, hg6⟩ := fmapset_run (W := W2.drew) hD hn ⟨ti, tg, td⟩ hw
    have hE6 : MapL (D.put (.int .u64 ti) (thD ⟨ti, tg, td⟩)) (fpairs (far ++ [(⟨ti, tg, td⟩ : Th)])) := by
      rw [fpairs_snoc]
      exact hE.put ti _ (fun p hp => by
        obtain ⟨q, hq, rfl⟩ := List.mem_map.1 hp
        exact hfr q hq)
    have h2d : Whm W2.drew F G w now rs pf mf n R far := h2.kept (Nat.le_refl _) fun _ _ => rfl
    have hm6 := h2d.turn hg6 hD6 hE6 (Nat.le_succ n)
    have hfin : Wd W F w now rs pf mf (n + 1) (putR R now ⟨ti, tg, td⟩) (putF far now ⟨ti, tg, td⟩) W6 := by
      refine ⟨F, G, hm6.1.same (fun j hj => ?_) ?_, (Gr.below HB12.out).trans ((Gr.refl F W2).drew.trans hm6.2), fun i hi => .inl hi⟩
      · unfold putR
        simp only
        rw [if_neg (by rw [← HK.out]; omega)]
      · unfold putF
        simp only
        rw [if_pos HK.out.symm]
    have Hfin := Lib.hid hfin
    unfold thVal at hupd
    clear hfin hm6 h2d hE6 hfr hD6 hg6 hD hE h2
    go_wp2_with fail
    go_region
    all_goals
      go_wp2_with fail
      exact bodyPost_ret (results_none rfl _ _ _) rfl ⟨rfl, Hfin.out⟩
  · have hk3 : k < 4 := by omega
    have x4 : ((k : Int) == 4) = false := by simp; omega
    have hrc := h2.rcell k hk3
    have hrg := h2.ring k hk3
    have hfr : ∀ p ∈ R k, p.1.id ≠ ti := fun q hq => Hf.out q.1 (Tot.ring hk3 hq)
    have hpw : ¬ F p := fun hF => by have h5 := H.out.bd p hF; have h6 := HB1.out.size; have h7 := Hp.out; omega
    have hcell : ∀ W', W'.cell? ⟨w, 1 + k, none⟩ = some (.pointer (some ⟨rs k, 0, none⟩)) → W'.heap[p]? = W1.heap[p]? → LdS w k p (rs k) ⟨ti, tg, td⟩ W' := fun W' g1 g2 => by
      have a := g2.trans Ht1.out
      have a0 := block_cell a 0
      have a1 := block_cell a 1
      have a2 := block_cell a 2
      simp at a0 a1 a2
      exact ⟨loadP g1, loadTh (t := ⟨ti, tg, td⟩) a0 a1 a2⟩
    have hwl := h2.cells.2.2.2.2.2.2.2.1
    have hblk : ∀ W', Below W2.heap.size W2 W' → W'.heap[p]? = W1.heap[p]? := fun W' hw => (below_on Hb2.out hw (Nat.le_refl _)).block p (Array.getElem?_eq_some_iff.1 Ht1.out).1
    have hld : ∀ W', Below W2.heap.size W2 W' → LdS w k p (rs k) ⟨ti, tg, td⟩ W' := fun W' hw => hcell W' ((hw.cell (p := ⟨w, 1 + k, none⟩) hwl).trans hrc) (hblk W' hw)
    have hpt : ∀ W', Below W2.heap.size W2 W' → Calls Try.prog 92 #[.pointer (some ⟨rs k, 0, none⟩), .int .i64 (s : Nat), .agg #[.int .u64 ti, .int .u64 tg, .int .i64 td]] W' fun e W'' => e = .returned (.int .i64 0) ∧ Wd W F w now rs pf mf (n + 1) (putR R now ⟨ti, tg, td⟩) (putF far now ⟨ti, tg, td⟩) W'' ∧ LdS w k p (rs k) ⟨ti, tg, td⟩ W'' := fun W' hw' => by
      refine (put_ok W' (G k) (rs k) n s (R k) ⟨ti, tg, td⟩ (hrg.below hw') hs6 hfr hw hn).mono ?_
      rintro e W'' ⟨rfl, hR, hG⟩
      have hst := (h2.below hw').step k hk3 _ hR (Nat.le_succ n) hG
      have hB := below_on HB12.out hw' (Nat.le_refl _)
      refine ⟨rfl, ⟨_, _, hst.1.same (fun j hj => ?_) ?_, (Gr.below hB).trans hst.2, fun i hi => hi.imp id (fun x => Nat.le_trans hB.size x.1)⟩, hcell W'' (hst.1.rcell k hk3) ((hst.2.block p (Nat.lt_of_lt_of_le hpl2 hw'.size) hpw).trans (hblk W' hw'))⟩
      · unfold updF putR
        simp only
        rw [← HK.out]
        by_cases e : j = k
        · subst e; simp only [if_true]; rw [← HS.out]
        · rw [if_neg e, if_neg (Ne.symm e)]
      · unfold putF
        simp only
        rw [if_neg (by rw [← HK.out]; omega)]
    have Hld := Lib.hid hld
    have Hpt := Lib.hid hpt
    clear hld hpt hfr hrg hrc h2 hblk hcell hpw
    go_wp2_with fail
    refine wp_region_held_drew (S := fun W' => LdS w k p (rs k) ⟨ti, tg, td⟩ W') (by kernel_rfl) (Hld.out _ (Below.refl _ W2).drew) (fun hHeld => ?_)
    have hB8 : Below W2.heap.size W2 W2.drew := (Below.refl _ W2).drew
    refine wpAnyH_take (i := 0) (v := ?_) rfl (by kernel_rfl) (by kernel_rfl) (by kernel_rfl) (fun _ _ _ h => h) (Or.inl ⟨by rfl, ?_⟩) (by assumption) ?_
    rotate_left
    · intro w8 hSw; clear hSw; go_simp; (try with_reducible rfl)
    simp only [Act.put, List.getElem_toArray, List.getElem_cons_zero, List.getElem_cons_succ, List.setIfInBounds_toArray, List.set_cons_zero, List.set_cons_succ]
    refine wpAnyH_take (i := 1) (v := ?_) rfl (by kernel_rfl) (by kernel_rfl) (by kernel_rfl) (fun _ _ _ h => h) (Or.inl ⟨by rfl, ?_⟩) (by assumption) ?_
    rotate_left
    · intro w8 hSw; clear hSw; go_simp; (try with_reducible rfl)
    simp only [Act.put, List.getElem_toArray, List.getElem_cons_zero, List.getElem_cons_succ, List.setIfInBounds_toArray, List.set_cons_zero, List.set_cons_succ]
    refine wpAnyH_take (i := 2) (v := ?_) rfl (by kernel_rfl) (by kernel_rfl) (by kernel_rfl) (fun _ _ _ h => h) (Or.inl ⟨by rfl, ?_⟩) (by assumption) ?_
    rotate_left
    · intro w8 hSw; clear hSw; go_simp; (try with_reducible rfl)
    simp only [Act.put, List.getElem_toArray, List.getElem_cons_zero, List.getElem_cons_succ, List.setIfInBounds_toArray, List.set_cons_zero, List.set_cons_succ]
    refine wpAnyH_take (i := 3) (v := ?_) rfl (by kernel_rfl) (by kernel_rfl) (by kernel_rfl) (fun _ _ _ h => h) (Or.inl ⟨by rfl, ?_⟩) (by assumption) ?_
    rotate_left
    · intro w8 hSw; clear hSw; go_simp; (try with_reducible rfl)
    simp only [Act.put, List.getElem_toArray, List.getElem_cons_zero, List.getElem_cons_succ, List.setIfInBounds_toArray, List.set_cons_zero, List.set_cons_succ]
    refine wpAnyH_take (i := 4) (v := .pointer (some ⟨w, 1 + k, none⟩)) rfl (by kernel_rfl) (by kernel_rfl) (by kernel_rfl) (fun _ _ _ h => h) (Or.inl ⟨by rfl, ?_⟩) (by assumption) ?_
    · intro w8 hSw; clear hSw; go_simp; intro h4; omega
    simp only [Act.put, List.getElem_toArray, List.getElem_cons_zero, List.getElem_cons_succ, List.setIfInBounds_toArray, List.set_cons_zero, List.set_cons_succ]
    refine wpAnyH_take (i := 5) (v := .pointer (some ⟨rs k, 0, none⟩)) rfl (by kernel_rfl) (by kernel_rfl) (by kernel_rfl) (fun _ _ _ h => h) (Or.inl ⟨by rfl, ?_⟩) (by assumption) ?_
    · intro w8 hSw; exact ld_takeT rfl hSw.1 rfl
    simp only [Act.put, List.getElem_toArray, List.getElem_cons_zero, List.getElem_cons_succ, List.setIfInBounds_toArray, List.set_cons_zero, List.set_cons_succ]
    refine wpAnyH_take (i := 6) (v := ?_) rfl (by kernel_rfl) (by kernel_rfl) (by kernel_rfl) (fun _ _ _ h => h) (Or.inl ⟨by rfl, ?_⟩) (by assumption) ?_
    rotate_left
    · intro w8 hSw; clear hSw; go_simp; (try with_reducible rfl)
    simp only [Act.put, List.getElem_toArray, List.getElem_cons_zero, List.getElem_cons_succ, List.setIfInBounds_toArray, List.set_cons_zero, List.set_cons_succ]
    refine wpAnyH_take (i := 7) (v := thVal ⟨ti, tg, td⟩) rfl (by kernel_rfl) (by kernel_rfl) (by kernel_rfl) (fun _ _ _ h => h) (Or.inl ⟨by rfl, ?_⟩) (by assumption) ?_
    · intro w8 hSw; exact ld_takeT rfl hSw.2 rfl
    simp only [Act.put, List.getElem_toArray, List.getElem_cons_zero, List.getElem_cons_succ, List.setIfInBounds_toArray, List.set_cons_zero, List.set_cons_succ]
    try unfold thVal
    refine wpAnyH_ready (rs := [8]) (by kernel_rfl) (by simp) ?_
    refine AllReadyH.cons rfl (fun K hK => ?_) AllReadyH.nil
    go_simp
    go_at_call 92
    refine (Hpt.out _ hB8).mono ?_
    rintro e V1 ⟨rfl, hfin, hS8⟩
    refine hK.out _ _ hS8 (fun hHeld => ?_)
    clear hK K
    try simp only [Act.put, List.getElem_toArray, List.getElem_cons_zero, List.getElem_cons_succ, List.setIfInBounds_toArray, List.set_cons_zero, List.set_cons_succ]
    refine wpAnyH_done (by kernel_rfl) ?_ _
    go_wp2_with fail
    exact bodyPost_end (results_none rfl _ _ _) rfl ⟨rfl, hfin⟩
end Go.Proofs.Ytedlplkomfiahaa
namespace Go.Proofs.Ytedlplkomfiahaa
set_option linter.unusedVariables false
set_option linter.unusedSimpArgs false
set_option linter.unusedSectionVars false
open Go Go.RowKit Go.Maps
abbrev fiT : TypeId := 122
abbrev raT : TypeId := 114
theorem idx4 (a b c d : Option Addr) (V : World) : (Instr.index raT (.agg #[.pointer a, .pointer b, .pointer c, .pointer d]) (.int .i64 0)).run Try.prog V = .ok (.pointer a) V ∧ (Instr.index raT (.agg #[.pointer a, .pointer b, .pointer c, .pointer d]) (.int .i64 1)).run Try.prog V = .ok (.pointer b) V ∧ (Instr.index raT (.agg #[.pointer a, .pointer b, .pointer c, .pointer d]) (.int .i64 2)).run Try.prog V = .ok (.pointer c) V ∧ (Instr.index raT (.agg #[.pointer a, .pointer b, .pointer c, .pointer d]) (.int .i64 3)).run Try.prog V = .ok (.pointer d) V := ⟨by kernel_rfl, by kernel_rfl, by kernel_rfl, by kernel_rfl⟩
def fiVal (a : Nat → Nat) : Value := .agg #[.int .i64 (a 0 : Nat), .int .i64 (a 1 : Nat), .int .i64 (a 2 : Nat), .int .i64 (a 3 : Nat), .int .i64 (a 4 : Nat)]
/-- how many wait in each ring -/
def spr (R : Nat → RLs) (far : List Th) : Nat → Nat := fun k => if k = 4 then far.length else (R k).length
theorem WNone.below {W W' : World} {q : Option Addr} (h : WNone W q) (hb : Below W.heap.size W W') : WNone W' q := fun W2 h2 => h W2 (below_on hb h2 (Nat.le_refl _))
set_option maxRecDepth 100000 in
set_option maxHeartbeats 4000000 in
theorem spread_any (W : World) (F : Nat → Prop) (G : Nat → Nat → Prop) (w : Nat) (now : Int) (rs : Nat → Nat) (pf mf n : Nat) (R : Nat → RLs) (far : List Th) (h : Whm W F G w now rs pf mf n R far) :
    Calls Try.prog 72 #[.pointer (some ⟨w, 0, none⟩)] W fun e W' => e = .returned (fiVal (spr R far)) ∧ Below W.heap.size W W' := by
  have Hlen := Lib.hid (fun (W' : World) (hb : Below W.heap.size W W') (k : Nat) (hk : k < 4) => len_ring W' (G k) (rs k) n (R k) ((h.below hb).ring k hk))
  obtain ⟨W1, hW1⟩ : ∃ W1, W1 = W.alloc (.cells #[.int .i64 0, .int .i64 0, .int .i64 0, .int .i64 0, .int .i64 0] fiT) := ⟨_, rfl⟩
  obtain ⟨b, hb⟩ : ∃ b, b = W.heap.size := ⟨_, rfl⟩
  have hB1 : Below W.heap.size W W1 := by rw [hW1]; exact below_new _ _
  have ht1 : W1.heap[b]? = some (.cells #[.int .i64 0, .int .i64 0, .int .i64 0, .int .i64 0, .int .i64 0] fiT (0, 0)) := by rw [hW1, hb]; exact heap_alloc_new _ _
  have hbl := (Array.getElem?_eq_some_iff.1 ht1).1
  have hfz := block_free ht1
  have h1 := h.below hB1
  obtain ⟨a0, a1, a2, a3, a4, a5, b0, hwl, hfl⟩ := h1.cells
  have hwb : w ≠ b := by have := h.bd w h.fw; omega
  have hpb : pf ≠ b := by have := h.bd pf h.ff; omega
  have hfw : ∀ W', Below W.heap.size W W' → Whm W' F G w now rs pf mf n R far := fun W' h' => h.below h'
  have Hfw := Lib.hid hfw
  have Hno := Lib.hid (wnone_no W1 w pf a5 hwl)
  have HB1 := Lib.hid hB1
  have Ht1 := Lib.hid ht1
  have Hb := Lib.hid hb
  have hst : ∀ (V : World) (i : Nat) (v : Value), Below W.heap.size W V → Below W.heap.size W (V.setCell ⟨b, i, none⟩ v) := fun V i v hV => below_grown hV (grown_set V b i v) (Nat.le_of_eq hb.symm) hV.size
  have Hst := Lib.hid hst
  have ix0 := fun V => (idx4 (some ⟨rs 0, 0, none⟩) (some ⟨rs 1, 0, none⟩) (some ⟨rs 2, 0, none⟩) (some ⟨rs 3, 0, none⟩) V).1
  have ix1 := fun V => (idx4 (some ⟨rs 0, 0, none⟩) (some ⟨rs 1, 0, none⟩) (some ⟨rs 2, 0, none⟩) (some ⟨rs 3, 0, none⟩) V).2.1
  have ix2 := fun V => (idx4 (some ⟨rs 0, 0, none⟩) (some ⟨rs 1, 0, none⟩) (some ⟨rs 2, 0, none⟩) (some ⟨rs 3, 0, none⟩) V).2.2.1
  have ix3 := fun V => (idx4 (some ⟨rs 0, 0, none⟩) (some ⟨rs 1, 0, none⟩) (some ⟨rs 2, 0, none⟩) (some ⟨rs 3, 0, none⟩) V).2.2.2
  clear h h1 hB1 ht1 hfw hst
  go_enter Try.func72, Try.ntmps72
  go_wp2_with fail
  rw [← hW1, ← hb]
  clear hW1 hb
  refine Hno.out.mono ?_
  rintro e V0 ⟨rfl, hV0⟩
  subst hV0
  have HB0 := HB1
  have Ht0 := Ht1
  clear HB1 Ht1 hbl hfz
  go_wp2_with fail
  refine wp_loop_rounds 5 ?_
  rw [rounds_succ]
  go_wp2_with fail
  refine (Hlen.out _ HB0.out 0 (by decide)).mono ?_
  rintro e Y ⟨rfl, hY⟩
  replace hY := hY.symm
  subst hY
  have f0 := block_free Ht0.out 0
  have e0 := block_cell Ht0.out 0
  simp at e0
  have hbl := (Array.getElem?_eq_some_iff.1 Ht0.out).1
  go_wp2_with fail
  obtain ⟨V1, hV1⟩ : ∃ X, X = V0.setCell ⟨b, 0, none⟩ (.int .i64 ((R 0).length : Nat)) := ⟨_, rfl⟩
  have ht1 : V1.heap[b]? = some (.cells #[.int .i64 ((R 0).length : Nat), .int .i64 0, .int .i64 0, .int .i64 0, .int .i64 0] fiT (0, 0)) := by
    have := block_set Ht0.out 0 (.int .i64 ((R 0).length : Nat))
    simp only [List.setIfInBounds_toArray, List.set_cons_zero, List.set_cons_succ] at this
    rw [hV1]; exact this
  have hB1 : Below W.heap.size W V1 := by rw [hV1]; exact Hst.out _ _ _ HB0.out
  rw [← hV1]
  have Ht1 := Lib.hid ht1
  have HB1 := Lib.hid hB1
  clear hV1 ht1 hB1 e0 f0 hbl
  rw [rounds_succ]
  go_wp2_with fail
  refine (Hlen.out _ HB1.out 1 (by decide)).mono ?_
  rintro e Y ⟨rfl, hY⟩
  replace hY := hY.symm
  subst hY
  have f1 := block_free Ht1.out 1
  have e1 := block_cell Ht1.out 1
  simp at e1
  have hbl := (Array.getElem?_eq_some_iff.1 Ht1.out).1
  go_wp2_with fail
  obtain ⟨V2, hV2⟩ : ∃ X, X = V1.setCell ⟨b, 1, none⟩ (.int .i64 ((R 1).length : Nat)) := ⟨_, rfl⟩
  have ht2 : V2.heap[b]? = some (.cells #[.int .i64 ((R 0).length : Nat), .int .i64 ((R 1).length : Nat), .int .i64 0, .int .i64 0, .int .i64 0] fiT (0, 0)) := by
    have := block_set Ht1.out 1 (.int .i64 ((R 1).length : Nat))
    simp only [List.setIfInBounds_toArray, List.set_cons_zero, List.set_cons_succ] at this
    rw [hV2]; exact this
  have hB2 : Below W.heap.size W V2 := by rw [hV2]; exact Hst.out _ _ _ HB1.out
  rw [← hV2]
  have Ht2 := Lib.hid ht2
  have HB2 := Lib.hid hB2
  clear hV2 ht2 hB2 e1 f1 hbl
  rw [rounds_succ]
  go_wp2_with fail
  refine (Hlen.out _ HB2.out 2 (by decide)).mono ?_
  rintro e Y ⟨rfl, hY⟩
  replace hY := hY.symm
  subst hY
  have f2 := block_free Ht2.out 2
  have e2 := block_cell Ht2.out 2
  simp at e2
  have hbl := (Array.getElem?_eq_some_iff.1 Ht2.out).1
  go_wp2_with fail
  obtain ⟨V3, hV3⟩ : ∃ X, X = V2.setCell ⟨b, 2, none⟩ (.int .i64 ((R 2).length : Nat)) := ⟨_, rfl⟩
  have ht3 : V3.heap[b]? = some (.cells #[.int .i64 ((R 0).length : Nat), .int .i64 ((R 1).length : Nat), .int .i64 ((R 2).length : Nat), .int .i64 0, .int .i64 0] fiT (0, 0)) := by
    have := block_set Ht2.out 2 (.int .i64 ((R 2).length : Nat))
    simp only [List.setIfInBounds_toArray, List.set_cons_zero, List.set_cons_succ] at this
    rw [hV3]; exact this
  have hB3 : Below W.heap.size W V3 := by rw [hV3]; exact Hst.out _ _ _ HB2.out
  rw [← hV3]
  have Ht3 := Lib.hid ht3
  have HB3 := Lib.hid hB3
  clear hV3 ht3 hB3 e2 f2 hbl
  rw [rounds_succ]
  go_wp2_with fail
  refine (Hlen.out _ HB3.out 3 (by decide)).mono ?_
  rintro e Y ⟨rfl, hY⟩
  replace hY := hY.symm
  subst hY
  have f3 := block_free Ht3.out 3
  have e3 := block_cell Ht3.out 3
  simp at e3
  have hbl := (Array.getElem?_eq_some_iff.1 Ht3.out).1
  go_wp2_with fail
  obtain ⟨V4, hV4⟩ : ∃ X, X = V3.setCell ⟨b, 3, none⟩ (.int .i64 ((R 3).length : Nat)) := ⟨_, rfl⟩
  have ht4 : V4.heap[b]? = some (.cells #[.int .i64 ((R 0).length : Nat), .int .i64 ((R 1).length : Nat), .int .i64 ((R 2).length : Nat), .int .i64 ((R 3).length : Nat), .int .i64 0] fiT (0, 0)) := by
    have := block_set Ht3.out 3 (.int .i64 ((R 3).length : Nat))
    simp only [List.setIfInBounds_toArray, List.set_cons_zero, List.set_cons_succ] at this
    rw [hV4]; exact this
  have hB4 : Below W.heap.size W V4 := by rw [hV4]; exact Hst.out _ _ _ HB3.out
  rw [← hV4]
  have Ht4 := Lib.hid ht4
  have HB4 := Lib.hid hB4
  clear hV4 ht4 hB4 e3 f3 hbl
  rw [rounds_succ]
  have h4 := Hfw.out _ HB4.out
  obtain ⟨a0, a1, a2, a3, a4, a5, b0, hwl, hfl⟩ := h4.cells
  obtain ⟨D, hD, hE⟩ := h4.map
  have hlm := hD.len Try.underlying26 3
  rw [hE.size, show (fpairs far).length = far.length from by simp [fpairs]] at hlm
  have f0 := block_free Ht4.out 0
  have f1 := block_free Ht4.out 1
  have f2 := block_free Ht4.out 2
  have f3 := block_free Ht4.out 3
  have f4 := block_free Ht4.out 4
  have e0 := block_cell Ht4.out 0
  have e1 := block_cell Ht4.out 1
  have e2 := block_cell Ht4.out 2
  have e3 := block_cell Ht4.out 3
  have e4 := block_cell Ht4.out 4
  simp at e0 e1 e2 e3 e4
  have hbl := (Array.getElem?_eq_some_iff.1 Ht4.out).1
  clear hD hE h4
  go_wp2_with fail
  refine bodyPost_ret (v := fiVal (spr R far)) ?_ rfl ⟨rfl, Hst.out _ _ _ (Hst.out _ _ _ (Hst.out _ _ _ (Hst.out _ _ _ (Hst.out _ _ _ (Hst.out _ _ _ HB4.out)))))⟩
  simp [results, Try.results72, go_sem, fiVal, spr, e0, e1, e2, e3, e4, hbl]
theorem idx5 (a b c d x : Int) (V : World) : (Instr.index fiT (.agg #[.int .i64 a, .int .i64 b, .int .i64 c, .int .i64 d, .int .i64 x]) (.int .i64 0)).run Try.prog V = .ok (.int .i64 a) V ∧ (Instr.index fiT (.agg #[.int .i64 a, .int .i64 b, .int .i64 c, .int .i64 d, .int .i64 x]) (.int .i64 1)).run Try.prog V = .ok (.int .i64 b) V ∧ (Instr.index fiT (.agg #[.int .i64 a, .int .i64 b, .int .i64 c, .int .i64 d, .int .i64 x]) (.int .i64 2)).run Try.prog V = .ok (.int .i64 c) V ∧ (Instr.index fiT (.agg #[.int .i64 a, .int .i64 b, .int .i64 c, .int .i64 d, .int .i64 x]) (.int .i64 3)).run Try.prog V = .ok (.int .i64 d) V ∧ (Instr.index fiT (.agg #[.int .i64 a, .int .i64 b, .int .i64 c, .int .i64 d, .int .i64 x]) (.int .i64 4)).run Try.prog V = .ok (.int .i64 x) V := ⟨by kernel_rfl, by kernel_rfl, by kernel_rfl, by kernel_rfl, by kernel_rfl⟩
theorem wsum0 (a : Nat) (h : a ≤ 1000000) : wrap64 (a : Int) = (a : Nat) := IntWalk.wrap64_in _ (by omega)
theorem wsum (a b s : Nat) (hs : s = a + b) (h : s ≤ 1000000) : wrap64 ((a : Int) + (b : Int)) = (s : Nat) := by
  subst hs
  have e : ((a + b : Nat) : Int) = (a : Int) + (b : Int) := by omega
  rw [e]
  exact IntWalk.wrap64_in _ (by omega)
set_option maxRecDepth 100000 in
theorem wlen_of (W : World) (q : Option Addr) (a : Nat → Nat) (hs : a 0 + a 1 + a 2 + a 3 + a 4 ≤ 1000000) (hsp : Calls Try.prog 72 #[.pointer q] W fun e W' => e = .returned (fiVal a) ∧ Below W.heap.size W W') :
    Calls Try.prog 37 #[.pointer q] W fun e W' => e = .returned (.int .i64 (a 0 + a 1 + a 2 + a 3 + a 4 : Nat)) ∧ Below W.heap.size W W' := by
  have Hsp := Lib.hid hsp
  obtain ⟨x0, h0⟩ : ∃ x, x = a 0 := ⟨_, rfl⟩
  obtain ⟨x1, h1⟩ : ∃ x, x = a 1 := ⟨_, rfl⟩
  obtain ⟨x2, h2⟩ : ∃ x, x = a 2 := ⟨_, rfl⟩
  obtain ⟨x3, h3⟩ : ∃ x, x = a 3 := ⟨_, rfl⟩
  obtain ⟨x4, h4⟩ : ∃ x, x = a 4 := ⟨_, rfl⟩
  rw [← h0, ← h1, ← h2, ← h3, ← h4] at hs ⊢
  have hv : fiVal a = .agg #[.int .i64 (x0 : Nat), .int .i64 (x1 : Nat), .int .i64 (x2 : Nat), .int .i64 (x3 : Nat), .int .i64 (x4 : Nat)] := by unfold fiVal; rw [h0, h1, h2, h3, h4]
  rw [hv] at Hsp
  have i0 := fun V => (idx5 (x0 : Nat) (x1 : Nat) (x2 : Nat) (x3 : Nat) (x4 : Nat) V).1
  have i1 := fun V => (idx5 (x0 : Nat) (x1 : Nat) (x2 : Nat) (x3 : Nat) (x4 : Nat) V).2.1
  have i2 := fun V => (idx5 (x0 : Nat) (x1 : Nat) (x2 : Nat) (x3 : Nat) (x4 : Nat) V).2.2.1
  have i3 := fun V => (idx5 (x0 : Nat) (x1 : Nat) (x2 : Nat) (x3 : Nat) (x4 : Nat) V).2.2.2.1
  have i4 := fun V => (idx5 (x0 : Nat) (x1 : Nat) (x2 : Nat) (x3 : Nat) (x4 : Nat) V).2.2.2.2
  obtain ⟨s1, e1⟩ : ∃ s, s = x0 + x1 := ⟨_, rfl⟩
  rw [← e1] at hs ⊢
  obtain ⟨s2, e2⟩ : ∃ s, s = s1 + x2 := ⟨_, rfl⟩
  rw [← e2] at hs ⊢
  obtain ⟨s3, e3⟩ : ∃ s, s = s2 + x3 := ⟨_, rfl⟩
  rw [← e3] at hs ⊢
  obtain ⟨s4, e4⟩ : ∃ s, s = s3 + x4 := ⟨_, rfl⟩
  rw [← e4] at hs ⊢
  have w0 : wrap64 (x0 : Int) = (x0 : Nat) := wsum0 x0 (by omega)
  have w1 : wrap64 ((x0 : Int) + (x1 : Int)) = (s1 : Nat) := wsum x0 x1 s1 e1 (by omega)
  have w2 : wrap64 ((s1 : Int) + (x2 : Int)) = (s2 : Nat) := wsum s1 x2 s2 e2 (by omega)
  have w3 : wrap64 ((s2 : Int) + (x3 : Int)) = (s3 : Nat) := wsum s2 x3 s3 e3 (by omega)
  have w4 : wrap64 ((s3 : Int) + (x4 : Int)) = (s4 : Nat) := wsum s3 x4 s4 e4 hs
  clear e1 e2 e3 e4 h0 h1 h2 h3 h4 hsp hs hv
  go_enter Try.func37, Try.ntmps37
  go_wp2_with fail
  refine Hsp.out.mono ?_
  rintro e W2 ⟨rfl, hB⟩
  have HB := Lib.hid hB
  clear hB
  go_wp2_with fail
  refine wp_loop_rounds 6 ?_
  rw [rounds_succ]
  go_wp2_with fail
  rw [rounds_succ]
  go_wp2_with fail
  rw [rounds_succ]
  go_wp2_with fail
  rw [rounds_succ]
  go_wp2_with fail
  rw [rounds_succ]
  go_wp2_with fail
  rw [rounds_succ]
  go_wp2_with fail
  go_ret
  exact ⟨by simp [w4], HB.out⟩
theorem wlen_any (W : World) (F : Nat → Prop) (G : Nat → Nat → Prop) (w : Nat) (now : Int) (rs : Nat → Nat) (pf mf n : Nat) (R : Nat → RLs) (far : List Th) (h : Whm W F G w now rs pf mf n R far) (hs : (Tot R far).length ≤ 1000000) :
    Calls Try.prog 37 #[.pointer (some ⟨w, 0, none⟩)] W fun e W' => e = .returned (.int .i64 ((Tot R far).length : Nat)) ∧ Below W.heap.size W W' := by
  have e : (Tot R far).length = spr R far 0 + spr R far 1 + spr R far 2 + spr R far 3 + spr R far 4 := by simp [Tot, spr]; omega
  rw [e] at hs ⊢
  exact wlen_of W _ _ hs (spread_any W F G w now rs pf mf n R far h)
end Go.Proofs.Ytedlplkomfiahaa
