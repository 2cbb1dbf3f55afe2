/- Lemmas for DeadlinePlays (Uc Ud Xa Xb Va Xc Xd). No statement of the seat is proved here. -/
import Derived.Maps.RangeWalk
import Derived.Test.YtedlplkomfiahaaQ10
namespace Go.Proofs.Ytedlplkomfiahaa
set_option linter.unusedVariables false
set_option linter.unusedSimpArgs false
set_option linter.unusedSectionVars false
open Go Go.RowKit Go.Maps
/-- the place of an id -/
def findI (l : RLs) (id : Int) : Option Nat := l.findIdx? (fun p => decide (p.1.id = id))
def findV (l : RLs) (id : Int) : Int := match findI l id with | some k => (k : Int) | none => -1
theorem findI_some {l : RLs} {id : Int} {k : Nat} (h : findI l id = some k) : ∃ hk : k < l.length, l[k].1.id = id ∧ ∀ j (hj : j < k), l[j].1.id ≠ id := by
  unfold findI at h
  obtain ⟨hk, h1, h2⟩ := List.findIdx?_eq_some_iff_getElem.1 h
  exact ⟨hk, by simpa using h1, fun j hj => by simpa using h2 j hj⟩
theorem findI_none {l : RLs} {id : Int} (h : findI l id = none) : ∀ p ∈ l, p.1.id ≠ id := by
  unfold findI at h
  intro p hp
  have := List.findIdx?_eq_none_iff.1 h p hp
  simpa using this
theorem findI_of {l : RLs} {id : Int} (k : Nat) (hk : k < l.length) (h1 : l[k].1.id = id) (h2 : ∀ j (hj : j < k), l[j].1.id ≠ id) : findI l id = some k := by
  unfold findI
  rw [List.findIdx?_eq_some_iff_getElem]
  exact ⟨hk, by simpa using h1, fun j hj => by simpa using h2 j hj⟩
theorem findI_no {l : RLs} {id : Int} (h : ∀ p ∈ l, p.1.id ≠ id) : findI l id = none := by
  unfold findI
  rw [List.findIdx?_eq_none_iff]
  intro p hp; simpa using h p hp
theorem meas_w (n i : Nat) (h : i < n) : n - (intOf (.int .i64 ((i : Int) + 1))).toNat < n - (intOf (.int .i64 (i : Nat))).toNat := by simp only [intOf]; omega
set_option maxRecDepth 100000 in
theorem find_any (W : World) (ao : Option Addr) (cap : Nat) (l : RLs) (id : Int) (h : Rt W ao cap l) (hl : l.length ≤ 10000) :
    Calls Try.prog 46 #[.slice ao l.length cap, .int .u64 id] W fun e W' => e = .returned (.int .i64 (findV l id)) ∧ Below W.heap.size W W' := by
  have Hh := Lib.hid h
  have HL := Lib.hid hl
  clear h hl
  go_enter Try.func46, Try.ntmps46
  go_wp2_with fail
  go_loopw [5] (fun u wr => ∃ i : Nat, u = .int .i64 (i : Nat) ∧ i ≤ l.length ∧ Hid (∀ j (hj : j < l.length), j < i → l[j].1.id ≠ id) ∧ Below W.heap.size W wr) (fun u _ => l.length - (intOf u).toNat)
  case atStart => exact ⟨0, rfl, Nat.zero_le _, fun j _ hj => by omega, Below.refl _ _⟩
  case round =>
    obtain ⟨i, rfl, hi, hno, hb⟩ := hrel
    by_cases hil : i < l.length
    · obtain ⟨x1, x2⟩ := i_nums i l.length hil
      have hlx := Hh.out.below hb
      obtain ⟨bx, fx, rfl, hbx, cc0, -⟩ := Rt.cells hlx i hil
      have w1 : wrap64 ((i : Int) + 1) = (i : Int) + 1 := IntWalk.wrap64_in _ (by have := HL.out; omega)
      have Hi := Lib.hid hil
      have Hb := Lib.hid hb
      obtain ⟨z, hz⟩ : ∃ z, z = l[i].1.id := ⟨_, rfl⟩
      have c0 : wr.cell? ⟨bx, fx + i * 4, none⟩ = some (.int .u64 z) := by rw [hz]; exact cc0
      clear cc0
      by_cases hid : z = id
      · have hf := findI_of i hil (hz.symm.trans hid) (fun j hj => hno.out j (Nat.lt_trans hj hil) hj)
        have hv : findV l id = (i : Int) := by unfold findV; rw [hf]
        subst hid
        have Hv := Lib.hid hv
        have Hz := Lib.hid hz
        clear hf hv hlx hb
        go_wp2_with fail
        go_ret
        exact ⟨ret_int (by rw [Hv.out]), Hb.out⟩
      · have Hz := Lib.hid hz
        have Hne := Lib.hid hid
        clear hlx hb hz
        go_wp2_with fail
        go_roundw
        case rel => exact ⟨i + 1, by first | rfl | rw [w1]; rfl, Hi.out, fun j hj hji => by
          by_cases e : j = i
          · subst e; exact fun e2 => Hne.out (Hz.out.trans e2)
          · exact hno.out j hj (Nat.lt_of_le_of_ne (Nat.le_of_lt_succ hji) e), Hb.out⟩
        case measure =>
          first | rw [w1] | skip
          exact meas_w l.length i Hi.out
    · obtain rfl : i = l.length := Nat.le_antisymm hi (Nat.le_of_not_lt hil)
      have x1 : ¬ (l.length : Int) < (l.length : Int) := by omega
      have hf : findI l id = none := findI_no fun p hp => by
        obtain ⟨j, hj, rfl⟩ := List.mem_iff_getElem.1 hp
        exact hno.out j hj hj
      have hv : findV l id = -1 := by unfold findV; rw [hf]
      have Hv := Lib.hid hv
      clear hf hv hil
      go_wp2_with fail
      go_ret
      exact ⟨ret_int (by rw [Hv.out]), hb⟩
set_option maxRecDepth 100000 in
set_option maxHeartbeats 2000000 in
/-- all but the one at a place -/
theorem without_any (W : World) (ao : Option Addr) (cap : Nat) (l : RLs) (k : Nat) (h : Rt W ao cap l) (hl : l.length ≤ 10000) (hk : k < l.length) :
    Calls Try.prog 95 #[.slice ao l.length cap, .int .i64 (k : Nat)] W fun e W' => ∃ ao' cap', e = .returned (.slice ao' (l.length - 1) cap') ∧ W'.ownsRow W.heap.size rtT 4 (.slice ao' (l.length - 1) cap') (l.length - 1) (rtFlat (l.take k ++ l.drop (k + 1))) ∧ Below W.heap.size W W' := by
  have hic := h.sl.le
  have P1 := h.piece 0 k (Nat.zero_le _) (Nat.le_of_lt hk)
  have P2 := h.piece (k + 1) l.length hk (Nat.le_refl _)
  have hs1 := fun W => run_slice_sl (P := Try.prog) (w := W) Try.underlying48 szRt ao l.length cap none (some (.int .i64 (k : Nat))) 0 k (.inr ⟨rfl, rfl⟩) (.inl rfl) (Nat.zero_le _) (Nat.le_trans (Nat.le_of_lt hk) hic)
  have hs2 := fun W => run_slice_sl (P := Try.prog) (w := W) Try.underlying48 szRt ao l.length cap (some (.int .i64 ((k + 1 : Nat) : Int))) none (k + 1) l.length (.inl rfl) (.inr ⟨rfl, rfl⟩) hk hic
  obtain ⟨a1, ha1⟩ : ∃ a1, a1 = (if cap = 0 then ao else ao.map (·.add (0 * 4))) := ⟨_, rfl⟩
  rw [← ha1] at P1 hs1
  obtain ⟨a2, ha2⟩ : ∃ a2, a2 = (if cap = k + 1 then ao else ao.map (·.add ((k + 1) * 4))) := ⟨_, rfl⟩
  rw [← ha2] at P2 hs2
  simp only [Nat.sub_zero, List.drop_zero] at P1 hs1
  rw [List.take_length] at P2
  obtain ⟨m, hm⟩ : ∃ m, m = l.length - (k + 1) := ⟨_, rfl⟩
  rw [← hm] at P2 hs2
  have hm2 : k + m = l.length - 1 := by omega
  have w1 : wrap64 ((k : Int) + 1) = ((k + 1 : Nat) : Int) := by rw [IntWalk.wrap64_in _ (by omega)]; simp
  have hs2' : ∀ W, (Instr.sliceAt 48 (.slice ao l.length cap) (some (.int .i64 ((k : Int) + 1))) none none).run Try.prog W = .ok (.slice a2 m (cap - (k + 1))) W := fun W => by have := hs2 W; simpa using this
  have P1 := Lib.hid P1
  have P2 := Lib.hid P2
  have Hm2 := Lib.hid hm2
  have hk6 : k + m ≤ 10000 := by omega
  clear hm ha1 ha2 hm2
  go_enter Try.func95, Try.ntmps95
  go_wp2_with (first
    | (at_builtin; refine wpl_append rfl (.tmp 6) (.tmp 9) rtsT rfl W.heap.size rtT infoRt Try.underlying48 rfl (by decide) _ 0 [] rfl (own_empty W W.heap.size _ 4 (Nat.le_refl _)) _ _ _ _ rfl (P1.out.below (below_new _ _)) (rts_one _) ?_ ?_ ?_ ?_; (unfold maxLen; omega); omega; exact (below_new _ _).size; intro ao1 cap1 w1 hown1 hg1; rw [Nat.zero_add, List.nil_append] at hown1; have hb1 := below_app (below_new _ _) hg1 (own_empty W W.heap.size _ 4 (Nat.le_refl _)) (Nat.le_refl _) (below_new _ _).size; have hz1 := hb1.size; have Hown1 := Lib.hid hown1; have Hb1 := Lib.hid hb1; clear hown1 hb1 hg1)
    | (at_builtin; refine wpl_append rfl (.tmp 11) (.tmp 15) rtsT rfl W.heap.size rtT infoRt Try.underlying48 rfl (by decide) _ k _ rfl Hown1.out _ _ _ _ rfl (P2.out.below Hb1.out) (rts_one _) ?_ ?_ ?_ ?_; (unfold maxLen; omega); omega; exact hz1; intro ao3 cap3 w3 hown3 hg3; have hb3 := below_app Hb1.out hg3 Hown1.out (Nat.le_refl _) hz1; have Hown3 := Lib.hid hown3; have Hb3 := Lib.hid hb3; clear hown3 hb3 hg3))
  go_ret
  have h3 := Hown3.out
  rw [Hm2.out, ← rt_two] at h3
  exact ⟨ao3, cap3, by rw [← Hm2.out]; rfl, h3, Hb3.out⟩
theorem zeroRt (w : World) : (zeroValue rtT).run Try.prog w = .ok (.agg #[.int .u64 0, .int .u64 0, .int .i64 0, .int .i64 0]) w := by kernel_rfl
/-- Plain -/
theorem plain_any (W : World) (t : Th) : Calls Try.prog 41 #[thVal t] W fun e W' => e = .returned (rtVal (t, 0)) ∧ Below W.heap.size W W' := by
  obtain ⟨ti, tg, td⟩ := t
  obtain ⟨W1, hW1⟩ : ∃ W1, W1 = (W.alloc (.cells #[.int .u64 ti, .int .u64 tg, .int .i64 td] thT)).alloc (.cells #[.int .u64 0, .int .u64 0, .int .i64 0, .int .i64 0] rtT) := ⟨_, rfl⟩
  have hB1 : Below W.heap.size W W1 := by rw [hW1]; exact below_on (below_new _ _) (below_new _ _) (Nat.le_refl _)
  have hzr := zeroRt
  unfold thVal
  have ht : ((W.alloc (.cells #[.int .u64 ti, .int .u64 tg, .int .i64 td] thT)).alloc (.cells #[.int .u64 ti, .int .u64 tg, .int .i64 td, .int .i64 0] rtT)).heap[W.heap.size + 1]? = some (.cells #[.int .u64 ti, .int .u64 tg, .int .i64 td, .int .i64 0] rtT (0, 0)) := by
    have := heap_alloc_new (W.alloc (.cells #[.int .u64 ti, .int .u64 tg, .int .i64 td] thT)) (.cells #[.int .u64 ti, .int .u64 tg, .int .i64 td, .int .i64 0] rtT)
    simpa using this
  have hb : Below W.heap.size W ((W.alloc (.cells #[.int .u64 ti, .int .u64 tg, .int .i64 td] thT)).alloc (.cells #[.int .u64 ti, .int .u64 tg, .int .i64 td, .int .i64 0] rtT)) := below_on (below_new _ _) (below_new _ _) (Nat.le_refl _)
  obtain ⟨W5, hW5⟩ : ∃ W5, W5 = (W.alloc (.cells #[.int .u64 ti, .int .u64 tg, .int .i64 td] thT)).alloc (.cells #[.int .u64 ti, .int .u64 tg, .int .i64 td, .int .i64 0] rtT) := ⟨_, rfl⟩
  rw [← hW5] at ht hb
  have c0 := block_cell ht 0
  have c1 := block_cell ht 1
  have c2 := block_cell ht 2
  have c3 := block_cell ht 3
  simp at c0 c1 c2 c3
  have Hc := Lib.hid (⟨c0, c1, c2, c3⟩ : _ ∧ _ ∧ _ ∧ _)
  clear c0 c1 c2 c3 hB1 hW1 ht
  go_enter Try.func41, Try.ntmps41
  go_wp2_with fail
  rw [← hW5]
  refine bodyPost_ret (v := rtVal (⟨ti, tg, td⟩, 0)) ?_ rfl ⟨rfl, hb⟩
  obtain ⟨c0, c1, c2, c3⟩ := Hc.out
  simp [results, Try.results41, go_sem, rtVal, c0, c1, c2, c3]
end Go.Proofs.Ytedlplkomfiahaa
namespace Go.Proofs.Ytedlplkomfiahaa
set_option linter.unusedVariables false
set_option linter.unusedSimpArgs false
set_option linter.unusedSectionVars false
open Go Go.RowKit Go.Maps
theorem eqin_rt (i g d s i' g' d' s' : Int) (w : World) : (Op.equalIn 10000 rtT (.agg #[.int .u64 i, .int .u64 g, .int .i64 d, .int .i64 s]) (.agg #[.int .u64 i', .int .u64 g', .int .i64 d', .int .i64 s'])).run Try.prog w = .ok (decide (i = i') && (decide (g = g') && (decide (d = d') && decide (s = s')))) w := by
  rw [run_equalIn_agg _ _ _ _ _ (by kernel_rfl) (by kernel_rfl)]
  by_cases h0 : i = i'
  · by_cases h1 : g = g'
    · by_cases h2 : d = d'
      · by_cases h3 : s = s'
        · simp [Program.fieldsOf, Try.underlying88, Op.eqFields, go_sem, h0, h1, h2, h3]
        · simp [Program.fieldsOf, Try.underlying88, Op.eqFields, go_sem, h0, h1, h2, h3]
      · simp [Program.fieldsOf, Try.underlying88, Op.eqFields, go_sem, h0, h1, h2]
    · simp [Program.fieldsOf, Try.underlying88, Op.eqFields, go_sem, h0, h1]
  · simp [Program.fieldsOf, Try.underlying88, Op.eqFields, go_sem, h0]
theorem eqin_th (i g d i' g' d' : Int) (w : World) : (Op.equalIn 10000 32 (.agg #[.int .u64 i, .int .u64 g, .int .i64 d]) (.agg #[.int .u64 i', .int .u64 g', .int .i64 d'])).run Try.prog w = .ok (decide (i = i') && (decide (g = g') && decide (d = d'))) w := by
  rw [run_equalIn_agg _ _ _ _ _ (by kernel_rfl) (by kernel_rfl)]
  by_cases h0 : i = i'
  · by_cases h1 : g = g'
    · by_cases h2 : d = d'
      · simp [Program.fieldsOf, Try.underlying32, Op.eqFields, go_sem, h0, h1, h2]
      · simp [Program.fieldsOf, Try.underlying32, Op.eqFields, go_sem, h0, h1, h2]
    · simp [Program.fieldsOf, Try.underlying32, Op.eqFields, go_sem, h0, h1]
  · simp [Program.fieldsOf, Try.underlying32, Op.eqFields, go_sem, h0]
theorem th_ext (a b : Th) : a = b ↔ (decide (a.id = b.id) && (decide (a.gen = b.gen) && decide (a.due = b.due))) = true := by
  obtain ⟨a1, a2, a3⟩ := a
  obtain ⟨b1, b2, b3⟩ := b
  simp only [Th.mk.injEq, Bool.and_eq_true, decide_eq_true_eq]
theorem neq_rtv (x : Th) (p : Th × Nat) (w : World) : (binOp .neq rtT (rtVal (x, 0)) (.agg #[.int .u64 p.1.id, .int .u64 p.1.gen, .int .i64 p.1.due, .int .i64 0])).run Try.prog w = .ok (.bool (!decide (x = p.1))) w := by
  unfold rtVal
  rw [run_neq_struct, eqin_rt]
  simp only [Result.andThen]
  congr 3
  rw [Bool.eq_iff_iff]
  simp only [Bool.not_eq_true', decide_eq_false_iff_not, th_ext]
  simp
theorem guard_rt (op : BinOp) (p q : Operand) (x : Th × Nat) (ys : Array Value) (w : World) : (eqGuard op rtT p q (rtVal x) (.agg ys)).run Try.prog w = .ok () w := run_eqGuard_agg w op _ p q _ ys (by kernel_rfl)
/-- a row of things, to be read -/
abbrev Tt (W : World) (ao : Option Addr) (cap : Nat) (l : List Th) : Prop := Rw W thT 3 ao l.length cap (l.map thCells)
theorem th_each (l : List Th) : ∀ r ∈ l.map thCells, r.length = 3 := by
  intro r hr; obtain ⟨x, _, rfl⟩ := List.mem_map.1 hr; rfl
theorem Tt.of_own {W : World} {base cap : Nat} {ao : Option Addr} {l : List Th} (h : W.ownsRow base thT 3 (.slice ao l.length cap) l.length (thFlat l)) : Tt W ao cap l := Rw.of_own h (by simp) (th_each l)
theorem Tt.nil (W : World) : Tt W none 0 [] := Rw.nil W thT 3
theorem Tt.cells {W : World} {ao : Option Addr} {cap : Nat} {l : List Th} (h : Tt W ao cap l) (i : Nat) (hi : i < l.length) : ∃ b off, ao = some ⟨b, off, .none⟩ ∧ b < W.heap.size ∧
    W.cell? ⟨b, off + i * 3, none⟩ = some (.int .u64 l[i].id) ∧ W.cell? ⟨b, off + i * 3 + 1, none⟩ = some (.int .u64 l[i].gen) ∧ W.cell? ⟨b, off + i * 3 + 2, none⟩ = some (.int .i64 l[i].due) := by
  obtain ⟨b, off, e, hc⟩ := Rw.get h (by decide) i hi
  have hl : (l.map thCells)[i]'(by simpa using hi) = thCells l[i] := by simp
  rw [hl] at hc
  have h4 : (thCells l[i]).length = 3 := rfl
  have c0 := hc 0 (by omega)
  have c1 := hc 1 (by omega)
  have c2 := hc 2 (by omega)
  exact ⟨b, off, e, cell?_lt c0, c0, c1, c2⟩
theorem th_load {W : World} {b off : Nat} {p : Th} (h0 : W.cell? ⟨b, off, none⟩ = some (.int .u64 p.id)) (h1 : W.cell? ⟨b, off + 1, none⟩ = some (.int .u64 p.gen)) (h2 : W.cell? ⟨b, off + 2, none⟩ = some (.int .i64 p.due)) :
    (Instr.loadAt thT (.pointer (some ⟨b, off, none⟩))).run Try.prog W = .ok (thVal p) W := by
  unfold thVal
  go_simp
theorem same_step (a : List Th) (b : RLs) (i : Nat) (ha : i < a.length) (hb : i < b.length) : (a.take (i + 1) = (b.map (·.1)).take (i + 1)) ↔ (a.take i = (b.map (·.1)).take i ∧ a[i] = b[i].1) := by
  rw [← List.take_append_getElem ha, ← List.take_append_getElem (l := b.map (·.1)) (by simpa using hb)]
  have l1 : (a.take i).length = i := by rw [List.length_take]; omega
  have l2 : ((b.map (·.1)).take i).length = i := by rw [List.length_take, List.length_map]; omega
  constructor
  · intro h
    obtain ⟨h1, h2⟩ := List.append_inj h (l1.trans l2.symm)
    exact ⟨h1, by simpa using h2⟩
  · rintro ⟨h1, h2⟩
    rw [h1]; simp [h2]
set_option maxRecDepth 100000 in
set_option maxHeartbeats 4000000 in
/-- Same -/
theorem same_any (W : World) (ao : Option Addr) (cap : Nat) (a : List Th) (bo : Option Addr) (cb : Nat) (b : RLs) (ha : Tt W ao cap a) (hb : Rt W bo cb b) (hl : a.length ≤ 100000) (hl2 : b.length ≤ 100000) :
    Calls Try.prog 45 #[.slice ao a.length cap, .slice bo b.length cb] W fun e W' => e = .returned (.bool (decide (a = b.map (·.1)))) ∧ Below W.heap.size W W' := by
  have Ha := Lib.hid ha
  have Hb := Lib.hid hb
  have HL := Lib.hid hl
  clear ha hb hl
  by_cases hlen : a.length = b.length
  · have x0 : (a.length : Int) = (b.length : Int) := by omega
    have y0 : ((a.length : Int) != (b.length : Int)) = false := by simp [hlen]
    have Hlen := Lib.hid hlen
    clear hlen
    go_enter Try.func45, Try.ntmps45
    go_wp2_with fail
    go_loopw [14] (fun u wr => ∃ i : Nat, u = .int .i64 (i : Nat) ∧ i ≤ a.length ∧ Hid (a.take i = (b.map (·.1)).take i) ∧ Below W.heap.size W wr) (fun u _ => a.length - (intOf u).toNat)
    case atStart => exact ⟨0, rfl, Nat.zero_le _, by show _ = _; simp, Below.refl _ _⟩
    case round =>
      obtain ⟨i, rfl, hi, heq, hbw⟩ := hrel
      by_cases hil : i < a.length
      · obtain ⟨x1, x2⟩ := i_nums i a.length hil
        have hil2 : i < b.length := by rw [← Hlen.out]; exact hil
        obtain ⟨x3, -⟩ := i_nums i b.length hil2
        obtain ⟨ba, fa, rfl, hba, c0, c1, c2⟩ := Tt.cells (Ha.out.below hbw) i hil
        obtain ⟨bb, fb, rfl, hbb, d0, d1, d2, d3⟩ := Rt.cells (Hb.out.below hbw) i hil2
        obtain ⟨x, hx⟩ : ∃ x, x = a[i] := ⟨_, rfl⟩
        obtain ⟨y, hy⟩ : ∃ y, y = b[i] := ⟨_, rfl⟩
        rw [← hx] at c0 c1 c2
        rw [← hy] at d0 d1 d2 d3
        have Hx := Lib.hid hx
        have Hy := Lib.hid hy
        have Hi := Lib.hid hil
        have Hi2 := Lib.hid hil2
        have Hbw := Lib.hid hbw
        have w1 : wrap64 ((i : Int) + 1) = (i : Int) + 1 := IntWalk.wrap64_in _ (by have := HL.out; omega)
        clear hx hy hbw
        go_upto_region 8 with fail
        obtain ⟨W5, hW5⟩ : ∃ W5, W5 = wr.alloc (.cells #[.int .u64 y.1.id, .int .u64 y.1.gen, .int .i64 y.1.due, .int .i64 0] rtT) := ⟨_, rfl⟩
        have hB5 : Below wr.heap.size wr W5 := by rw [hW5]; exact below_new _ _
        obtain ⟨p0, hp0⟩ : ∃ p0, p0 = wr.heap.size := ⟨_, rfl⟩
        have ht5 : W5.heap[p0]? = some (.cells #[.int .u64 y.1.id, .int .u64 y.1.gen, .int .i64 y.1.due, .int .i64 0] rtT (0, 0)) := by rw [hW5, hp0]; exact heap_alloc_new _ _
        have hpl := (Array.getElem?_eq_some_iff.1 ht5).1
        have hld : ∀ W', Below W5.heap.size W5 W' → (Instr.loadAt thT (.pointer (some ⟨ba, fa + i * 3, none⟩))).run Try.prog W' = .ok (thVal x) W' ∧ (Instr.loadAt rtT (.pointer (some ⟨p0, 0, none⟩))).run Try.prog W' = .ok (.agg #[.int .u64 y.1.id, .int .u64 y.1.gen, .int .i64 y.1.due, .int .i64 0]) W' := fun W' hw => by
          have hw2 := below_on hB5 hw (Nat.le_refl _)
          have a0 := (hw2.cell (p := ⟨ba, fa + i * 3, none⟩) hba).trans c0
          have a1 := (hw2.cell (p := ⟨ba, fa + i * 3 + 1, none⟩) hba).trans c1
          have a2 := (hw2.cell (p := ⟨ba, fa + i * 3 + 2, none⟩) hba).trans c2
          have ht6 := (hw.block p0 hpl).trans ht5
          have e0 := block_cell ht6 0
          have e1 := block_cell ht6 1
          have e2 := block_cell ht6 2
          have e3 := block_cell ht6 3
          simp at e0 e1 e2 e3
          refine ⟨th_load a0 a1 a2, ?_⟩
          have := rt_load (p := (y.1, 0)) (off := 0) (b := p0) (W := W') e0 e1 e2 e3
          simpa [rtVal] using this
        have Hld := Lib.hid hld
        have Hpl := Lib.hid (fun W => plain_any W x)
        have hnq := fun w => neq_rtv x y w
        have hgq := fun p q w => guard_rt .neq p q (x, 0) #[.int .u64 y.1.id, .int .u64 y.1.gen, .int .i64 y.1.due, .int .i64 0] w
        have HB5 := Lib.hid hB5
        rw [← hW5, ← hp0]
        clear hW5 hld c0 c1 c2 d0 d1 d2 d3 hB5 hp0 ht5
        go_cut [28] (fun v wx => v = .bool (!decide (x = y.1)) ∧ Below W5.heap.size W5 wx)
        case first =>
          refine wp_region_held_drew (S := fun W' => (Instr.loadAt thT (.pointer (some ⟨ba, fa + i * 3, none⟩))).run Try.prog W' = .ok (thVal x) W' ∧ (Instr.loadAt rtT (.pointer (some ⟨p0, 0, none⟩))).run Try.prog W' = .ok (.agg #[.int .u64 y.1.id, .int .u64 y.1.gen, .int .i64 y.1.due, .int .i64 0]) W') (by kernel_rfl) (Hld.out W5.drew (Below.refl _ _).drew) (fun hHeld => ?_)
          refine wpAnyH_take (i := 0) (v := ?_) rfl (by kernel_rfl) (by kernel_rfl) (by kernel_rfl) (fun _ _ _ h => h) (Or.inl ⟨by rfl, ?_⟩) (by assumption) ?_
          rotate_left
          · intro w8 hSw; clear hSw; go_simp; (try with_reducible rfl)
          simp only [Act.put, List.getElem_toArray, List.getElem_cons_zero, List.getElem_cons_succ, List.setIfInBounds_toArray, List.set_cons_zero, List.set_cons_succ]
          refine wpAnyH_take (i := 1) (v := ?_) rfl (by kernel_rfl) (by kernel_rfl) (by kernel_rfl) (fun _ _ _ h => h) (Or.inl ⟨by rfl, ?_⟩) (by assumption) ?_
          rotate_left
          · intro w8 hSw; clear hSw; go_simp; (try with_reducible rfl)
          simp only [Act.put, List.getElem_toArray, List.getElem_cons_zero, List.getElem_cons_succ, List.setIfInBounds_toArray, List.set_cons_zero, List.set_cons_succ]
          refine wpAnyH_take (i := 2) (v := ?_) rfl (by kernel_rfl) (by kernel_rfl) (by kernel_rfl) (fun _ _ _ h => h) (Or.inl ⟨by rfl, ?_⟩) (by assumption) ?_
          rotate_left
          · intro w8 hSw; clear hSw; go_simp; (try with_reducible rfl)
          simp only [Act.put, List.getElem_toArray, List.getElem_cons_zero, List.getElem_cons_succ, List.setIfInBounds_toArray, List.set_cons_zero, List.set_cons_succ]
          refine wpAnyH_take (i := 3) (v := thVal x) rfl (by kernel_rfl) (by kernel_rfl) (by kernel_rfl) (fun _ _ _ h => h) (Or.inl ⟨by rfl, ?_⟩) (by assumption) ?_
          · intro w8 hSw; exact ld_takeT rfl hSw.1 rfl
          simp only [Act.put, List.getElem_toArray, List.getElem_cons_zero, List.getElem_cons_succ, List.setIfInBounds_toArray, List.set_cons_zero, List.set_cons_succ]
          refine wpAnyH_take (i := 5) (v := .agg #[.int .u64 y.1.id, .int .u64 y.1.gen, .int .i64 y.1.due, .int .i64 0]) rfl (by kernel_rfl) (by kernel_rfl) (by kernel_rfl) (fun _ _ _ h => h) (Or.inl ⟨by rfl, ?_⟩) (by assumption) ?_
          · intro w8 hSw; exact ld_takeT rfl hSw.2 rfl
          simp only [Act.put, List.getElem_toArray, List.getElem_cons_zero, List.getElem_cons_succ, List.setIfInBounds_toArray, List.set_cons_zero, List.set_cons_succ]
          refine wpAnyH_ready (rs := [4]) (by kernel_rfl) (by simp) ?_
          refine AllReadyH.cons rfl (fun K hK => ?_) AllReadyH.nil
          go_simp
          go_at_call 41
          refine (Hpl.out _).mono ?_
          rintro e w5 ⟨rfl, hB5'⟩; have hB5 := below_on ((Below.refl W5.heap.size W5).drew) hB5' (Nat.le_refl _)
          refine hK.out _ _ (Hld.out _ hB5) (fun hHeld => ?_)
          clear hK K
          try simp only [Act.put, List.getElem_toArray, List.getElem_cons_zero, List.getElem_cons_succ, List.setIfInBounds_toArray, List.set_cons_zero, List.set_cons_succ]
          refine wpAnyH_take (i := 6) (v := ?_) rfl (by kernel_rfl) (by kernel_rfl) (by kernel_rfl) (fun _ _ _ h => h) (Or.inl ⟨by rfl, ?_⟩) (by assumption) ?_
          rotate_left
          · intro w8 hSw; clear hSw; go_simp; (try with_reducible rfl)
          simp only [Act.put, List.getElem_toArray, List.getElem_cons_zero, List.getElem_cons_succ, List.setIfInBounds_toArray, List.set_cons_zero, List.set_cons_succ]
          refine wpAnyH_done (by kernel_rfl) ?_ _
          go_wp2_with fail
          go_meet
          exact ⟨rfl, hB5⟩
        case rest =>
          obtain ⟨rfl, hB6⟩ := hcut
          clear Hld Hpl hnq hgq
          have hB7 : Below W.heap.size W wc := below_on Hbw.out (below_on HB5.out hB6 (Nat.le_refl _)) (Nat.le_refl _)
          by_cases hxy : x = y.1
          · have hv : (!decide (x = y.1)) = false := by simp [hxy]
            rw [hv]
            have Hxy := Lib.hid hxy
            clear hxy hv
            go_wp2_with fail
            go_roundw
            case rel => exact ⟨i + 1, by first | rfl | rw [w1]; rfl, Hi.out, (same_step a b i Hi.out Hi2.out).2 ⟨heq.out, by rw [← Hx.out, ← Hy.out]; exact Hxy.out⟩, hB7⟩
            case measure =>
              first | rw [w1] | skip
              exact meas_w a.length i Hi.out
          · have hv : (!decide (x = y.1)) = true := by simp [hxy]
            rw [hv]
            have hne : decide (a = b.map (·.1)) = false := by
              rw [decide_eq_false_iff_not]
              intro e
              apply hxy
              have := ((same_step a b i Hi.out Hi2.out).1 (by rw [e])).2
              rw [Hx.out, Hy.out]; exact this
            have Hne := Lib.hid hne
            clear hxy hv hne
            go_wp2_with fail
            go_ret
            exact ⟨ret_bool (by rw [Hne.out]), hB7⟩
      · obtain rfl : i = a.length := Nat.le_antisymm hi (Nat.le_of_not_lt hil)
        have x1 : ¬ (a.length : Int) < (a.length : Int) := by omega
        have x2 : ¬ (a.length : Int) < (b.length : Int) := by rw [Hlen.out]; omega
        have he : decide (a = b.map (·.1)) = true := by
          have := heq.out
          rw [List.take_length, List.take_of_length_le (by rw [List.length_map, Hlen.out]; exact Nat.le_refl _)] at this
          exact decide_eq_true this
        have He := Lib.hid he
        clear he hil
        go_wp2_with fail
        go_ret
        exact ⟨ret_bool (by rw [He.out]), hbw⟩
  · have y0 : ((a.length : Int) != (b.length : Int)) = true := by simp; omega
    have y1 : ¬ (a.length : Int) = (b.length : Int) := by omega
    have he : decide (a = b.map (·.1)) = false := by
      rw [decide_eq_false_iff_not]
      intro e; exact hlen (by rw [e, List.length_map])
    rw [he]
    clear he
    go_enter Try.func45, Try.ntmps45
    go_wp2_with fail
    go_ret
    exact ⟨rfl, Below.refl _ _⟩
/-- slots.Before -/
theorem sbefore_any (a b : Th) (W : World) : Calls Try.prog 50 #[thVal a, thVal b] W fun e W' => e = .returned (.bool (thLt a b)) ∧ Below W.heap.size W W' := by
  obtain ⟨W1, hW1⟩ : ∃ W1, W1 = (W.alloc (.cells #[.int .u64 a.id, .int .u64 a.gen, .int .i64 a.due] thT)).alloc (.cells #[.int .u64 b.id, .int .u64 b.gen, .int .i64 b.due] thT) := ⟨_, rfl⟩
  have hB1 : Below W.heap.size W W1 := by rw [hW1]; exact below_on (below_new _ _) (below_new _ _) (Nat.le_refl _)
  have Hord := Lib.hid (order_any a b W1)
  have hlt : decide (orderN a b < 0) = thLt a b := by
    rw [Bool.eq_iff_iff]; simp [orderN_lt]
  have Hlt := Lib.hid hlt
  clear hlt
  unfold thVal
  unfold thVal at Hord
  go_enter Try.func50, Try.ntmps50
  go_wp2_with fail
  rw [← hW1]
  clear hW1
  refine Hord.out.mono ?_
  rintro e W2 ⟨rfl, hb2⟩
  go_wp2_with fail
  go_ret
  exact ⟨ret_bool (by rw [← Hlt.out]), below_on hB1 hb2 (Nat.le_refl _)⟩
end Go.Proofs.Ytedlplkomfiahaa
namespace Go.Proofs.Ytedlplkomfiahaa
set_option linter.unusedVariables false
set_option linter.unusedSimpArgs false
set_option linter.unusedSectionVars false
open Go Go.RowKit Go.Maps
/-- the ring (4: beyond, or late) -/
def ringN (now due : Int) : Nat := if due ≤ now then 4 else if due / 64 = now / 64 then 0 else if due / 4096 = now / 4096 then 1 else if due / 262144 = now / 262144 then 2 else if due / 16777216 = now / 16777216 then 3 else 4
/-- the width of a ring's slot -/
def wid : Nat → Int
  | 0 => 1
  | 1 => 64
  | 2 => 4096
  | 3 => 262144
  | _ => 16777216
def slotN (k : Nat) (due : Int) : Nat := if k = 4 then 0 else (due / wid k % 64).toNat
theorem ringN_le (now due : Int) : ringN now due ≤ 4 := by unfold ringN; split <;> (try split) <;> (try split) <;> (try split) <;> (try split) <;> omega
theorem slotN_lt (k : Nat) (due : Int) : slotN k due < 64 := by unfold slotN; split <;> omega
/-- what the ring says -/
theorem ring_cases (now due : Int) : (due ≤ now ∧ ringN now due = 4) ∨ (now < due ∧ due / 64 = now / 64 ∧ ringN now due = 0) ∨ (now < due ∧ due / 64 ≠ now / 64 ∧ due / 4096 = now / 4096 ∧ ringN now due = 1) ∨
    (now < due ∧ due / 4096 ≠ now / 4096 ∧ due / 262144 = now / 262144 ∧ ringN now due = 2) ∨ (now < due ∧ due / 262144 ≠ now / 262144 ∧ due / 16777216 = now / 16777216 ∧ ringN now due = 3) ∨ (now < due ∧ due / 16777216 ≠ now / 16777216 ∧ ringN now due = 4) := by
  unfold ringN
  by_cases h0 : due ≤ now
  · rw [if_pos h0]; exact .inl ⟨h0, rfl⟩
  rw [if_neg h0]
  by_cases h1 : due / 64 = now / 64
  · rw [if_pos h1]; exact .inr (.inl ⟨by omega, h1, rfl⟩)
  rw [if_neg h1]
  by_cases h2 : due / 4096 = now / 4096
  · rw [if_pos h2]; exact .inr (.inr (.inl ⟨by omega, h1, h2, rfl⟩))
  rw [if_neg h2]
  by_cases h3 : due / 262144 = now / 262144
  · rw [if_pos h3]; exact .inr (.inr (.inr (.inl ⟨by omega, h2, h3, rfl⟩)))
  rw [if_neg h3]
  by_cases h4 : due / 16777216 = now / 16777216
  · rw [if_pos h4]; exact .inr (.inr (.inr (.inr (.inl ⟨by omega, h3, h4, rfl⟩))))
  · rw [if_neg h4]; exact .inr (.inr (.inr (.inr (.inr ⟨by omega, h4, rfl⟩))))
/-- the rings below one that stands: all is late -/
theorem turn_low (i j : Nat) (a b due : Int) (hi : i ≤ 4) (hj : j < i) (h0 : 0 ≤ a) (h1 : a ≤ b) (hne : a / wid i ≠ b / wid i) (hr : ringN a due = j) : due ≤ b := by
  have hc := ring_cases a due
  rcases (by omega : i = 1 ∨ i = 2 ∨ i = 3 ∨ i = 4) with rfl | rfl | rfl | rfl <;> simp only [wid] at hne <;> rcases hc with ⟨c1, c2⟩ | ⟨c1, c2, c3⟩ | ⟨c1, c2, c3, c4⟩ | ⟨c1, c2, c3, c4⟩ | ⟨c1, c2, c3, c4⟩ | ⟨c1, c2, c3⟩ <;> omega
/-- a slot of the ring that stands: what lies ahead of it stays -/
theorem turn_stay (i : Nat) (a b due : Int) (hi : i ≤ 3) (h0 : 0 ≤ a) (h1 : a ≤ b) (he : a / wid (i + 1) = b / wid (i + 1)) (hr : ringN a due = i) (hs : slotN i b < slotN i due) : b < due ∧ ringN b due = i := by
  have hc := ring_cases a due
  have hd := ring_cases b due
  rcases (by omega : i = 0 ∨ i = 1 ∨ i = 2 ∨ i = 3) with rfl | rfl | rfl | rfl <;> simp [wid, slotN] at he hs <;> rcases hc with ⟨c1, c2⟩ | ⟨c1, c2, c3⟩ | ⟨c1, c2, c3, c4⟩ | ⟨c1, c2, c3, c4⟩ | ⟨c1, c2, c3, c4⟩ | ⟨c1, c2, c3⟩ <;> (try omega) <;> rcases hd with ⟨d1, d2⟩ | ⟨d1, d2, d3⟩ | ⟨d1, d2, d3, d4⟩ | ⟨d1, d2, d3, d4⟩ | ⟨d1, d2, d3, d4⟩ | ⟨d1, d2, d3⟩ <;> (try omega) <;> exact ⟨by omega, by omega⟩
/-- what is taken and not late goes down -/
theorem turn_down (i : Nat) (a b due : Int) (hi : i ≤ 3) (h0 : 0 ≤ a) (h1 : a ≤ b) (he : a / wid (i + 1) = b / wid (i + 1)) (hr : ringN a due = i) (hs : slotN i due ≤ slotN i b) (hb : b < due) : ringN b due < i := by
  have hc := ring_cases a due
  have hd := ring_cases b due
  rcases (by omega : i = 0 ∨ i = 1 ∨ i = 2 ∨ i = 3) with rfl | rfl | rfl | rfl <;> simp [wid, slotN] at he hs <;> rcases hc with ⟨c1, c2⟩ | ⟨c1, c2, c3⟩ | ⟨c1, c2, c3, c4⟩ | ⟨c1, c2, c3, c4⟩ | ⟨c1, c2, c3, c4⟩ | ⟨c1, c2, c3⟩ <;> (try omega) <;> rcases hd with ⟨d1, d2⟩ | ⟨d1, d2, d3⟩ | ⟨d1, d2, d3, d4⟩ | ⟨d1, d2, d3, d4⟩ | ⟨d1, d2, d3, d4⟩ | ⟨d1, d2, d3⟩ <;> omega
/-- where a slot begins -/
theorem turn_from (i : Nat) (a b due : Int) (hi : i ≤ 3) (h0 : 0 ≤ a) (h1 : a ≤ b) (he : a / wid (i + 1) = b / wid (i + 1)) (hr : ringN a due = i) : slotN i a ≤ slotN i due := by
  have hc := ring_cases a due
  rcases (by omega : i = 0 ∨ i = 1 ∨ i = 2 ∨ i = 3) with rfl | rfl | rfl | rfl <;> simp [wid, slotN] at he ⊢ <;> rcases hc with ⟨c1, c2⟩ | ⟨c1, c2, c3⟩ | ⟨c1, c2, c3, c4⟩ | ⟨c1, c2, c3, c4⟩ | ⟨c1, c2, c3, c4⟩ | ⟨c1, c2, c3⟩ <;> omega
/-- the rings above stand still -/
theorem turn_high (i j : Nat) (a b due : Int) (hi : i ≤ 3) (hj : i < j) (hj4 : j ≤ 4) (h0 : 0 ≤ a) (h1 : a ≤ b) (he : a / wid (i + 1) = b / wid (i + 1)) (hr : ringN a due = j) (hd : a < due) : b < due ∧ ringN b due = j := by
  have hc := ring_cases a due
  have hd := ring_cases b due
  rcases (by omega : i = 0 ∨ i = 1 ∨ i = 2 ∨ i = 3) with rfl | rfl | rfl | rfl <;> simp only [wid] at he <;> rcases hc with ⟨c1, c2⟩ | ⟨c1, c2, c3⟩ | ⟨c1, c2, c3, c4⟩ | ⟨c1, c2, c3, c4⟩ | ⟨c1, c2, c3, c4⟩ | ⟨c1, c2, c3⟩ <;> (try omega) <;> rcases hd with ⟨d1, d2⟩ | ⟨d1, d2, d3⟩ | ⟨d1, d2, d3, d4⟩ | ⟨d1, d2, d3, d4⟩ | ⟨d1, d2, d3, d4⟩ | ⟨d1, d2, d3⟩ <;> (try omega) <;> exact ⟨by omega, by omega⟩
end Go.Proofs.Ytedlplkomfiahaa
namespace Go.Proofs.Ytedlplkomfiahaa
set_option linter.unusedVariables false
set_option linter.unusedSimpArgs false
set_option linter.unusedSectionVars false
open Go Go.RowKit Go.Maps
abbrev whT : TypeId := 116
abbrev faT : TypeId := 112
abbrev mfT : TypeId := 26
def thD (t : Th) : DataW Unit := .agg [.lit (.int .u64 t.id), .lit (.int .u64 t.gen), .lit (.int .i64 t.due)]
/-- how a thing in the map reads -/
def thElem : Value → Option (DataW Unit × List MemPlace)
  | .agg cs => match cs.toList with
    | [.int .u64 i, .int .u64 g, .int .i64 d] => some (thD ⟨i, g, d⟩, [])
    | _ => none
  | _ => none
theorem thElem_mk (t : Th) : thElem (thVal t) = some (thD t, []) := rfl
theorem thElem_inv {v : Value} {z : DataW Unit × List MemPlace} (h : thElem v = some z) : ∃ t, v = thVal t ∧ z = (thD t, []) := by
  unfold thElem at h
  split at h
  · rename_i cs
    split at h
    · rename_i i g d he
      simp only [Option.some.injEq] at h
      refine ⟨⟨i, g, d⟩, ?_, h.symm⟩
      unfold thVal
      congr 1
      exact Array.toList_inj.1 he
    · cases h
  · cases h
theorem thD_inj {a b : Th} (h : thD a = thD b) : a = b := by
  obtain ⟨a1, a2, a3⟩ := a
  obtain ⟨b1, b2, b3⟩ := b
  simp only [thD, DataW.agg.injEq, List.cons.injEq, DataW.lit.injEq, Lit.int.injEq, true_and, and_true] at h
  obtain ⟨rfl, rfl, rfl⟩ := h
  rfl
def fpairs (l : List Th) : List (Int × DataW Unit) := l.map (fun t => (t.id, thD t))
theorem zeroTh (w : World) : (zeroValue thT).run Try.prog w = .ok (thVal ⟨0, 0, 0⟩) w := by kernel_rfl
theorem Rng.widen {W : World} {F G : Nat → Prop} {r n : Nat} {L : RLs} (h : Rng W F r n L) (hG : ∀ i, F i → G i) (hb : ∀ i, G i → i < W.heap.size) : Rng W G r n L := by
  obtain ⟨mb, sv, u, h1, h2⟩ := h.mem
  exact ⟨h.ok, h.few, hb, mb, sv, u, h1.refoot fun i hi _ => hG i hi, h2⟩
/-- a wheel's memory: at 'now', its rings, what lies beyond them -/
structure Whm (W : World) (F : Nat → Prop) (G : Nat → Nat → Prop) (w : Nat) (now : Int) (rs : Nat → Nat) (pf mf n : Nat) (R : Nat → RLs) (far : List Th) : Prop where
  blk : W.heap[w]? = some (.cells #[.int .i64 now, .pointer (some ⟨rs 0, 0, none⟩), .pointer (some ⟨rs 1, 0, none⟩), .pointer (some ⟨rs 2, 0, none⟩), .pointer (some ⟨rs 3, 0, none⟩), .pointer (some ⟨pf, 0, none⟩)] whT (0, 0))
  fblk : W.heap[pf]? = some (.cells #[.map (some mf)] faT (0, 0))
  ring : ∀ k, k < 4 → Rng W (G k) (rs k) n (R k)
  apart : ∀ j k, j < 4 → k < 4 → j ≠ k → ∀ i, G j i → ¬ G k i
  sub : ∀ k, k < 4 → ∀ i, G k i → F i
  out : ∀ k, k < 4 → ¬ G k w ∧ ¬ G k pf ∧ ¬ G k mf
  fw : F w
  ff : F pf
  fm : F mf
  bd : ∀ i, F i → i < W.heap.size
  map : ∃ D, W.ownsMap Try.prog 28 thElem mf n D ∧ MapL D (fpairs far)
theorem Whm.ne {W : World} {F : Nat → Prop} {G : Nat → Nat → Prop} {w : Nat} {now : Int} {rs : Nat → Nat} {pf mf n : Nat} {R : Nat → RLs} {far : List Th} (h : Whm W F G w now rs pf mf n R far) : w ≠ pf ∧ w ≠ mf ∧ pf ≠ mf := by
  obtain ⟨D, ⟨es, clock, h1, _⟩, _⟩ := h.map
  refine ⟨fun e => ?_, fun e => ?_, fun e => ?_⟩
  · have a := h.blk; rw [e, h.fblk] at a
    simp only [Option.some.injEq, Obj.cells.injEq] at a
    exact absurd a.2.1 (by decide)
  · have a := h.blk; rw [e, h1] at a; cases a
  · have a := h.fblk; rw [e, h1] at a; cases a
theorem Whm.kept {W W' : World} {F : Nat → Prop} {G : Nat → Nat → Prop} {w : Nat} {now : Int} {rs : Nat → Nat} {pf mf n : Nat} {R : Nat → RLs} {far : List Th} (h : Whm W F G w now rs pf mf n R far) (hs : W.heap.size ≤ W'.heap.size) (hk : ∀ i, F i → W'.heap[i]? = W.heap[i]?) : Whm W' F G w now rs pf mf n R far := by
  refine ⟨(hk w h.fw).trans h.blk, (hk pf h.ff).trans h.fblk, fun k hk4 => (h.ring k hk4).kept hs fun i hi => hk i (h.sub k hk4 i hi), h.apart, h.sub, h.out, h.fw, h.ff, h.fm, fun i hi => Nat.lt_of_lt_of_le (h.bd i hi) hs, ?_⟩
  obtain ⟨D, ⟨es, clock, h1, h2⟩, h3⟩ := h.map
  exact ⟨D, ⟨es, clock, (hk mf h.fm).trans h1, h2⟩, h3⟩
theorem Whm.below {W W' : World} {F : Nat → Prop} {G : Nat → Nat → Prop} {w : Nat} {now : Int} {rs : Nat → Nat} {pf mf n : Nat} {R : Nat → RLs} {far : List Th} (h : Whm W F G w now rs pf mf n R far) (hb : Below W.heap.size W W') : Whm W' F G w now rs pf mf n R far := h.kept hb.size fun i hi => hb.block i (h.bd i hi)
theorem Whm.beside {W W' : World} {F H : Nat → Prop} {G : Nat → Nat → Prop} {w : Nat} {now : Int} {rs : Nat → Nat} {pf mf n : Nat} {R : Nat → RLs} {far : List Th} (h : Whm W F G w now rs pf mf n R far) (hg : Gr H W W') (hd : ∀ i, F i → ¬ H i) : Whm W' F G w now rs pf mf n R far := h.kept hg.size fun i hi => hg.block i (h.bd i hi) (hd i hi)
theorem Whm.mono {W : World} {F : Nat → Prop} {G : Nat → Nat → Prop} {w : Nat} {now : Int} {rs : Nat → Nat} {pf mf n n' : Nat} {R : Nat → RLs} {far : List Th} (h : Whm W F G w now rs pf mf n R far) (hn : n ≤ n') : Whm W F G w now rs pf mf n' R far := by
  obtain ⟨D, h1, h2⟩ := h.map
  exact ⟨h.blk, h.fblk, fun k hk => (h.ring k hk).mono hn, h.apart, h.sub, h.out, h.fw, h.ff, h.fm, h.bd, D, h1.mono hn, h2⟩
def updF {α : Type} (R : Nat → α) (k : Nat) (x : α) : Nat → α := fun j => if j = k then x else R j
/-- a ring's call -/
theorem Whm.step {W W' : World} {F : Nat → Prop} {G : Nat → Nat → Prop} {w : Nat} {now : Int} {rs : Nat → Nat} {pf mf n n' : Nat} {R : Nat → RLs} {far : List Th} (h : Whm W F G w now rs pf mf n R far) (k : Nat) (hk : k < 4) (L' : RLs)
    (hr : Rng W' (More (G k) W W') (rs k) n' L') (hn : n ≤ n') (hg : Gr (G k) W W') : Whm W' (More F W W') (updF G k (More (G k) W W')) w now rs pf mf n' (updF R k L') far ∧ Gr F W W' := by
  have hgF : Gr F W W' := hg.mono (h.sub k hk)
  have hkw := h.out k hk
  refine ⟨⟨(hg.block w (h.bd w h.fw) hkw.1).trans h.blk, (hg.block pf (h.bd pf h.ff) hkw.2.1).trans h.fblk, fun j hj => ?_, fun i j hi hj hij q hq => ?_, fun j hj q hq => ?_, fun j hj => ?_, .inl h.fw, .inl h.ff, .inl h.fm, More.bd h.bd hg.size, ?_⟩, hgF⟩
  · unfold updF
    by_cases e : j = k
    · subst e; simp only [if_true]; exact hr
    · simp only [if_neg e]
      exact ((h.ring j hj).beside hg fun i hi => h.apart j k hj hk e i hi).mono hn
  · unfold updF at hq ⊢
    have hb : ∀ m, m < 4 → ∀ q, G m q → q < W.heap.size := fun m hm q hq => h.bd q (h.sub m hm q hq)
    by_cases e : i = k
    · subst e
      rw [if_neg (Ne.symm hij)]
      rw [if_pos rfl] at hq
      intro hjq
      rcases hq with h1 | h1
      · exact h.apart i j hi hj hij q h1 hjq
      · have := hb j hj q hjq; omega
    · rw [if_neg e] at hq
      by_cases e2 : j = k
      · subst e2
        rw [if_pos rfl]
        rintro (h1 | h1)
        · exact h.apart i j hi hj hij q hq h1
        · have := hb i hi q hq; omega
      · rw [if_neg e2]; exact h.apart i j hi hj hij q hq
  · unfold updF at hq
    by_cases e : j = k
    · subst e
      rw [if_pos rfl] at hq
      exact hq.imp (h.sub j hj q) id
    · rw [if_neg e] at hq; exact .inl (h.sub j hj q hq)
  · unfold updF
    by_cases e : j = k
    · subst e
      rw [if_pos rfl]
      have b1 := h.bd w h.fw
      have b2 := h.bd pf h.ff
      have b3 := h.bd mf h.fm
      exact ⟨fun q => q.elim hkw.1 (fun x => by omega), fun q => q.elim hkw.2.1 (fun x => by omega), fun q => q.elim hkw.2.2 (fun x => by omega)⟩
    · rw [if_neg e]; exact h.out j hj
  · obtain ⟨D, ⟨es, clock, h1, h2⟩, h3⟩ := h.map
    exact ⟨D, World.ownsMap.mono ⟨es, clock, (hg.block mf (h.bd mf h.fm) hkw.2.2).trans h1, h2⟩ hn, h3⟩
/-- the map beyond has turned -/
theorem Whm.turn {W W' : World} {F : Nat → Prop} {G : Nat → Nat → Prop} {w : Nat} {now : Int} {rs : Nat → Nat} {pf mf n n' : Nat} {R : Nat → RLs} {far far' : List Th} {D' : DataW Unit} (h : Whm W F G w now rs pf mf n R far)
    (hg : W.grownBy W' (some mf)) (ho : W'.ownsMap Try.prog 28 thElem mf n' D') (hD : MapL D' (fpairs far')) (hn : n ≤ n') : Whm W' F G w now rs pf mf n' R far' ∧ Gr F W W' := by
  have hne := h.ne
  have hG : Gr (fun i => i = mf) W W' := Gr.one hg fun b hb => by simpa using hb.symm
  refine ⟨⟨(hG.block w (h.bd w h.fw) hne.2.1).trans h.blk, (hG.block pf (h.bd pf h.ff) hne.2.2).trans h.fblk, fun k hk => ((h.ring k hk).beside hG fun i hi e => (h.out k hk).2.2 (e ▸ hi)).mono hn, h.apart, h.sub, h.out, h.fw, h.ff, h.fm, fun i hi => Nat.lt_of_lt_of_le (h.bd i hi) hG.size, D', ho, hD⟩, hG.mono fun i e => e ▸ h.fm⟩
/-- time has gone on -/
theorem Whm.setNow {W : World} {F : Nat → Prop} {G : Nat → Nat → Prop} {w : Nat} {now : Int} {rs : Nat → Nat} {pf mf n : Nat} {R : Nat → RLs} {far : List Th} (h : Whm W F G w now rs pf mf n R far) (b : Int) :
    Whm (W.setCell ⟨w, 0, none⟩ (.int .i64 b)) F G w b rs pf mf n R far ∧ Gr F W (W.setCell ⟨w, 0, none⟩ (.int .i64 b)) := by
  have hne := h.ne
  have hG : Gr (fun i => i = w) W (W.setCell ⟨w, 0, none⟩ (.int .i64 b)) := Gr.one (grown_set W w 0 _) fun b hb => by simpa using hb.symm
  have hs := block_set h.blk 0 (.int .i64 b)
  simp only [List.setIfInBounds_toArray, List.set_cons_zero] at hs
  refine ⟨⟨hs, (hG.block pf (h.bd pf h.ff) (Ne.symm hne.1)).trans h.fblk, fun k hk => (h.ring k hk).beside hG fun i hi e => (h.out k hk).1 (e ▸ hi), h.apart, h.sub, h.out, h.fw, h.ff, h.fm, fun i hi => Nat.lt_of_lt_of_le (h.bd i hi) hG.size, ?_⟩, hG.mono fun i e => e ▸ h.fw⟩
  obtain ⟨D, ⟨es, clock, h1, h2⟩, h3⟩ := h.map
  exact ⟨D, ⟨es, clock, (hG.block mf (h.bd mf h.fm) (Ne.symm hne.2.1)).trans h1, h2⟩, h3⟩
end Go.Proofs.Ytedlplkomfiahaa
namespace Go.Proofs.Ytedlplkomfiahaa
set_option linter.unusedVariables false
set_option linter.unusedSimpArgs false
set_option linter.unusedSectionVars false
open Go Go.RowKit Go.Maps
/-- where a turn begins -/
def atM (f : Int) : Nat := (f % 64).toNat
theorem atM_lt (f : Int) : atM f < 64 := by unfold atM; omega
theorem atM_and (f : Int) : bits .and .i64 f 63 = (atM f : Nat) := by
  have h1 : bits .and .i64 f 63 = IntKind.i64.wrap (((BitVec.ofInt 64 f &&& BitVec.ofInt 64 63).toNat : Nat) : Int) := rfl
  have h2 : (BitVec.ofInt 64 f &&& BitVec.ofInt 64 63).toNat = atM f := by
    rw [BitVec.toNat_and, BitVec.toNat_ofInt, BitVec.toNat_ofInt]
    have e1 : ((63 : Int) % ((2 ^ 64 : Nat) : Int)).toNat = 2 ^ 6 - 1 := by decide
    rw [e1, Nat.and_two_pow_sub_one_eq_mod]
    unfold atM
    have e2 : ((2 ^ 64 : Nat) : Int) = 18446744073709551616 := by decide
    rw [e2]
    omega
  rw [h1, h2]
  have := atM_lt f
  simp [IntKind.wrap, IntKind.signed, IntKind.bits]; omega
end Go.Proofs.Ytedlplkomfiahaa
namespace Go.Proofs.Ytedlplkomfiahaa
set_option linter.unusedVariables false
set_option linter.unusedSimpArgs false
set_option linter.unusedSectionVars false
open Go Go.RowKit Go.Maps
theorem meas4 (i : Nat) (h : i < 4) : 4 - (intOf (.int .i64 ((i : Int) + 1))).toNat < 4 - (intOf (.int .i64 (i : Nat))).toNat := by simp only [intOf]; omega
theorem below_drewN1 {B : Nat} {W0 W : World} (h : Below B W0 W) (n : Nat) : Below B W0 (W.drewN n) := ⟨h.os, h.tape, h.output, h.size, h.block⟩
theorem below_drewN2 {B : Nat} {W0 W : World} (h : Below B W0 W) (n m : Nat) : Below B W0 ((W.drewN n).drewN m) := ⟨h.os, h.tape, h.output, h.size, h.block⟩
def Inst (t : Int) : Prop := 0 ≤ t ∧ t ≤ 1125899906842624
theorem sinst_any (t : Int) (W : World) : Calls Try.prog 89 #[.int .i64 t] W fun e W' => e = .returned (.bool (decide (0 ≤ t) && decide (t ≤ 1125899906842624))) ∧ W' = W := by
  by_cases h : 0 ≤ t
  · go_enter Try.func89, Try.ntmps89
    go_wp2_with fail
    go_ret
    exact ⟨ret_bool (by simp [h]), rfl⟩
  · have h2 : ¬ (0 ≤ t) := h
    go_enter Try.func89, Try.ntmps89
    go_wp2_with fail
    go_ret
    exact ⟨ret_bool (by simp; omega), rfl⟩
theorem add_yes (t : Int) (h : Inst t) (W : World) : Calls Try.prog 71 #[.int .i64 t, .int .i64 0] W fun e W' => e = .returned (.tuple #[.int .i64 t, .int .i64 0]) ∧ W' = W := by
  have Hs := Lib.hid (sinst_any t W)
  obtain ⟨h1, h2⟩ := h
  have y1 : (decide (0 ≤ t) && decide (t ≤ 1125899906842624)) = true := by simp [h1, h2]
  rw [y1] at Hs
  have w1 : wrap64 (1125899906842624 - t) = 1125899906842624 - t := IntWalk.wrap64_in _ (by omega)
  have w2 : wrap64 (-t) = -t := IntWalk.wrap64_in _ (by omega)
  have w3 : wrap64 (t + 0) = t := by rw [Int.add_zero]; exact IntWalk.wrap64_in _ (by omega)
  have w4 : wrap64 t = t := IntWalk.wrap64_in _ (by omega)
  clear y1
  go_enter Try.func71, Try.ntmps71
  go_wp2_with fail
  refine Hs.out.mono ?_
  rintro e W2 ⟨rfl, rfl⟩
  go_wp2_with fail
  all_goals
    go_ret2
    first | exact ⟨rfl, rfl⟩ | exact ⟨by rw [w4]; rfl, rfl⟩ | exact ⟨by rw [w3]; rfl, rfl⟩
theorem add_no (t : Int) (h : ¬ Inst t) (W : World) : Calls Try.prog 71 #[.int .i64 t, .int .i64 0] W fun e W' => e = .returned (.tuple #[.int .i64 0, .int .i64 2]) ∧ W' = W := by
  have Hs := Lib.hid (sinst_any t W)
  have y1 : (decide (0 ≤ t) && decide (t ≤ 1125899906842624)) = false := by
    unfold Inst at h
    simp only [Bool.and_eq_false_iff, decide_eq_false_iff_not]; omega
  rw [y1] at Hs
  clear y1
  go_enter Try.func71, Try.ntmps71
  go_wp2_with fail
  refine Hs.out.mono ?_
  rintro e W2 ⟨rfl, rfl⟩
  go_wp2_with fail
  go_ret2
  exact ⟨rfl, rfl⟩
theorem inst_yes (t : Int) (h : Inst t) (W : World) : Calls Try.prog 64 #[.int .i64 t] W fun e W' => e = .returned (.bool true) ∧ W' = W := by
  have Ha := Lib.hid (add_yes t h W)
  go_enter Try.func64, Try.ntmps64
  go_wp2_with fail
  refine Ha.out.mono ?_
  rintro e W2 ⟨rfl, rfl⟩
  go_wp2_with fail
  go_ret
  exact ⟨rfl, rfl⟩
theorem inst_no (t : Int) (h : ¬ Inst t) (W : World) : Calls Try.prog 64 #[.int .i64 t] W fun e W' => e = .returned (.bool false) ∧ W' = W := by
  have Ha := Lib.hid (add_no t h W)
  go_enter Try.func64, Try.ntmps64
  go_wp2_with fail
  refine Ha.out.mono ?_
  rintro e W2 ⟨rfl, rfl⟩
  go_wp2_with fail
  go_ret
  exact ⟨rfl, rfl⟩
theorem wnone_no (W : World) (w pf : Nat) (hc : W.cell? ⟨w, 5, none⟩ = some (.pointer (some ⟨pf, 0, none⟩))) (hl : w < W.heap.size) : Calls Try.prog 67 #[.pointer (some ⟨w, 0, none⟩)] W fun e W' => e = .returned (.bool false) ∧ W' = W := by
  go_enter Try.func67, Try.ntmps67
  go_wp2_with fail
  go_ret
  exact ⟨rfl, rfl⟩
def WNone (W : World) (q : Option Addr) : Prop := ∀ W', Below W.heap.size W W' → Calls Try.prog 67 #[.pointer q] W' fun e W'' => e = .returned (.bool true) ∧ W'' = W'
theorem WNone.nil (W : World) : WNone W none := fun W' _ => by
  go_enter Try.func67, Try.ntmps67
  go_wp2_with fail
  go_ret
  exact ⟨rfl, rfl⟩
theorem WNone.zero {W : World} {w : Nat} (hc : W.cell? ⟨w, 5, none⟩ = some (.pointer none)) : WNone W (some ⟨w, 0, none⟩) := fun W' hb => by
  have hl := cell?_lt hc
  have hc2 : W'.cell? ⟨w, 5, none⟩ = some (.pointer none) := (hb.cell (p := ⟨w, 5, none⟩) hl).trans hc
  have hl2 : w < W'.heap.size := Nat.lt_of_lt_of_le hl hb.size
  go_enter Try.func67, Try.ntmps67
  go_wp2_with fail
  go_ret
  exact ⟨rfl, rfl⟩
set_option maxRecDepth 100000 in
set_option maxHeartbeats 4000000 in
theorem place_any (W : World) (w : Nat) (now due : Int) (hc : W.cell? ⟨w, 0, none⟩ = some (.int .i64 now)) (hn : Inst now) (hd : Inst due) :
    Calls Try.prog 91 #[.pointer (some ⟨w, 0, none⟩), .int .i64 due] W fun e W' => e = .returned (.tuple #[.int .i64 (ringN now due : Nat), .int .i64 (slotN (ringN now due) due : Nat)]) ∧ Below W.heap.size W W' := by
  have hl := cell?_lt hc
  obtain ⟨hn1, hn2⟩ := hn
  obtain ⟨hd1, hd2⟩ := hd
  go_enter Try.func91, Try.ntmps91
  go_wp2_with fail
  go_loopw [6] (fun u wr => ∃ i : Nat, u = .int .i64 (i : Nat) ∧ i ≤ 4 ∧ Hid (i ≤ ringN now due) ∧ Below W.heap.size W wr) (fun u _ => 4 - (intOf u).toNat)
  case atStart => exact ⟨0, rfl, by omega, Nat.zero_le _, Below.refl _ _⟩
  case round =>
    obtain ⟨i, rfl, hi, hge, hb⟩ := hrel
    have hc2 : wr.cell? ⟨w, 0, none⟩ = some (.int .i64 now) := (hb.cell (p := ⟨w, 0, none⟩) hl).trans hc
    have hl2 : w < wr.heap.size := Nat.lt_of_lt_of_le hl hb.size
    have Hb := Lib.hid hb
    clear hb
    by_cases hi4 : i = 4
    · subst hi4
      have hr : ringN now due = 4 := Nat.le_antisymm (ringN_le _ _) hge.out
      have Hr := Lib.hid hr
      clear hr
      go_wp2_with fail
      go_ret2
      exact ⟨by rw [Hr.out]; rfl, Hb.out⟩
    · by_cases hdn : now < due
      · have x1 : due > now := hdn
        have hcases := Lib.hid (ring_cases now due)
        rcases (by omega : i = 0 ∨ i = 1 ∨ i = 2 ∨ i = 3) with rfl | rfl | rfl | rfl
        · by_cases hx : due / 64 = now / 64
          · have hxb : (due / 64 == now / 64) = true := by simp [hx]
            have hr : ringN now due = 0 := by
              have := hge.out
              have hc3 := hcases.out
              omega
            have Hr := Lib.hid hr
            have hs : slotN 0 due = (due % 64).toNat := by simp [slotN, wid]
            have Hs := Lib.hid hs
            have hat := atM_and (due)
            clear hr hs
            go_wp2_with fail
            go_quiet (fail)
            go_wp2_with fail
            go_quiet (fail)
            go_wp2_with fail
            go_ret2
            refine ⟨?_, below_drewN2 Hb.out _ _⟩
            rw [Hr.out, Hs.out]
            rfl
          · have hxb : (due / 64 == now / 64) = false := by simp [hx]
            have Hx := Lib.hid hx
            clear hx
            go_wp2_with fail
            go_quiet (fail)
            go_wp2_with fail
            go_roundw
            case rel => exact ⟨1, rfl, by omega, (by
              have := hge.out
              have hx2 := Hx.out
              have hc3 := hcases.out
              show 1 ≤ ringN now due
              omega), below_drewN1 Hb.out _⟩
            case measure => simp [intOf]
        · by_cases hx : due / 4096 = now / 4096
          · have hxb : (due / 4096 == now / 4096) = true := by simp [hx]
            have hr : ringN now due = 1 := by
              have := hge.out
              have hc3 := hcases.out
              omega
            have Hr := Lib.hid hr
            have hs : slotN 1 due = (due / 64 % 64).toNat := by simp [slotN, wid]
            have Hs := Lib.hid hs
            have hat := atM_and (due / 64)
            clear hr hs
            go_wp2_with fail
            go_quiet (fail)
            go_wp2_with fail
            go_quiet (fail)
            go_wp2_with fail
            go_ret2
            refine ⟨?_, below_drewN2 Hb.out _ _⟩
            rw [Hr.out, Hs.out]
            rfl
          · have hxb : (due / 4096 == now / 4096) = false := by simp [hx]
            have Hx := Lib.hid hx
            clear hx
            go_wp2_with fail
            go_quiet (fail)
            go_wp2_with fail
            go_roundw
            case rel => exact ⟨2, rfl, by omega, (by
              have := hge.out
              have hx2 := Hx.out
              have hc3 := hcases.out
              show 2 ≤ ringN now due
              omega), below_drewN1 Hb.out _⟩
            case measure => simp [intOf]
        · by_cases hx : due / 262144 = now / 262144
          · have hxb : (due / 262144 == now / 262144) = true := by simp [hx]
            have hr : ringN now due = 2 := by
              have := hge.out
              have hc3 := hcases.out
              omega
            have Hr := Lib.hid hr
            have hs : slotN 2 due = (due / 4096 % 64).toNat := by simp [slotN, wid]
            have Hs := Lib.hid hs
            have hat := atM_and (due / 4096)
            clear hr hs
            go_wp2_with fail
            go_quiet (fail)
            go_wp2_with fail
            go_quiet (fail)
            go_wp2_with fail
            go_ret2
            refine ⟨?_, below_drewN2 Hb.out _ _⟩
            rw [Hr.out, Hs.out]
            rfl
          · have hxb : (due / 262144 == now / 262144) = false := by simp [hx]
            have Hx := Lib.hid hx
            clear hx
            go_wp2_with fail
            go_quiet (fail)
            go_wp2_with fail
            go_roundw
            case rel => exact ⟨3, rfl, by omega, (by
              have := hge.out
              have hx2 := Hx.out
              have hc3 := hcases.out
              show 3 ≤ ringN now due
              omega), below_drewN1 Hb.out _⟩
            case measure => simp [intOf]
        · by_cases hx : due / 16777216 = now / 16777216
          · have hxb : (due / 16777216 == now / 16777216) = true := by simp [hx]
            have hr : ringN now due = 3 := by
              have := hge.out
              have hc3 := hcases.out
              omega
            have Hr := Lib.hid hr
            have hs : slotN 3 due = (due / 262144 % 64).toNat := by simp [slotN, wid]
            have Hs := Lib.hid hs
            have hat := atM_and (due / 262144)
            clear hr hs
            go_wp2_with fail
            go_quiet (fail)
            go_wp2_with fail
            go_quiet (fail)
            go_wp2_with fail
            go_ret2
            refine ⟨?_, below_drewN2 Hb.out _ _⟩
            rw [Hr.out, Hs.out]
            rfl
          · have hxb : (due / 16777216 == now / 16777216) = false := by simp [hx]
            have Hx := Lib.hid hx
            clear hx
            go_wp2_with fail
            go_quiet (fail)
            go_wp2_with fail
            go_roundw
            case rel => exact ⟨4, rfl, by omega, (by
              have := hge.out
              have hx2 := Hx.out
              have hc3 := hcases.out
              show 4 ≤ ringN now due
              omega), below_drewN1 Hb.out _⟩
            case measure => simp [intOf]
      · have x1 : ¬ due > now := hdn
        have hld : ∀ W', Below wr.heap.size wr W' → (Instr.loadAt 2 (.pointer (some ⟨w, 0, none⟩))).run Try.prog W' = .ok (.int .i64 now) W' := fun W' hw => by
          have hc3 : W'.cell? ⟨w, 0, none⟩ = some (.int .i64 now) := (hw.cell (p := ⟨w, 0, none⟩) hl2).trans hc2
          go_simp
        have hr : ringN now due = 4 := by unfold ringN; rw [if_pos (by omega)]
        have Hr := Lib.hid hr
        have hi3 : i < 4 := by omega
        have x2 : (i : Int) < 4 := by omega
        have w1 : wrap64 ((i : Int) + 1) = (i : Int) + 1 := IntWalk.wrap64_in _ (by omega)
        clear hr
        go_upto_region 4 with fail
        go_cut [6, 30] (fun v u wx => v = .int .i64 (i : Nat) ∧ u = .bool false ∧ Below wr.heap.size wr wx)
        case first =>
          refine wp_region_held_drew (S := fun W' => (Instr.loadAt 2 (.pointer (some ⟨w, 0, none⟩))).run Try.prog W' = .ok (.int .i64 now) W') (by kernel_rfl) (hld wr.drew (Below.refl _ _).drew) (fun hHeld => ?_)
          refine wpAnyH_take (i := 0) (v := ?_) rfl (by kernel_rfl) (by kernel_rfl) (by kernel_rfl) (fun _ _ _ h => h) (Or.inl ⟨by rfl, ?_⟩) (by assumption) ?_
          rotate_left
          · intro w8 hSw; clear hSw; go_simp; (try with_reducible rfl)
          simp only [Act.put, List.getElem_toArray, List.getElem_cons_zero, List.getElem_cons_succ, List.setIfInBounds_toArray, List.set_cons_zero, List.set_cons_succ]
          refine wpAnyH_take (i := 1) (v := ?_) rfl (by kernel_rfl) (by kernel_rfl) (by kernel_rfl) (fun _ _ _ h => h) (Or.inl ⟨by rfl, ?_⟩) (by assumption) ?_
          rotate_left
          · intro w8 hSw; clear hSw; go_simp; (try with_reducible rfl)
          simp only [Act.put, List.getElem_toArray, List.getElem_cons_zero, List.getElem_cons_succ, List.setIfInBounds_toArray, List.set_cons_zero, List.set_cons_succ]
          refine wpAnyH_take (i := 2) (v := ?_) rfl (by kernel_rfl) (by kernel_rfl) (by kernel_rfl) (fun _ _ _ h => h) (Or.inl ⟨by rfl, ?_⟩) (by assumption) ?_
          rotate_left
          · intro w8 hSw; clear hSw; go_simp; (try with_reducible rfl)
          simp only [Act.put, List.getElem_toArray, List.getElem_cons_zero, List.getElem_cons_succ, List.setIfInBounds_toArray, List.set_cons_zero, List.set_cons_succ]
          refine wpAnyH_take (i := 3) (v := ?_) rfl (by kernel_rfl) (by kernel_rfl) (by kernel_rfl) (fun _ _ _ h => h) (Or.inl ⟨by rfl, ?_⟩) (by assumption) ?_
          rotate_left
          · intro w8 hSw; clear hSw; go_simp; (try with_reducible rfl)
          simp only [Act.put, List.getElem_toArray, List.getElem_cons_zero, List.getElem_cons_succ, List.setIfInBounds_toArray, List.set_cons_zero, List.set_cons_succ]
          refine wpAnyH_take (i := 4) (v := .int .i64 now) rfl (by kernel_rfl) (by kernel_rfl) (by kernel_rfl) (fun _ _ _ h => h) (Or.inl ⟨by rfl, ?_⟩) (by assumption) ?_
          · intro w8 hSw; exact ld_takeT rfl hSw rfl
          simp only [Act.put, List.getElem_toArray, List.getElem_cons_zero, List.getElem_cons_succ, List.setIfInBounds_toArray, List.set_cons_zero, List.set_cons_succ]
          refine wpAnyH_take (i := 5) (v := ?_) rfl (by kernel_rfl) (by kernel_rfl) (by kernel_rfl) (fun _ _ _ h => h) (Or.inl ⟨by rfl, ?_⟩) (by assumption) ?_
          rotate_left
          · intro w8 hSw; clear hSw; go_simp; (try with_reducible rfl)
          simp only [Act.put, List.getElem_toArray, List.getElem_cons_zero, List.getElem_cons_succ, List.setIfInBounds_toArray, List.set_cons_zero, List.set_cons_succ]
          refine wpAnyH_take (i := 6) (v := ?_) rfl (by kernel_rfl) (by kernel_rfl) (by kernel_rfl) (fun _ _ _ h => h) (Or.inl ⟨by rfl, ?_⟩) (by assumption) ?_
          rotate_left
          · intro w8 hSw; clear hSw; go_simp; (try with_reducible rfl)
          simp only [Act.put, List.getElem_toArray, List.getElem_cons_zero, List.getElem_cons_succ, List.setIfInBounds_toArray, List.set_cons_zero, List.set_cons_succ]
          refine wpAnyH_take (i := 7) rfl (by kernel_rfl) (by kernel_rfl) (by kernel_rfl) (fun _ _ _ h => h) (Or.inr ⟨by rfl, rfl⟩) (by assumption) ?_
          simp only [Act.put, List.getElem_toArray, List.getElem_cons_zero, List.getElem_cons_succ, List.setIfInBounds_toArray, List.set_cons_zero, List.set_cons_succ]
          refine wpAnyH_take (i := 8) rfl (by kernel_rfl) (by kernel_rfl) (by kernel_rfl) (fun _ _ _ h => h) (Or.inr ⟨by rfl, rfl⟩) (by assumption) ?_
          simp only [Act.put, List.getElem_toArray, List.getElem_cons_zero, List.getElem_cons_succ, List.setIfInBounds_toArray, List.set_cons_zero, List.set_cons_succ]
          refine wpAnyH_take (i := 9) rfl (by kernel_rfl) (by kernel_rfl) (by kernel_rfl) (fun _ _ _ h => h) (Or.inr ⟨by rfl, rfl⟩) (by assumption) ?_
          simp only [Act.put, List.getElem_toArray, List.getElem_cons_zero, List.getElem_cons_succ, List.setIfInBounds_toArray, List.set_cons_zero, List.set_cons_succ]
          refine wpAnyH_take (i := 10) rfl (by kernel_rfl) (by kernel_rfl) (by kernel_rfl) (fun _ _ _ h => h) (Or.inr ⟨by rfl, rfl⟩) (by assumption) ?_
          simp only [Act.put, List.getElem_toArray, List.getElem_cons_zero, List.getElem_cons_succ, List.setIfInBounds_toArray, List.set_cons_zero, List.set_cons_succ]
          refine wpAnyH_take (i := 11) rfl (by kernel_rfl) (by kernel_rfl) (by kernel_rfl) (fun _ _ _ h => h) (Or.inr ⟨by rfl, rfl⟩) (by assumption) ?_
          simp only [Act.put, List.getElem_toArray, List.getElem_cons_zero, List.getElem_cons_succ, List.setIfInBounds_toArray, List.set_cons_zero, List.set_cons_succ]
          refine wpAnyH_take (i := 12) rfl (by kernel_rfl) (by kernel_rfl) (by kernel_rfl) (fun _ _ _ h => h) (Or.inr ⟨by rfl, rfl⟩) (by assumption) ?_
          simp only [Act.put, List.getElem_toArray, List.getElem_cons_zero, List.getElem_cons_succ, List.setIfInBounds_toArray, List.set_cons_zero, List.set_cons_succ]
          refine wpAnyH_take (i := 13) rfl (by kernel_rfl) (by kernel_rfl) (by kernel_rfl) (fun _ _ _ h => h) (Or.inr ⟨by rfl, rfl⟩) (by assumption) ?_
          simp only [Act.put, List.getElem_toArray, List.getElem_cons_zero, List.getElem_cons_succ, List.setIfInBounds_toArray, List.set_cons_zero, List.set_cons_succ]
          refine wpAnyH_take (i := 14) rfl (by kernel_rfl) (by kernel_rfl) (by kernel_rfl) (fun _ _ _ h => h) (Or.inr ⟨by rfl, rfl⟩) (by assumption) ?_
          simp only [Act.put, List.getElem_toArray, List.getElem_cons_zero, List.getElem_cons_succ, List.setIfInBounds_toArray, List.set_cons_zero, List.set_cons_succ]
          refine wpAnyH_take (i := 15) rfl (by kernel_rfl) (by kernel_rfl) (by kernel_rfl) (fun _ _ _ h => h) (Or.inr ⟨by rfl, rfl⟩) (by assumption) ?_
          simp only [Act.put, List.getElem_toArray, List.getElem_cons_zero, List.getElem_cons_succ, List.setIfInBounds_toArray, List.set_cons_zero, List.set_cons_succ]
          refine wpAnyH_take (i := 16) rfl (by kernel_rfl) (by kernel_rfl) (by kernel_rfl) (fun _ _ _ h => h) (Or.inr ⟨by rfl, rfl⟩) (by assumption) ?_
          simp only [Act.put, List.getElem_toArray, List.getElem_cons_zero, List.getElem_cons_succ, List.setIfInBounds_toArray, List.set_cons_zero, List.set_cons_succ]
          refine wpAnyH_take (i := 17) rfl (by kernel_rfl) (by kernel_rfl) (by kernel_rfl) (fun _ _ _ h => h) (Or.inr ⟨by rfl, rfl⟩) (by assumption) ?_
          simp only [Act.put, List.getElem_toArray, List.getElem_cons_zero, List.getElem_cons_succ, List.setIfInBounds_toArray, List.set_cons_zero, List.set_cons_succ]
          refine wpAnyH_take (i := 18) rfl (by kernel_rfl) (by kernel_rfl) (by kernel_rfl) (fun _ _ _ h => h) (Or.inr ⟨by rfl, rfl⟩) (by assumption) ?_
          simp only [Act.put, List.getElem_toArray, List.getElem_cons_zero, List.getElem_cons_succ, List.setIfInBounds_toArray, List.set_cons_zero, List.set_cons_succ]
          refine wpAnyH_take (i := 19) rfl (by kernel_rfl) (by kernel_rfl) (by kernel_rfl) (fun _ _ _ h => h) (Or.inr ⟨by rfl, rfl⟩) (by assumption) ?_
          simp only [Act.put, List.getElem_toArray, List.getElem_cons_zero, List.getElem_cons_succ, List.setIfInBounds_toArray, List.set_cons_zero, List.set_cons_succ]
          refine wpAnyH_take (i := 20) rfl (by kernel_rfl) (by kernel_rfl) (by kernel_rfl) (fun _ _ _ h => h) (Or.inr ⟨by rfl, rfl⟩) (by assumption) ?_
          simp only [Act.put, List.getElem_toArray, List.getElem_cons_zero, List.getElem_cons_succ, List.setIfInBounds_toArray, List.set_cons_zero, List.set_cons_succ]
          refine wpAnyH_take (i := 21) (v := ?_) rfl (by kernel_rfl) (by kernel_rfl) (by kernel_rfl) (fun _ _ _ h => h) (Or.inl ⟨by rfl, ?_⟩) (by assumption) ?_
          rotate_left
          · intro w8 hSw; clear hSw; go_simp; (try with_reducible rfl)
          simp only [Act.put, List.getElem_toArray, List.getElem_cons_zero, List.getElem_cons_succ, List.setIfInBounds_toArray, List.set_cons_zero, List.set_cons_succ]
          refine wpAnyH_done (by kernel_rfl) ?_ _
          go_wp2_with fail
          go_meet
          exact ⟨rfl, rfl, (Below.refl _ _).drew⟩
        case rest =>
          obtain ⟨rfl, rfl, hB5⟩ := hcut
          go_wp2_with fail
          go_roundw
          case rel => exact ⟨i + 1, by first | rfl | rw [w1]; rfl, hi3, (by show i + 1 ≤ ringN now due; rw [Hr.out]; exact hi3), below_on Hb.out hB5 (Nat.le_refl _)⟩
          case measure =>
            first | rw [w1] | skip
            exact meas4 i hi3
end Go.Proofs.Ytedlplkomfiahaa
namespace Go.Proofs.Ytedlplkomfiahaa
set_option linter.unusedVariables false
set_option linter.unusedSimpArgs false
set_option linter.unusedSectionVars false
open Go Go.RowKit Go.Maps
abbrev rpT : TypeId := 113
theorem Whm.cells {W : World} {F : Nat → Prop} {G : Nat → Nat → Prop} {w : Nat} {now : Int} {rs : Nat → Nat} {pf mf n : Nat} {R : Nat → RLs} {far : List Th} (h : Whm W F G w now rs pf mf n R far) :
    W.cell? ⟨w, 0, none⟩ = some (.int .i64 now) ∧ W.cell? ⟨w, 1, none⟩ = some (.pointer (some ⟨rs 0, 0, none⟩)) ∧ W.cell? ⟨w, 2, none⟩ = some (.pointer (some ⟨rs 1, 0, none⟩)) ∧ W.cell? ⟨w, 3, none⟩ = some (.pointer (some ⟨rs 2, 0, none⟩)) ∧ W.cell? ⟨w, 4, none⟩ = some (.pointer (some ⟨rs 3, 0, none⟩)) ∧ W.cell? ⟨w, 5, none⟩ = some (.pointer (some ⟨pf, 0, none⟩)) ∧ W.cell? ⟨pf, 0, none⟩ = some (.map (some mf)) ∧ w < W.heap.size ∧ pf < W.heap.size := by
  have a0 := block_cell h.blk 0
  have a1 := block_cell h.blk 1
  have a2 := block_cell h.blk 2
  have a3 := block_cell h.blk 3
  have a4 := block_cell h.blk 4
  have a5 := block_cell h.blk 5
  have b0 := block_cell h.fblk 0
  simp at a0 a1 a2 a3 a4 a5 b0
  exact ⟨a0, a1, a2, a3, a4, a5, b0, h.bd w h.fw, h.bd pf h.ff⟩
theorem Whm.rcell {W : World} {F : Nat → Prop} {G : Nat → Nat → Prop} {w : Nat} {now : Int} {rs : Nat → Nat} {pf mf n : Nat} {R : Nat → RLs} {far : List Th} (h : Whm W F G w now rs pf mf n R far) (k : Nat) (hk : k < 4) :
    W.cell? ⟨w, 1 + k, none⟩ = some (.pointer (some ⟨rs k, 0, none⟩)) := by
  obtain ⟨a0, a1, a2, a3, a4, -⟩ := h.cells
  rcases (by omega : k = 0 ∨ k = 1 ∨ k = 2 ∨ k = 3) with rfl | rfl | rfl | rfl
  · exact a1
  · exact a2
  · exact a3
  · exact a4
theorem Whm.same {W : World} {F : Nat → Prop} {G : Nat → Nat → Prop} {w : Nat} {now : Int} {rs : Nat → Nat} {pf mf n : Nat} {R R' : Nat → RLs} {far far' : List Th} (h : Whm W F G w now rs pf mf n R far) (hR : ∀ k, k < 4 → R k = R' k) (hf : far = far') : Whm W F G w now rs pf mf n R' far' := by
  subst hf
  exact ⟨h.blk, h.fblk, fun k hk => by rw [← hR k hk]; exact h.ring k hk, h.apart, h.sub, h.out, h.fw, h.ff, h.fm, h.bd, h.map⟩
theorem loadP {W : World} {b o : Nat} {q : Option Addr} (c : W.cell? ⟨b, o, none⟩ = some (.pointer q)) : (Instr.loadAt rpT (.pointer (some ⟨b, o, none⟩))).run Try.prog W = .ok (.pointer q) W := by go_simp
theorem loadTh {W : World} {b o : Nat} {t : Th} (h0 : W.cell? ⟨b, o, none⟩ = some (.int .u64 t.id)) (h1 : W.cell? ⟨b, o + 1, none⟩ = some (.int .u64 t.gen)) (h2 : W.cell? ⟨b, o + 2, none⟩ = some (.int .i64 t.due)) : (Instr.loadAt thT (.pointer (some ⟨b, o, none⟩))).run Try.prog W = .ok (thVal t) W := by
  unfold thVal
  go_simp
theorem fmapset_run {W : World} {b n : Nat} {D : DataW Unit} (h : W.ownsMap Try.prog 28 thElem b n D) (hn : n < 1000000) (t : Th) (hw : IdOk t.id) :
    ∃ W', (Instr.mapUpdate mfT (.map (some b)) (.int .u64 t.id) (thVal t)).run Try.prog W = .ok () W' ∧ W'.ownsMap Try.prog 28 thElem b (n + 1) (D.put (.int .u64 t.id) (thD t)) ∧ W.grownBy W' (some b) :=
  h.update u64law Try.underlying26 (by unfold maxLen; omega) (keyOf_int_mk Try.underlying28 hw.wf) (thElem_mk t)
theorem fpairs_snoc (l : List Th) (t : Th) : fpairs (l ++ [t]) = fpairs l ++ [(t.id, thD t)] := by simp [fpairs]
def putF (far : List Th) (now : Int) (t : Th) : List Th := if ringN now t.due = 4 then far ++ [t] else far
def putR (R : Nat → RLs) (now : Int) (t : Th) : Nat → RLs := fun k => if ringN now t.due = k then R k ++ [(t, slotN k t.due)] else R k
/-- all that waits -/
def Tot (R : Nat → RLs) (far : List Th) : List Th := far ++ ((R 0).map (·.1) ++ ((R 1).map (·.1) ++ ((R 2).map (·.1) ++ (R 3).map (·.1))))
theorem Tot.ring {R : Nat → RLs} {far : List Th} {k : Nat} (hk : k < 4) {p : Th × Nat} (hp : p ∈ R k) : p.1 ∈ Tot R far := by
  unfold Tot
  have hm : p.1 ∈ (R k).map (·.1) := List.mem_map.2 ⟨p, hp, rfl⟩
  simp only [List.mem_append]
  rcases (by omega : k = 0 ∨ k = 1 ∨ k = 2 ∨ k = 3) with rfl | rfl | rfl | rfl
  · exact .inr (.inl hm)
  · exact .inr (.inr (.inl hm))
  · exact .inr (.inr (.inr (.inl hm)))
  · exact .inr (.inr (.inr (.inr hm)))
theorem Tot.far {R : Nat → RLs} {far : List Th} {t : Th} (ht : t ∈ far) : t ∈ Tot R far := by
  unfold Tot
  simp only [List.mem_append]
  exact .inl ht
theorem Tot.mem {R : Nat → RLs} {far : List Th} {t : Th} (h : t ∈ Tot R far) : t ∈ far ∨ ∃ k, k < 4 ∧ ∃ p ∈ R k, p.1 = t := by
  unfold Tot at h
  simp only [List.mem_append, List.mem_map] at h
  rcases h with h | ⟨p, h, e⟩ | ⟨p, h, e⟩ | ⟨p, h, e⟩ | ⟨p, h, e⟩
  · exact .inl h
  · exact .inr ⟨0, by decide, p, h, e⟩
  · exact .inr ⟨1, by decide, p, h, e⟩
  · exact .inr ⟨2, by decide, p, h, e⟩
  · exact .inr ⟨3, by decide, p, h, e⟩
/-- what a call that writes the wheel leaves -/
def Wd (W : World) (F : Nat → Prop) (w : Nat) (now : Int) (rs : Nat → Nat) (pf mf n : Nat) (R : Nat → RLs) (far : List Th) (W' : World) : Prop :=
  ∃ F' G', Whm W' F' G' w now rs pf mf n R far ∧ Gr F W W' ∧ ∀ i, F' i → F i ∨ W.heap.size ≤ i
/-- what put loads -/
def LdS (w k p r : Nat) (t : Th) (W' : World) : Prop := (Instr.loadAt rpT (.pointer (some ⟨w, 1 + k, none⟩))).run Try.prog W' = .ok (.pointer (some ⟨r, 0, none⟩)) W' ∧ (Instr.loadAt thT (.pointer (some ⟨p, 0, none⟩))).run Try.prog W' = .ok (thVal t) W'
set_option maxRecDepth 100000 in
set_option maxHeartbeats 4000000 in
theorem wput_any (W : World) (F : Nat → Prop) (G : Nat → Nat → Prop) (w : Nat) (now : Int) (rs : Nat → Nat) (pf mf n : Nat) (R : Nat → RLs) (far : List Th) (t : Th) (h : Whm W F G w now rs pf mf n R far) (hnow : Inst now) (hd : Inst t.due) (hw : IdOk t.id) (hn : n < 1000000) (hf : ∀ u ∈ Tot R far, u.id ≠ t.id) :
    Calls Try.prog 73 #[.pointer (some ⟨w, 0, none⟩), thVal t] W fun e W' => e = .returned (.tuple #[]) ∧ Wd W F w now rs pf mf (n + 1) (putR R now t) (putF far now t) W' := by
  obtain ⟨ti, tg, td⟩ := t
  obtain ⟨p, hp⟩ : ∃ p, p = W.heap.size := ⟨_, rfl⟩
  obtain ⟨W1, hW1⟩ : ∃ W1, W1 = W.alloc (.cells #[.int .u64 ti, .int .u64 tg, .int .i64 td] thT) := ⟨_, rfl⟩
  have hB1 : Below W.heap.size W W1 := by rw [hW1]; exact below_new _ _
  have ht1 : W1.heap[p]? = some (.cells #[.int .u64 ti, .int .u64 tg, .int .i64 td] thT (0, 0)) := by rw [hW1, hp]; exact heap_alloc_new _ _
  have hcs : ∀ W', Below W1.heap.size W1 W' → W'.cell? ⟨p, 0, none⟩ = some (.int .u64 ti) ∧ W'.cell? ⟨p, 1, none⟩ = some (.int .u64 tg) ∧ W'.cell? ⟨p, 2, none⟩ = some (.int .i64 td) ∧ p < W'.heap.size := fun W' hw => by
    have a := (hw.block _ (Array.getElem?_eq_some_iff.1 ht1).1).trans ht1
    have a0 := block_cell a 0
    have a1 := block_cell a 1
    have a2 := block_cell a 2
    simp at a0 a1 a2
    exact ⟨a0, a1, a2, (Array.getElem?_eq_some_iff.1 a).1⟩
  have h1 := h.below hB1
  obtain ⟨c0, c1, c2, hpl⟩ := hcs W1 (Below.refl _ _)
  have Hpl := Lib.hid (place_any W1 w now td h1.cells.1 hnow hd)
  have HB1 := Lib.hid hB1
  have Hcs := Lib.hid hcs
  have H := Lib.hid h
  have Ht1 := Lib.hid ht1
  have Hp := Lib.hid hp
  obtain ⟨k, hk⟩ : ∃ k, k = ringN now td := ⟨_, rfl⟩
  obtain ⟨s, hs⟩ : ∃ s, s = slotN k td := ⟨_, rfl⟩
  rw [← hk, ← hs] at Hpl
  have hk4 : k ≤ 4 := by rw [hk]; exact ringN_le _ _
  have hs6 : s < 64 := by rw [hs]; exact slotN_lt _ _
  have HK := Lib.hid hk
  have HS := Lib.hid hs
  have Hf := Lib.hid hf
  clear hf hk hs h h1 hB1 ht1 hcs
  unfold thVal
  go_enter Try.func73, Try.ntmps73
  go_wp2_with fail
  rw [← hW1, ← hp]
  clear hW1 hp
  refine Hpl.out.mono ?_
  rintro e W2 ⟨rfl, hB2⟩
  have hB12 := below_on HB1.out hB2 (Nat.le_refl _)
  have h2 := H.out.below hB12
  have HB12 := Lib.hid hB12
  obtain ⟨d0, d1, d2, hpl2⟩ := Hcs.out W2 hB2
  have Hb2 := Lib.hid hB2
  clear Hpl hB2 hB12 c0 c1 c2 hpl
  by_cases e4 : k = 4
  · subst e4
    obtain ⟨a0, a1, a2, a3, a4, a5, b0, hwl, hfl⟩ := h2.cells
    obtain ⟨D, hD, hE⟩ := h2.map
    have hfr : ∀ u ∈ far, u.id ≠ ti := fun u hu => Hf.out u (Tot.far hu)
    obtain ⟨W6, hupd, hD6, hg6⟩ := fmapset_run (W := W2.drew) hD hn ⟨ti, tg, td⟩ hw
    have hE6 : MapL (D.put (.int .u64 ti) (thD ⟨ti, tg, td⟩)) (fpairs (far ++ [(⟨ti, tg, td⟩ : Th)])) := by
      rw [fpairs_snoc]
      exact hE.put ti _ (fun p hp => by
        obtain ⟨q, hq, rfl⟩ := List.mem_map.1 hp
        exact hfr q hq)
    have h2d : Whm W2.drew F G w now rs pf mf n R far := h2.kept (Nat.le_refl _) fun _ _ => rfl
    have hm6 := h2d.turn hg6 hD6 hE6 (Nat.le_succ n)
    have hfin : Wd W F w now rs pf mf (n + 1) (putR R now ⟨ti, tg, td⟩) (putF far now ⟨ti, tg, td⟩) W6 := by
      refine ⟨F, G, hm6.1.same (fun j hj => ?_) ?_, (Gr.below HB12.out).trans ((Gr.refl F W2).drew.trans hm6.2), fun i hi => .inl hi⟩
      · unfold putR
        simp only
        rw [if_neg (by rw [← HK.out]; omega)]
      · unfold putF
        simp only
        rw [if_pos HK.out.symm]
    have Hfin := Lib.hid hfin
    unfold thVal at hupd
    clear hfin hm6 h2d hE6 hfr hD6 hg6 hD hE h2
    go_wp2_with fail
    go_region
    all_goals
      go_wp2_with fail
      exact bodyPost_ret (results_none rfl _ _ _) rfl ⟨rfl, Hfin.out⟩
  · have hk3 : k < 4 := by omega
    have x4 : ((k : Int) == 4) = false := by simp; omega
    have hrc := h2.rcell k hk3
    have hrg := h2.ring k hk3
    have hfr : ∀ p ∈ R k, p.1.id ≠ ti := fun q hq => Hf.out q.1 (Tot.ring hk3 hq)
    have hpw : ¬ F p := fun hF => by have h5 := H.out.bd p hF; have h6 := HB1.out.size; have h7 := Hp.out; omega
    have hcell : ∀ W', W'.cell? ⟨w, 1 + k, none⟩ = some (.pointer (some ⟨rs k, 0, none⟩)) → W'.heap[p]? = W1.heap[p]? → LdS w k p (rs k) ⟨ti, tg, td⟩ W' := fun W' g1 g2 => by
      have a := g2.trans Ht1.out
      have a0 := block_cell a 0
      have a1 := block_cell a 1
      have a2 := block_cell a 2
      simp at a0 a1 a2
      exact ⟨loadP g1, loadTh (t := ⟨ti, tg, td⟩) a0 a1 a2⟩
    have hwl := h2.cells.2.2.2.2.2.2.2.1
    have hblk : ∀ W', Below W2.heap.size W2 W' → W'.heap[p]? = W1.heap[p]? := fun W' hw => (below_on Hb2.out hw (Nat.le_refl _)).block p (Array.getElem?_eq_some_iff.1 Ht1.out).1
    have hld : ∀ W', Below W2.heap.size W2 W' → LdS w k p (rs k) ⟨ti, tg, td⟩ W' := fun W' hw => hcell W' ((hw.cell (p := ⟨w, 1 + k, none⟩) hwl).trans hrc) (hblk W' hw)
    have hpt : ∀ W', Below W2.heap.size W2 W' → Calls Try.prog 92 #[.pointer (some ⟨rs k, 0, none⟩), .int .i64 (s : Nat), .agg #[.int .u64 ti, .int .u64 tg, .int .i64 td]] W' fun e W'' => e = .returned (.int .i64 0) ∧ Wd W F w now rs pf mf (n + 1) (putR R now ⟨ti, tg, td⟩) (putF far now ⟨ti, tg, td⟩) W'' ∧ LdS w k p (rs k) ⟨ti, tg, td⟩ W'' := fun W' hw' => by
      refine (put_ok W' (G k) (rs k) n s (R k) ⟨ti, tg, td⟩ (hrg.below hw') hs6 hfr hw hn).mono ?_
      rintro e W'' ⟨rfl, hR, hG⟩
      have hst := (h2.below hw').step k hk3 _ hR (Nat.le_succ n) hG
      have hB := below_on HB12.out hw' (Nat.le_refl _)
      refine ⟨rfl, ⟨_, _, hst.1.same (fun j hj => ?_) ?_, (Gr.below hB).trans hst.2, fun i hi => hi.imp id (fun x => Nat.le_trans hB.size x.1)⟩, hcell W'' (hst.1.rcell k hk3) ((hst.2.block p (Nat.lt_of_lt_of_le hpl2 hw'.size) hpw).trans (hblk W' hw'))⟩
      · unfold updF putR
        simp only
        rw [← HK.out]
        by_cases e : j = k
        · subst e; simp only [if_true]; rw [← HS.out]
        · rw [if_neg e, if_neg (Ne.symm e)]
      · unfold putF
        simp only
        rw [if_neg (by rw [← HK.out]; omega)]
    have Hld := Lib.hid hld
    have Hpt := Lib.hid hpt
    clear hld hpt hfr hrg hrc h2 hblk hcell hpw
    go_wp2_with fail
    refine wp_region_held_drew (S := fun W' => LdS w k p (rs k) ⟨ti, tg, td⟩ W') (by kernel_rfl) (Hld.out _ (Below.refl _ W2).drew) (fun hHeld => ?_)
    have hB8 : Below W2.heap.size W2 W2.drew := (Below.refl _ W2).drew
    refine wpAnyH_take (i := 0) (v := ?_) rfl (by kernel_rfl) (by kernel_rfl) (by kernel_rfl) (fun _ _ _ h => h) (Or.inl ⟨by rfl, ?_⟩) (by assumption) ?_
    rotate_left
    · intro w8 hSw; clear hSw; go_simp; (try with_reducible rfl)
    simp only [Act.put, List.getElem_toArray, List.getElem_cons_zero, List.getElem_cons_succ, List.setIfInBounds_toArray, List.set_cons_zero, List.set_cons_succ]
    refine wpAnyH_take (i := 1) (v := ?_) rfl (by kernel_rfl) (by kernel_rfl) (by kernel_rfl) (fun _ _ _ h => h) (Or.inl ⟨by rfl, ?_⟩) (by assumption) ?_
    rotate_left
    · intro w8 hSw; clear hSw; go_simp; (try with_reducible rfl)
    simp only [Act.put, List.getElem_toArray, List.getElem_cons_zero, List.getElem_cons_succ, List.setIfInBounds_toArray, List.set_cons_zero, List.set_cons_succ]
    refine wpAnyH_take (i := 2) (v := ?_) rfl (by kernel_rfl) (by kernel_rfl) (by kernel_rfl) (fun _ _ _ h => h) (Or.inl ⟨by rfl, ?_⟩) (by assumption) ?_
    rotate_left
    · intro w8 hSw; clear hSw; go_simp; (try with_reducible rfl)
    simp only [Act.put, List.getElem_toArray, List.getElem_cons_zero, List.getElem_cons_succ, List.setIfInBounds_toArray, List.set_cons_zero, List.set_cons_succ]
    refine wpAnyH_take (i := 3) (v := ?_) rfl (by kernel_rfl) (by kernel_rfl) (by kernel_rfl) (fun _ _ _ h => h) (Or.inl ⟨by rfl, ?_⟩) (by assumption) ?_
    rotate_left
    · intro w8 hSw; clear hSw; go_simp; (try with_reducible rfl)
    simp only [Act.put, List.getElem_toArray, List.getElem_cons_zero, List.getElem_cons_succ, List.setIfInBounds_toArray, List.set_cons_zero, List.set_cons_succ]
    refine wpAnyH_take (i := 4) (v := .pointer (some ⟨w, 1 + k, none⟩)) rfl (by kernel_rfl) (by kernel_rfl) (by kernel_rfl) (fun _ _ _ h => h) (Or.inl ⟨by rfl, ?_⟩) (by assumption) ?_
    · intro w8 hSw; clear hSw; go_simp; intro h4; omega
    simp only [Act.put, List.getElem_toArray, List.getElem_cons_zero, List.getElem_cons_succ, List.setIfInBounds_toArray, List.set_cons_zero, List.set_cons_succ]
    refine wpAnyH_take (i := 5) (v := .pointer (some ⟨rs k, 0, none⟩)) rfl (by kernel_rfl) (by kernel_rfl) (by kernel_rfl) (fun _ _ _ h => h) (Or.inl ⟨by rfl, ?_⟩) (by assumption) ?_
    · intro w8 hSw; exact ld_takeT rfl hSw.1 rfl
    simp only [Act.put, List.getElem_toArray, List.getElem_cons_zero, List.getElem_cons_succ, List.setIfInBounds_toArray, List.set_cons_zero, List.set_cons_succ]
    refine wpAnyH_take (i := 6) (v := ?_) rfl (by kernel_rfl) (by kernel_rfl) (by kernel_rfl) (fun _ _ _ h => h) (Or.inl ⟨by rfl, ?_⟩) (by assumption) ?_
    rotate_left
    · intro w8 hSw; clear hSw; go_simp; (try with_reducible rfl)
    simp only [Act.put, List.getElem_toArray, List.getElem_cons_zero, List.getElem_cons_succ, List.setIfInBounds_toArray, List.set_cons_zero, List.set_cons_succ]
    refine wpAnyH_take (i := 7) (v := thVal ⟨ti, tg, td⟩) rfl (by kernel_rfl) (by kernel_rfl) (by kernel_rfl) (fun _ _ _ h => h) (Or.inl ⟨by rfl, ?_⟩) (by assumption) ?_
    · intro w8 hSw; exact ld_takeT rfl hSw.2 rfl
    simp only [Act.put, List.getElem_toArray, List.getElem_cons_zero, List.getElem_cons_succ, List.setIfInBounds_toArray, List.set_cons_zero, List.set_cons_succ]
    try unfold thVal
    refine wpAnyH_ready (rs := [8]) (by kernel_rfl) (by simp) ?_
    refine AllReadyH.cons rfl (fun K hK => ?_) AllReadyH.nil
    go_simp
    go_at_call 92
    refine (Hpt.out _ hB8).mono ?_
    rintro e V1 ⟨rfl, hfin, hS8⟩
    refine hK.out _ _ hS8 (fun hHeld => ?_)
    clear hK K
    try simp only [Act.put, List.getElem_toArray, List.getElem_cons_zero, List.getElem_cons_succ, List.setIfInBounds_toArray, List.set_cons_zero, List.set_cons_succ]
    refine wpAnyH_done (by kernel_rfl) ?_ _
    go_wp2_with fail
    exact bodyPost_end (results_none rfl _ _ _) rfl ⟨rfl, hfin⟩
end Go.Proofs.Ytedlplkomfiahaa
