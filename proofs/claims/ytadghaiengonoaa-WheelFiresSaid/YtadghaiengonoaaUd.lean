/- slots: Same, Before. No statement of the seat is proved here. -/
import Derived.Test.YtadghaiengonoaaUc
namespace Go.Proofs.Ytadghaiengonoaa
set_option linter.unusedVariables false
set_option linter.unusedSimpArgs false
set_option linter.unusedSectionVars false
open Go Go.RowKit Go.Maps

theorem eqin_rt (i g d s i' g' d' s' : Int) (w : World) : (Op.equalIn 10000 rtT (.agg #[.int .u64 i, .int .u64 g, .int .i64 d, .int .i64 s]) (.agg #[.int .u64 i', .int .u64 g', .int .i64 d', .int .i64 s'])).run Try.prog w = .ok (decide (i = i') && (decide (g = g') && (decide (d = d') && decide (s = s')))) w := by
  rw [run_equalIn_agg _ _ _ _ _ (by kernel_rfl) (by kernel_rfl)]
  by_cases h0 : i = i'
  · by_cases h1 : g = g'
    · by_cases h2 : d = d'
      · by_cases h3 : s = s'
        · simp [Program.fieldsOf, Try.underlying59, Op.eqFields, go_sem, h0, h1, h2, h3]
        · simp [Program.fieldsOf, Try.underlying59, Op.eqFields, go_sem, h0, h1, h2, h3]
      · simp [Program.fieldsOf, Try.underlying59, Op.eqFields, go_sem, h0, h1, h2]
    · simp [Program.fieldsOf, Try.underlying59, Op.eqFields, go_sem, h0, h1]
  · simp [Program.fieldsOf, Try.underlying59, Op.eqFields, go_sem, h0]
theorem eqin_th (i g d i' g' d' : Int) (w : World) : (Op.equalIn 10000 30 (.agg #[.int .u64 i, .int .u64 g, .int .i64 d]) (.agg #[.int .u64 i', .int .u64 g', .int .i64 d'])).run Try.prog w = .ok (decide (i = i') && (decide (g = g') && decide (d = d'))) w := by
  rw [run_equalIn_agg _ _ _ _ _ (by kernel_rfl) (by kernel_rfl)]
  by_cases h0 : i = i'
  · by_cases h1 : g = g'
    · by_cases h2 : d = d'
      · simp [Program.fieldsOf, Try.underlying30, Op.eqFields, go_sem, h0, h1, h2]
      · simp [Program.fieldsOf, Try.underlying30, Op.eqFields, go_sem, h0, h1, h2]
    · simp [Program.fieldsOf, Try.underlying30, Op.eqFields, go_sem, h0, h1]
  · simp [Program.fieldsOf, Try.underlying30, Op.eqFields, go_sem, h0]
theorem th_ext (a b : Th) : a = b ↔ (decide (a.id = b.id) && (decide (a.gen = b.gen) && decide (a.due = b.due))) = true := by
  obtain ⟨a1, a2, a3⟩ := a
  obtain ⟨b1, b2, b3⟩ := b
  simp only [Th.mk.injEq, Bool.and_eq_true, decide_eq_true_eq]
theorem neq_rtv (x : Th) (p : Th × Nat) (w : World) : (binOp .neq rtT (rtVal (x, 0)) (.agg #[.int .u64 p.1.id, .int .u64 p.1.gen, .int .i64 p.1.due, .int .i64 0])).run Try.prog w = .ok (.bool (!decide (x = p.1))) w := by
  unfold rtVal
  rw [run_neq_struct, eqin_rt]
  simp only [Result.andThen]
  congr 3
  rw [Bool.eq_iff_iff]
  simp only [Bool.not_eq_true', decide_eq_false_iff_not, th_ext]
  simp
theorem guard_rt (op : BinOp) (p q : Operand) (x : Th × Nat) (ys : Array Value) (w : World) : (eqGuard op rtT p q (rtVal x) (.agg ys)).run Try.prog w = .ok () w := run_eqGuard_agg w op _ p q _ ys (by kernel_rfl)
/-- a row of things, to be read -/
abbrev Tt (W : World) (ao : Option Addr) (cap : Nat) (l : List Th) : Prop := Rw W thT 3 ao l.length cap (l.map thCells)
theorem th_each (l : List Th) : ∀ r ∈ l.map thCells, r.length = 3 := by
  intro r hr; obtain ⟨x, _, rfl⟩ := List.mem_map.1 hr; rfl
theorem Tt.of_own {W : World} {base cap : Nat} {ao : Option Addr} {l : List Th} (h : W.ownsRow base thT 3 (.slice ao l.length cap) l.length (thFlat l)) : Tt W ao cap l := Rw.of_own h (by simp) (th_each l)
theorem Tt.nil (W : World) : Tt W none 0 [] := Rw.nil W thT 3
theorem Tt.cells {W : World} {ao : Option Addr} {cap : Nat} {l : List Th} (h : Tt W ao cap l) (i : Nat) (hi : i < l.length) : ∃ b off, ao = some ⟨b, off, .none⟩ ∧ b < W.heap.size ∧
    W.cell? ⟨b, off + i * 3, none⟩ = some (.int .u64 l[i].id) ∧ W.cell? ⟨b, off + i * 3 + 1, none⟩ = some (.int .u64 l[i].gen) ∧ W.cell? ⟨b, off + i * 3 + 2, none⟩ = some (.int .i64 l[i].due) := by
  obtain ⟨b, off, e, hc⟩ := Rw.get h (by decide) i hi
  have hl : (l.map thCells)[i]'(by simpa using hi) = thCells l[i] := by simp
  rw [hl] at hc
  have h4 : (thCells l[i]).length = 3 := rfl
  have c0 := hc 0 (by omega)
  have c1 := hc 1 (by omega)
  have c2 := hc 2 (by omega)
  exact ⟨b, off, e, cell?_lt c0, c0, c1, c2⟩
theorem th_load {W : World} {b off : Nat} {p : Th} (h0 : W.cell? ⟨b, off, none⟩ = some (.int .u64 p.id)) (h1 : W.cell? ⟨b, off + 1, none⟩ = some (.int .u64 p.gen)) (h2 : W.cell? ⟨b, off + 2, none⟩ = some (.int .i64 p.due)) :
    (Instr.loadAt thT (.pointer (some ⟨b, off, none⟩))).run Try.prog W = .ok (thVal p) W := by
  unfold thVal
  go_simp
theorem same_step (a : List Th) (b : RLs) (i : Nat) (ha : i < a.length) (hb : i < b.length) : (a.take (i + 1) = (b.map (·.1)).take (i + 1)) ↔ (a.take i = (b.map (·.1)).take i ∧ a[i] = b[i].1) := by
  rw [← List.take_append_getElem ha, ← List.take_append_getElem (l := b.map (·.1)) (by simpa using hb)]
  have l1 : (a.take i).length = i := by rw [List.length_take]; omega
  have l2 : ((b.map (·.1)).take i).length = i := by rw [List.length_take, List.length_map]; omega
  constructor
  · intro h
    obtain ⟨h1, h2⟩ := List.append_inj h (l1.trans l2.symm)
    exact ⟨h1, by simpa using h2⟩
  · rintro ⟨h1, h2⟩
    rw [h1]; simp [h2]
set_option maxRecDepth 100000 in
set_option maxHeartbeats 4000000 in
/-- Same -/
theorem same_any (W : World) (ao : Option Addr) (cap : Nat) (a : List Th) (bo : Option Addr) (cb : Nat) (b : RLs) (ha : Tt W ao cap a) (hb : Rt W bo cb b) (hl : a.length ≤ 100000) (hl2 : b.length ≤ 100000) :
    Calls Try.prog 20 #[.slice ao a.length cap, .slice bo b.length cb] W fun e W' => e = .returned (.bool (decide (a = b.map (·.1)))) ∧ Below W.heap.size W W' := by
  have Ha := Lib.hid ha
  have Hb := Lib.hid hb
  have HL := Lib.hid hl
  clear ha hb hl
  by_cases hlen : a.length = b.length
  · have x0 : (a.length : Int) = (b.length : Int) := by omega
    have y0 : ((a.length : Int) != (b.length : Int)) = false := by simp [hlen]
    have Hlen := Lib.hid hlen
    clear hlen
    go_enter Try.func20, Try.ntmps20
    go_wp2_with fail
    go_loopw [14] (fun u wr => ∃ i : Nat, u = .int .i64 (i : Nat) ∧ i ≤ a.length ∧ Hid (a.take i = (b.map (·.1)).take i) ∧ Below W.heap.size W wr) (fun u _ => a.length - (intOf u).toNat)
    case atStart => exact ⟨0, rfl, Nat.zero_le _, by show _ = _; simp, Below.refl _ _⟩
    case round =>
      obtain ⟨i, rfl, hi, heq, hbw⟩ := hrel
      by_cases hil : i < a.length
      · obtain ⟨x1, x2⟩ := i_nums i a.length hil
        have hil2 : i < b.length := by rw [← Hlen.out]; exact hil
        obtain ⟨x3, -⟩ := i_nums i b.length hil2
        obtain ⟨ba, fa, rfl, hba, c0, c1, c2⟩ := Tt.cells (Ha.out.below hbw) i hil
        obtain ⟨bb, fb, rfl, hbb, d0, d1, d2, d3⟩ := Rt.cells (Hb.out.below hbw) i hil2
        obtain ⟨x, hx⟩ : ∃ x, x = a[i] := ⟨_, rfl⟩
        obtain ⟨y, hy⟩ : ∃ y, y = b[i] := ⟨_, rfl⟩
        rw [← hx] at c0 c1 c2
        rw [← hy] at d0 d1 d2 d3
        have Hx := Lib.hid hx
        have Hy := Lib.hid hy
        have Hi := Lib.hid hil
        have Hi2 := Lib.hid hil2
        have Hbw := Lib.hid hbw
        have w1 : wrap64 ((i : Int) + 1) = (i : Int) + 1 := IntWalk.wrap64_in _ (by have := HL.out; omega)
        clear hx hy hbw
        go_upto_region 8 with fail
        obtain ⟨W5, hW5⟩ : ∃ W5, W5 = wr.alloc (.cells #[.int .u64 y.1.id, .int .u64 y.1.gen, .int .i64 y.1.due, .int .i64 0] rtT) := ⟨_, rfl⟩
        have hB5 : Below wr.heap.size wr W5 := by rw [hW5]; exact below_new _ _
        obtain ⟨p0, hp0⟩ : ∃ p0, p0 = wr.heap.size := ⟨_, rfl⟩
        have ht5 : W5.heap[p0]? = some (.cells #[.int .u64 y.1.id, .int .u64 y.1.gen, .int .i64 y.1.due, .int .i64 0] rtT (0, 0)) := by rw [hW5, hp0]; exact heap_alloc_new _ _
        have hpl := (Array.getElem?_eq_some_iff.1 ht5).1
        have hld : ∀ W', Below W5.heap.size W5 W' → (Instr.loadAt thT (.pointer (some ⟨ba, fa + i * 3, none⟩))).run Try.prog W' = .ok (thVal x) W' ∧ (Instr.loadAt rtT (.pointer (some ⟨p0, 0, none⟩))).run Try.prog W' = .ok (.agg #[.int .u64 y.1.id, .int .u64 y.1.gen, .int .i64 y.1.due, .int .i64 0]) W' := fun W' hw => by
          have hw2 := below_on hB5 hw (Nat.le_refl _)
          have a0 := (hw2.cell (p := ⟨ba, fa + i * 3, none⟩) hba).trans c0
          have a1 := (hw2.cell (p := ⟨ba, fa + i * 3 + 1, none⟩) hba).trans c1
          have a2 := (hw2.cell (p := ⟨ba, fa + i * 3 + 2, none⟩) hba).trans c2
          have ht6 := (hw.block p0 hpl).trans ht5
          have e0 := block_cell ht6 0
          have e1 := block_cell ht6 1
          have e2 := block_cell ht6 2
          have e3 := block_cell ht6 3
          simp at e0 e1 e2 e3
          refine ⟨th_load a0 a1 a2, ?_⟩
          have := rt_load (p := (y.1, 0)) (off := 0) (b := p0) (W := W') e0 e1 e2 e3
          simpa [rtVal] using this
        have Hld := Lib.hid hld
        have Hpl := Lib.hid (fun W => plain_any W x)
        have hnq := fun w => neq_rtv x y w
        have hgq := fun p q w => guard_rt .neq p q (x, 0) #[.int .u64 y.1.id, .int .u64 y.1.gen, .int .i64 y.1.due, .int .i64 0] w
        have HB5 := Lib.hid hB5
        rw [← hW5, ← hp0]
        clear hW5 hld c0 c1 c2 d0 d1 d2 d3 hB5 hp0 ht5
        go_cut [28] (fun v wx => v = .bool (!decide (x = y.1)) ∧ Below W5.heap.size W5 wx)
        case first =>
          refine wp_region_held_drew (S := fun W' => (Instr.loadAt thT (.pointer (some ⟨ba, fa + i * 3, none⟩))).run Try.prog W' = .ok (thVal x) W' ∧ (Instr.loadAt rtT (.pointer (some ⟨p0, 0, none⟩))).run Try.prog W' = .ok (.agg #[.int .u64 y.1.id, .int .u64 y.1.gen, .int .i64 y.1.due, .int .i64 0]) W') (by kernel_rfl) (Hld.out W5.drew (Below.refl _ _).drew) (fun hHeld => ?_)
          refine wpAnyH_take (i := 0) (v := ?_) rfl (by kernel_rfl) (by kernel_rfl) (by kernel_rfl) (fun _ _ _ h => h) (Or.inl ⟨by rfl, ?_⟩) (by assumption) ?_
          rotate_left
          · intro w8 hSw; clear hSw; go_simp; (try with_reducible rfl)
          simp only [Act.put, List.getElem_toArray, List.getElem_cons_zero, List.getElem_cons_succ, List.setIfInBounds_toArray, List.set_cons_zero, List.set_cons_succ]
          refine wpAnyH_take (i := 1) (v := ?_) rfl (by kernel_rfl) (by kernel_rfl) (by kernel_rfl) (fun _ _ _ h => h) (Or.inl ⟨by rfl, ?_⟩) (by assumption) ?_
          rotate_left
          · intro w8 hSw; clear hSw; go_simp; (try with_reducible rfl)
          simp only [Act.put, List.getElem_toArray, List.getElem_cons_zero, List.getElem_cons_succ, List.setIfInBounds_toArray, List.set_cons_zero, List.set_cons_succ]
          refine wpAnyH_take (i := 2) (v := ?_) rfl (by kernel_rfl) (by kernel_rfl) (by kernel_rfl) (fun _ _ _ h => h) (Or.inl ⟨by rfl, ?_⟩) (by assumption) ?_
          rotate_left
          · intro w8 hSw; clear hSw; go_simp; (try with_reducible rfl)
          simp only [Act.put, List.getElem_toArray, List.getElem_cons_zero, List.getElem_cons_succ, List.setIfInBounds_toArray, List.set_cons_zero, List.set_cons_succ]
          refine wpAnyH_take (i := 3) (v := thVal x) rfl (by kernel_rfl) (by kernel_rfl) (by kernel_rfl) (fun _ _ _ h => h) (Or.inl ⟨by rfl, ?_⟩) (by assumption) ?_
          · intro w8 hSw; exact ld_takeT rfl hSw.1 rfl
          simp only [Act.put, List.getElem_toArray, List.getElem_cons_zero, List.getElem_cons_succ, List.setIfInBounds_toArray, List.set_cons_zero, List.set_cons_succ]
          refine wpAnyH_take (i := 5) (v := .agg #[.int .u64 y.1.id, .int .u64 y.1.gen, .int .i64 y.1.due, .int .i64 0]) rfl (by kernel_rfl) (by kernel_rfl) (by kernel_rfl) (fun _ _ _ h => h) (Or.inl ⟨by rfl, ?_⟩) (by assumption) ?_
          · intro w8 hSw; exact ld_takeT rfl hSw.2 rfl
          simp only [Act.put, List.getElem_toArray, List.getElem_cons_zero, List.getElem_cons_succ, List.setIfInBounds_toArray, List.set_cons_zero, List.set_cons_succ]
          refine wpAnyH_ready (rs := [4]) (by kernel_rfl) (by simp) ?_
          refine AllReadyH.cons rfl (fun K hK => ?_) AllReadyH.nil
          go_simp
          go_at_call 36
          refine (Hpl.out _).mono ?_
          rintro e w5 ⟨rfl, hB5'⟩; have hB5 := below_on ((Below.refl W5.heap.size W5).drew) hB5' (Nat.le_refl _)
          refine hK.out _ _ (Hld.out _ hB5) (fun hHeld => ?_)
          clear hK K
          try simp only [Act.put, List.getElem_toArray, List.getElem_cons_zero, List.getElem_cons_succ, List.setIfInBounds_toArray, List.set_cons_zero, List.set_cons_succ]
          refine wpAnyH_take (i := 6) (v := ?_) rfl (by kernel_rfl) (by kernel_rfl) (by kernel_rfl) (fun _ _ _ h => h) (Or.inl ⟨by rfl, ?_⟩) (by assumption) ?_
          rotate_left
          · intro w8 hSw; clear hSw; go_simp; (try with_reducible rfl)
          simp only [Act.put, List.getElem_toArray, List.getElem_cons_zero, List.getElem_cons_succ, List.setIfInBounds_toArray, List.set_cons_zero, List.set_cons_succ]
          refine wpAnyH_done (by kernel_rfl) ?_ _
          go_wp2_with fail
          go_meet
          exact ⟨rfl, hB5⟩
        case rest =>
          obtain ⟨rfl, hB6⟩ := hcut
          clear Hld Hpl hnq hgq
          have hB7 : Below W.heap.size W wc := below_on Hbw.out (below_on HB5.out hB6 (Nat.le_refl _)) (Nat.le_refl _)
          by_cases hxy : x = y.1
          · have hv : (!decide (x = y.1)) = false := by simp [hxy]
            rw [hv]
            have Hxy := Lib.hid hxy
            clear hxy hv
            go_wp2_with fail
            go_roundw
            case rel => exact ⟨i + 1, by first | rfl | rw [w1]; rfl, Hi.out, (same_step a b i Hi.out Hi2.out).2 ⟨heq.out, by rw [← Hx.out, ← Hy.out]; exact Hxy.out⟩, hB7⟩
            case measure =>
              first | rw [w1] | skip
              exact meas_w a.length i Hi.out
          · have hv : (!decide (x = y.1)) = true := by simp [hxy]
            rw [hv]
            have hne : decide (a = b.map (·.1)) = false := by
              rw [decide_eq_false_iff_not]
              intro e
              apply hxy
              have := ((same_step a b i Hi.out Hi2.out).1 (by rw [e])).2
              rw [Hx.out, Hy.out]; exact this
            have Hne := Lib.hid hne
            clear hxy hv hne
            go_wp2_with fail
            go_ret
            exact ⟨ret_bool (by rw [Hne.out]), hB7⟩
      · obtain rfl : i = a.length := Nat.le_antisymm hi (Nat.le_of_not_lt hil)
        have x1 : ¬ (a.length : Int) < (a.length : Int) := by omega
        have x2 : ¬ (a.length : Int) < (b.length : Int) := by rw [Hlen.out]; omega
        have he : decide (a = b.map (·.1)) = true := by
          have := heq.out
          rw [List.take_length, List.take_of_length_le (by rw [List.length_map, Hlen.out]; exact Nat.le_refl _)] at this
          exact decide_eq_true this
        have He := Lib.hid he
        clear he hil
        go_wp2_with fail
        go_ret
        exact ⟨ret_bool (by rw [He.out]), hbw⟩
  · have y0 : ((a.length : Int) != (b.length : Int)) = true := by simp; omega
    have y1 : ¬ (a.length : Int) = (b.length : Int) := by omega
    have he : decide (a = b.map (·.1)) = false := by
      rw [decide_eq_false_iff_not]
      intro e; exact hlen (by rw [e, List.length_map])
    rw [he]
    clear he
    go_enter Try.func20, Try.ntmps20
    go_wp2_with fail
    go_ret
    exact ⟨rfl, Below.refl _ _⟩
end Go.Proofs.Ytadghaiengonoaa
