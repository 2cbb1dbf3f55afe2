/- SlotsSort: the walk. No statement of the seat is proved here. -/
import Derived.Test.YtadghaiengonoaaDoorVc
import Derived.Test.YtadghaiengonoaaDoorOpenT
namespace Go.Proofs.YtadghaiengonoaaDoor
set_option linter.unusedVariables false
set_option linter.unusedSimpArgs false
set_option linter.unusedSectionVars false
open Go Go.RowKit Go.Maps

def plainL (l : List Th) : RLs := l.map (fun t => (t, 0))
theorem plainL_snoc (l : List Th) (t : Th) : plainL (l ++ [t]) = plainL l ++ [(t, 0)] := by simp [plainL]
theorem plainL_len (l : List Th) : (plainL l).length = l.length := by simp [plainL]
theorem plainL_fst (l : List Th) : (plainL l).map (·.1) = l := by simp [plainL, Function.comp_def]
theorem Tt.of_sl {W : World} {ao : Option Addr} {cap : Nat} {l : List Th} (h : Sl W 3 ao l.length cap (thFlat l)) (ht : ∀ b off s, ao = some ⟨b, off, s⟩ → elem? W b = some thT) : Tt W ao cap l := ⟨by simp, th_each l, h, ht⟩
/-- a row of things that came in -/
theorem sl_cells {W : World} {ao : Option Addr} {cap : Nat} {l : List Th} (h : Sl W 3 ao l.length cap (thFlat l)) (i : Nat) (hi : i < l.length) : ∃ b off, ao = some ⟨b, off, .none⟩ ∧ b < W.heap.size ∧
    W.cell? ⟨b, off + i * 3, none⟩ = some (.int .u64 l[i].id) ∧ W.cell? ⟨b, off + i * 3 + 1, none⟩ = some (.int .u64 l[i].gen) ∧ W.cell? ⟨b, off + i * 3 + 2, none⟩ = some (.int .i64 l[i].due) := by
  have h3 : (thCells l[i]).length = 3 := rfl
  have g := fun j (hj : j < 3) => thFlat_get l i hi j hj
  obtain ⟨b, off, e, c0⟩ := h.cell (i * 3) _ (g 0 (by decide))
  obtain ⟨b1, off1, e1, c1⟩ := h.cell (i * 3 + 1) _ (g 1 (by decide))
  obtain ⟨b2, off2, e2, c2⟩ := h.cell (i * 3 + 2) _ (g 2 (by decide))
  have q1 := e.symm.trans e1
  have q2 := e.symm.trans e2
  simp only [Option.some.injEq, Addr.mk.injEq, and_true] at q1 q2
  obtain ⟨rfl, rfl⟩ := q1
  obtain ⟨rfl, rfl⟩ := q2
  exact ⟨b, off, e, cell?_lt c0, c0, c1, c2⟩
set_option maxRecDepth 100000 in
set_option maxHeartbeats 8000000 in
theorem slotsSort_walk (ao : Option Addr) (cap : Nat) (l : List Th) (W : World) (hT : Tab W) (hs : Sl W 3 ao l.length cap (thFlat l)) (hok : ∀ a ∈ l, ThOk a) :
    Calls Tryd.prog 3 #[.slice ao l.length cap] W fun e W' => e = .returned (.bool true) ∧ Below W.heap.size W W' := by
  by_cases hl : l.length ≤ 200
  · have x0 : ¬ (l.length : Int) > 200 := by omega
    have hl6 : l.length ≤ 1000000 := by omega
    have hl4 : l.length ≤ 10000 := by omega
    go_enter Tryd.func3, Tryd.ntmps3
    go_wp2_with fail
    go_loopw [3, 13] (fun v u wr => ∃ (i : Nat) (o : Option Addr) (c : Nat), u = .int .i64 (i : Nat) ∧ v = .slice o i c ∧ i ≤ l.length ∧ wr.ownsRow W.heap.size rtT 4 (.slice o i c) i (rtFlat (plainL (l.take i))) ∧ Below W.heap.size W wr) (fun _ u _ => l.length - (intOf u).toNat)
    case atStart => exact ⟨0, none, 0, rfl, rfl, Nat.zero_le _, World.ownsRow_nil _ _ _ _, Below.refl _ _⟩
    case round =>
      obtain ⟨i, o, c, rfl, rfl, hi, ho, hb⟩ := hrel
      by_cases hil : i < l.length
      · obtain ⟨x1, x2⟩ := i_nums i l.length hil
        obtain ⟨bx, fx, rfl, hbx, c0, c1, c2⟩ := sl_cells (hs.below hb) i hil
        obtain ⟨y, hy⟩ : ∃ y, y = l[i] := ⟨_, rfl⟩
        rw [← hy] at c0 c1 c2
        have Hy := Lib.hid hy
        have Hs := Lib.hid hs
        have Ho := Lib.hid ho
        have Hb := Lib.hid hb
        have Hi := Lib.hid hil
        have hi6 : i ≤ 10000 := by omega
        have w1 : wrap64 ((i : Int) + 1) = (i : Int) + 1 := IntWalk.wrap64_in _ (by omega)
        obtain ⟨W1, hW1⟩ : ∃ W1, W1 = wr.alloc (.cells #[.int .u64 y.id, .int .u64 y.gen, .int .i64 y.due] thT) := ⟨_, rfl⟩
        have hB1 : Below wr.heap.size wr W1 := by rw [hW1]; exact below_new _ _
        obtain ⟨p0, hp0⟩ : ∃ p0, p0 = wr.heap.size := ⟨_, rfl⟩
        have ht1 : W1.heap[p0]? = some (.cells #[.int .u64 y.id, .int .u64 y.gen, .int .i64 y.due] thT (0, 0)) := by rw [hW1, hp0]; exact heap_alloc_new _ _
        have hpl := (Array.getElem?_eq_some_iff.1 ht1).1
        obtain ⟨e0, e1, e2, -⟩ := set3_res (t := y) ht1
        have Hpl := Lib.hid (plain_any W1 y)
        have Ht1 := Lib.hid ht1
        have HB1 := Lib.hid hB1
        clear hy hs ho hb hi ht1 hB1
        go_upto_region 7 with fail
        rw [← hW1, ← hp0]
        have Hp0 := Lib.hid hp0
        clear hW1 hp0
        unfold thVal at Hpl
        go_wp2_with fail
        refine Hpl.out.mono ?_
        rintro e W2 ⟨rfl, hB2⟩
        have hbW2 : Below wr.heap.size wr W2 := below_on HB1.out hB2 (Nat.le_refl _)
        have hbB2 : Below W.heap.size W W2 := below_on Hb.out hbW2 (Nat.le_refl _)
        have hown := own_below Ho.out hbW2
        have HbB2 := Lib.hid hbB2
        have HbW2 := Lib.hid hbW2
        have hzW := hbB2.size
        unfold rtVal
        go_wp2_with (at_builtin; refine wpl_append_one rfl (.tmp 18) (.tmp 21) rtsT rfl W.heap.size rtT infoRt Tryd.underlying24 rfl (by decide) (.slice o i c) i ((plainL (l.take i)).map rtCells) rfl (hown.alloc _) _ 1 (rtCells (y, 0)) rfl rfl (news_at _ rfl) (rt_one _) ?_ ?_ ?_ ?_; omega; (unfold maxLen; omega); (simp; omega); intro g4 c4 w4 hown4 hg4 hlie)
        rw [rt_snoc, ← plainL_snoc] at hown4
        rw [show l.take i ++ [y] = l.take (i + 1) from by rw [← List.take_append_getElem hil, Hy.out]] at hown4
        have hb4 := below_app (hbB2.alloc hzW _) hg4 (hown.alloc _) (Nat.le_refl _) (by simp; omega)
        have hpW2 : p0 < W2.heap.size := Nat.lt_of_lt_of_le hpl hB2.size
        have ht4 : w4.heap[p0]? = some (.cells #[.int .u64 y.id, .int .u64 y.gen, .int .i64 y.due] thT (0, 0)) := by
          refine (hg4.block p0 (by simp; omega) (fun e => ?_)).trans ((heap_alloc_old _ _ hpW2).trans ((hB2.block p0 hpl).trans Ht1.out))
          have := (Ho.out.lt p0 e.symm).2
          rw [Hp0.out] at this
          exact Nat.lt_irrefl _ this
        have hpl4 : p0 < w4.heap.size := (Array.getElem?_eq_some_iff.1 ht4).1
        have Hown4 := Lib.hid hown4
        have Hb4 := Lib.hid hb4
        have Ht4 := Lib.hid ht4
        clear hown4 hg4 hlie hown hbW2 hbB2 hb4 ht4 hB2 c0 c1 c2 e0 e1 e2
        have hi14 : i + 1 ≤ l.length := hil
        have hcl : c4 = c4 := rfl
        by_cases hi0 : 0 < i
        · obtain ⟨ip, hip⟩ : ∃ ip, i = ip + 1 := ⟨i - 1, by omega⟩
          have hipl : ip < l.length := by omega
          obtain ⟨x, hx⟩ : ∃ x, x = l[ip] := ⟨_, rfl⟩
          have x3 : (i : Int) > 0 := by omega
          have x4 : wrap64 ((i : Int) - 1) = (ip : Int) := by rw [IntWalk.wrap64_in _ (by omega)]; omega
          have x5 := wi_of x4
          have x6 : (ip : Int) < (l.length : Int) := by omega
          have x7 : (ip : Int) < (i : Int) + 1 := by omega
          have x8 : (i : Int) < (i : Int) + 1 := by omega
          have hlp : (plainL (l.take (i + 1))).length = i + 1 := by rw [plainL_len, List.length_take, Nat.min_eq_left hi14]
          have hld : ∀ W', Below w4.heap.size w4 W' → (Instr.loadAt thT (.pointer (some ⟨bx, fx + ip * 3, none⟩))).run Tryd.prog W' = .ok (thVal x) W' ∧ (Instr.loadAt thT (.pointer (some ⟨p0, 0, none⟩))).run Tryd.prog W' = .ok (thVal y) W' ∧ (Instr.loadAt rtT (.pointer (some ⟨g4, ip * 4, none⟩))).run Tryd.prog W' = .ok (rtVal (x, 0)) W' ∧ (Instr.loadAt rtT (.pointer (some ⟨g4, i * 4, none⟩))).run Tryd.prog W' = .ok (rtVal (y, 0)) W' := fun W' hw => by
            obtain ⟨b5, f5, e5, _, a0, a1, a2⟩ := sl_cells (Hs.out.below (below_on Hb4.out hw (Nat.le_refl _))) ip hipl
            simp only [Option.some.injEq, Addr.mk.injEq, and_true] at e5
            obtain ⟨rfl, rfl⟩ := e5
            rw [← hx] at a0 a1 a2
            have hto := (hw.block p0 hpl4).trans Ht4.out
            obtain ⟨t0, t1, t2, -⟩ := set3_res (t := y) hto
            have hro : Rt W' (some ⟨g4, 0, none⟩) c4 (plainL (l.take (i + 1))) := Rt.of_own (by rw [hlp]; exact own_below Hown4.out hw)
            obtain ⟨b6, f6, e6, _, r0, r1, r2, r3⟩ := hro.cells ip (by rw [hlp]; omega)
            obtain ⟨b7, f7, e7, _, s0, s1, s2, s3⟩ := hro.cells i (by rw [hlp]; omega)
            simp only [Option.some.injEq, Addr.mk.injEq, and_true] at e6 e7
            obtain ⟨rfl, rfl⟩ := e6
            obtain ⟨rfl, rfl⟩ := e7
            have q1 : (plainL (l.take (i + 1)))[ip]'(by rw [hlp]; omega) = (x, 0) := by simp [plainL, hx]
            have q2 : (plainL (l.take (i + 1)))[i]'(by rw [hlp]; omega) = (y, 0) := by simp [plainL, Hy.out]
            rw [q1] at r0 r1 r2 r3
            rw [q2] at s0 s1 s2 s3
            rw [Nat.zero_add] at r0 r1 r2 r3 s0 s1 s2 s3
            exact ⟨th_load a0 a1 a2, th_load t0 t1 t2, rt_load r0 r1 r2 r3, rt_load s0 s1 s2 s3⟩
          have Hld := Lib.hid hld
          have H1s := Lib.hid (fun W => sbefore_any x y W)
          have H1r := Lib.hid (fun W => before_any (x, 0) (y, 0) W)
          have H2s := Lib.hid (fun W => sbefore_any y x W)
          have H2r := Lib.hid (fun W => before_any (y, 0) (x, 0) W)
          have Hip := Lib.hid hip
          clear hld hx hlp hip
          go_upto_region 8 with fail
          go_cut [3, 64] (fun v u wx => v = .slice (some ⟨g4, 0, none⟩) (i + 1) c4 ∧ u = .bool false ∧ Below w4.heap.size w4 wx)
          case first =>
            refine wp_region_held_drew (S := fun W' => (Instr.loadAt thT (.pointer (some ⟨bx, fx + ip * 3, none⟩))).run Tryd.prog W' = .ok (thVal x) W' ∧ (Instr.loadAt thT (.pointer (some ⟨p0, 0, none⟩))).run Tryd.prog W' = .ok (thVal y) W' ∧ (Instr.loadAt rtT (.pointer (some ⟨g4, ip * 4, none⟩))).run Tryd.prog W' = .ok (rtVal (x, 0)) W' ∧ (Instr.loadAt rtT (.pointer (some ⟨g4, i * 4, none⟩))).run Tryd.prog W' = .ok (rtVal (y, 0)) W') (by kernel_rfl) (Hld.out w4.drew (Below.refl _ _).drew) (fun hHeld => ?_)
            refine wpAnyH_take (i := 0) (v := ?_) rfl (by kernel_rfl) (by kernel_rfl) (by kernel_rfl) (fun _ _ _ h => h) (Or.inl ⟨by rfl, ?_⟩) (by assumption) ?_
            rotate_left
            · intro w8 hSw; clear hSw; go_simp; (try with_reducible rfl)
            simp only [Act.put, List.getElem_toArray, List.getElem_cons_zero, List.getElem_cons_succ, List.setIfInBounds_toArray, List.set_cons_zero, List.set_cons_succ]
            refine wpAnyH_take (i := 1) (v := ?_) rfl (by kernel_rfl) (by kernel_rfl) (by kernel_rfl) (fun _ _ _ h => h) (Or.inl ⟨by rfl, ?_⟩) (by assumption) ?_
            rotate_left
            · intro w8 hSw; clear hSw; go_simp; (try with_reducible rfl)
            simp only [Act.put, List.getElem_toArray, List.getElem_cons_zero, List.getElem_cons_succ, List.setIfInBounds_toArray, List.set_cons_zero, List.set_cons_succ]
            refine wpAnyH_take (i := 2) (v := ?_) rfl (by kernel_rfl) (by kernel_rfl) (by kernel_rfl) (fun _ _ _ h => h) (Or.inl ⟨by rfl, ?_⟩) (by assumption) ?_
            rotate_left
            · intro w8 hSw; clear hSw; go_simp; (try with_reducible rfl)
            simp only [Act.put, List.getElem_toArray, List.getElem_cons_zero, List.getElem_cons_succ, List.setIfInBounds_toArray, List.set_cons_zero, List.set_cons_succ]
            refine wpAnyH_take (i := 3) (v := ?_) rfl (by kernel_rfl) (by kernel_rfl) (by kernel_rfl) (fun _ _ _ h => h) (Or.inl ⟨by rfl, ?_⟩) (by assumption) ?_
            rotate_left
            · intro w8 hSw; clear hSw; go_simp; (try with_reducible rfl)
            simp only [Act.put, List.getElem_toArray, List.getElem_cons_zero, List.getElem_cons_succ, List.setIfInBounds_toArray, List.set_cons_zero, List.set_cons_succ]
            refine wpAnyH_take (i := 4) (v := ?_) rfl (by kernel_rfl) (by kernel_rfl) (by kernel_rfl) (fun _ _ _ h => h) (Or.inl ⟨by rfl, ?_⟩) (by assumption) ?_
            rotate_left
            · intro w8 hSw; clear hSw; go_simp; (try with_reducible rfl)
            simp only [Act.put, List.getElem_toArray, List.getElem_cons_zero, List.getElem_cons_succ, List.setIfInBounds_toArray, List.set_cons_zero, List.set_cons_succ]
            refine wpAnyH_take (i := 5) (v := ?_) rfl (by kernel_rfl) (by kernel_rfl) (by kernel_rfl) (fun _ _ _ h => h) (Or.inl ⟨by rfl, ?_⟩) (by assumption) ?_
            rotate_left
            · intro w8 hSw; clear hSw; go_simp; (try with_reducible rfl)
            simp only [Act.put, List.getElem_toArray, List.getElem_cons_zero, List.getElem_cons_succ, List.setIfInBounds_toArray, List.set_cons_zero, List.set_cons_succ]
            refine wpAnyH_take (i := 6) (v := ?_) rfl (by kernel_rfl) (by kernel_rfl) (by kernel_rfl) (fun _ _ _ h => h) (Or.inl ⟨by rfl, ?_⟩) (by assumption) ?_
            rotate_left
            · intro w8 hSw; clear hSw; go_simp; (try with_reducible rfl)
            simp only [Act.put, List.getElem_toArray, List.getElem_cons_zero, List.getElem_cons_succ, List.setIfInBounds_toArray, List.set_cons_zero, List.set_cons_succ]
            refine wpAnyH_take (i := 7) (v := thVal x) rfl (by kernel_rfl) (by kernel_rfl) (by kernel_rfl) (fun _ _ _ h => h) (Or.inl ⟨by rfl, ?_⟩) (by assumption) ?_
            · intro w8 hSw; exact ld_takeT rfl hSw.1 rfl
            simp only [Act.put, List.getElem_toArray, List.getElem_cons_zero, List.getElem_cons_succ, List.setIfInBounds_toArray, List.set_cons_zero, List.set_cons_succ]
            refine wpAnyH_take (i := 8) (v := thVal y) rfl (by kernel_rfl) (by kernel_rfl) (by kernel_rfl) (fun _ _ _ h => h) (Or.inl ⟨by rfl, ?_⟩) (by assumption) ?_
            · intro w8 hSw; exact ld_takeT rfl hSw.2.1 rfl
            simp only [Act.put, List.getElem_toArray, List.getElem_cons_zero, List.getElem_cons_succ, List.setIfInBounds_toArray, List.set_cons_zero, List.set_cons_succ]
            refine wpAnyH_take (i := 10) (v := ?_) rfl (by kernel_rfl) (by kernel_rfl) (by kernel_rfl) (fun _ _ _ h => h) (Or.inl ⟨by rfl, ?_⟩) (by assumption) ?_
            rotate_left
            · intro w8 hSw; clear hSw; go_simp; (try with_reducible rfl)
            simp only [Act.put, List.getElem_toArray, List.getElem_cons_zero, List.getElem_cons_succ, List.setIfInBounds_toArray, List.set_cons_zero, List.set_cons_succ]
            refine wpAnyH_take (i := 11) (v := ?_) rfl (by kernel_rfl) (by kernel_rfl) (by kernel_rfl) (fun _ _ _ h => h) (Or.inl ⟨by rfl, ?_⟩) (by assumption) ?_
            rotate_left
            · intro w8 hSw; clear hSw; go_simp; (try with_reducible rfl)
            simp only [Act.put, List.getElem_toArray, List.getElem_cons_zero, List.getElem_cons_succ, List.setIfInBounds_toArray, List.set_cons_zero, List.set_cons_succ]
            refine wpAnyH_take (i := 12) (v := ?_) rfl (by kernel_rfl) (by kernel_rfl) (by kernel_rfl) (fun _ _ _ h => h) (Or.inl ⟨by rfl, ?_⟩) (by assumption) ?_
            rotate_left
            · intro w8 hSw; clear hSw; go_simp; (try with_reducible rfl)
            simp only [Act.put, List.getElem_toArray, List.getElem_cons_zero, List.getElem_cons_succ, List.setIfInBounds_toArray, List.set_cons_zero, List.set_cons_succ]
            refine wpAnyH_take (i := 13) (v := ?_) rfl (by kernel_rfl) (by kernel_rfl) (by kernel_rfl) (fun _ _ _ h => h) (Or.inl ⟨by rfl, ?_⟩) (by assumption) ?_
            rotate_left
            · intro w8 hSw; clear hSw; go_simp; (try with_reducible rfl)
            simp only [Act.put, List.getElem_toArray, List.getElem_cons_zero, List.getElem_cons_succ, List.setIfInBounds_toArray, List.set_cons_zero, List.set_cons_succ]
            refine wpAnyH_take (i := 14) (v := rtVal (x, 0)) rfl (by kernel_rfl) (by kernel_rfl) (by kernel_rfl) (fun _ _ _ h => h) (Or.inl ⟨by rfl, ?_⟩) (by assumption) ?_
            · intro w8 hSw; exact ld_takeT rfl hSw.2.2.1 rfl
            simp only [Act.put, List.getElem_toArray, List.getElem_cons_zero, List.getElem_cons_succ, List.setIfInBounds_toArray, List.set_cons_zero, List.set_cons_succ]
            refine wpAnyH_take (i := 15) (v := ?_) rfl (by kernel_rfl) (by kernel_rfl) (by kernel_rfl) (fun _ _ _ h => h) (Or.inl ⟨by rfl, ?_⟩) (by assumption) ?_
            rotate_left
            · intro w8 hSw; clear hSw; go_simp; (try with_reducible rfl)
            simp only [Act.put, List.getElem_toArray, List.getElem_cons_zero, List.getElem_cons_succ, List.setIfInBounds_toArray, List.set_cons_zero, List.set_cons_succ]
            refine wpAnyH_take (i := 16) (v := ?_) rfl (by kernel_rfl) (by kernel_rfl) (by kernel_rfl) (fun _ _ _ h => h) (Or.inl ⟨by rfl, ?_⟩) (by assumption) ?_
            rotate_left
            · intro w8 hSw; clear hSw; go_simp; (try with_reducible rfl)
            simp only [Act.put, List.getElem_toArray, List.getElem_cons_zero, List.getElem_cons_succ, List.setIfInBounds_toArray, List.set_cons_zero, List.set_cons_succ]
            refine wpAnyH_take (i := 17) (v := ?_) rfl (by kernel_rfl) (by kernel_rfl) (by kernel_rfl) (fun _ _ _ h => h) (Or.inl ⟨by rfl, ?_⟩) (by assumption) ?_
            rotate_left
            · intro w8 hSw; clear hSw; go_simp; (try with_reducible rfl)
            simp only [Act.put, List.getElem_toArray, List.getElem_cons_zero, List.getElem_cons_succ, List.setIfInBounds_toArray, List.set_cons_zero, List.set_cons_succ]
            refine wpAnyH_take (i := 18) (v := rtVal (y, 0)) rfl (by kernel_rfl) (by kernel_rfl) (by kernel_rfl) (fun _ _ _ h => h) (Or.inl ⟨by rfl, ?_⟩) (by assumption) ?_
            · intro w8 hSw; exact ld_takeT rfl hSw.2.2.2 rfl
            simp only [Act.put, List.getElem_toArray, List.getElem_cons_zero, List.getElem_cons_succ, List.setIfInBounds_toArray, List.set_cons_zero, List.set_cons_succ]
            refine wpAnyH_ready (rs := [9]) (by kernel_rfl) (by simp) ?_
            refine AllReadyH.cons rfl (fun K hK => ?_) AllReadyH.nil
            go_simp
            go_at_call 8
            refine (H1s.out _).mono ?_
            rintro e w5 ⟨rfl, hB5'⟩; have hB5 := below_on ((Below.refl w4.heap.size w4).drew) hB5' (Nat.le_refl _)
            refine hK.out _ _ (Hld.out _ hB5) (fun hHeld => ?_)
            clear hK K
            try simp only [Act.put, List.getElem_toArray, List.getElem_cons_zero, List.getElem_cons_succ, List.setIfInBounds_toArray, List.set_cons_zero, List.set_cons_succ]
            refine wpAnyH_ready (rs := [19]) (by kernel_rfl) (by simp) ?_
            refine AllReadyH.cons rfl (fun K hK => ?_) AllReadyH.nil
            go_simp
            go_at_call 9
            refine (H1r.out _).mono ?_
            rintro e w6 ⟨rfl, hB6'⟩; have hB6 := below_on hB5 hB6' (Nat.le_refl _)
            refine hK.out _ _ (Hld.out _ hB6) (fun hHeld => ?_)
            clear hK K
            try simp only [Act.put, List.getElem_toArray, List.getElem_cons_zero, List.getElem_cons_succ, List.setIfInBounds_toArray, List.set_cons_zero, List.set_cons_succ]
            refine wpAnyH_take (i := 20) (v := ?_) rfl (by kernel_rfl) (by kernel_rfl) (by kernel_rfl) (fun _ _ _ h => h) (Or.inl ⟨by rfl, ?_⟩) (by assumption) ?_
            rotate_left
            · intro w8 hSw; clear hSw; go_simp; (try with_reducible rfl)
            simp only [Act.put, List.getElem_toArray, List.getElem_cons_zero, List.getElem_cons_succ, List.setIfInBounds_toArray, List.set_cons_zero, List.set_cons_succ]
            refine wpAnyH_take (i := 21) (v := ?_) rfl (by kernel_rfl) (by kernel_rfl) (by kernel_rfl) (fun _ _ _ h => h) (Or.inl ⟨by rfl, ?_⟩) (by assumption) ?_
            rotate_left
            · intro w8 hSw; clear hSw; go_simp; (try with_reducible rfl)
            simp only [Act.put, List.getElem_toArray, List.getElem_cons_zero, List.getElem_cons_succ, List.setIfInBounds_toArray, List.set_cons_zero, List.set_cons_succ]
            refine wpAnyH_take (i := 22) (v := thVal y) rfl (by kernel_rfl) (by kernel_rfl) (by kernel_rfl) (fun _ _ _ h => h) (Or.inl ⟨by rfl, ?_⟩) (by assumption) ?_
            · intro w8 hSw; exact ld_takeT rfl hSw.2.1 rfl
            simp only [Act.put, List.getElem_toArray, List.getElem_cons_zero, List.getElem_cons_succ, List.setIfInBounds_toArray, List.set_cons_zero, List.set_cons_succ]
            refine wpAnyH_take (i := 23) (v := ?_) rfl (by kernel_rfl) (by kernel_rfl) (by kernel_rfl) (fun _ _ _ h => h) (Or.inl ⟨by rfl, ?_⟩) (by assumption) ?_
            rotate_left
            · intro w8 hSw; clear hSw; go_simp; (try with_reducible rfl)
            simp only [Act.put, List.getElem_toArray, List.getElem_cons_zero, List.getElem_cons_succ, List.setIfInBounds_toArray, List.set_cons_zero, List.set_cons_succ]
            refine wpAnyH_take (i := 24) (v := ?_) rfl (by kernel_rfl) (by kernel_rfl) (by kernel_rfl) (fun _ _ _ h => h) (Or.inl ⟨by rfl, ?_⟩) (by assumption) ?_
            rotate_left
            · intro w8 hSw; clear hSw; go_simp; (try with_reducible rfl)
            simp only [Act.put, List.getElem_toArray, List.getElem_cons_zero, List.getElem_cons_succ, List.setIfInBounds_toArray, List.set_cons_zero, List.set_cons_succ]
            refine wpAnyH_take (i := 25) (v := ?_) rfl (by kernel_rfl) (by kernel_rfl) (by kernel_rfl) (fun _ _ _ h => h) (Or.inl ⟨by rfl, ?_⟩) (by assumption) ?_
            rotate_left
            · intro w8 hSw; clear hSw; go_simp; (try with_reducible rfl)
            simp only [Act.put, List.getElem_toArray, List.getElem_cons_zero, List.getElem_cons_succ, List.setIfInBounds_toArray, List.set_cons_zero, List.set_cons_succ]
            refine wpAnyH_take (i := 26) (v := ?_) rfl (by kernel_rfl) (by kernel_rfl) (by kernel_rfl) (fun _ _ _ h => h) (Or.inl ⟨by rfl, ?_⟩) (by assumption) ?_
            rotate_left
            · intro w8 hSw; clear hSw; go_simp; (try with_reducible rfl)
            simp only [Act.put, List.getElem_toArray, List.getElem_cons_zero, List.getElem_cons_succ, List.setIfInBounds_toArray, List.set_cons_zero, List.set_cons_succ]
            refine wpAnyH_take (i := 27) (v := thVal x) rfl (by kernel_rfl) (by kernel_rfl) (by kernel_rfl) (fun _ _ _ h => h) (Or.inl ⟨by rfl, ?_⟩) (by assumption) ?_
            · intro w8 hSw; exact ld_takeT rfl hSw.1 rfl
            simp only [Act.put, List.getElem_toArray, List.getElem_cons_zero, List.getElem_cons_succ, List.setIfInBounds_toArray, List.set_cons_zero, List.set_cons_succ]
            refine wpAnyH_take (i := 29) (v := ?_) rfl (by kernel_rfl) (by kernel_rfl) (by kernel_rfl) (fun _ _ _ h => h) (Or.inl ⟨by rfl, ?_⟩) (by assumption) ?_
            rotate_left
            · intro w8 hSw; clear hSw; go_simp; (try with_reducible rfl)
            simp only [Act.put, List.getElem_toArray, List.getElem_cons_zero, List.getElem_cons_succ, List.setIfInBounds_toArray, List.set_cons_zero, List.set_cons_succ]
            refine wpAnyH_take (i := 30) (v := ?_) rfl (by kernel_rfl) (by kernel_rfl) (by kernel_rfl) (fun _ _ _ h => h) (Or.inl ⟨by rfl, ?_⟩) (by assumption) ?_
            rotate_left
            · intro w8 hSw; clear hSw; go_simp; (try with_reducible rfl)
            simp only [Act.put, List.getElem_toArray, List.getElem_cons_zero, List.getElem_cons_succ, List.setIfInBounds_toArray, List.set_cons_zero, List.set_cons_succ]
            refine wpAnyH_take (i := 31) (v := ?_) rfl (by kernel_rfl) (by kernel_rfl) (by kernel_rfl) (fun _ _ _ h => h) (Or.inl ⟨by rfl, ?_⟩) (by assumption) ?_
            rotate_left
            · intro w8 hSw; clear hSw; go_simp; (try with_reducible rfl)
            simp only [Act.put, List.getElem_toArray, List.getElem_cons_zero, List.getElem_cons_succ, List.setIfInBounds_toArray, List.set_cons_zero, List.set_cons_succ]
            refine wpAnyH_take (i := 32) (v := rtVal (y, 0)) rfl (by kernel_rfl) (by kernel_rfl) (by kernel_rfl) (fun _ _ _ h => h) (Or.inl ⟨by rfl, ?_⟩) (by assumption) ?_
            · intro w8 hSw; exact ld_takeT rfl hSw.2.2.2 rfl
            simp only [Act.put, List.getElem_toArray, List.getElem_cons_zero, List.getElem_cons_succ, List.setIfInBounds_toArray, List.set_cons_zero, List.set_cons_succ]
            refine wpAnyH_take (i := 33) (v := ?_) rfl (by kernel_rfl) (by kernel_rfl) (by kernel_rfl) (fun _ _ _ h => h) (Or.inl ⟨by rfl, ?_⟩) (by assumption) ?_
            rotate_left
            · intro w8 hSw; clear hSw; go_simp; (try with_reducible rfl)
            simp only [Act.put, List.getElem_toArray, List.getElem_cons_zero, List.getElem_cons_succ, List.setIfInBounds_toArray, List.set_cons_zero, List.set_cons_succ]
            refine wpAnyH_take (i := 34) (v := ?_) rfl (by kernel_rfl) (by kernel_rfl) (by kernel_rfl) (fun _ _ _ h => h) (Or.inl ⟨by rfl, ?_⟩) (by assumption) ?_
            rotate_left
            · intro w8 hSw; clear hSw; go_simp; (try with_reducible rfl)
            simp only [Act.put, List.getElem_toArray, List.getElem_cons_zero, List.getElem_cons_succ, List.setIfInBounds_toArray, List.set_cons_zero, List.set_cons_succ]
            refine wpAnyH_take (i := 35) (v := ?_) rfl (by kernel_rfl) (by kernel_rfl) (by kernel_rfl) (fun _ _ _ h => h) (Or.inl ⟨by rfl, ?_⟩) (by assumption) ?_
            rotate_left
            · intro w8 hSw; clear hSw; go_simp; (try with_reducible rfl)
            simp only [Act.put, List.getElem_toArray, List.getElem_cons_zero, List.getElem_cons_succ, List.setIfInBounds_toArray, List.set_cons_zero, List.set_cons_succ]
            refine wpAnyH_take (i := 36) (v := ?_) rfl (by kernel_rfl) (by kernel_rfl) (by kernel_rfl) (fun _ _ _ h => h) (Or.inl ⟨by rfl, ?_⟩) (by assumption) ?_
            rotate_left
            · intro w8 hSw; clear hSw; go_simp; (try with_reducible rfl)
            simp only [Act.put, List.getElem_toArray, List.getElem_cons_zero, List.getElem_cons_succ, List.setIfInBounds_toArray, List.set_cons_zero, List.set_cons_succ]
            refine wpAnyH_take (i := 37) (v := rtVal (x, 0)) rfl (by kernel_rfl) (by kernel_rfl) (by kernel_rfl) (fun _ _ _ h => h) (Or.inl ⟨by rfl, ?_⟩) (by assumption) ?_
            · intro w8 hSw; exact ld_takeT rfl hSw.2.2.1 rfl
            simp only [Act.put, List.getElem_toArray, List.getElem_cons_zero, List.getElem_cons_succ, List.setIfInBounds_toArray, List.set_cons_zero, List.set_cons_succ]
            refine wpAnyH_ready (rs := [28]) (by kernel_rfl) (by simp) ?_
            refine AllReadyH.cons rfl (fun K hK => ?_) AllReadyH.nil
            go_simp
            go_at_call 8
            refine (H2s.out _).mono ?_
            rintro e w7 ⟨rfl, hB7'⟩; have hB7 := below_on hB6 hB7' (Nat.le_refl _)
            refine hK.out _ _ (Hld.out _ hB7) (fun hHeld => ?_)
            clear hK K
            try simp only [Act.put, List.getElem_toArray, List.getElem_cons_zero, List.getElem_cons_succ, List.setIfInBounds_toArray, List.set_cons_zero, List.set_cons_succ]
            refine wpAnyH_ready (rs := [38]) (by kernel_rfl) (by simp) ?_
            refine AllReadyH.cons rfl (fun K hK => ?_) AllReadyH.nil
            go_simp
            go_at_call 9
            refine (H2r.out _).mono ?_
            rintro e w8 ⟨rfl, hB8'⟩; have hB8 := below_on hB7 hB8' (Nat.le_refl _)
            refine hK.out _ _ (Hld.out _ hB8) (fun hHeld => ?_)
            clear hK K
            try simp only [Act.put, List.getElem_toArray, List.getElem_cons_zero, List.getElem_cons_succ, List.setIfInBounds_toArray, List.set_cons_zero, List.set_cons_succ]
            refine wpAnyH_take (i := 39) (v := ?_) rfl (by kernel_rfl) (by kernel_rfl) (by kernel_rfl) (fun _ _ _ h => h) (Or.inl ⟨by rfl, ?_⟩) (by assumption) ?_
            rotate_left
            · intro w8 hSw; clear hSw; go_simp; (try with_reducible rfl)
            simp only [Act.put, List.getElem_toArray, List.getElem_cons_zero, List.getElem_cons_succ, List.setIfInBounds_toArray, List.set_cons_zero, List.set_cons_succ]
            refine wpAnyH_take (i := 40) (v := ?_) rfl (by kernel_rfl) (by kernel_rfl) (by kernel_rfl) (fun _ _ _ h => h) (Or.inl ⟨by rfl, ?_⟩) (by assumption) ?_
            rotate_left
            · intro w8 hSw; clear hSw; go_simp; (try with_reducible rfl)
            simp only [Act.put, List.getElem_toArray, List.getElem_cons_zero, List.getElem_cons_succ, List.setIfInBounds_toArray, List.set_cons_zero, List.set_cons_succ]
            refine wpAnyH_take (i := 41) (v := ?_) rfl (by kernel_rfl) (by kernel_rfl) (by kernel_rfl) (fun _ _ _ h => h) (Or.inl ⟨by rfl, ?_⟩) (by assumption) ?_
            rotate_left
            · intro w8 hSw; clear hSw; go_simp; (try with_reducible rfl)
            simp only [Act.put, List.getElem_toArray, List.getElem_cons_zero, List.getElem_cons_succ, List.setIfInBounds_toArray, List.set_cons_zero, List.set_cons_succ]
            refine wpAnyH_done (by kernel_rfl) ?_ _
            go_wp2_with fail
            go_meet
            exact ⟨rfl, rfl, hB8⟩
          case rest =>
            obtain ⟨rfl, rfl, hB9⟩ := hcut
            clear Hld H1s H1r H2s H2r
            go_wp2_with fail
            go_roundw
            case rel => exact ⟨i + 1, _, _, by first | rfl | rw [w1]; rfl, rfl, Hi.out, own_below Hown4.out hB9, below_on Hb4.out hB9 (Nat.le_refl _)⟩
            case measure =>
              first | rw [w1] | skip
              exact ts_meas l.length i Hi.out
        · obtain rfl : i = 0 := by omega
          go_upto_region 8 with fail
          go_cut [3, 64] (fun v u wx => v = .slice (some ⟨g4, 0, none⟩) (0 + 1) c4 ∧ u = .bool false ∧ Below w4.heap.size w4 wx)
          case first =>
            refine wp_region_held_drew (S := fun _ => True) (by kernel_rfl) trivial (fun hHeld => ?_)
            refine wpAnyH_take (i := 0) (v := ?_) rfl (by kernel_rfl) (by kernel_rfl) (by kernel_rfl) (fun _ _ _ h => h) (Or.inl ⟨by rfl, ?_⟩) (by assumption) ?_
            rotate_left
            · intro w8 hSw; clear hSw; go_simp; (try with_reducible rfl)
            simp only [Act.put, List.getElem_toArray, List.getElem_cons_zero, List.getElem_cons_succ, List.setIfInBounds_toArray, List.set_cons_zero, List.set_cons_succ]
            refine wpAnyH_take (i := 1) (v := ?_) rfl (by kernel_rfl) (by kernel_rfl) (by kernel_rfl) (fun _ _ _ h => h) (Or.inl ⟨by rfl, ?_⟩) (by assumption) ?_
            rotate_left
            · intro w8 hSw; clear hSw; go_simp; (try with_reducible rfl)
            simp only [Act.put, List.getElem_toArray, List.getElem_cons_zero, List.getElem_cons_succ, List.setIfInBounds_toArray, List.set_cons_zero, List.set_cons_succ]
            refine wpAnyH_take (i := 2) (v := ?_) rfl (by kernel_rfl) (by kernel_rfl) (by kernel_rfl) (fun _ _ _ h => h) (Or.inl ⟨by rfl, ?_⟩) (by assumption) ?_
            rotate_left
            · intro w8 hSw; clear hSw; go_simp; (try with_reducible rfl)
            simp only [Act.put, List.getElem_toArray, List.getElem_cons_zero, List.getElem_cons_succ, List.setIfInBounds_toArray, List.set_cons_zero, List.set_cons_succ]
            refine wpAnyH_take (i := 3) rfl (by kernel_rfl) (by kernel_rfl) (by kernel_rfl) (fun _ _ _ h => h) (Or.inr ⟨by rfl, rfl⟩) (by assumption) ?_
            simp only [Act.put, List.getElem_toArray, List.getElem_cons_zero, List.getElem_cons_succ, List.setIfInBounds_toArray, List.set_cons_zero, List.set_cons_succ]
            refine wpAnyH_take (i := 4) rfl (by kernel_rfl) (by kernel_rfl) (by kernel_rfl) (fun _ _ _ h => h) (Or.inr ⟨by rfl, rfl⟩) (by assumption) ?_
            simp only [Act.put, List.getElem_toArray, List.getElem_cons_zero, List.getElem_cons_succ, List.setIfInBounds_toArray, List.set_cons_zero, List.set_cons_succ]
            refine wpAnyH_take (i := 5) rfl (by kernel_rfl) (by kernel_rfl) (by kernel_rfl) (fun _ _ _ h => h) (Or.inr ⟨by rfl, rfl⟩) (by assumption) ?_
            simp only [Act.put, List.getElem_toArray, List.getElem_cons_zero, List.getElem_cons_succ, List.setIfInBounds_toArray, List.set_cons_zero, List.set_cons_succ]
            refine wpAnyH_take (i := 6) rfl (by kernel_rfl) (by kernel_rfl) (by kernel_rfl) (fun _ _ _ h => h) (Or.inr ⟨by rfl, rfl⟩) (by assumption) ?_
            simp only [Act.put, List.getElem_toArray, List.getElem_cons_zero, List.getElem_cons_succ, List.setIfInBounds_toArray, List.set_cons_zero, List.set_cons_succ]
            refine wpAnyH_take (i := 7) rfl (by kernel_rfl) (by kernel_rfl) (by kernel_rfl) (fun _ _ _ h => h) (Or.inr ⟨by rfl, rfl⟩) (by assumption) ?_
            simp only [Act.put, List.getElem_toArray, List.getElem_cons_zero, List.getElem_cons_succ, List.setIfInBounds_toArray, List.set_cons_zero, List.set_cons_succ]
            refine wpAnyH_take (i := 8) rfl (by kernel_rfl) (by kernel_rfl) (by kernel_rfl) (fun _ _ _ h => h) (Or.inr ⟨by rfl, rfl⟩) (by assumption) ?_
            simp only [Act.put, List.getElem_toArray, List.getElem_cons_zero, List.getElem_cons_succ, List.setIfInBounds_toArray, List.set_cons_zero, List.set_cons_succ]
            refine wpAnyH_take (i := 9) rfl (by kernel_rfl) (by kernel_rfl) (by kernel_rfl) (fun _ _ _ h => h) (Or.inr ⟨by rfl, rfl⟩) (by assumption) ?_
            simp only [Act.put, List.getElem_toArray, List.getElem_cons_zero, List.getElem_cons_succ, List.setIfInBounds_toArray, List.set_cons_zero, List.set_cons_succ]
            refine wpAnyH_take (i := 10) rfl (by kernel_rfl) (by kernel_rfl) (by kernel_rfl) (fun _ _ _ h => h) (Or.inr ⟨by rfl, rfl⟩) (by assumption) ?_
            simp only [Act.put, List.getElem_toArray, List.getElem_cons_zero, List.getElem_cons_succ, List.setIfInBounds_toArray, List.set_cons_zero, List.set_cons_succ]
            refine wpAnyH_take (i := 11) rfl (by kernel_rfl) (by kernel_rfl) (by kernel_rfl) (fun _ _ _ h => h) (Or.inr ⟨by rfl, rfl⟩) (by assumption) ?_
            simp only [Act.put, List.getElem_toArray, List.getElem_cons_zero, List.getElem_cons_succ, List.setIfInBounds_toArray, List.set_cons_zero, List.set_cons_succ]
            refine wpAnyH_take (i := 12) rfl (by kernel_rfl) (by kernel_rfl) (by kernel_rfl) (fun _ _ _ h => h) (Or.inr ⟨by rfl, rfl⟩) (by assumption) ?_
            simp only [Act.put, List.getElem_toArray, List.getElem_cons_zero, List.getElem_cons_succ, List.setIfInBounds_toArray, List.set_cons_zero, List.set_cons_succ]
            refine wpAnyH_take (i := 13) rfl (by kernel_rfl) (by kernel_rfl) (by kernel_rfl) (fun _ _ _ h => h) (Or.inr ⟨by rfl, rfl⟩) (by assumption) ?_
            simp only [Act.put, List.getElem_toArray, List.getElem_cons_zero, List.getElem_cons_succ, List.setIfInBounds_toArray, List.set_cons_zero, List.set_cons_succ]
            refine wpAnyH_take (i := 14) rfl (by kernel_rfl) (by kernel_rfl) (by kernel_rfl) (fun _ _ _ h => h) (Or.inr ⟨by rfl, rfl⟩) (by assumption) ?_
            simp only [Act.put, List.getElem_toArray, List.getElem_cons_zero, List.getElem_cons_succ, List.setIfInBounds_toArray, List.set_cons_zero, List.set_cons_succ]
            refine wpAnyH_take (i := 15) rfl (by kernel_rfl) (by kernel_rfl) (by kernel_rfl) (fun _ _ _ h => h) (Or.inr ⟨by rfl, rfl⟩) (by assumption) ?_
            simp only [Act.put, List.getElem_toArray, List.getElem_cons_zero, List.getElem_cons_succ, List.setIfInBounds_toArray, List.set_cons_zero, List.set_cons_succ]
            refine wpAnyH_take (i := 16) rfl (by kernel_rfl) (by kernel_rfl) (by kernel_rfl) (fun _ _ _ h => h) (Or.inr ⟨by rfl, rfl⟩) (by assumption) ?_
            simp only [Act.put, List.getElem_toArray, List.getElem_cons_zero, List.getElem_cons_succ, List.setIfInBounds_toArray, List.set_cons_zero, List.set_cons_succ]
            refine wpAnyH_take (i := 17) rfl (by kernel_rfl) (by kernel_rfl) (by kernel_rfl) (fun _ _ _ h => h) (Or.inr ⟨by rfl, rfl⟩) (by assumption) ?_
            simp only [Act.put, List.getElem_toArray, List.getElem_cons_zero, List.getElem_cons_succ, List.setIfInBounds_toArray, List.set_cons_zero, List.set_cons_succ]
            refine wpAnyH_take (i := 18) rfl (by kernel_rfl) (by kernel_rfl) (by kernel_rfl) (fun _ _ _ h => h) (Or.inr ⟨by rfl, rfl⟩) (by assumption) ?_
            simp only [Act.put, List.getElem_toArray, List.getElem_cons_zero, List.getElem_cons_succ, List.setIfInBounds_toArray, List.set_cons_zero, List.set_cons_succ]
            refine wpAnyH_take (i := 19) rfl (by kernel_rfl) (by kernel_rfl) (by kernel_rfl) (fun _ _ _ h => h) (Or.inr ⟨by rfl, rfl⟩) (by assumption) ?_
            simp only [Act.put, List.getElem_toArray, List.getElem_cons_zero, List.getElem_cons_succ, List.setIfInBounds_toArray, List.set_cons_zero, List.set_cons_succ]
            refine wpAnyH_take (i := 20) rfl (by kernel_rfl) (by kernel_rfl) (by kernel_rfl) (fun _ _ _ h => h) (Or.inr ⟨by rfl, rfl⟩) (by assumption) ?_
            simp only [Act.put, List.getElem_toArray, List.getElem_cons_zero, List.getElem_cons_succ, List.setIfInBounds_toArray, List.set_cons_zero, List.set_cons_succ]
            refine wpAnyH_take (i := 21) rfl (by kernel_rfl) (by kernel_rfl) (by kernel_rfl) (fun _ _ _ h => h) (Or.inr ⟨by rfl, rfl⟩) (by assumption) ?_
            simp only [Act.put, List.getElem_toArray, List.getElem_cons_zero, List.getElem_cons_succ, List.setIfInBounds_toArray, List.set_cons_zero, List.set_cons_succ]
            refine wpAnyH_take (i := 22) rfl (by kernel_rfl) (by kernel_rfl) (by kernel_rfl) (fun _ _ _ h => h) (Or.inr ⟨by rfl, rfl⟩) (by assumption) ?_
            simp only [Act.put, List.getElem_toArray, List.getElem_cons_zero, List.getElem_cons_succ, List.setIfInBounds_toArray, List.set_cons_zero, List.set_cons_succ]
            refine wpAnyH_take (i := 23) rfl (by kernel_rfl) (by kernel_rfl) (by kernel_rfl) (fun _ _ _ h => h) (Or.inr ⟨by rfl, rfl⟩) (by assumption) ?_
            simp only [Act.put, List.getElem_toArray, List.getElem_cons_zero, List.getElem_cons_succ, List.setIfInBounds_toArray, List.set_cons_zero, List.set_cons_succ]
            refine wpAnyH_take (i := 24) rfl (by kernel_rfl) (by kernel_rfl) (by kernel_rfl) (fun _ _ _ h => h) (Or.inr ⟨by rfl, rfl⟩) (by assumption) ?_
            simp only [Act.put, List.getElem_toArray, List.getElem_cons_zero, List.getElem_cons_succ, List.setIfInBounds_toArray, List.set_cons_zero, List.set_cons_succ]
            refine wpAnyH_take (i := 25) rfl (by kernel_rfl) (by kernel_rfl) (by kernel_rfl) (fun _ _ _ h => h) (Or.inr ⟨by rfl, rfl⟩) (by assumption) ?_
            simp only [Act.put, List.getElem_toArray, List.getElem_cons_zero, List.getElem_cons_succ, List.setIfInBounds_toArray, List.set_cons_zero, List.set_cons_succ]
            refine wpAnyH_take (i := 26) rfl (by kernel_rfl) (by kernel_rfl) (by kernel_rfl) (fun _ _ _ h => h) (Or.inr ⟨by rfl, rfl⟩) (by assumption) ?_
            simp only [Act.put, List.getElem_toArray, List.getElem_cons_zero, List.getElem_cons_succ, List.setIfInBounds_toArray, List.set_cons_zero, List.set_cons_succ]
            refine wpAnyH_take (i := 27) rfl (by kernel_rfl) (by kernel_rfl) (by kernel_rfl) (fun _ _ _ h => h) (Or.inr ⟨by rfl, rfl⟩) (by assumption) ?_
            simp only [Act.put, List.getElem_toArray, List.getElem_cons_zero, List.getElem_cons_succ, List.setIfInBounds_toArray, List.set_cons_zero, List.set_cons_succ]
            refine wpAnyH_take (i := 28) rfl (by kernel_rfl) (by kernel_rfl) (by kernel_rfl) (fun _ _ _ h => h) (Or.inr ⟨by rfl, rfl⟩) (by assumption) ?_
            simp only [Act.put, List.getElem_toArray, List.getElem_cons_zero, List.getElem_cons_succ, List.setIfInBounds_toArray, List.set_cons_zero, List.set_cons_succ]
            refine wpAnyH_take (i := 29) rfl (by kernel_rfl) (by kernel_rfl) (by kernel_rfl) (fun _ _ _ h => h) (Or.inr ⟨by rfl, rfl⟩) (by assumption) ?_
            simp only [Act.put, List.getElem_toArray, List.getElem_cons_zero, List.getElem_cons_succ, List.setIfInBounds_toArray, List.set_cons_zero, List.set_cons_succ]
            refine wpAnyH_take (i := 30) rfl (by kernel_rfl) (by kernel_rfl) (by kernel_rfl) (fun _ _ _ h => h) (Or.inr ⟨by rfl, rfl⟩) (by assumption) ?_
            simp only [Act.put, List.getElem_toArray, List.getElem_cons_zero, List.getElem_cons_succ, List.setIfInBounds_toArray, List.set_cons_zero, List.set_cons_succ]
            refine wpAnyH_take (i := 31) rfl (by kernel_rfl) (by kernel_rfl) (by kernel_rfl) (fun _ _ _ h => h) (Or.inr ⟨by rfl, rfl⟩) (by assumption) ?_
            simp only [Act.put, List.getElem_toArray, List.getElem_cons_zero, List.getElem_cons_succ, List.setIfInBounds_toArray, List.set_cons_zero, List.set_cons_succ]
            refine wpAnyH_take (i := 32) rfl (by kernel_rfl) (by kernel_rfl) (by kernel_rfl) (fun _ _ _ h => h) (Or.inr ⟨by rfl, rfl⟩) (by assumption) ?_
            simp only [Act.put, List.getElem_toArray, List.getElem_cons_zero, List.getElem_cons_succ, List.setIfInBounds_toArray, List.set_cons_zero, List.set_cons_succ]
            refine wpAnyH_take (i := 33) rfl (by kernel_rfl) (by kernel_rfl) (by kernel_rfl) (fun _ _ _ h => h) (Or.inr ⟨by rfl, rfl⟩) (by assumption) ?_
            simp only [Act.put, List.getElem_toArray, List.getElem_cons_zero, List.getElem_cons_succ, List.setIfInBounds_toArray, List.set_cons_zero, List.set_cons_succ]
            refine wpAnyH_take (i := 34) rfl (by kernel_rfl) (by kernel_rfl) (by kernel_rfl) (fun _ _ _ h => h) (Or.inr ⟨by rfl, rfl⟩) (by assumption) ?_
            simp only [Act.put, List.getElem_toArray, List.getElem_cons_zero, List.getElem_cons_succ, List.setIfInBounds_toArray, List.set_cons_zero, List.set_cons_succ]
            refine wpAnyH_take (i := 35) rfl (by kernel_rfl) (by kernel_rfl) (by kernel_rfl) (fun _ _ _ h => h) (Or.inr ⟨by rfl, rfl⟩) (by assumption) ?_
            simp only [Act.put, List.getElem_toArray, List.getElem_cons_zero, List.getElem_cons_succ, List.setIfInBounds_toArray, List.set_cons_zero, List.set_cons_succ]
            refine wpAnyH_take (i := 36) rfl (by kernel_rfl) (by kernel_rfl) (by kernel_rfl) (fun _ _ _ h => h) (Or.inr ⟨by rfl, rfl⟩) (by assumption) ?_
            simp only [Act.put, List.getElem_toArray, List.getElem_cons_zero, List.getElem_cons_succ, List.setIfInBounds_toArray, List.set_cons_zero, List.set_cons_succ]
            refine wpAnyH_take (i := 37) rfl (by kernel_rfl) (by kernel_rfl) (by kernel_rfl) (fun _ _ _ h => h) (Or.inr ⟨by rfl, rfl⟩) (by assumption) ?_
            simp only [Act.put, List.getElem_toArray, List.getElem_cons_zero, List.getElem_cons_succ, List.setIfInBounds_toArray, List.set_cons_zero, List.set_cons_succ]
            refine wpAnyH_take (i := 38) rfl (by kernel_rfl) (by kernel_rfl) (by kernel_rfl) (fun _ _ _ h => h) (Or.inr ⟨by rfl, rfl⟩) (by assumption) ?_
            simp only [Act.put, List.getElem_toArray, List.getElem_cons_zero, List.getElem_cons_succ, List.setIfInBounds_toArray, List.set_cons_zero, List.set_cons_succ]
            refine wpAnyH_take (i := 39) rfl (by kernel_rfl) (by kernel_rfl) (by kernel_rfl) (fun _ _ _ h => h) (Or.inr ⟨by rfl, rfl⟩) (by assumption) ?_
            simp only [Act.put, List.getElem_toArray, List.getElem_cons_zero, List.getElem_cons_succ, List.setIfInBounds_toArray, List.set_cons_zero, List.set_cons_succ]
            refine wpAnyH_take (i := 40) rfl (by kernel_rfl) (by kernel_rfl) (by kernel_rfl) (fun _ _ _ h => h) (Or.inr ⟨by rfl, rfl⟩) (by assumption) ?_
            simp only [Act.put, List.getElem_toArray, List.getElem_cons_zero, List.getElem_cons_succ, List.setIfInBounds_toArray, List.set_cons_zero, List.set_cons_succ]
            refine wpAnyH_take (i := 41) (v := ?_) rfl (by kernel_rfl) (by kernel_rfl) (by kernel_rfl) (fun _ _ _ h => h) (Or.inl ⟨by rfl, ?_⟩) (by assumption) ?_
            rotate_left
            · intro w8 hSw; clear hSw; go_simp; (try with_reducible rfl)
            simp only [Act.put, List.getElem_toArray, List.getElem_cons_zero, List.getElem_cons_succ, List.setIfInBounds_toArray, List.set_cons_zero, List.set_cons_succ]
            refine wpAnyH_done (by kernel_rfl) ?_ _
            go_wp2_with fail
            go_meet
            exact ⟨rfl, rfl, (Below.refl _ _).drew⟩
          case rest =>
            obtain ⟨rfl, rfl, hB9⟩ := hcut
            go_wp2_with fail
            go_roundw
            case rel => exact ⟨1, _, _, rfl, rfl, Hi.out, own_below Hown4.out hB9, below_on Hb4.out hB9 (Nat.le_refl _)⟩
            case measure => exact ts_meas l.length 0 Hi.out
      · obtain rfl : i = l.length := Nat.le_antisymm hi (Nat.le_of_not_lt hil)
        have x1 : ¬ (l.length : Int) < (l.length : Int) := by omega
        rw [List.take_length] at ho
        have hs1 := hs.below hb
        have Ho := Lib.hid ho
        have Hb := Lib.hid hb
        have Hs := Lib.hid hs1
        have hzW := hb.size
        clear ho hb hil hs1 hs
        go_upto_region 11 with fail
        go_wp2_with (at_builtin; refine wpl_append rfl (.tmp 66) (.tmp 67) 22 rfl wr.heap.size 27 infoTh Tryd.underlying22 rfl (by decide) (.slice (some ⟨wr.heap.size, 0, none⟩) 0 0) 0 [] rfl (own_empty wr wr.heap.size _ 3 (Nat.le_refl _)) _ _ _ _ rfl (Hs.out.below (below_new _ _)) (ths_one l) ?_ ?_ ?_ ?_; (unfold maxLen; omega); omega; exact (below_new _ _).size; intro ao1 cap1 w1 hown1 hg1; rw [Nat.zero_add, List.nil_append] at hown1; have hb1 := below_app (below_new _ _) hg1 (own_empty wr wr.heap.size _ 3 (Nat.le_refl _)) (Nat.le_refl _) (below_new _ _).size; have Hown1 := Lib.hid hown1; have Hb1 := Lib.hid hb1; clear hown1 hb1 hg1)
        have hst := sort_any w1 (fun i => wr.heap.size ≤ i) (.slice ao1 l.length cap1) l ⟨own_base Hown1.out (Nat.zero_le _), fun g hg => (Hown1.out.lt g hg).1⟩ hl6
        refine hst.mono ?_
        rintro e W2 ⟨rfl, hr2, hg2⟩
        have hb2 : Below wr.heap.size wr W2 := Hb1.out.grown hg2 Hb1.out.size (fun q hq => (Hown1.out.lt q hq).1)
        have hR2 : Rt W2 o c (plainL l) := Rt.of_own (by rw [plainL_len]; exact own_below Ho.out hb2)
        have hsd := sorted_any W2 o c (plainL l) hR2 (by rw [plainL_len]; exact hl4)
        rw [plainL_len] at hsd
        have Hsd := Lib.hid hsd
        have Hr2 := Lib.hid hr2
        have Hb2 := Lib.hid hb2
        clear hst hr2 hg2 hb2 hR2 hsd
        go_wp2_with fail
        refine Hsd.out.mono ?_
        rintro e W3 ⟨ao3, cap3, rfl, ho3, hb3⟩
        have hl3 : (Sta.srt leP (plainL l)).length = l.length := by rw [Sta.srt_len, plainL_len]
        have hl2 : (Sta.srt thLe l).length = l.length := Sta.srt_len _ _
        have hT3 : Tt W3 ao1 cap1 (Sta.srt thLe l) := Tt.of_own (base := 0) (by
          have := own_below Hr2.out.own hb3
          rw [hl2] at this ⊢
          exact this)
        have hR3 : Rt W3 ao3 cap3 (Sta.srt leP (plainL l)) := Rt.of_own (by rw [hl3]; exact ho3)
        have hsm := same_any W3 ao1 cap1 (Sta.srt thLe l) ao3 cap3 (Sta.srt leP (plainL l)) hT3 hR3 (by rw [hl2]; omega) (by rw [hl3]; omega)
        rw [hl2, hl3] at hsm
        have heq : decide (Sta.srt thLe l = (Sta.srt leP (plainL l)).map (·.1)) = true := by rw [srt_map, plainL_fst]; simp
        rw [heq] at hsm
        have Hsm := Lib.hid hsm
        have hB3 : Below W.heap.size W W3 := below_on Hb.out (below_on Hb2.out hb3 (Nat.le_refl _)) (Nat.le_refl _)
        have HB3 := Lib.hid hB3
        clear hsm heq hT3 hR3 ho3 hl3 hl2 hb3 hB3
        go_wp2_with fail
        refine Hsm.out.mono ?_
        rintro e W4 ⟨rfl, hb4⟩
        have hB4 : Below W.heap.size W W4 := below_on HB3.out hb4 (Nat.le_refl _)
        have Hlv := Lib.hid (lives_slots W4 (hT.below hB4 hT.pos))
        go_wp2_with fail
        refine Hlv.out.mono ?_
        rintro e W5 ⟨rfl, hb5⟩
        go_wp2_with fail
        go_ret
        exact ⟨rfl, below_on hB4 hb5 (Nat.le_refl _)⟩
  · have x0 : (l.length : Int) > 200 := by omega
    have Hlv := Lib.hid (lives_slots W hT)
    clear hs hok
    go_enter Tryd.func3, Tryd.ntmps3
    go_wp2_with fail
    refine Hlv.out.mono ?_
    rintro e W5 ⟨rfl, hb5⟩
    go_wp2_with fail
    go_ret
    exact ⟨rfl, hb5⟩
end Go.Proofs.YtadghaiengonoaaDoor
