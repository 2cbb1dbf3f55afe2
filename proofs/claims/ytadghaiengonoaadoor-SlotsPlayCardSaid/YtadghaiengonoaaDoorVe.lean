/- slots: the reference's Put, Take, Used. No statement of the seat is proved here. -/
import Derived.Test.YtadghaiengonoaaDoorVc
namespace Go.Proofs.YtadghaiengonoaaDoor
set_option linter.unusedVariables false
set_option linter.unusedSimpArgs false
set_option linter.unusedSectionVars false
open Go Go.RowKit Go.Maps

def leftI (L : RLs) (s : Int) : RLs := L.filter (fun p => decide ((p.2 : Int) ≠ s))
def tookI (L : RLs) (s : Int) : RLs := L.filter (fun p => decide ((p.2 : Int) = s))
theorem leftI_nat (L : RLs) (k : Nat) : leftI L (k : Nat) = left L k := by
  unfold leftI left; apply List.filter_congr; intro p _; simp <;> omega
theorem tookI_nat (L : RLs) (k : Nat) : (tookI L (k : Nat)).map (·.1) = rowOf L k := by
  unfold tookI rowOf; congr 1; apply List.filter_congr; intro p _; simp <;> omega
theorem leftI_out (L : RLs) (h : RLok L) (s : Int) (hs : s < 0 ∨ 64 ≤ s) : leftI L s = L := by
  unfold leftI; rw [List.filter_eq_self]; intro p hp; have := h.slot p hp; simp; omega
theorem tookI_out (L : RLs) (h : RLok L) (s : Int) (hs : s < 0 ∨ 64 ≤ s) : tookI L s = [] := by
  unfold tookI; rw [List.filter_eq_nil_iff]; intro p hp; have := h.slot p hp; simp; omega
theorem step_filter (l : RLs) (p : Th × Nat → Bool) (i : Nat) (hi : i < l.length) : (l.take (i + 1)).filter p = (l.take i).filter p ++ (if p l[i] then [l[i]] else []) := by
  rw [← List.take_append_getElem hi, List.filter_append]
  congr 1
  simp [List.filter_cons]
theorem lenf_le (l : RLs) (p : Th × Nat → Bool) (i : Nat) (hl : l.length ≤ 10000) : ((l.take i).filter p).length ≤ 10000 := Nat.le_trans (List.length_filter_le _ _) (Nat.le_trans (by rw [List.length_take]; omega) hl)
set_option maxRecDepth 100000 in
set_option maxHeartbeats 8000000 in
theorem refTake_any (W : World) (ao : Option Addr) (cap : Nat) (l : RLs) (s : Int) (h : Rt W ao cap l) (hl : l.length ≤ 10000) :
    Calls Tryd.prog 18 #[.slice ao l.length cap, .int .i64 s] W fun e W' => ∃ o1 c1 o2 c2, e = .returned (.tuple #[.slice o1 (leftI l s).length c1, .slice o2 (tookI l s).length c2]) ∧
      W'.ownsRow W.heap.size rtT 4 (.slice o1 (leftI l s).length c1) (leftI l s).length (rtFlat (leftI l s)) ∧ W'.ownsRow W.heap.size rtT 4 (.slice o2 (tookI l s).length c2) (tookI l s).length (rtFlat (Sta.srt leP (tookI l s))) ∧ Below W.heap.size W W' := by
  have Hh := Lib.hid h
  have HL := Lib.hid hl
  clear h hl
  go_enter Tryd.func18, Tryd.ntmps18
  go_wp2_with fail
  go_loopw [6, 7, 8] (fun v z u wr => ∃ (i n1 n2 : Nat) (o1 o2 : Option Addr) (c1 c2 : Nat), u = .int .i64 (i : Nat) ∧ v = .slice o1 n1 c1 ∧ z = .slice o2 n2 c2 ∧ i ≤ l.length ∧ Hid (n1 = (leftI (l.take i) s).length) ∧ Hid (n2 = (tookI (l.take i) s).length) ∧
    wr.ownsRow W.heap.size rtT 4 (.slice o1 n1 c1) n1 (rtFlat (leftI (l.take i) s)) ∧ wr.ownsRow W.heap.size rtT 4 (.slice o2 n2 c2) n2 (rtFlat (tookI (l.take i) s)) ∧ Hid (∀ g, (Value.slice o1 n1 c1).ownBlock = some g → (Value.slice o2 n2 c2).ownBlock ≠ some g) ∧ Below W.heap.size W wr) (fun _ _ u _ => l.length - (intOf u).toNat)
  case atStart => exact ⟨0, 0, 0, none, none, 0, 0, rfl, rfl, rfl, Nat.zero_le _, rfl, rfl, World.ownsRow_nil _ _ _ _, World.ownsRow_nil _ _ _ _, (by show ∀ g, _; intro g h; cases h), Below.refl _ _⟩
  case round =>
    obtain ⟨i, n1, n2, o1, o2, c1, c2, rfl, rfl, rfl, hi, hn1, hn2, hr1, hr2, hap, hb⟩ := hrel
    by_cases hil : i < l.length
    · obtain ⟨x1, x2⟩ := i_nums i l.length hil
      obtain ⟨bx, fx, rfl, hbx, c0, d1, d2, d3⟩ := Rt.cells (Hh.out.below hb) i hil
      obtain ⟨⟨⟨yi, yg, yd⟩, ys⟩, hy⟩ : ∃ y, y = l[i] := ⟨_, rfl⟩
      rw [← hy] at c0 d1 d2 d3
      simp only at c0 d1 d2 d3
      have w1 : wrap64 ((i : Int) + 1) = (i : Int) + 1 := IntWalk.wrap64_in _ (by have := HL.out; omega)
      have hl1 := lenf_le l (fun p => decide ((p.2 : Int) ≠ s)) i HL.out
      have hl2 := lenf_le l (fun p => decide ((p.2 : Int) = s)) i HL.out
      have hq1 : n1 ≤ 10000 := by rw [hn1.out]; exact hl1
      have hq2 : n2 ≤ 10000 := by rw [hn2.out]; exact hl2
      have s1 := step_filter l (fun p => decide ((p.2 : Int) ≠ s)) i hil
      have s2 := step_filter l (fun p => decide ((p.2 : Int) = s)) i hil
      rw [← hy] at s1 s2
      simp only at s1 s2
      have hzW := hb.size
      have S1 := Lib.hid s1
      have S2 := Lib.hid s2
      have Hr1 := Lib.hid hr1
      have Hr2 := Lib.hid hr2
      have Hb := Lib.hid hb
      have Hi := Lib.hid hil
      clear hl1 hl2 s1 s2 hr1 hr2 hb hi hy
      by_cases hs : (ys : Int) = s
      · have y1 : ((ys : Int) == s) = true := by simp [hs]
        have e1 : leftI (l.take (i + 1)) s = leftI (l.take i) s := by show List.filter _ _ = List.filter _ _; rw [S1.out]; simp [hs]
        have e2 : tookI (l.take (i + 1)) s = tookI (l.take i) s ++ [((⟨yi, yg, yd⟩ : Th), ys)] := by show List.filter _ _ = List.filter _ _ ++ _; rw [S2.out]; simp [hs]
        have E1 := Lib.hid e1
        have E2 := Lib.hid e2
        clear e1 e2 hs
        go_wp2_with (at_builtin; refine wpl_append_one rfl (.tmp 22) (.tmp 27) rtsT rfl W.heap.size rtT infoRt Tryd.underlying24 rfl (by decide) (.slice o2 n2 c2) n2 ((tookI (l.take i) s).map rtCells) rfl (Hr2.out.alloc _) _ 1 (rtCells (⟨yi, yg, yd⟩, ys)) rfl rfl (news_at _ rfl) (rt_one _) ?_ ?_ ?_ ?_; omega; (unfold maxLen; omega); (simp; omega); intro g4 c4 w4 hown4 hg4 hlie; have hb4 := below_app (Hb.out.alloc hzW _) hg4 (Hr2.out.alloc _) (Nat.le_refl _) (by simp; omega); have hk1 : w4.ownsRow W.heap.size rtT 4 (.slice o1 n1 c1) n1 (rtFlat (leftI (l.take i) s)) := (Hr1.out.alloc _).kept hg4 (by cases hx : (Value.slice o1 n1 c1).ownBlock with | none => exact .inl rfl | some g => exact .inr (fun e => hap.out g hx e.symm)))
        go_roundw
        case rel =>
          refine ⟨i + 1, n1, n2 + 1, o1, _, c1, c4, by first | rfl | rw [w1]; rfl, rfl, rfl, Hi.out, ?_, ?_, ?_, ?_, ?_, hb4⟩
          · show n1 = _; rw [E1.out]; exact hn1.out
          · show n2 + 1 = _; rw [E2.out, List.length_append, ← hn2.out]; rfl
          · rw [E1.out]; exact hk1
          · rw [E2.out, ← rt_snoc]; exact hown4
          · show ∀ g, _
            intro g hg e
            simp only [Value.ownBlock, Option.some.injEq] at e
            subst e
            rcases hlie with h1 | h1
            · exact hap.out _ hg h1
            · have := (Hr1.out.lt _ hg).2
              simp at h1
              omega
        case measure =>
          first | rw [w1] | skip
          exact ts_meas l.length i Hi.out
      · have y1 : ((ys : Int) == s) = false := by simp [hs]
        have e1 : leftI (l.take (i + 1)) s = leftI (l.take i) s ++ [((⟨yi, yg, yd⟩ : Th), ys)] := by show List.filter _ _ = List.filter _ _ ++ _; rw [S1.out]; simp [hs]
        have e2 : tookI (l.take (i + 1)) s = tookI (l.take i) s := by show List.filter _ _ = List.filter _ _; rw [S2.out]; simp [hs]
        have E1 := Lib.hid e1
        have E2 := Lib.hid e2
        clear e1 e2 hs
        go_wp2_with (at_builtin; refine wpl_append_one rfl (.tmp 29) (.tmp 34) rtsT rfl W.heap.size rtT infoRt Tryd.underlying24 rfl (by decide) (.slice o1 n1 c1) n1 ((leftI (l.take i) s).map rtCells) rfl (Hr1.out.alloc _) _ 1 (rtCells (⟨yi, yg, yd⟩, ys)) rfl rfl (news_at _ rfl) (rt_one _) ?_ ?_ ?_ ?_; omega; (unfold maxLen; omega); (simp; omega); intro g4 c4 w4 hown4 hg4 hlie; have hb4 := below_app (Hb.out.alloc hzW _) hg4 (Hr1.out.alloc _) (Nat.le_refl _) (by simp; omega); have hk2 : w4.ownsRow W.heap.size rtT 4 (.slice o2 n2 c2) n2 (rtFlat (tookI (l.take i) s)) := (Hr2.out.alloc _).kept hg4 (by cases hx : (Value.slice o2 n2 c2).ownBlock with | none => exact .inl rfl | some g => exact .inr (fun e => hap.out g e.symm hx)))
        go_roundw
        case rel =>
          refine ⟨i + 1, n1 + 1, n2, _, o2, c4, c2, by first | rfl | rw [w1]; rfl, rfl, rfl, Hi.out, ?_, ?_, ?_, ?_, ?_, hb4⟩
          · show n1 + 1 = _; rw [E1.out, List.length_append, ← hn1.out]; rfl
          · show n2 = _; rw [E2.out]; exact hn2.out
          · rw [E1.out, ← rt_snoc]; exact hown4
          · rw [E2.out]; exact hk2
          · show ∀ g, _
            intro g hg e
            simp only [Value.ownBlock, Option.some.injEq] at hg
            subst hg
            rcases hlie with h1 | h1
            · exact hap.out _ h1 e
            · have := (Hr2.out.lt _ e).2
              simp at h1
              omega
        case measure =>
          first | rw [w1] | skip
          exact ts_meas l.length i Hi.out
    · obtain rfl : i = l.length := Nat.le_antisymm hi (Nat.le_of_not_lt hil)
      have x1 : ¬ (l.length : Int) < (l.length : Int) := by omega
      rw [List.take_length] at hr1 hr2 hn1 hn2
      have h1 := hn1.out
      have h2 := hn2.out
      subst h1
      subst h2
      have hsd := sorted_any wr o2 c2 (tookI l s) (Rt.of_own hr2) (Nat.le_trans (List.length_filter_le _ _) HL.out)
      have Hsd := Lib.hid hsd
      have Hr1 := Lib.hid hr1
      have Hb := Lib.hid hb
      clear hsd hr1 hr2 hb hil hn1 hn2
      go_wp2_with fail
      refine Hsd.out.mono ?_
      rintro e W3 ⟨o3, c3, rfl, ho3, hb3⟩
      go_wp2_with fail
      go_ret2
      exact ⟨_, _, _, _, rfl, own_below Hr1.out hb3, own_base ho3 Hb.out.size, below_on Hb.out hb3 (Nat.le_refl _)⟩
set_option maxRecDepth 100000 in
set_option maxHeartbeats 4000000 in
theorem refUsed_any (W : World) (ao : Option Addr) (cap : Nat) (l : RLs) (h : Rt W ao cap l) (hok : RLok l) (hl : l.length ≤ 10000) :
    Calls Tryd.prog 17 #[.slice ao l.length cap] W fun e W' => (∃ u, UsedIs u l ∧ e = .returned (.int .u64 (u : Nat))) ∧ W' = W := by
  go_enter Tryd.func17, Tryd.ntmps17
  go_wp2_with fail
  go_loopw [3, 4] (fun v z wr => ∃ (i u : Nat), z = .int .i64 (i : Nat) ∧ v = .int .u64 (u : Nat) ∧ i ≤ l.length ∧ Hid (UsedIs u (l.take i)) ∧ wr = W) (fun _ z _ => l.length - (intOf z).toNat)
  case atStart => exact ⟨0, 0, rfl, rfl, Nat.zero_le _, by show UsedIs 0 _; exact UsedIs.nil, rfl⟩
  case round =>
    obtain ⟨i, u, rfl, rfl, hi, hu, hwr⟩ := hrel
    subst hwr
    by_cases hil : i < l.length
    · obtain ⟨x1, x2⟩ := i_nums i l.length hil
      obtain ⟨bx, fx, rfl, hbx, c0, d1, d2, d3⟩ := Rt.cells h i hil
      obtain ⟨⟨yt, k⟩, hy⟩ : ∃ y, y = l[i] := ⟨_, rfl⟩
      rw [← hy] at d3
      simp only at d3
      have hk : k < 64 := by have := hok.slot l[i] (List.getElem_mem hil); rw [← hy] at this; exact this
      have k1 : ¬ (k : Int) < 0 := by omega
      have k3 : (k : Int) < 64 := by omega
      have hbo := bits_on u k hk
      have w1 : wrap64 ((i : Int) + 1) = (i : Int) + 1 := IntWalk.wrap64_in _ (by omega)
      have hu2 : UsedIs (onBit u k) (l.take (i + 1)) := by
        rw [← List.take_append_getElem hil, ← hy]
        exact hu.out.put yt k hk
      have Hu2 := Lib.hid hu2
      have Hi := Lib.hid hil
      clear hu2 c0 d1 d2 hil hi hy
      go_wp2_with fail
      go_roundw
      case rel => exact ⟨i + 1, onBit u k, by first | rfl | rw [w1]; rfl, by first | rfl | rw [hbo], Hi.out, Hu2.out, by first | trivial | rfl⟩
      case measure =>
        first | rw [w1] | skip
        exact ts_meas l.length i Hi.out
    · obtain rfl : i = l.length := Nat.le_antisymm hi (Nat.le_of_not_lt hil)
      have x1 : ¬ (l.length : Int) < (l.length : Int) := by omega
      rw [List.take_length] at hu
      clear hil
      go_wp2_with fail
      go_ret
      exact ⟨⟨u, hu.out, rfl⟩, rfl⟩
end Go.Proofs.YtadghaiengonoaaDoor
