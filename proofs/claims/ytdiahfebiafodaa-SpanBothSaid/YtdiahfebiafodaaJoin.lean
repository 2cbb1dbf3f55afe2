/- span.Join: contract. No statement of the seat is proved here. -/
import Derived.Test.YtdiahfebiafodaaSort
import Derived.Test.YtdiahfebiafodaaSpanS
namespace Go.Proofs.Ytdiahfebiafodaa
set_option linter.unusedVariables false
set_option linter.unusedSimpArgs false
set_option linter.unusedSectionVars false
open Go Go.RowKit Go.Shelf
open Go.Sort (grow)

set_option maxHeartbeats 1000000 in
/-- the first span that fits -/
theorem index0_any (k : Nat) (p : Sp → Bool) (eg : ∀ args w, (callFunc k args).run Try.prog w = .ok (.enter k args) w) (ao : Option Addr) (cap : Nat) (l : List Sp) (w : World) (hs : Sps w ao cap l)
    (hp : ∀ W s, Below w.heap.size w W → Calls Try.prog k #[spVal s] W fun e W' => e = .returned (.bool (p s)) ∧ Below W.heap.size W W') :
    Calls Try.prog 45 #[.slice ao l.length cap, .func (.func k) #[] #[]] w fun e w' =>
      e = .returned (.int .i64 (firstI l p)) ∧ Below w.heap.size w w' := by
  obtain ⟨r, hr⟩ : ∃ r, r = l.findIdx p := ⟨_, rfl⟩
  obtain ⟨z, hz⟩ : ∃ z, z = firstI l p := ⟨_, rfl⟩
  rw [← hz]
  have hz2 : z = if r < l.length then (r : Int) else -1 := by rw [hz, hr]; rfl
  have Hz := Lib.hid hz2
  have Hr := Lib.hid hr
  clear hr hz hz2
  have hm := hs.max
  have hle := hs.le
  unfold maxLen at hm
  go_enter Try.func45, Try.ntmps45
  go_wp2_with fail
  go_loopw [8] (fun v wr => ∃ i : Nat, v = .int .i64 i ∧ i ≤ l.length ∧ Hid (r = i + (l.drop i).findIdx p) ∧ Below w.heap.size w wr) (fun v _ => l.length - (intOf v).toNat)
  case atStart => exact ⟨0, rfl, Nat.zero_le _, (by show r = 0 + (l.drop 0).findIdx p; rw [Hr.out]; simp), Below.refl _ _⟩
  case round =>
    obtain ⟨i, rfl, hi, hri, hb⟩ := hrel
    by_cases hlt : i < l.length
    · have hs2 := hs.below hb
      obtain ⟨b, off, rfl, c0, c1⟩ := hs2.get i hlt
      have hst : (l.drop i).findIdx p = if p l[i] then 0 else (l.drop (i + 1)).findIdx p + 1 := by
        rw [List.drop_eq_getElem_cons hlt, List.findIdx_cons]
        cases p l[i] <;> rfl
      have Hst := Lib.hid hst
      clear hst
      obtain ⟨s, hsd⟩ : ∃ s, s = l[i] := ⟨_, rfl⟩
      rw [← hsd] at c0 c1 Hst
      clear hsd
      have hps := hp wr s hb
      obtain ⟨q, hq⟩ : ∃ q, q = p s := ⟨_, rfl⟩
      rw [← hq] at hps Hst
      clear hq
      obtain ⟨x, y⟩ := s
      unfold spVal at hps
      simp only at c0 c1 hps
      go_wp2_with fail
      refine hps.mono ?_
      rintro e w2 ⟨rfl, hb2⟩
      cases q with
      | true =>
        have he : r = i := by rw [hri.out, Hst.out]; simp
        go_wp2_with fail
        go_ret
        refine ⟨?_, below_on hb hb2 (Nat.le_refl _)⟩
        rw [Hz.out, he, if_pos hlt]; rfl
      | false =>
        have he : Hid (r = i + 1 + (l.drop (i + 1)).findIdx p) := by show r = _; rw [hri.out, Hst.out]; simp; omega
        go_wp2_with fail
        go_roundw
        case rel => exact ⟨i + 1, by simp, by omega, he, below_on hb hb2 (Nat.le_refl _)⟩
        case measure => simp [intOf]; omega
    · have hi' : i = l.length := by omega
      subst hi'
      have he : r = l.length := by rw [hri.out]; simp
      go_wp2_with fail
      go_ret
      exact ⟨by rw [Hz.out, he, if_neg (Nat.lt_irrefl _)]; rfl, hb⟩

/-- the copy, with its row -/
theorem clone_own (ao : Option Addr) (cap : Nat) (l : List Sp) (w : World) (hl : l.length ≤ 1000000) (hs : Sps w ao cap l) :
    Calls Try.prog 43 #[.slice ao l.length cap] w fun e w' => (∃ ao' cap', e = .returned (.slice ao' l.length cap') ∧ w'.ownsRow w.heap.size 30 2 (.slice ao' l.length cap') l.length (l.map spCells).flatten) ∧ Below w.heap.size w w' := by
  have q22 : ∀ (w : World) (a : Option Addr) (n c n' c' : Nat), (binOp .eql 22 (.slice a n c) (.slice none n' c')).run Try.prog w = .ok (.bool a.isNone) w := fun w a n c n' c' => Lib.run_eql_slice_nil w _ _ a n c n' c' Try.underlying22
  cases ao with
  | none =>
    have hc := hs.none rfl
    have hle := hs.le
    have h0 : l = [] := List.eq_nil_of_length_eq_zero (by omega)
    subst h0
    subst hc
    go_enter Try.func43, Try.ntmps43
    go_wp2
    go_ret
    exact ⟨⟨none, 0, rfl, own_nil _ _ _ _⟩, Below.refl _ _⟩
  | some ad =>
    go_enter Try.func43, Try.ntmps43
    go_wp2_with (at_builtin; refine wpl_append rfl (.tmp 5) (.tmp 6) 22 rfl w.heap.size 30 infoSp Try.underlying22 rfl (by decide) _ 0 [] rfl (own_empty w w.heap.size _ 2 (Nat.le_refl _)) _ _ _ _ rfl (hs.below (below_new _ _)) (sps_one l) ?_ ?_ ?_ ?_; (unfold maxLen; omega); omega; exact (below_new _ _).size; intro ao' cap' w' hown' hg')
    go_ret
    refine ⟨⟨ao', cap', by simp, ?_⟩, below_app (below_new _ _) hg' (own_empty w w.heap.size _ 2 (Nat.le_refl _)) (Nat.le_refl _) (below_new _ _).size⟩
    rw [Nat.zero_add] at hown'
    exact hown'

def bad (s : Sp) : Bool := !s.right
theorem join1_any (s : Sp) (W : World) : Calls Try.prog 51 #[spVal s] W fun e W' => e = .returned (.bool (bad s)) ∧ Below W.heap.size W W' := by
  have hr := fun W => right_any s W
  unfold bad
  obtain ⟨r, hr2⟩ : ∃ r, r = s.right := ⟨_, rfl⟩
  rw [← hr2] at hr ⊢
  clear hr2
  obtain ⟨x, y⟩ := s
  unfold spVal at hr ⊢
  go_enter Try.func51, Try.ntmps51
  go_wp2_with fail
  refine (hr _).mono ?_
  rintro e w2 ⟨rfl, hb2⟩
  go_wp2_with fail
  go_ret
  exact ⟨by first | rfl | simp, below_on (below_new _ _) hb2 (Nat.le_refl _)⟩

theorem contains_any (ao : Option Addr) (cap : Nat) (l : List Sp) (w : World) (hs : Sps w ao cap l) :
    Calls Try.prog 50 #[.slice ao l.length cap, .func (.func 51) #[] #[]] w fun e w' => e = .returned (.bool (l.any bad)) ∧ Below w.heap.size w w' := by
  have hi := index0_any 51 bad (enters_of Try.func51 (by kernel_rfl) rfl) ao cap l w hs (fun W s _ => join1_any s W)
  by_cases h : l.any bad = true
  · have h2 : l.findIdx bad < l.length := by
      rw [List.findIdx_lt_length]
      obtain ⟨x, hx, hb⟩ := List.any_eq_true.1 h
      exact ⟨x, hx, hb⟩
    have e1 : firstI l bad = (l.findIdx bad : Int) := by unfold firstI; rw [if_pos h2]
    rw [e1] at hi
    rw [h]
    go_enter Try.func50, Try.ntmps50
    go_wp2_with fail
    refine hi.mono ?_
    rintro e w2 ⟨rfl, hb2⟩
    go_wp2_with fail
    go_ret
    exact ⟨by first | rfl | simp, hb2⟩
  · have hf : l.any bad = false := by simpa using h
    have h2 : ¬ l.findIdx bad < l.length := by
      rw [List.findIdx_lt_length]
      rintro ⟨x, hx, hb⟩
      exact h (List.any_eq_true.2 ⟨x, hx, hb⟩)
    have e1 : firstI l bad = -1 := by unfold firstI; rw [if_neg h2]
    rw [e1] at hi
    rw [hf]
    go_enter Try.func50, Try.ntmps50
    go_wp2_with fail
    refine hi.mono ?_
    rintro e w2 ⟨rfl, hb2⟩
    go_wp2_with fail
    go_ret
    exact ⟨by first | rfl | simp, hb2⟩

/-- one more span -/
def mstep (out : List Sp) (s : Sp) : List Sp := match out.getLast? with
  | none => [s]
  | some t => if s.a ≤ t.b then out.dropLast ++ [⟨t.a, if t.b < s.b then s.b else t.b⟩] else out ++ [s]
theorem mstep_nil (s : Sp) : mstep [] s = [s] := rfl
theorem mstep_in (o : List Sp) (p q : Int) (s : Sp) (h : s.a ≤ q) : mstep (o ++ [⟨p, q⟩]) s = o ++ [⟨p, if q < s.b then s.b else q⟩] := by
  unfold mstep; simp [h]
theorem mstep_out (o : List Sp) (p q : Int) (s : Sp) (h : ¬ s.a ≤ q) : mstep (o ++ [⟨p, q⟩]) s = o ++ [⟨p, q⟩] ++ [s] := by
  unfold mstep; simp [h]
theorem fold_at (l : List Sp) (i : Nat) (hi : i < l.length) (out : List Sp) : (l.drop i).foldl mstep out = (l.drop (i + 1)).foldl mstep (mstep out l[i]) := by
  rw [List.drop_eq_getElem_cons hi]; rfl
theorem flat_len (o : List Sp) : (o.map spCells).flatten.length = o.length * 2 := by
  induction o with
  | nil => rfl
  | cons s l ih => simp only [List.map_cons, List.flatten_cons, List.length_append, List.length_cons, sp_len, ih]; omega
theorem flat_set (o : List Sp) (p q z : Int) : ((o ++ [(⟨p, q⟩ : Sp)]).map spCells).flatten.set (o.length * 2 + 1) (.int .i64 z) = ((o ++ [(⟨p, z⟩ : Sp)]).map spCells).flatten := by
  simp only [List.map_append, List.flatten_append, List.map_cons, List.map_nil, List.flatten_cons, List.flatten_nil, List.append_nil]
  rw [List.set_append, if_neg (by rw [flat_len]; omega), flat_len]
  have : o.length * 2 + 1 - o.length * 2 = 1 := by omega
  rw [this]; rfl

/-- what Join answers -/
def JoinIs (l L : List Sp) : Prop := (l.any bad = true → L = []) ∧ (l.any bad = false → ∃ l' : List Sp, l'.Perm l ∧ l'.Pairwise (fun x y => x.a ≤ y.a) ∧ L = l'.foldl mstep [])

set_option maxHeartbeats 2000000 in
theorem join_any (ao : Option Addr) (cap : Nat) (l : List Sp) (w : World) (hl : l.length ≤ 1000000) (hs : Sps w ao cap l) :
    Calls Try.prog 30 #[.slice ao l.length cap] w fun e w' => (∃ L ao' cap', e = .returned (.slice ao' L.length cap') ∧ Sps w' ao' cap' L ∧ JoinIs l L ∧ L.length ≤ l.length) ∧ Below w.heap.size w w' := by
  have hct := contains_any ao cap l w hs
  cases hbd : l.any bad with
  | true =>
    rw [hbd] at hct
    go_enter Try.func30, Try.ntmps30
    go_wp2_with fail
    refine hct.mono ?_
    rintro e w1 ⟨rfl, hb1⟩
    go_wp2_with fail
    go_ret
    exact ⟨⟨[], none, 0, rfl, Sps.nil _, ⟨fun _ => rfl, fun h => (by rw [hbd] at h; cases h)⟩, Nat.zero_le _⟩, hb1⟩
  | false =>
    rw [hbd] at hct
    go_enter Try.func30, Try.ntmps30
    go_wp2_with fail
    refine hct.mono ?_
    rintro e w1 ⟨rfl, hb1⟩
    go_wp2_with fail
    refine (clone_own ao cap l w1 hl (hs.below hb1)).mono ?_
    rintro e w2 ⟨⟨ao2, cap2, rfl, hown2⟩, hb2⟩
    go_wp2_with fail
    refine (sort_any w1.heap.size _ l w2 hown2 hb2.size hl).mono ?_
    rintro e w3 ⟨rfl, ⟨m, hperm, hpw, hml, ao3, cap3, he3, hs3⟩, hb3⟩
    simp only [Value.slice.injEq, true_and] at he3
    obtain ⟨rfl, rfl⟩ := he3
    have hB3 : Below w.heap.size w w3 := hb1.trans ((hb2.trans hb3).mono hb1.size)
    obtain ⟨L, hL⟩ : ∃ L, L = m.foldl mstep [] := ⟨_, rfl⟩
    have HJ : Hid (JoinIs l L) := ⟨fun h => (by rw [hbd] at h; cases h), fun _ => ⟨m, hperm, hpw, hL⟩⟩
    have HL := Lib.hid hL
    rw [← hml]
    rw [← hml] at hl
    have Hml := Lib.hid hml
    have Hml := Lib.hid hml
    have Hml := Lib.hid hml
    have Hml := Lib.hid hml
    clear hL hperm hpw hbd hct hown2 hs hml
    go_wp2_with fail
    go_loopw [2, 15] (fun v u wr => ∃ (i : Nat) (out : List Sp), u = .int .i64 i ∧ i ≤ m.length ∧ out.length ≤ i ∧ Hid (L = (m.drop i).foldl mstep out) ∧ wr.ownsRow w3.heap.size 30 2 v out.length (out.map spCells).flatten ∧ Below w3.heap.size w3 wr)
      (fun v u _ => m.length - (intOf u).toNat)
    case atStart => exact ⟨0, [], rfl, Nat.zero_le _, Nat.le_refl _, HL, own_nil _ _ _ _, Below.refl _ _⟩
    case round =>
      obtain ⟨i, out, rfl, hi, ho, hLo, hown, hb⟩ := hrel
      obtain ⟨oa, oc, rfl⟩ := own_slice hown
      have hz := hb.size
      by_cases hlt : i < m.length
      · obtain ⟨b, off, rfl, c0, c1⟩ := (hs3.below hb).get i hlt
        have Hst := Lib.hid (fold_at m i hlt out)
        obtain ⟨s, hsd⟩ : ∃ s, s = m[i] := ⟨_, rfl⟩
        rw [← hsd] at c0 c1 Hst
        clear hsd
        obtain ⟨x, y⟩ := s
        simp only at c0 c1
        rcases List.eq_nil_or_concat out with rfl | ⟨o, t, rfl⟩
        · rw [mstep_nil] at Hst
          simp only [List.length_nil] at hown ⊢
          go_wp2_with fail
          refine wp_region_quiet_below (by kernel_rfl) (by kernel_rfl) (WQ.out ?_)
          refine WQ.val (by rfl) (.int .i64 0) (fun _ => rfl) ?_
          simp only [Act.put, List.setIfInBounds_toArray, List.set_cons_zero, List.set_cons_succ]
          refine WQ.val (by rfl) (.bool false) (fun _ => rfl) ?_
          simp only [Act.put, List.setIfInBounds_toArray, List.set_cons_zero, List.set_cons_succ]
          refine WQ.val (by rfl) (.bool false) (fun _ => rfl) ?_
          simp only [Act.put, List.setIfInBounds_toArray, List.set_cons_zero, List.set_cons_succ]
          refine WQ.skip (by rfl) ?_
          simp only [Act.put, List.setIfInBounds_toArray, List.set_cons_zero, List.set_cons_succ]
          refine WQ.skip (by rfl) ?_
          simp only [Act.put, List.setIfInBounds_toArray, List.set_cons_zero, List.set_cons_succ]
          refine WQ.skip (by rfl) ?_
          simp only [Act.put, List.setIfInBounds_toArray, List.set_cons_zero, List.set_cons_succ]
          refine WQ.skip (by rfl) ?_
          simp only [Act.put, List.setIfInBounds_toArray, List.set_cons_zero, List.set_cons_succ]
          refine WQ.skip (by rfl) ?_
          simp only [Act.put, List.setIfInBounds_toArray, List.set_cons_zero, List.set_cons_succ]
          refine WQ.skip (by rfl) ?_
          simp only [Act.put, List.setIfInBounds_toArray, List.set_cons_zero, List.set_cons_succ]
          refine WQ.skip (by rfl) ?_
          simp only [Act.put, List.setIfInBounds_toArray, List.set_cons_zero, List.set_cons_succ]
          refine WQ.skip (by rfl) ?_
          simp only [Act.put, List.setIfInBounds_toArray, List.set_cons_zero, List.set_cons_succ]
          refine WQ.skip (by rfl) ?_
          simp only [Act.put, List.setIfInBounds_toArray, List.set_cons_zero, List.set_cons_succ]
          refine WQ.val (by rfl) (.bool false) (fun _ => rfl) ?_
          simp only [Act.put, List.setIfInBounds_toArray, List.set_cons_zero, List.set_cons_succ]
          refine WQ.nil ?_
          intro _ hw'
          obtain ⟨⟨dq, osq⟩, hw''⟩ := hw'
          subst hw''
          have hbg : Below wr.heap.size wr (grow (redrawn (wr.alloc (.cells #[.int .i64 x, .int .i64 y] 30)) dq) osq) := below_on (below_new _ _) (below_regrown _ dq osq) (Nat.le_refl _)
          have k0 : (grow (redrawn (wr.alloc (.cells #[.int .i64 x, .int .i64 y] 30)) dq) osq).cell? ⟨wr.heap.size, 0, none⟩ = some (.int .i64 x) := cell_regrown (by rw [cell?_new]; rfl) dq osq
          have k1 : (grow (redrawn (wr.alloc (.cells #[.int .i64 x, .int .i64 y] 30)) dq) osq).cell? ⟨wr.heap.size, 1, none⟩ = some (.int .i64 y) := cell_regrown (by rw [cell?_new]; rfl) dq osq
          have hownG := own_below hown hbg
          generalize grow (redrawn (wr.alloc (.cells #[.int .i64 x, .int .i64 y] 30)) dq) osq = W at hbg k0 k1 hownG ⊢
          have hBW := below_on hb hbg (Nat.le_refl _)
          have hzW := hBW.size
          go_wp2_with (at_builtin; refine wpl_append_one rfl (.tmp 48) (.tmp 50) 22 rfl w3.heap.size 30 infoSp Try.underlying22 rfl (by decide) _ 0 [] rfl (hownG.alloc _) _ 1 (spCells ⟨x, y⟩) rfl rfl (news_at _ rfl) (sp_one _) ?_ ?_ ?_ ?_; omega; (unfold maxLen; omega); (simp; omega); intro g c4 w4 hown4 hg4 hlie; have hc4 := (below_app (hBW.alloc hzW _) hg4 (hownG.alloc _) (Nat.le_refl _) (by simp; omega)))
          go_roundw
          case rel => exact ⟨i + 1, [⟨x, y⟩], by simp, by omega, by simp, (by show L = _; rw [hLo.out, Hst.out]), by simpa using hown4, hc4⟩
          case measure => simp [intOf]; omega
        · simp only [List.concat_eq_append] at hown ho hLo Hst ⊢
          obtain ⟨p, q⟩ := t
          have hlo : (o ++ [(⟨p, q⟩ : Sp)]).length = o.length + 1 := by simp
          rw [hlo] at hown ho ⊢
          obtain ⟨g, cg, he, hg1, hg2⟩ := hown.form (Nat.succ_pos _)
          simp only [Value.slice.injEq, true_and] at he
          obtain ⟨rfl, rfl⟩ := he
          have hoi : (o.length : Int) ≤ 1000000 := by omega
          have hw1 : IntKind.i64.wrap ((o.length : Int) + 1 - 1) = (o.length : Int) := by rw [show (o.length : Int) + 1 - 1 = (o.length : Int) by omega]; exact IntWalk.i64_in _ (by omega)
          have hd1 : wr.cell? ⟨g, o.length * 2 + 1, none⟩ = some (.int .i64 q) := by
            rw [hown.cellAt (o.length * 2 + 1) (by omega)]
            have := sps_flat (o ++ [(⟨p, q⟩ : Sp)]) o.length 1 (by simp) (by decide)
            rw [this]; simp [spCells]
          have hfz := hown.frozenAt (o.length * 2 + 1)
          have hbg := below_new wr (.cells #[.int .i64 x, .int .i64 y] 30)
          have k0 : (wr.alloc (.cells #[.int .i64 x, .int .i64 y] 30)).cell? ⟨wr.heap.size, 0, none⟩ = some (.int .i64 x) := by rw [cell?_new]; rfl
          have k1 : (wr.alloc (.cells #[.int .i64 x, .int .i64 y] 30)).cell? ⟨wr.heap.size, 1, none⟩ = some (.int .i64 y) := by rw [cell?_new]; rfl
          have k2 := (hbg.cell (cell?_lt hd1)).trans hd1
          have k3 := (hbg.frozen (p := ⟨g, o.length * 2 + 1, none⟩) (cell?_lt hd1)).trans hfz
          have hownG := own_below hown hbg
          have hBW := below_on hb hbg (Nat.le_refl _)
          have hzW := hBW.size
          by_cases hxq : x ≤ q
          · rw [mstep_in o p q ⟨x, y⟩ hxq] at Hst
            simp only at Hst
            obtain ⟨z, hzz⟩ : ∃ z, z = if q < y then y else q := ⟨_, rfl⟩
            rw [← hzz] at Hst
            go_wp2_with fail
            go_quiet (fail)
            have hbq : Below wr.heap.size wr ((wr.alloc (.cells #[.int .i64 x, .int .i64 y] 30)).drewN nq) := below_on hbg ⟨rfl, rfl, rfl, by simp [World.drewN], fun k hk => rfl⟩ (Nat.le_refl _)
            have hownQ := own_below hown hbq
            replace k0 : ((wr.alloc (.cells #[.int .i64 x, .int .i64 y] 30)).drewN nq).cell? ⟨wr.heap.size, 0, none⟩ = some (.int .i64 x) := k0
            replace k1 : ((wr.alloc (.cells #[.int .i64 x, .int .i64 y] 30)).drewN nq).cell? ⟨wr.heap.size, 1, none⟩ = some (.int .i64 y) := k1
            replace k2 : ((wr.alloc (.cells #[.int .i64 x, .int .i64 y] 30)).drewN nq).cell? ⟨g, o.length * 2 + 1, none⟩ = some (.int .i64 q) := k2
            replace k3 : ((wr.alloc (.cells #[.int .i64 x, .int .i64 y] 30)).drewN nq).frozen? ⟨g, o.length * 2 + 1, none⟩ = false := k3
            generalize (wr.alloc (.cells #[.int .i64 x, .int .i64 y] 30)).drewN nq = W at hbq hownQ k0 k1 k2 k3 ⊢
            clear hbg hownG hBW hzW c0 c1 hd1 hfz
            have hBW := below_on hb hbq (Nat.le_refl _)
            have hzW := hBW.size
            have hst := (hownQ.stored (o.length * 2 + 1) (.int .i64 z))
            rw [flat_set] at hst
            have hmx : max q y = z := by rw [hzz, Int.max_def]; split <;> split <;> omega
            clear hzz
            go_wp2_with fail
            go_region
            go_wp2_with fail
            go_roundw
            case rel =>
              try simp only [hmx]
              refine ⟨i + 1, o ++ [(⟨p, z⟩ : Sp)], by simp, by omega, by simp; omega, ?_, ?_, ?_⟩
              · show L = _
                rw [hLo.out, Hst.out]
              · have := hst.1
                rw [show (o ++ [(⟨p, z⟩ : Sp)]).length = o.length + 1 by simp]
                exact own_below this ⟨rfl, rfl, rfl, Nat.le_refl _, fun k hk => rfl⟩
              · exact below_drew (hBW.setCell (p := ⟨g, o.length * 2 + 1, none⟩) hg1 _)
            case measure => simp [intOf]; omega
          · rw [mstep_out o p q ⟨x, y⟩ hxq] at Hst
            go_wp2_with fail
            go_quiet (fail)
            have hbq : Below wr.heap.size wr ((wr.alloc (.cells #[.int .i64 x, .int .i64 y] 30)).drewN nq) := below_on hbg ⟨rfl, rfl, rfl, by simp [World.drewN], fun k hk => rfl⟩ (Nat.le_refl _)
            have hownQ := own_below hown hbq
            replace k0 : ((wr.alloc (.cells #[.int .i64 x, .int .i64 y] 30)).drewN nq).cell? ⟨wr.heap.size, 0, none⟩ = some (.int .i64 x) := k0
            replace k1 : ((wr.alloc (.cells #[.int .i64 x, .int .i64 y] 30)).drewN nq).cell? ⟨wr.heap.size, 1, none⟩ = some (.int .i64 y) := k1
            generalize (wr.alloc (.cells #[.int .i64 x, .int .i64 y] 30)).drewN nq = W at hbq hownQ k0 k1 ⊢
            clear hbg hownG hBW hzW c0 c1 hd1 hfz k2 k3
            have hBW := below_on hb hbq (Nat.le_refl _)
            have hzW := hBW.size
            go_wp2_with (at_builtin; refine wpl_append_one rfl (.tmp 48) (.tmp 50) 22 rfl w3.heap.size 30 infoSp Try.underlying22 rfl (by decide) _ (o.length + 1) ((o ++ [(⟨p, q⟩ : Sp)]).map spCells) rfl (hownQ.alloc _) _ 1 (spCells ⟨x, y⟩) rfl rfl (news_at _ rfl) (sp_one _) ?_ ?_ ?_ ?_; omega; (unfold maxLen; omega); (simp; omega); intro g4 c4 w4 hown4 hg4 hlie; have hc4 := (below_app (hBW.alloc hzW _) hg4 (hownQ.alloc _) (Nat.le_refl _) (by simp; omega)))
            go_roundw
            case rel =>
              refine ⟨i + 1, o ++ [(⟨p, q⟩ : Sp)] ++ [(⟨x, y⟩ : Sp)], by simp, by omega, by simp; omega, ?_, ?_, hc4⟩
              · show L = _
                rw [hLo.out, Hst.out]
              · rw [show (o ++ [(⟨p, q⟩ : Sp)] ++ [(⟨x, y⟩ : Sp)]).length = o.length + 1 + 1 by simp]
                simpa using hown4
            case measure => simp [intOf]; omega
      · have hi' : i = m.length := by omega
        subst hi'
        have he : L = out := by rw [hLo.out, List.drop_length]; rfl
        go_wp2_with fail
        go_ret
        exact ⟨⟨L, oa, oc, by first | rfl | (rw [he]; rfl), by rw [he]; exact Sps.of_own hown, HJ.out, by rw [he]; have := Hml.out; omega⟩, below_on hB3 hb (Nat.le_refl _)⟩
end Go.Proofs.Ytdiahfebiafodaa
