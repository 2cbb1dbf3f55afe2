/- Contracts of slices.Clone and of the reference's part, Cut, Same, Has, Within, for a seat that has no more of span's functions. No statement of the seat is proved here. -/
import Derived.Test.YtndifinjdheceaaSpLaw
import Derived.Lib.SliceRun
import Derived.Shelf.Abstract
import Derived.Laws.StructEq
namespace Go.Proofs.Ytndifinjdheceaa
set_option linter.unusedVariables false
set_option linter.unusedSimpArgs false
set_option linter.unusedSectionVars false
open Go Go.RowKit

theorem infoSp : (Try.prog.info? 50).map (fun i => (i.zero, i.size, i.bytes)) = some (some (.agg #[.int .i64 0, .int .i64 0]), 2, 16) := by kernel_rfl
theorem sp_one (s : Sp) : ∀ u ∈ spCells s, u.oneCell' = true := by
  intro u hu
  simp [spCells] at hu
  rcases hu with rfl | rfl <;> rfl
theorem sps_one (l : List Sp) : ∀ u ∈ (l.map spCells).flatten, u.oneCell' = true := by
  intro u hu
  obtain ⟨r, hr, hu⟩ := List.mem_flatten.1 hu
  obtain ⟨s, _, rfl⟩ := List.mem_map.1 hr
  exact sp_one s u hu
/-- the copy -/
theorem clone_any (ao : Option Addr) (cap : Nat) (l : List Sp) (w : World) (hl : l.length ≤ 1000000) (hs : Sps w ao cap l) :
    Calls Try.prog 25 #[.slice ao l.length cap] w fun e w' => (∃ ao' cap', e = .returned (.slice ao' l.length cap') ∧ Sps w' ao' cap' l) ∧ Below w.heap.size w w' := by
  have q22 : ∀ (w : World) (a : Option Addr) (n c n' c' : Nat), (binOp .eql 22 (.slice a n c) (.slice none n' c')).run Try.prog w = .ok (.bool a.isNone) w := fun w a n c n' c' => Lib.run_eql_slice_nil w _ _ a n c n' c' Try.underlying22
  cases ao with
  | none =>
    have hc := hs.none rfl
    have hle := hs.le
    have h0 : l = [] := List.eq_nil_of_length_eq_zero (by omega)
    subst h0
    subst hc
    go_enter Try.func25, Try.ntmps25
    go_wp2
    go_ret
    exact ⟨⟨none, 0, rfl, Sps.nil w⟩, Below.refl _ _⟩
  | some ad =>
    go_enter Try.func25, Try.ntmps25
    go_wp2_with (at_builtin; refine wpl_append rfl (.tmp 5) (.tmp 6) 22 rfl w.heap.size 50 infoSp Try.underlying22 rfl (by decide) _ 0 [] rfl (own_empty w w.heap.size _ 2 (Nat.le_refl _)) _ _ _ _ rfl (hs.below (below_new _ _)) (sps_one l) ?_ ?_ ?_ ?_; (unfold maxLen; omega); omega; exact (below_new _ _).size; intro ao' cap' w' hown' hg')
    go_ret
    refine ⟨⟨ao', cap', by simp, ?_⟩, below_app (below_new _ _) hg' (own_empty w w.heap.size _ 2 (Nat.le_refl _)) (Nat.le_refl _) (below_new _ _).size⟩
    rw [Nat.zero_add] at hown'
    exact Sps.of_own hown'
theorem below_drew {B : Nat} {w w' : World} (h : Below B w w') : Below B w w'.drew := ⟨h.os, h.tape, h.output, h.size, h.block⟩
theorem part_any (s : Sp) (f t : Int) (w : World) : Calls Try.prog 50 #[spVal s, .int .i64 f, .int .i64 t] w fun e w' => e = .returned (.tuple #[spVal (s.part f t), .bool (s.part f t).full]) ∧ Below w.heap.size w w' := by
  obtain ⟨a, b⟩ := s
  unfold spVal
  by_cases h1 : a < f
  · by_cases h2 : t < b
    · have hp : Sp.part ⟨a, b⟩ f t = ⟨f, t⟩ := by unfold Sp.part; simp only [if_pos h1, if_pos h2]
      rw [hp]
      go_enter Try.func50, Try.ntmps50
      go_wp2
      go_region
      go_wp2
      refine bodyPost_ret (v := .tuple #[.agg #[.int .i64 f, .int .i64 t], .bool (decide (f < t))]) (by simp [results, Try.results50, go_sem]) rfl ?_
      exact ⟨rfl, below_drew ((below_new _ _).alloc (by simp) _)⟩
    · have hp : Sp.part ⟨a, b⟩ f t = ⟨f, b⟩ := by unfold Sp.part; simp only [if_pos h1, if_neg h2]
      rw [hp]
      go_enter Try.func50, Try.ntmps50
      go_wp2
      go_region
      go_wp2
      refine bodyPost_ret (v := .tuple #[.agg #[.int .i64 f, .int .i64 b], .bool (decide (f < b))]) (by simp [results, Try.results50, go_sem]) rfl ?_
      exact ⟨rfl, below_drew ((below_new _ _).alloc (by simp) _)⟩
  · by_cases h2 : t < b
    · have hp : Sp.part ⟨a, b⟩ f t = ⟨a, t⟩ := by unfold Sp.part; simp only [if_neg h1, if_pos h2]
      rw [hp]
      go_enter Try.func50, Try.ntmps50
      go_wp2
      go_region
      go_wp2
      refine bodyPost_ret (v := .tuple #[.agg #[.int .i64 a, .int .i64 t], .bool (decide (a < t))]) (by simp [results, Try.results50, go_sem]) rfl ?_
      exact ⟨rfl, below_drew ((below_new _ _).alloc (by simp) _)⟩
    · have hp : Sp.part ⟨a, b⟩ f t = ⟨a, b⟩ := by unfold Sp.part; simp only [if_neg h1, if_neg h2]
      rw [hp]
      go_enter Try.func50, Try.ntmps50
      go_wp2
      go_region
      go_wp2
      refine bodyPost_ret (v := .tuple #[.agg #[.int .i64 a, .int .i64 b], .bool (decide (a < b))]) (by simp [results, Try.results50, go_sem]) rfl ?_
      exact ⟨rfl, below_drew ((below_new _ _).alloc (by simp) _)⟩
/-- a literal's cells, one block behind -/
theorem news_at2 {w : World} {o : Obj} {cs : Array Value} {T : TypeId} (row : List Value) (h : cs.toList = row) : ∀ j u, row[j]? = some u → ((w.alloc o).alloc (.cells cs T)).cell? ((⟨w.heap.size + 1, 0, .none⟩ : Addr).add j) = some u := by
  have := news_at (w := w.alloc o) (cs := cs) (T := T) row h
  have e : (w.alloc o).heap.size = w.heap.size + 1 := by simp
  rw [e] at this
  exact this
/-- the list under way -/
theorem own_nil (w : World) (base e size : Nat) : w.ownsRow base e size (.slice none 0 0) 0 [] := by
  exact ⟨by simp, .inl ⟨rfl, rfl⟩⟩
set_option maxHeartbeats 1000000 in
theorem refCut_any (ao : Option Addr) (cap : Nat) (l : List Sp) (f t : Int) (w : World) (hs : Sps w ao cap l) :
    Calls Try.prog 44 #[.slice ao l.length cap, .int .i64 f, .int .i64 t] w fun e w' => (∃ ao' cap', e = .returned (.slice ao' (cutL l f t).length cap') ∧ Sps w' ao' cap' (cutL l f t)) ∧ Below w.heap.size w w' := by
  obtain ⟨L, hL⟩ : ∃ L, L = cutL l f t := ⟨_, rfl⟩
  rw [← hL]
  have HL := Lib.hid hL
  clear hL
  go_enter Try.func44, Try.ntmps44
  go_wp2_with fail
  refine (refRow_any ao cap l w hs).mono ?_
  rintro e w1 ⟨rfl, hb1⟩
  have hs1 := hs.below hb1
  by_cases h0 : rowErr l = 0
  · have hlen : l.length ≤ 32 := by
      apply Classical.byContradiction
      intro h
      unfold rowErr at h0
      rw [if_pos (by omega)] at h0
      cases h0
    have hL2 : L = parts l f t := by rw [HL.out]; unfold cutL; rw [if_pos h0]
    have HL2 := Lib.hid hL2
    clear HL hL2
    rw [h0]
    go_wp2_with fail
    go_loopw [7, 8] (fun v u wr => ∃ (i : Nat) (out : List Sp), u = .int .i64 i ∧ i ≤ l.length ∧ out.length ≤ i ∧ Hid (L = out ++ parts (l.drop i) f t) ∧ wr.ownsRow w.heap.size 50 2 v out.length (out.map spCells).flatten ∧ Below w.heap.size w wr)
      (fun v u _ => l.length - (intOf u).toNat)
    case atStart => exact ⟨0, [], rfl, Nat.zero_le _, Nat.le_refl _, (by show L = [] ++ parts (l.drop 0) f t; rw [HL2.out]; rfl), own_nil _ _ _ _, hb1⟩
    case round =>
      obtain ⟨i, out, rfl, hi, ho, hLo, hown, hb⟩ := hrel
      obtain ⟨oa, oc, rfl⟩ := own_slice hown
      by_cases hlt : i < l.length
      · have hs2 := hs.below hb
        obtain ⟨b, off, rfl, c0, c1⟩ := hs2.get i hlt
        have hcat : parts (l.drop i) f t = (if (l[i].part f t).full then [l[i].part f t] else []) ++ parts (l.drop (i + 1)) f t := by
          rw [List.drop_eq_getElem_cons hlt]
          unfold parts
          simp only [List.map_cons, List.filter_cons]
          split <;> simp
        have Hcat := Lib.hid hcat
        clear hcat
        obtain ⟨s, hsd⟩ : ∃ s, s = l[i] := ⟨_, rfl⟩
        rw [← hsd] at c0 c1 Hcat
        have hcm := part_any s f t
        obtain ⟨p, hp⟩ : ∃ p, p = s.part f t := ⟨_, rfl⟩
        rw [← hp] at hcm Hcat
        clear hp hsd
        obtain ⟨x, y⟩ := s
        obtain ⟨px, py⟩ := p
        obtain ⟨fu, hfu⟩ : ∃ fu, fu = Sp.full ⟨px, py⟩ := ⟨_, rfl⟩
        rw [← hfu] at hcm Hcat
        unfold spVal at hcm
        simp only at c0 c1 hcm
        go_wp2_with fail
        refine (hcm _).mono ?_
        rintro e w2 ⟨rfl, hb2⟩
        have hbX : Below wr.heap.size wr w2 := hb2
        have hown2 := own_below hown hbX
        have hB := below_on hb hbX (Nat.le_refl _)
        cases fu with
        | true =>
          clear hfu
          have hz2 := hB.size
          go_wp2_with (at_builtin; refine wpl_append_one rfl (.tmp 31) (.tmp 33) 22 rfl w.heap.size 50 infoSp Try.underlying22 rfl (by decide) _ out.length (out.map spCells) rfl ((hown2.alloc _).alloc _) _ 1 (spCells ⟨px, py⟩) rfl rfl (news_at2 _ rfl) (sp_one _) ?_ ?_ ?_ ?_; omega; (unfold maxLen; omega); (simp; omega); intro g c3 w3 hown3 hg3 hlie)
          go_roundw
          case rel =>
            refine ⟨i + 1, out ++ [⟨px, py⟩], by simp, by omega, by simp; omega, ?_, by simpa using hown3, ?_⟩
            · show L = _
              rw [hLo.out, Hcat.out]; simp
            · exact below_app ((hB.alloc hB.size _).alloc (by simp; omega) _) hg3 ((hown2.alloc _).alloc _) (Nat.le_refl _) (by simp; omega)
          case measure => simp [intOf]; omega
        | false =>
          clear hfu
          go_wp2_with fail
          go_roundw
          case rel =>
            refine ⟨i + 1, out, by simp, by omega, by omega, ?_, hown2.alloc _, hB.alloc hB.size _⟩
            show L = _
            rw [hLo.out, Hcat.out]; simp
          case measure => simp [intOf]; omega
      · have hi' : i = l.length := by omega
        subst hi'
        have he : L = out := by rw [hLo.out, List.drop_length]; simp [parts]
        go_wp2_with fail
        go_ret
        exact ⟨⟨oa, oc, by rw [he]; rfl, by rw [he]; exact Sps.of_own hown⟩, hb⟩
  · have he : L = [] := by rw [HL.out]; unfold cutL; rw [if_neg h0]
    have h1 : ((rowErr l : Nat) : Int) ≠ 0 := by omega
    go_wp2_with fail
    go_ret
    exact ⟨⟨none, 0, by rw [he]; rfl, by rw [he]; exact Sps.nil _⟩, hb1⟩
theorem heap_new2 (w : World) (o : Obj) : (w.alloc o).heap[w.heap.size]? = some o := by
  unfold World.alloc
  simp
/-- a block of two cells that is written -/
theorem two_set {w : World} {b : Nat} {u0 u1 : Value} {T : TypeId} (h : w.heap[b]? = some (.cells #[u0, u1] T (0, 0))) (x y : Value) :
    ((w.setCell ⟨b, 0, .none⟩ x).setCell ⟨b, 1, .none⟩ y).heap[b]? = some (.cells #[x, y] T (0, 0)) := by
  have h1 := block_set h 0 x
  have h2 := block_set h1 1 y
  rw [h2]; rfl
theorem eqin_sp (x y x2 y2 : Int) (w : World) : (Op.equalIn 10000 50 (.agg #[.int .i64 x, .int .i64 y]) (.agg #[.int .i64 x2, .int .i64 y2])).run Try.prog w = .ok (decide (x = x2) && decide (y = y2)) w := by
  rw [run_equalIn_agg _ _ _ _ _ (by kernel_rfl) (by kernel_rfl)]
  by_cases h1 : x = x2
  · by_cases h2 : y = y2
    · simp [Program.fieldsOf, Try.underlying50, Op.eqFields, go_sem, h1, h2]
    · simp [Program.fieldsOf, Try.underlying50, Op.eqFields, go_sem, h1, h2]
  · simp [Program.fieldsOf, Try.underlying50, Op.eqFields, go_sem, h1]
theorem neq_sp (x y x2 y2 : Int) (w : World) : (binOp .neq 50 (.agg #[.int .i64 x, .int .i64 y]) (.agg #[.int .i64 x2, .int .i64 y2])).run Try.prog w = .ok (.bool (!(decide (x = x2) && decide (y = y2)))) w := by
  rw [run_neq_struct, eqin_sp]; rfl
theorem eql_sp (x y x2 y2 : Int) (w : World) : (binOp .eql 50 (.agg #[.int .i64 x, .int .i64 y]) (.agg #[.int .i64 x2, .int .i64 y2])).run Try.prog w = .ok (.bool (decide (x = x2) && decide (y = y2))) w := by
  rw [run_eql_struct, eqin_sp]; rfl
theorem guard_sp (op : BinOp) (p q : Operand) (xs ys : Array Value) (w : World) : (eqGuard op 50 p q (.agg xs) (.agg ys)).run Try.prog w = .ok () w := run_eqGuard_agg w op _ p q xs ys (by kernel_rfl)
set_option maxHeartbeats 1000000 in
theorem same_any (ao ao2 : Option Addr) (cap cap2 : Nat) (l l2 : List Sp) (w : World) (hs : Sps w ao cap l) (hs2 : Sps w ao2 cap2 l2) :
    Calls Try.prog 21 #[.slice ao l.length cap, .slice ao2 l2.length cap2] w fun e w' => e = .returned (.bool (decide (l = l2))) ∧ Below w.heap.size w w' := by
  obtain ⟨c, hc⟩ : ∃ c, c = decide (l = l2) := ⟨_, rfl⟩
  rw [← hc]
  have Hc := Lib.hid hc
  clear hc
  have hm := hs.max
  have hle := hs.le
  unfold maxLen at hm
  by_cases hll : l.length = l2.length
  · go_enter Try.func21, Try.ntmps21
    go_wp2_with fail
    go_loopw [5] (fun v wr => ∃ i : Nat, v = .int .i64 i ∧ i ≤ l.length ∧ Hid (c = decide (l.drop i = l2.drop i)) ∧ Below w.heap.size w wr) (fun v _ => l.length - (intOf v).toNat)
    case atStart => exact ⟨0, rfl, Nat.zero_le _, Hc, Below.refl _ _⟩
    case round =>
      obtain ⟨i, rfl, hi, hri, hb⟩ := hrel
      by_cases hlt : i < l.length
      · have hlt2 : i < l2.length := by omega
        obtain ⟨b, off, rfl, c0, c1⟩ := (hs.below hb).get i hlt
        obtain ⟨b2, off2, rfl, d0, d1⟩ := (hs2.below hb).get i hlt2
        have hst : decide (l.drop i = l2.drop i) = (decide (l[i].a = l2[i].a) && decide (l[i].b = l2[i].b) && decide (l.drop (i + 1) = l2.drop (i + 1))) := by
          rw [List.drop_eq_getElem_cons hlt, List.drop_eq_getElem_cons hlt2]
          generalize l[i] = s1
          generalize l2[i] = s2
          obtain ⟨x, y⟩ := s1
          obtain ⟨x2, y2⟩ := s2
          simp [Bool.and_assoc]
        have Hst := Lib.hid hst
        clear hst
        obtain ⟨s, hsd⟩ : ∃ s, s = l[i] := ⟨_, rfl⟩
        obtain ⟨s2, hsd2⟩ : ∃ s, s = l2[i] := ⟨_, rfl⟩
        rw [← hsd] at c0 c1 Hst
        rw [← hsd2] at d0 d1 Hst
        clear hsd hsd2
        obtain ⟨x, y⟩ := s
        obtain ⟨x2, y2⟩ := s2
        simp only at c0 c1 d0 d1 Hst
        have nse := neq_sp
        have ng := guard_sp
        go_wp2_with fail
        go_quiet (fail)
        obtain ⟨z, hz⟩ : ∃ z, z = (!decide (x = x2) || !decide (y = y2)) := ⟨_, rfl⟩
        rw [← hz]
        have hz2 : (decide (x = x2) && decide (y = y2)) = !z := by rw [hz]; cases decide (x = x2) <;> cases decide (y = y2) <;> rfl
        have Hc2 : Hid (c = ((!z) && decide (l.drop (i + 1) = l2.drop (i + 1)))) := by show c = _; rw [hri.out, Hst.out, hz2]
        clear hz hz2 Hst hri nse ng
        have hbq : Below w.heap.size w (wr.drewN nq) := below_on hb ⟨rfl, rfl, rfl, by simp [World.drewN], fun k hk => rfl⟩ (Nat.le_refl _)
        cases z with
        | true =>
          go_wp2_with fail
          go_ret
          exact ⟨by rw [Hc2.out]; simp, hbq⟩
        | false =>
          go_wp2_with fail
          go_roundw
          case rel => exact ⟨i + 1, by simp, by omega, (by show c = _; rw [Hc2.out]; simp), hbq⟩
          case measure => simp [intOf]; omega
      · have hi' : i = l.length := by omega
        subst hi'
        go_wp2_with fail
        go_ret
        refine ⟨?_, hb⟩
        rw [hri.out, List.drop_length, hll, List.drop_length]; simp
  · go_enter Try.func21, Try.ntmps21
    have h2 : (l.length : Int) ≠ (l2.length : Int) := by omega
    have hne : l ≠ l2 := fun h => hll (by rw [h])
    go_wp2
    go_ret
    exact ⟨by rw [Hc.out]; simp [hne], Below.refl _ _⟩
set_option maxHeartbeats 1000000 in
theorem refHas_any (ao : Option Addr) (cap : Nat) (l : List Sp) (t : Int) (w : World) (h0 : rowErr l = 0) (hs : Sps w ao cap l) :
    Calls Try.prog 34 #[.slice ao l.length cap, .int .i64 t] w fun e w' => e = .returned (.bool (hasL l t)) ∧ Below w.heap.size w w' := by
  obtain ⟨c, hc⟩ : ∃ c, c = hasL l t := ⟨_, rfl⟩
  rw [← hc]
  have Hc := Lib.hid hc
  clear hc
  have hm := hs.max
  have hle := hs.le
  unfold maxLen at hm
  have hrow := refRow_any ao cap l w hs
  rw [h0] at hrow
  go_enter Try.func34, Try.ntmps34
  go_wp2_with fail
  refine hrow.mono ?_
  rintro e w1 ⟨rfl, hb1⟩
  go_wp2_with fail
  go_loopw [5] (fun v wr => ∃ i : Nat, v = .int .i64 i ∧ i ≤ l.length ∧ Hid (c = hasL (l.drop i) t) ∧ Below w.heap.size w wr) (fun v _ => l.length - (intOf v).toNat)
  case atStart => exact ⟨0, rfl, Nat.zero_le _, Hc, hb1⟩
  case round =>
    obtain ⟨i, rfl, hi, hri, hb⟩ := hrel
    by_cases hlt : i < l.length
    · obtain ⟨b, off, rfl, c0, c1⟩ := (hs.below hb).get i hlt
      have Hst := Lib.hid (has_at l t i hlt)
      obtain ⟨s, hsd⟩ : ∃ s, s = l[i] := ⟨_, rfl⟩
      rw [← hsd] at c0 c1 Hst
      clear hsd
      obtain ⟨x, y⟩ := s
      simp only at c0 c1 Hst
      by_cases h1 : x ≤ t
      · by_cases h2 : t < y
        · have e1 : decide (x ≤ t) = true := by simpa using h1
          have e2 : decide (t < y) = true := by simpa using h2
          rw [e1, e2] at Hst
          go_wp2
          go_ret
          exact ⟨by rw [hri.out, Hst.out]; simp, hb⟩
        · have e2 : decide (t < y) = false := by simpa using h2
          rw [e2] at Hst
          go_wp2
          go_roundw
          case rel => exact ⟨i + 1, by simp, by omega, (by show c = _; rw [hri.out, Hst.out]; simp), hb⟩
          case measure => simp [intOf]; omega
      · have e2 : decide (x ≤ t) = false := by simpa using h1
        rw [e2] at Hst
        go_wp2
        go_roundw
        case rel => exact ⟨i + 1, by simp, by omega, (by show c = _; rw [hri.out, Hst.out]; simp), hb⟩
        case measure => simp [intOf]; omega
    · have hi' : i = l.length := by omega
      subst hi'
      go_wp2_with fail
      go_ret
      exact ⟨by rw [hri.out, List.drop_length]; rfl, hb⟩
set_option maxHeartbeats 1000000 in
theorem refWithin_any (ao : Option Addr) (cap : Nat) (l : List Sp) (f t : Int) (w : World) (hl : l.length ≤ 1000000) (hs : Sps w ao cap l) :
    Calls Try.prog 33 #[.slice ao l.length cap, .int .i64 f, .int .i64 t] w fun e w' => e = .returned (.int .i64 (withinK (cutL l f t) 0)) ∧ Below w.heap.size w w' := by
  have hcl := cut_len l f t
  have hcut := refCut_any ao cap l f t w hs
  obtain ⟨m, hm⟩ : ∃ m, m = cutL l f t := ⟨_, rfl⟩
  rw [← hm] at hcl ⊢
  rw [← hm] at hcut
  clear hm
  obtain ⟨r, hr⟩ : ∃ r, r = withinK m 0 := ⟨_, rfl⟩
  rw [← hr]
  have Hr := Lib.hid hr
  clear hr
  go_enter Try.func33, Try.ntmps33
  go_wp2_with fail
  refine hcut.mono ?_
  rintro e w2 ⟨⟨ao2, cap2, rfl, hs2⟩, hb2⟩
  go_wp2_with fail
  go_loopw [8, 9] (fun v u wr => ∃ (i : Nat) (n : Int), v = .int .i64 n ∧ u = .int .i64 i ∧ i ≤ m.length ∧ Hid (r = withinK (m.drop i) n) ∧ Below w2.heap.size w2 wr) (fun v u _ => m.length - (intOf u).toNat)
  case atStart => exact ⟨0, 0, rfl, rfl, Nat.zero_le _, Hr, Below.refl _ _⟩
  case round =>
    obtain ⟨i, n, rfl, rfl, hi, hri, hb⟩ := hrel
    by_cases hlt : i < m.length
    · obtain ⟨b, off, rfl, c0, c1⟩ := (hs2.below hb).get i hlt
      have Hst := Lib.hid (withinK_at m i hlt n)
      obtain ⟨s, hsd⟩ : ∃ s, s = m[i] := ⟨_, rfl⟩
      rw [← hsd] at c0 c1 Hst
      clear hsd
      obtain ⟨x, y⟩ := s
      simp only at c0 c1 Hst
      have hB := below_on hb2 hb (Nat.le_refl _)
      go_wp2_with fail
      go_quiet (fail)
      have hbq : Below wr.heap.size wr (wr.drewN nq) := ⟨rfl, rfl, rfl, by simp [World.drewN], fun k hk => rfl⟩
      obtain ⟨q, hq⟩ : ∃ q, IntKind.i64.wrap (IntKind.i64.wrap (n + y) - x) = q := ⟨_, rfl⟩
      rw [hq] at Hst
      try simp only [hq]
      go_wp2_with fail
      go_roundw
      case rel => exact ⟨i + 1, q, by first | rfl | rw [hq] | (simp only [← hq, IntWalk.i64_left]), by simp, by omega, (by show r = _; rw [hri.out, Hst.out]), below_on hb hbq (Nat.le_refl _)⟩
      case measure => simp [intOf]; omega
    · have hi' : i = m.length := by omega
      subst hi'
      have hrn : r = n := by rw [hri.out, List.drop_length]; rfl
      go_wp2_with fail
      go_ret
      exact ⟨by rw [hrn]; rfl, below_on hb2 hb (Nat.le_refl _)⟩
theorem Sps.lit {w : World} (l : List Sp) (cs : Array Value) (T : TypeId) (hcs : cs.toList = (l.map spCells).flatten) (hm : l.length ≤ 1000) :
    Sps (w.alloc (.cells cs T)) (some ⟨w.heap.size, 0, .none⟩) l.length l := by
  refine ⟨?_, Nat.le_refl _, by unfold maxLen; omega, fun h => (by cases h), fun j u hu => ⟨w.heap.size, 0, rfl, ?_⟩⟩
  · clear hcs hm
    induction l with
    | nil => rfl
    | cons s l ih =>
      simp only [List.map_cons, List.flatten_cons, List.length_append, List.length_cons, ih, sp_len]; omega
  · rw [cell?_new, Nat.zero_add, ← Array.getElem?_toList, hcs]; exact hu
end Go.Proofs.Ytndifinjdheceaa
