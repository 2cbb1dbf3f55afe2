/- Contracts of almanac's Next, Closed and of the reference's Next, Has, Same. No statement of the seat is proved here. -/
import Derived.Test.YtdiahfebiafodaaAlm
import Derived.Shelf.Abstract
import Derived.Laws.StructEq
namespace Go.Proofs.Ytdiahfebiafodaa
set_option linter.unusedVariables false
set_option linter.unusedSimpArgs false
set_option linter.unusedSectionVars false
open Go Go.RowKit Go.Shelf

/-- ends it after t? -/
def aft (t : Int) (s : Sp) : Bool := decide (t < s.b)
def nextI (l : List Sp) (t : Int) : Nat := l.findIdx (aft t)
def nextR (l : List Sp) (t : Int) : Sp := l.getD (nextI l t) ⟨0, 0⟩
def nextF (l : List Sp) (t : Int) : Bool := decide (nextI l t < l.length)
def closedL (l : List Sp) (t : Int) : Bool := nextF l t && decide ((nextR l t).a ≤ t)
def hasL (l : List Sp) (t : Int) : Bool := l.any fun s => decide (s.a ≤ t) && decide (t < s.b)

theorem heap_new2 (w : World) (o : Obj) : (w.alloc o).heap[w.heap.size]? = some o := by
  unfold World.alloc
  simp
/-- a block of two cells that is written -/
theorem two_set {w : World} {b : Nat} {u0 u1 : Value} {T : TypeId} (h : w.heap[b]? = some (.cells #[u0, u1] T (0, 0))) (x y : Value) :
    ((w.setCell ⟨b, 0, .none⟩ x).setCell ⟨b, 1, .none⟩ y).heap[b]? = some (.cells #[x, y] T (0, 0)) := by
  have h1 := block_set h 0 x
  have h2 := block_set h1 1 y
  rw [h2]; rfl
theorem next1_any (t : Int) (B : Nat) (s : Sp) (W : World) (hc : W.cell? ⟨B, 0, .none⟩ = some (.int .i64 t)) :
    Calls Try.prog 46 #[spVal s, .pointer (some ⟨B, 0, .none⟩)] W fun e W' => e = .returned (.bool (aft t s)) ∧ Below W.heap.size W W' := by
  obtain ⟨x, y⟩ := s
  unfold spVal
  have hB := cell?_lt hc
  have hne : B ≠ W.heap.size := fun h => by rw [h] at hB; exact Nat.lt_irrefl _ hB
  have ha : aft t ⟨x, y⟩ = decide (t < y) := rfl
  rw [ha]
  go_enter Try.func46, Try.ntmps46
  go_wp2
  go_ret
  exact ⟨by simp, below_new _ _⟩

set_option maxHeartbeats 1000000 in
theorem next_any (v : Value) (l : List Sp) (t : Int) (w : World) (hl : l.length ≤ 1000000) (h : Alm w v l) :
    Calls Try.prog 14 #[v, .int .i64 t] w fun e w' => e = .returned (.tuple #[spVal (nextR l t), .bool (nextF l t)]) ∧ Below w.heap.size w w' := by
  have eg : ∀ args w, (callFunc 46 args).run Try.prog w = .ok (.enter 46 args) w := enters_of Try.func46 (by kernel_rfl) rfl
  obtain ⟨R, hR⟩ : ∃ R, R = nextR l t := ⟨_, rfl⟩
  obtain ⟨F, hF⟩ : ∃ F, F = nextF l t := ⟨_, rfl⟩
  rw [← hR, ← hF]
  have HR := Lib.hid hR
  have HF := Lib.hid hF
  clear hR hF
  have hA1 := (h.below (below_new w (.cells #[.int .i64 t] 2)))
  have hA := hA1.below (below_new _ (.cells #[.int .i64 0, .int .i64 0] 30))
  obtain ⟨x, y⟩ := R
  unfold spVal
  simp only
  go_enter Try.func14, Try.ntmps14
  go_wp2_with fail
  refine (all_any v l _ hA).mono ?_
  rintro e w1 ⟨⟨ao, cap, rfl, hs⟩, rfl⟩
  go_wp2_with fail
  refine (index_any 46 w.heap.size (aft t) eg ao cap l _ hs ?_).mono ?_
  · intro W s hb
    refine next1_any t _ s W ?_
    rw [hb.cell (by simp; omega)]
    simp
  rintro e w2 ⟨rfl, hb2⟩
  have hs2 := hs.below hb2
  have hblk : w2.heap[w.heap.size + 1]? = some (.cells #[.int .i64 0, .int .i64 0] 30 (0, 0)) := by
    rw [hb2.block _ (by simp)]
    have e : (w.alloc (.cells #[.int .i64 t] 2)).heap.size = w.heap.size + 1 := by simp
    rw [← e]
    exact heap_new2 _ _
  have k0 := block_cell hblk 0
  have k1 := block_cell hblk 1
  have kf0 := block_free hblk 0
  have kf1 := block_free hblk 1
  simp at k0 k1
  have hB : Below w.heap.size w w2 := below_on (below_on (below_new _ _) (below_new _ _) (Nat.le_refl _)) hb2 (Nat.le_refl _)
  by_cases hlt : l.findIdx (aft t) < l.length
  · have hi : firstI l (aft t) = (l.findIdx (aft t) : Int) := by unfold firstI; rw [if_pos hlt]
    obtain ⟨b, off, rfl, c0, c1⟩ := hs2.get _ hlt
    have e : (⟨x, y⟩ : Sp) = l[l.findIdx (aft t)] := by rw [HR.out]; unfold nextR nextI; rw [List.getD_eq_getElem?_getD, List.getElem?_eq_getElem hlt]; rfl
    rw [← e] at c0 c1
    have hFt : F = true := by rw [HF.out]; unfold nextF nextI; simpa using hlt
    rw [hi]
    obtain ⟨i, hi2⟩ : ∃ i, i = l.findIdx (aft t) := ⟨_, rfl⟩
    rw [← hi2] at hlt c0 c1 ⊢
    simp only at c0 c1
    clear hi2 hi e HR HF
    go_wp2_with fail
    have g0 := block_cell (two_set hblk (.int .i64 x) (.int .i64 y)) 0
    have g1 := block_cell (two_set hblk (.int .i64 x) (.int .i64 y)) 1
    simp at g0 g1
    refine bodyPost_ret (v := .tuple #[.agg #[.int .i64 x, .int .i64 y], .bool true]) (by simp [results, Try.results14, go_sem, g0, g1]) rfl ?_
    exact ⟨by rw [hFt], below_grown (below_grown hB (grown_set _ _ _ _) (by omega) hB.size) (grown_set _ _ _ _) (by omega) (by simp; exact hB.size)⟩
  · have hi : firstI l (aft t) = -1 := by unfold firstI; rw [if_neg hlt]
    rw [hi]
    have hFf : F = false := by rw [HF.out]; unfold nextF nextI; simpa using hlt
    have e : (⟨x, y⟩ : Sp) = ⟨0, 0⟩ := by rw [HR.out]; unfold nextR nextI; rw [List.getD_eq_getElem?_getD, List.getElem?_eq_none (by omega)]; rfl
    simp only [Sp.mk.injEq] at e
    obtain ⟨rfl, rfl⟩ := e
    clear hi HR HF hlt
    go_wp2_with fail
    have g0 := block_cell (two_set hblk (.int .i64 0) (.int .i64 0)) 0
    have g1 := block_cell (two_set hblk (.int .i64 0) (.int .i64 0)) 1
    simp at g0 g1
    refine bodyPost_ret (v := .tuple #[.agg #[.int .i64 0, .int .i64 0], .bool false]) (by simp [results, Try.results14, go_sem, g0, g1]) rfl ?_
    exact ⟨by rw [hFf], below_grown (below_grown hB (grown_set _ _ _ _) (by omega) hB.size) (grown_set _ _ _ _) (by omega) (by simp; exact hB.size)⟩

theorem find_at (l : List Sp) (p : Sp → Bool) (i : Nat) (hi : i < l.length) : (l.drop i).findIdx p = if p l[i] then 0 else (l.drop (i + 1)).findIdx p + 1 := by
  rw [List.drop_eq_getElem_cons hi, List.findIdx_cons]
  cases p l[i] <;> rfl

set_option maxHeartbeats 1000000 in
theorem refNext_any (ao : Option Addr) (cap : Nat) (l : List Sp) (t : Int) (w : World) (hs : Sps w ao cap l) :
    Calls Try.prog 15 #[.slice ao l.length cap, .int .i64 t] w fun e w' => e = .returned (.tuple #[spVal (nextR l t), .bool (nextF l t)]) ∧ Below w.heap.size w w' := by
  obtain ⟨R, hR⟩ : ∃ R, R = nextR l t := ⟨_, rfl⟩
  obtain ⟨F, hF⟩ : ∃ F, F = nextF l t := ⟨_, rfl⟩
  rw [← hR, ← hF]
  have HR := Lib.hid hR
  have HF := Lib.hid hF
  clear hR hF
  obtain ⟨rx, ry⟩ := R
  unfold spVal
  simp only
  have hm := hs.max
  have hle := hs.le
  unfold maxLen at hm
  go_enter Try.func15, Try.ntmps15
  go_wp2_with fail
  go_loopw [6] (fun v wr => ∃ i : Nat, v = .int .i64 i ∧ i ≤ l.length ∧ Hid (nextI l t = i + (l.drop i).findIdx (aft t)) ∧ wr = w.alloc (.cells #[.int .i64 0, .int .i64 0] 30 (0, 0))) (fun v _ => l.length - (intOf v).toNat)
  case atStart => exact ⟨0, rfl, Nat.zero_le _, (by show nextI l t = 0 + (l.drop 0).findIdx (aft t); simp [nextI]), rfl⟩
  case round =>
    obtain ⟨i, rfl, hi, hri, rfl⟩ := hrel
    have hs2 := hs.below (below_new w (.cells #[.int .i64 0, .int .i64 0] 30 (0, 0)))
    by_cases hlt : i < l.length
    · obtain ⟨b, off, rfl, c0, c1⟩ := hs2.get i hlt
      have Hst := Lib.hid (find_at l (aft t) i hlt)
      obtain ⟨s, hsd⟩ : ∃ s, s = l[i] := ⟨_, rfl⟩
      rw [← hsd] at c0 c1 Hst
      have Hsd := Lib.hid hsd
      clear hsd
      obtain ⟨x, y⟩ := s
      simp only at c0 c1
      have hat : aft t ⟨x, y⟩ = decide (t < y) := rfl
      rw [hat] at Hst
      by_cases hty : t < y
      · have he : nextI l t = i := by rw [hri.out, Hst.out]; simp [hty]
        have hF1 : F = true := by rw [HF.out]; unfold nextF; rw [he]; simpa using hlt
        have hR1 : (⟨rx, ry⟩ : Sp) = ⟨x, y⟩ := by rw [HR.out]; unfold nextR; rw [he, List.getD_eq_getElem?_getD, List.getElem?_eq_getElem hlt, Hsd.out]; rfl
        simp only [Sp.mk.injEq] at hR1
        obtain ⟨rfl, rfl⟩ := hR1
        clear hat he
        go_wp2_with fail
        refine bodyPost_ret (v := .tuple #[.agg #[.int .i64 rx, .int .i64 ry], .bool true]) (by simp [results, Try.results15, go_sem]) rfl ?_
        exact ⟨by rw [hF1], below_new _ _⟩
      · have he : Hid (nextI l t = i + 1 + (l.drop (i + 1)).findIdx (aft t)) := by show nextI l t = _; rw [hri.out, Hst.out]; simp [hty]; omega
        clear hat
        go_wp2_with fail
        go_roundw
        case rel => exact ⟨i + 1, by simp, by omega, he, trivial⟩
        case measure => simp [intOf]; omega
    · have hi' : i = l.length := by omega
      subst hi'
      have he : nextI l t = l.length := by rw [hri.out]; simp
      have hF1 : F = false := by rw [HF.out]; unfold nextF; rw [he]; simp
      have hR1 : (⟨rx, ry⟩ : Sp) = ⟨0, 0⟩ := by rw [HR.out]; unfold nextR; rw [he, List.getD_eq_getElem?_getD, List.getElem?_eq_none (Nat.le_refl _)]; rfl
      simp only [Sp.mk.injEq] at hR1
      obtain ⟨rfl, rfl⟩ := hR1
      clear he
      go_wp2_with fail
      refine bodyPost_ret (v := .tuple #[.agg #[.int .i64 0, .int .i64 0], .bool false]) (by simp [results, Try.results15, go_sem]) rfl ?_
      exact ⟨by rw [hF1], below_new _ _⟩

theorem closed_any (v : Value) (l : List Sp) (t : Int) (w : World) (hl : l.length ≤ 1000000) (h : Alm w v l) :
    Calls Try.prog 16 #[v, .int .i64 t] w fun e w' => e = .returned (.bool (closedL l t)) ∧ Below w.heap.size w w' := by
  have hn := next_any v l t w hl h
  obtain ⟨c, hc⟩ : ∃ c, c = closedL l t := ⟨_, rfl⟩
  rw [← hc]
  unfold closedL at hc
  obtain ⟨R, hR⟩ : ∃ R, R = nextR l t := ⟨_, rfl⟩
  obtain ⟨F, hF⟩ : ∃ F, F = nextF l t := ⟨_, rfl⟩
  rw [← hR, ← hF] at hn hc
  clear hR hF
  obtain ⟨x, y⟩ := R
  simp only at hc
  unfold spVal at hn
  have Hc := Lib.hid hc
  clear hc
  go_enter Try.func16, Try.ntmps16
  go_wp2_with fail
  refine hn.mono ?_
  rintro e w2 ⟨rfl, hb2⟩
  cases F with
  | true =>
    go_wp2_with fail
    go_ret
    exact ⟨by rw [Hc.out]; simp, hb2.alloc hb2.size _⟩
  | false =>
    go_wp2_with fail
    go_ret
    exact ⟨by rw [Hc.out]; simp, hb2.alloc hb2.size _⟩

theorem eqin_sp (x y x2 y2 : Int) (w : World) : (Op.equalIn 10000 30 (.agg #[.int .i64 x, .int .i64 y]) (.agg #[.int .i64 x2, .int .i64 y2])).run Try.prog w = .ok (decide (x = x2) && decide (y = y2)) w := by
  rw [run_equalIn_agg _ _ _ _ _ (by kernel_rfl) (by kernel_rfl)]
  by_cases h1 : x = x2
  · by_cases h2 : y = y2
    · simp [Program.fieldsOf, Try.underlying30, Op.eqFields, go_sem, h1, h2]
    · simp [Program.fieldsOf, Try.underlying30, Op.eqFields, go_sem, h1, h2]
  · simp [Program.fieldsOf, Try.underlying30, Op.eqFields, go_sem, h1]
theorem neq_sp (x y x2 y2 : Int) (w : World) : (binOp .neq 30 (.agg #[.int .i64 x, .int .i64 y]) (.agg #[.int .i64 x2, .int .i64 y2])).run Try.prog w = .ok (.bool (!(decide (x = x2) && decide (y = y2)))) w := by
  rw [run_neq_struct, eqin_sp]; rfl
theorem eql_sp (x y x2 y2 : Int) (w : World) : (binOp .eql 30 (.agg #[.int .i64 x, .int .i64 y]) (.agg #[.int .i64 x2, .int .i64 y2])).run Try.prog w = .ok (.bool (decide (x = x2) && decide (y = y2))) w := by
  rw [run_eql_struct, eqin_sp]; rfl
theorem guard_sp (op : BinOp) (p q : Operand) (xs ys : Array Value) (w : World) : (eqGuard op 30 p q (.agg xs) (.agg ys)).run Try.prog w = .ok () w := run_eqGuard_agg w op _ p q xs ys (by kernel_rfl)

set_option maxHeartbeats 1000000 in
theorem same_any (ao ao2 : Option Addr) (cap cap2 : Nat) (l l2 : List Sp) (w : World) (hs : Sps w ao cap l) (hs2 : Sps w ao2 cap2 l2) :
    Calls Try.prog 18 #[.slice ao l.length cap, .slice ao2 l2.length cap2] w fun e w' => e = .returned (.bool (decide (l = l2))) ∧ Below w.heap.size w w' := by
  obtain ⟨c, hc⟩ : ∃ c, c = decide (l = l2) := ⟨_, rfl⟩
  rw [← hc]
  have Hc := Lib.hid hc
  clear hc
  have hm := hs.max
  have hle := hs.le
  unfold maxLen at hm
  by_cases hll : l.length = l2.length
  · go_enter Try.func18, Try.ntmps18
    go_wp2_with fail
    go_loopw [5] (fun v wr => ∃ i : Nat, v = .int .i64 i ∧ i ≤ l.length ∧ Hid (c = decide (l.drop i = l2.drop i)) ∧ Below w.heap.size w wr) (fun v _ => l.length - (intOf v).toNat)
    case atStart => exact ⟨0, rfl, Nat.zero_le _, Hc, Below.refl _ _⟩
    case round =>
      obtain ⟨i, rfl, hi, hri, hb⟩ := hrel
      by_cases hlt : i < l.length
      · have hlt2 : i < l2.length := by omega
        obtain ⟨b, off, rfl, c0, c1⟩ := (hs.below hb).get i hlt
        obtain ⟨b2, off2, rfl, d0, d1⟩ := (hs2.below hb).get i hlt2
        have hst : decide (l.drop i = l2.drop i) = (decide (l[i].a = l2[i].a) && decide (l[i].b = l2[i].b) && decide (l.drop (i + 1) = l2.drop (i + 1))) := by
          rw [List.drop_eq_getElem_cons hlt, List.drop_eq_getElem_cons hlt2]
          generalize l[i] = s1
          generalize l2[i] = s2
          obtain ⟨x, y⟩ := s1
          obtain ⟨x2, y2⟩ := s2
          simp [Bool.and_assoc]
        have Hst := Lib.hid hst
        clear hst
        obtain ⟨s, hsd⟩ : ∃ s, s = l[i] := ⟨_, rfl⟩
        obtain ⟨s2, hsd2⟩ : ∃ s, s = l2[i] := ⟨_, rfl⟩
        rw [← hsd] at c0 c1 Hst
        rw [← hsd2] at d0 d1 Hst
        clear hsd hsd2
        obtain ⟨x, y⟩ := s
        obtain ⟨x2, y2⟩ := s2
        simp only at c0 c1 d0 d1 Hst
        have nse := neq_sp
        have ng := guard_sp
        go_wp2_with fail
        go_quiet (fail)
        obtain ⟨z, hz⟩ : ∃ z, z = (!decide (x = x2) || !decide (y = y2)) := ⟨_, rfl⟩
        rw [← hz]
        have hz2 : (decide (x = x2) && decide (y = y2)) = !z := by rw [hz]; cases decide (x = x2) <;> cases decide (y = y2) <;> rfl
        have Hc2 : Hid (c = ((!z) && decide (l.drop (i + 1) = l2.drop (i + 1)))) := by show c = _; rw [hri.out, Hst.out, hz2]
        clear hz hz2 Hst hri nse ng
        have hbq : Below w.heap.size w (wr.drewN nq) := below_on hb ⟨rfl, rfl, rfl, by simp [World.drewN], fun k hk => rfl⟩ (Nat.le_refl _)
        cases z with
        | true =>
          go_wp2_with fail
          go_ret
          exact ⟨by rw [Hc2.out]; simp, hbq⟩
        | false =>
          go_wp2_with fail
          go_roundw
          case rel => exact ⟨i + 1, by simp, by omega, (by show c = _; rw [Hc2.out]; simp), hbq⟩
          case measure => simp [intOf]; omega
      · have hi' : i = l.length := by omega
        subst hi'
        go_wp2_with fail
        go_ret
        refine ⟨?_, hb⟩
        rw [hri.out, List.drop_length, hll, List.drop_length]; simp
  · go_enter Try.func18, Try.ntmps18
    have h2 : (l.length : Int) ≠ (l2.length : Int) := by omega
    have hne : l ≠ l2 := fun h => hll (by rw [h])
    go_wp2
    go_ret
    exact ⟨by rw [Hc.out]; simp [hne], Below.refl _ _⟩

theorem has_at (l : List Sp) (t : Int) (i : Nat) (hi : i < l.length) : hasL (l.drop i) t = ((decide (l[i].a ≤ t) && decide (t < l[i].b)) || hasL (l.drop (i + 1)) t) := by
  rw [List.drop_eq_getElem_cons hi]; rfl

set_option maxHeartbeats 1000000 in
theorem refHas_any (ao : Option Addr) (cap : Nat) (l : List Sp) (t : Int) (w : World) (h0 : rowErr l = 0) (hs : Sps w ao cap l) :
    Calls Try.prog 17 #[.slice ao l.length cap, .int .i64 t] w fun e w' => e = .returned (.bool (hasL l t)) ∧ Below w.heap.size w w' := by
  obtain ⟨c, hc⟩ : ∃ c, c = hasL l t := ⟨_, rfl⟩
  rw [← hc]
  have Hc := Lib.hid hc
  clear hc
  have hm := hs.max
  have hle := hs.le
  unfold maxLen at hm
  have hrow := refRow_any ao cap l w hs
  rw [h0] at hrow
  go_enter Try.func17, Try.ntmps17
  go_wp2_with fail
  refine hrow.mono ?_
  rintro e w1 ⟨rfl, hb1⟩
  go_wp2_with fail
  go_loopw [5] (fun v wr => ∃ i : Nat, v = .int .i64 i ∧ i ≤ l.length ∧ Hid (c = hasL (l.drop i) t) ∧ Below w.heap.size w wr) (fun v _ => l.length - (intOf v).toNat)
  case atStart => exact ⟨0, rfl, Nat.zero_le _, Hc, hb1⟩
  case round =>
    obtain ⟨i, rfl, hi, hri, hb⟩ := hrel
    by_cases hlt : i < l.length
    · obtain ⟨b, off, rfl, c0, c1⟩ := (hs.below hb).get i hlt
      have Hst := Lib.hid (has_at l t i hlt)
      obtain ⟨s, hsd⟩ : ∃ s, s = l[i] := ⟨_, rfl⟩
      rw [← hsd] at c0 c1 Hst
      clear hsd
      obtain ⟨x, y⟩ := s
      simp only at c0 c1 Hst
      by_cases h1 : x ≤ t
      · by_cases h2 : t < y
        · have e1 : decide (x ≤ t) = true := by simpa using h1
          have e2 : decide (t < y) = true := by simpa using h2
          rw [e1, e2] at Hst
          go_wp2
          go_ret
          exact ⟨by rw [hri.out, Hst.out]; simp, hb⟩
        · have e2 : decide (t < y) = false := by simpa using h2
          rw [e2] at Hst
          go_wp2
          go_roundw
          case rel => exact ⟨i + 1, by simp, by omega, (by show c = _; rw [hri.out, Hst.out]; simp), hb⟩
          case measure => simp [intOf]; omega
      · have e2 : decide (x ≤ t) = false := by simpa using h1
        rw [e2] at Hst
        go_wp2
        go_roundw
        case rel => exact ⟨i + 1, by simp, by omega, (by show c = _; rw [hri.out, Hst.out]; simp), hb⟩
        case measure => simp [intOf]; omega
    · have hi' : i = l.length := by omega
      subst hi'
      go_wp2_with fail
      go_ret
      exact ⟨by rw [hri.out, List.drop_length]; rfl, hb⟩

/-- of a row, what a search for the next span finds is what a search for any tells -/
theorem closed_has (l : List Sp) (t : Int) : ∀ e, chain e l = true → closedL l t = hasL l t := by
  induction l with
  | nil => intro e _; rfl
  | cons s l ih =>
    intro e h
    unfold chain at h
    simp only [Bool.and_eq_true, decide_eq_true_eq] at h
    obtain ⟨⟨h1, h2⟩, h3⟩ := h
    by_cases hb : t < s.b
    · have ha : aft t s = true := by unfold aft; simpa using hb
      have e1 : nextI (s :: l) t = 0 := by unfold nextI; rw [List.findIdx_cons, ha]; rfl
      have e2 : closedL (s :: l) t = decide (s.a ≤ t) := by
        unfold closedL nextF nextR; rw [e1]; simp
      have e3 : hasL (s :: l) t = (decide (s.a ≤ t) || hasL l t) := by
        unfold hasL; rw [List.any_cons]; simp [hb]
      rw [e2, e3]
      by_cases hst : s.a ≤ t
      · simp [hst]
      · have : hasL l t = false := by
          have key : ∀ (l : List Sp) (e : Int), chain e l = true → t < e → hasL l t = false := by
            intro l
            induction l with
            | nil => intro e _ _; rfl
            | cons s l ih =>
              intro e h he
              unfold chain at h
              simp only [Bool.and_eq_true, decide_eq_true_eq] at h
              obtain ⟨⟨h1, h2⟩, h3⟩ := h
              unfold Sp.right at h1
              simp only [Bool.and_eq_true, decide_eq_true_eq] at h1
              have hx := ih s.b h3 (by omega)
              unfold hasL at hx ⊢
              rw [List.any_cons, hx]
              have : ¬ s.a ≤ t := by omega
              simp [this]
          exact key l s.b h3 hb
        rw [this]; simp [hst]
    · have ha : aft t s = false := by unfold aft; simpa using hb
      have e1 : nextI (s :: l) t = nextI l t + 1 := by unfold nextI; rw [List.findIdx_cons, ha]; rfl
      have e2 : closedL (s :: l) t = closedL l t := by
        unfold closedL nextF nextR; rw [e1]; simp
      have e3 : hasL (s :: l) t = hasL l t := by
        unfold hasL; rw [List.any_cons]; simp [hb]
      rw [e2, e3]
      exact ih s.b h3
end Go.Proofs.Ytdiahfebiafodaa
