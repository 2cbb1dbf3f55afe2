/- The walk of the law LazyRows. -/
import Derived.Test.YtljlgphieefdmaaLazyR
import Derived.Test.YtljlgphieefdmaaLazyW
import Derived.Laws.OwnMore
namespace Go.Proofs.Ytljlgphieefdmaa
set_option linter.unusedVariables false
set_option linter.unusedSimpArgs false
set_option linter.unusedSectionVars false
open Go Go.RowKit Go.Shelf Go.Maps
attribute [local go_sem ↓] Go.wp_at_zero Go.wp_at_succ

theorem intLaw : Keyed Try.prog 3 := int_keyed Try.underlying3
theorem infoInt : (Try.prog.info? 3).map (fun i => (i.zero, i.size, i.bytes)) = some (some (.int .i64 0), 1, 8) := by kernel_rfl
abbrev Mp (w : World) (b n : Nat) (D : DataW Unit) : Prop := w.ownsMap Try.prog 3 (plainElem Try.prog 4) b n D
def SetIs (D : DataW Unit) (S : Nat → Bool) (n : Nat) (m : Int) : Prop := Maps.Tidy D ∧ (∀ i : Int, Maps.has D (.int .i64 i) = true ↔ ∃ j : Nat, j < n ∧ i = j ∧ S j = true) ∧ (Maps.size D : Int) = m
theorem setIs_nil (n : Nat) : SetIs (.map []) (fun _ => false) n 0 := ⟨tidy_empty, fun i => by simp [has_eq], rfl⟩
theorem ikey_ne {a b : Int} (h : a ≠ b) : (Lit.int .i64 a) ≠ Lit.int .i64 b := fun e => by cases e; exact h rfl
theorem SetIs.new {D : DataW Unit} {S : Nat → Bool} {n : Nat} {m : Int} (h : SetIs D S n m) {i : Nat} (hi : i < n) (hS : S i = false) : SetIs (D.put (.int .i64 i) (.lit (.bool true))) (fun j => if j = i then true else S j) n (m + 1) := by
  obtain ⟨h1, h2, h3⟩ := h
  have hk : WideAt.IsKeyLit (.int .i64 i) := by trivial
  have hno : Maps.has D (.int .i64 i) = false := by
    cases hh : Maps.has D (.int .i64 i) with
    | false => rfl
    | true =>
      obtain ⟨j, _, e, hj⟩ := (h2 i).1 hh
      have : j = i := by omega
      subst this; rw [hS] at hj; cases hj
  refine ⟨h1.put hk _, fun k => ?_, ?_⟩
  · by_cases e : k = i
    · subst e
      rw [has_put_same h1.isMap hk]
      exact ⟨fun _ => ⟨i, hi, rfl, by simp⟩, fun _ => rfl⟩
    · rw [has_put_other (ikey_ne e), h2 k]
      constructor
      · rintro ⟨j, a, b, c⟩; exact ⟨j, a, b, by simp [c]⟩
      · rintro ⟨j, a, b, c⟩
        have : ¬ j = i := fun e' => e (by rw [b, e'])
        exact ⟨j, a, b, by simpa [this] using c⟩
  · rw [size_put h1, hno]; simp; omega
theorem SetIs.old {D : DataW Unit} {S : Nat → Bool} {n : Nat} {m : Int} (h : SetIs D S n m) {i : Nat} (hi : i < n) (hS : S i = true) : SetIs (D.put (.int .i64 i) (.lit (.bool true))) S n m := by
  obtain ⟨h1, h2, h3⟩ := h
  have hk : WideAt.IsKeyLit (.int .i64 i) := by trivial
  have hyes : Maps.has D (.int .i64 i) = true := (h2 i).2 ⟨i, hi, rfl, hS⟩
  refine ⟨h1.put hk _, fun k => ?_, ?_⟩
  · by_cases e : k = i
    · subst e
      rw [has_put_same h1.isMap hk]
      exact ⟨fun _ => ⟨i, hi, rfl, hS⟩, fun _ => rfl⟩
    · rw [has_put_other (ikey_ne e), h2 k]
  · rw [size_put h1, hyes]; simpa using h3
/-- a map's block is written -/
theorem RS.mapped {w : World} {q : Bl} {lo : Option Addr} {lc : Nat} {l : List Int} {L : List (Nat × Nat)} {x : Option Nat} {S : Nat → Bool} {m most : Int} {W W' : World} {mb n : Nat} {D : DataW Unit} (h : RS w q lo lc l L x S m most W) (hm : Mp W mb n D) (hg : W.grownBy W' (some mb)) (hb : w.heap.size ≤ mb) : RS w q lo lc l L x S m most W' := by
  have hel : ∀ E, elem? W mb ≠ some E := by
    obtain ⟨es, clock, hb, _⟩ := hm
    intro E; unfold elem?; rw [hb]; simp
  exact h.other (e := 1000000) (fun b T cs _ hb' => blk_kept hb' hg fun g e => by cases e; exact hel T) (below_grown h.B hg hb h.B.size) (own_of (T := 0) hg (hel _)) (by decide) (by decide) (by decide) (by decide) (by decide) (by decide) (by decide)
theorem Mp.cells {w w' : World} {b n g : Nat} {D : DataW Unit} (h : Mp w b n D) {cs : Array Value} {T : TypeId} (hb : w.heap[g]? = some (.cells cs T (0, 0))) (hg : w.grownBy w' (some g)) : Mp w' b n D := by
  refine World.ownsMap.kept h hg ?_
  intro e
  cases e
  obtain ⟨es, clock, hm, _⟩ := h
  rw [hb] at hm; cases hm
/-- len of the map -/
theorem wpo_mlen {w : World} {o : Oper} {a : Act} {K : Act → World → Prop} {Q : Exit → Act → World → Prop} (m : Operand) (hop : o.op = Op.call { callee := Callee.builtin Builtin.len, args := #[m], argTypes := #[57] })
    (b n : Nat) (D : DataW Unit) (z : Int) (hz : (Maps.size D : Int) = z) (hm : a.eval m = .map (some b)) (hown : Mp w b n D) (hK : K (a.put o.dst (.int .i64 z)) w) : Oper.wp Try.prog o a w K Q := by
  unfold Oper.wp
  simp [execOp, hop, resolve, invoke, builtin, hm, World.ownsMap.len hown Try.underlying57 o.type, Result.andThen]
  rw [hz]
  exact hK
theorem wpl_mlen {w : World} {ops : Array Oper} {rest : List Oper} {o : Oper} {a : Act} {Q : Exit → Act → World → Prop} (hw : Region.wanted o (yielded ops a.tmps) = true) (m : Operand) (hop : o.op = Op.call { callee := Callee.builtin Builtin.len, args := #[m], argTypes := #[57] })
    (b n : Nat) (D : DataW Unit) (z : Int) (hz : (Maps.size D : Int) = z) (hm : a.eval m = .map (some b)) (hown : Mp w b n D) (hK : wpList Try.prog ops Q rest (a.put o.dst (.int .i64 z)) w) : wpList Try.prog ops Q (o :: rest) a w :=
  wpl_of hw fun K hK' => wpo_mlen m hop b n D z hz hm hown (hK' _ _ hK)
theorem step_mlen {w : World} {ops : Array Oper} {o : Oper} {a : Act} {K : Act → World → Prop} {Q : Exit → Act → World → Prop} {E : Prop} (hw : Region.wanted o (yielded ops a.tmps) = true) (m : Operand) (hop : o.op = Op.call { callee := Callee.builtin Builtin.len, args := #[m], argTypes := #[57] })
    (b n : Nat) (D : DataW Unit) (z : Int) (hz : (Maps.size D : Int) = z) (hm : a.eval m = .map (some b)) (hown : Mp w b n D) (hK : K (a.put o.dst (.int .i64 z)) w) : if Region.wanted o (yielded ops a.tmps) = true then Oper.wp Try.prog o a w K Q else E := by
  rw [if_pos hw]; exact wpo_mlen m hop b n D z hz hm hown hK

set_option maxRecDepth 100000 in
set_option maxHeartbeats 4000000 in
theorem rows_far (lo : Option Addr) (lc : Nat) (l : List Int) (ao : Option Addr) (ac : Nat) (asks : List Int) (w : World) (h : 300 < l.length ∨ (l.length ≤ 300 ∧ 300 < asks.length)) :
    Calls Try.prog 6 #[.slice lo l.length lc, .slice ao asks.length ac] w fun e w' => e = .returned (.bool true) ∧ Below w.heap.size w w' := by
  rcases h with h | ⟨h, h'⟩
  all_goals
    go_enter Try.func6, Try.ntmps6
    go_wp2_with fail
    refine (lives_true _).mono ?_
    rintro e w1 ⟨rfl, hB⟩
    go_wp2_with fail
    go_ret
    exact ⟨rfl, below_on (below_new _ _) hB (by simp)⟩

set_option maxRecDepth 100000 in
set_option maxHeartbeats 8000000 in
theorem rows_near (lo : Option Addr) (lc : Nat) (l : List Int) (ao : Option Addr) (ac : Nat) (asks : List Int) (w : World) (hl : Sl w 1 lo l.length lc (l.map (Value.int .i64))) (ha : Sl w 1 ao asks.length ac (asks.map (Value.int .i64)))
    (hok : ∀ i ∈ asks, (Lit.int .i64 i).wf = true) (h : l.length ≤ 300) (h' : asks.length ≤ 300) :
    Calls Try.prog 6 #[.slice lo l.length lc, .slice ao asks.length ac] w fun e w' => e = .returned (.bool true) ∧ Below w.heap.size w w' := by
  have hmf : ∀ (fn : Fn) (first cap : Array Value) (w : World), (Instr.makeFunc fn first cap).run Try.prog w = .ok (.func fn first cap) w := fun _ _ _ _ => rfl
  have hmk := fun W => run_make_row' (P := Try.prog) 24 3 (.int .i64 0) 8 Try.underlying24 infoInt rfl .i64 .i64 l.length (by omega) (by omega) W
  have hmm := @run_makeMap Try.prog
  obtain ⟨W0, hW0⟩ : ∃ W0, W0 = ((w.alloc (.cells #[.slice lo l.length lc] 22)).alloc (.cells (madeCells #[.int .i64 0] l.length) 3)).alloc (.cells #[.slice (some ⟨w.heap.size + 1, 0, none⟩) l.length l.length] 24) := ⟨_, rfl⟩
  have hz0 : W0.heap.size = w.heap.size + 3 := by rw [hW0]; simp
  have hB0 : Below w.heap.size w W0 := by rw [hW0]; exact below_on (below_on (below_new _ _) (below_new _ _) (by simp)) (below_new _ _) (by simp)
  have b0 : W0.heap[w.heap.size]? = some (.cells #[.slice lo l.length lc] 22 (0, 0)) := by rw [hW0]; exact (heap_alloc_old _ _ (by simp; omega)).trans ((heap_alloc_old _ _ (by simp)).trans (heap_alloc_new _ _))
  have b1 : W0.heap[w.heap.size + 1]? = some (.cells (madeCells #[.int .i64 0] l.length) 3 (0, 0)) := by rw [hW0]; exact (heap_alloc_old _ _ (by simp)).trans (blk_at _ _ _ (by simp))
  have b2 : W0.heap[w.heap.size + 1 + 1]? = some (.cells #[.slice (some ⟨w.heap.size + 1, 0, none⟩) l.length l.length] 24 (0, 0)) := by rw [hW0]; exact blk_at _ _ _ (by simp)
  have Hz0 := Lib.hid hz0
  have B1 := Lib.hid b1
  clear hz0 b1
  go_enter Try.func6, Try.ntmps6
  go_wp2_with fail
  rw [← hW0]
  clear hW0
  refine (rows_fn l.length 20 #[.pointer (some ⟨w.heap.size, 0, none⟩), .pointer (some ⟨w.heap.size + 1 + 1, 0, none⟩)] W0 (by omega)).mono ?_
  rintro e w1 ⟨L, rfl, hL, hT, hC, hB1⟩
  have hRS : RS w ⟨w.heap.size, w.heap.size + 1 + 1, w.heap.size + 1, W0.heap.size + 1, W0.heap.size + 1 + 1, W0.heap.size, W0.heap.size⟩ lo lc l L none (fun _ => false) 0 0 w1 := by
    have hz := Hz0.out
    refine ⟨(hB1.block _ (by dsimp only; omega)).trans b0, (hB1.block _ (by dsimp only; omega)).trans b2, ⟨_, (hB1.block _ (by dsimp only; omega)).trans B1.out, by rw [size_madeCells], fun j hj => ?_⟩, hT, hC.t, hC.r, hC.box, fun j p hj _ => .inl ⟨rfl, ?_⟩, hC.ord, below_on hB0 (hB1.mono (Nat.le_refl _)) (Nat.le_refl _), by simp, by simp; omega, by simp; omega, fun p hp => ?_, hL⟩
    · rw [← Array.getElem?_toList, toList_madeCells_one]; simp [hj]
    · rcases hC.cell j p hj with ⟨_, c⟩ | ⟨c, _⟩
      · exact c
      · cases c
    · have := hC.low.2.2 p hp; simp; omega
  have HL := Lib.hid hL
  clear hL hT hC B1
  obtain ⟨q, hq⟩ : ∃ q : Bl, q = ⟨w.heap.size, w.heap.size + 1 + 1, w.heap.size + 1, W0.heap.size + 1, W0.heap.size + 1 + 1, W0.heap.size, W0.heap.size⟩ := ⟨_, rfl⟩
  have q1 : q.lb = w.heap.size := by rw [hq]
  have q2 : q.cb = w.heap.size + 1 + 1 := by rw [hq]
  have q3 : q.T = W0.heap.size + 1 := by rw [hq]
  rw [← hq] at hRS
  clear hq
  have Q1 := Lib.hid q1
  have Q2 := Lib.hid q2
  have Q3 := Lib.hid q3
  clear q1 q2 q3
  have hww := Nat.le_trans hB0.size hB1.size
  go_wp2_with fail
  clear hmk hmm hmf b0 b2 hB0
  go_loopw [31] (fun i wx => ∃ k : Nat, k ≤ asks.length ∧ i = .int .i64 k ∧ ∃ (S : Nat → Bool) (m : Int) (D : DataW Unit), 0 ≤ m ∧ m ≤ k ∧ RS w q lo lc l L none S m k wx ∧ Mp wx w1.heap.size k D ∧ SetIs D S l.length m) (fun i _ => asks.length - (intOf i).toNat)
  case atStart => exact ⟨0, Nat.zero_le _, rfl, _, 0, .map [], by omega, by simp, hRS.below (below_new _ _), World.ownsMap_made _ _ _ _, setIs_nil _⟩
  case round =>
    obtain ⟨k, hk, rfl, S, m, D, m0, m1, hR, hM, hD⟩ := hrel
    obtain ⟨ta, tc, hT, _⟩ := hR.T
    rw [HL.out] at hT
    by_cases hkl : k < asks.length
    · obtain ⟨b', off, rfl, d0⟩ := (Sl.below ha hR.B).cell k (.int .i64 asks[k]) (by simp [hkl])
      have hwf := hok _ (List.getElem_mem hkl)
      obtain ⟨i, hi⟩ : ∃ i, i = asks[k] := ⟨_, rfl⟩
      rw [← hi] at d0 hwf
      clear hi
      have zb := cell?_lt d0
      have cl0 := block_cell hR.lbox 0
      simp at cl0
      rw [Q1.out] at cl0
      rw [Q3.out] at hT
      rcases (show (i < 0 ∨ (l.length : Int) ≤ i) ∨ (0 ≤ i ∧ i < l.length) by omega) with hout | ⟨hin0, hin1⟩
      · have Ho := Lib.hid hout
        have HM := Lib.hid hM
        rcases hout with ho | ho
        · clear hM
          go_wp2_with fail
          refine (tat_out _ _ ta l.length tc m i hT Ho.out).mono ?_
          rintro e w2 ⟨rfl, rfl⟩
          go_wp2_with fail
          go_roundw
          case rel => exact ⟨k + 1, by omega, by go_num, S, m, D, m0, by omega, ⟨hR.lbox, hR.cbox, hR.arr, hR.T, hR.t, hR.r, hR.box, fun j p hj hx => (hR.cell j p hj hx).imp id (fun ⟨a, y, b, c, d⟩ => ⟨a, y, b, by omega, d⟩), hR.ord, hR.B, hR.low⟩, HM.out.mono (by omega), hD⟩
          case measure => simp [intOf]; omega
        · have hn0 : 0 ≤ i := by omega
          clear hM
          go_wp2_with fail
          refine (tat_out _ _ ta l.length tc m i hT Ho.out).mono ?_
          rintro e w2 ⟨rfl, rfl⟩
          go_wp2_with fail
          go_roundw
          case rel => exact ⟨k + 1, by omega, by go_num, S, m, D, m0, by omega, ⟨hR.lbox, hR.cbox, hR.arr, hR.T, hR.t, hR.r, hR.box, fun j p hj hx => (hR.cell j p hj hx).imp id (fun ⟨a, y, b, c, d⟩ => ⟨a, y, b, by omega, d⟩), hR.ord, hR.B, hR.low⟩, HM.out.mono (by omega), hD⟩
          case measure => simp [intOf]; omega
      · obtain ⟨j, rfl⟩ := Int.eq_ofNat_of_zero_le hin0
        have hj : j < l.length := by omega
        have hA : ∃ (S' : Nat → Bool) (m' : Int), S' j = true ∧ m ≤ m' ∧ m' ≤ m + 1 ∧ SetIs (D.put (.int .i64 j) (.lit (.bool true))) S' l.length m' ∧ Calls Try.prog 12 #[.pointer (some ⟨q.T, 0, none⟩), .int .i64 j] wr fun e w' => e = .returned (.tuple #[.int .i64 (l.getD j 0), .bool true]) ∧ RS w q lo lc l L none S' m' ((k : Int) + 1) w' ∧ Mp w' w1.heap.size k D := by
          have kept : ∀ w', MK wr w' → Mp w' w1.heap.size k D := fun w' h => by
            obtain ⟨es, clock, a, b⟩ := hM
            exact ⟨es, clock, h _ _ _ a, b⟩
          cases hS : S j with
          | true =>
            refine ⟨S, m, hS, by omega, by omega, hD.old hj hS, (at_old hR hj hS h (by omega) (by omega)).mono ?_⟩
            rintro e w' ⟨rfl, a, b⟩
            exact ⟨rfl, a, kept _ b⟩
          | false =>
            refine ⟨_, m + 1, by simp, by omega, by omega, hD.new hj hS, (at_new hR hl hj hS h m0 (by omega) (by omega)).mono ?_⟩
            rintro e w' ⟨rfl, a, b⟩
            exact ⟨rfl, a, kept _ b⟩
        obtain ⟨S', m', hS', hm1, hm2, hD', hC⟩ := hA
        obtain ⟨b2, off2, hlo, e0⟩ := hl.cell j (.int .i64 (l.getD j 0)) (by simp [List.getD_eq_getElem?_getD, List.getElem?_eq_getElem hj])
        obtain ⟨v, hv⟩ : ∃ v, v = l.getD j 0 := ⟨_, rfl⟩
        rw [← hv] at hC e0
        rw [Q3.out] at hC
        have HC := Lib.hid hC
        have HD := Lib.hid hD'
        have HS := Lib.hid hS'
        have HM := Lib.hid hM
        have Hkey := Lib.hid (keyOf_int_mk (P := Try.prog) Try.underlying3 hwf)
        clear hC hv hD' hS' hM hD
        go_wp2_with fail
        refine HC.out.mono ?_
        rintro e w2 ⟨rfl, hR2, hM2⟩
        have hMx := hM2
        have HR2 := Lib.hid hR2
        have u0 := block_cell hR2.lbox 0
        simp at u0
        rw [Q1.out] at u0
        subst hlo
        clear hM2 hR2
        go_wp2_with (first
          | (at_mapUpdate; refine wpList_mapUpdate_own _ rfl _ _ _ 57 rfl 3 4 intLaw Try.underlying57 _ w1.heap.size k _ rfl hMx (by unfold maxLen; omega) _ _ _ rfl rfl Hkey.out _ [] (plainElem_bool Try.underlying4 true) ?_; intro w4 hM4 hg4; have hR4 := HR2.out.mapped hMx hg4 hww; have x0 := block_cell hR4.lbox 0; have x1 := block_cell hR4.cbox 0; simp at x0 x1; rw [Q1.out] at x0; rw [Q2.out] at x1; obtain ⟨A, y1, y2, y3⟩ := hR4.arr; have x2 := block_cell y1 j; rw [y3 j hj, HS.out] at x2; simp at x2; obtain ⟨ta2, tc2, hT4, _⟩ := hR4.T; rw [Q3.out] at hT4; have x3 := (hR4.B.cell (p := ⟨b2, off2 + j, none⟩) (cell?_lt e0)).trans e0; have HR4 := Lib.hid hR4; clear y2 y3 hR4)
          | (go_at_call 17; refine (tmade_at _ _ ta2 L.length tc2 m' hT4).mono ?_; rintro e w' ⟨rfl, rfl⟩)
          | (at_len; refine wpl_mlen rfl (.tmp 76) rfl w1.heap.size (k + 1) _ m' HD.out.2.2 rfl hM4 ?_))
        go_roundw
        case rel => exact ⟨k + 1, by omega, by go_num, S', m', _, by omega, by omega, HR4.out, hM4, HD.out⟩
        case measure => simp [intOf]; omega
    · obtain rfl : k = asks.length := by omega
      have c0 := block_cell hR.lbox 0
      simp at c0
      rw [Q1.out] at c0
      rw [Q3.out] at hT
      have HM := Lib.hid hM
      have HD := Lib.hid hD
      have hBr := hR.B
      clear hM hD
      go_wp2_with fail
      go_region_law (first
        | (go_simp; go_at_call 16; refine (tlen_at wr.drew _ ta l.length tc m hT).mono ?_; rintro e w' ⟨rfl, rfl⟩)
        | (go_simp; go_at_call 17; refine (tmade_at wr.drew _ ta l.length tc m hT).mono ?_; rintro e w' ⟨rfl, rfl⟩)
        | (go_simp; go_at_call 7; refine (lives_true _).mono ?_; rintro e w3 ⟨rfl, hB3⟩)
        | (refine step_mlen rfl (.tmp 89) rfl w1.heap.size asks.length D m HD.out.2.2 rfl HM.out ?_))
      all_goals
        go_wp2_with fail
        go_ret
        refine ⟨by simp [Act.put], ?_⟩
        first | exact below_on hBr.drew hB3 (Nat.le_refl _) | exact below_on hBr hB3 (Nat.le_refl _)

theorem lazyRows_walk (lo : Option Addr) (lc : Nat) (l : List Int) (ao : Option Addr) (ac : Nat) (asks : List Int) (w : World) (hl : Sl w 1 lo l.length lc (l.map (Value.int .i64))) (hlok : ∀ i ∈ l, (Lit.int .i64 i).wf = true) (ha : Sl w 1 ao asks.length ac (asks.map (Value.int .i64)))
    (hok : ∀ i ∈ asks, (Lit.int .i64 i).wf = true) :
    Calls Try.prog 6 #[.slice lo l.length lc, .slice ao asks.length ac] w fun e w' => e = .returned (.bool true) ∧ Below w.heap.size w w' := by
  by_cases h : 300 < l.length
  · exact rows_far lo lc l ao ac asks w (.inl h)
  · by_cases h' : 300 < asks.length
    · exact rows_far lo lc l ao ac asks w (.inr ⟨by omega, h'⟩)
    · exact rows_near lo lc l ao ac asks w hl ha hok (by omega) (by omega)
end Go.Proofs.Ytljlgphieefdmaa
