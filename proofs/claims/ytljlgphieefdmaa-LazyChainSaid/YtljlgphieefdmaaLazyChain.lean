/- The walk of the law LazyChain. -/
import Derived.Test.YtljlgphieefdmaaChain
import Derived.Deep.OwnRows
import Derived.Laws.OwnMore
import Derived.Deep.CutBlock
namespace Go.Proofs.Ytljlgphieefdmaa
set_option linter.unusedVariables false
set_option linter.unusedSimpArgs false
set_option linter.unusedSectionVars false
open Go Go.RowKit Go.Shelf
attribute [local go_sem ↓] Go.wp_at_zero Go.wp_at_succ

theorem infoInt : (Try.prog.info? 3).map (fun i => (i.zero, i.size, i.bytes)) = some (some (.int .i64 0), 1, 8) := by kernel_rfl
section
variable {w : World} {q : Bc} {lo : Option Addr} {lc : Nat} {l : List Int} {L : List (Nat × Nat)}
theorem CS.merge {i n : Nat} {c c' : Nat → Int} {W W' : World} (h : CS w q lo lc l L n (fun _ => false) c W) (h2 : CS w q lo lc l L (i + 1) (fun _ => true) c' W') (f : Fr q L (i + 1) W W') : CS w q lo lc l L n (fun j => decide (j ≤ i)) c' W' := by
  refine ⟨h2.lbox, h2.cabox, h2.cebox, h2.arr, h2.ptrs, h2.box, fun j p hj hlt => ?_, h2.ord, h2.B, h2.low⟩
  by_cases e : j ≤ i
  · rcases h2.cell j p hj (by omega) with ⟨a, _⟩ | ⟨_, b⟩
    · cases a
    · exact .inr ⟨by simp [e], b⟩
  · rcases h.cell j p hj hlt with ⟨_, b⟩ | ⟨a, _⟩
    · obtain ⟨A, a1, _⟩ := h.arr
      exact .inl ⟨by simp [e], (f.2 p.1 (Array.getElem?_eq_some_iff.1 b).1 (blk_ne b a1 (by decide)) (fun j' p' hj' hp' => pair_ne h.ord hj hp' (by omega))).trans b⟩
    · cases a
theorem CS.touch {i n : Nat} {S : Nat → Bool} {c : Nat → Int} {W W' : World} {p : Nat × Nat} {a : Int} {cs : Array Value} (h : CS w q lo lc l L n S c W) (hp : L[i]? = some p) (hw : W.heap[p.1]? = some (.cells cs 47 (0, 0))) (hS : S i = true) (hg : W.grownBy W' (some p.1)) (h0 : 0 ≤ a) (h1 : a ≤ 5) (hc : Cl W' p.1 0 1 1 a .nilFunc (val l (i + 1))) : CS w q lo lc l L n S c W' := by
  obtain ⟨A, a1, a2, a3⟩ := h.arr
  obtain ⟨A', b1, b2, b3, b4⟩ := h.ptrs
  have key : ∀ {b : Nat} {o : Obj}, W.heap[b]? = some o → b ≠ p.1 → W'.heap[b]? = W.heap[b]? := fun ho hne => hg.block _ (Array.getElem?_eq_some_iff.1 ho).1 (by simpa using hne)
  have hpl := (h.low.2.2.2.1 p (List.mem_of_getElem? hp)).1
  have hlow := h.low.2.2.2.2
  refine ⟨(key h.lbox (blk_ne h.lbox hw (by decide))).trans h.lbox, (key h.cabox (blk_ne h.cabox hw (by decide))).trans h.cabox, (key h.cebox (blk_ne h.cebox hw (by decide))).trans h.cebox, ⟨A, (key a1 (blk_ne a1 hw (by decide))).trans a1, a2, a3⟩, ⟨A', (key b1 (blk_ne b1 hw (by decide))).trans b1, b2, b3, b4⟩,
    fun j p' hj => (key (h.box j p' hj) (blk_ne (h.box j p' hj) hw (by decide))).trans (h.box j p' hj), fun j p' hj hlt => ?_, h.ord, below_grown h.B hg (Nat.le_trans hlow hpl) h.B.size, h.low⟩
  by_cases e : j = i
  · subst e
    rw [hp] at hj; cases hj
    exact .inr ⟨hS, a, h0, h1, hc⟩
  · have hne := pair_ne h.ord hj hp e
    exact (h.cell j p' hj hlt).imp (fun ⟨a, c⟩ => ⟨a, (key c hne).trans c⟩) (fun ⟨a, y, b, c, d⟩ => ⟨a, y, b, c, (key d hne).trans d⟩)
/-- cells[k] = a new cell -/
theorem CS.push {k cb ib : Nat} {c : Nat → Int} {W : World} (h : CS w q lo lc l L k (fun _ => false) c W) (hL : L.length = k) (hk : k < l.length) (hcl : Cl W cb 0 0 0 0 (chFn q ib) 0) (hbx : Bx W ib k) (hlt : ∀ p ∈ L, p.1 < cb) (hcb : q.base ≤ cb) (hib : q.base ≤ ib) :
    CS w q lo lc l (L ++ [(cb, ib)]) (k + 1) (fun _ => false) c (W.setCell ⟨q.CE, k, none⟩ (.pointer (some ⟨cb, 0, none⟩))) := by
  obtain ⟨A, a1, a2, a3⟩ := h.arr
  obtain ⟨A', b1, b2, b3, b4⟩ := h.ptrs
  have K := keeps_set W q.CE k (.pointer (some ⟨cb, 0, none⟩)) b1
  have hg := grown_set W q.CE k (.pointer (some ⟨cb, 0, none⟩))
  have hcase : ∀ (j : Nat) (p : Nat × Nat), (L ++ [(cb, ib)])[j]? = some p → L[j]? = some p ∨ (j = k ∧ p = (cb, ib)) := by
    intro j p hj
    rw [List.getElem?_append] at hj
    split at hj
    · exact .inl hj
    · rename_i hn
      have h0 : j - L.length = 0 := by
        have := (List.getElem?_eq_some_iff.1 hj).1
        simp at this
        omega
      rw [h0] at hj
      simp at hj
      exact .inr ⟨by omega, hj.symm⟩
  have t3 := block_set b1 k (.pointer (some ⟨cb, 0, none⟩))
  refine ⟨K _ _ _ (by decide) h.lbox, K _ _ _ (by decide) h.cabox, K _ _ _ (by decide) h.cebox, ⟨A, K _ _ _ (by decide) a1, a2, a3⟩, ⟨_, t3, by simpa using b2, fun j hj => ?_, fun j p hj => ?_⟩, fun j p hj => ?_, fun j p hj hj' => ?_, ?_, below_grown h.B hg h.low.2.1 h.B.size, ⟨h.low.1, h.low.2.1, h.low.2.2.1, fun p hp => ?_, h.low.2.2.2.2⟩⟩
  · rw [Array.getElem?_setIfInBounds]
    split
    · split <;> simp_all
    · exact b3 j hj
  · rw [Array.getElem?_setIfInBounds]
    rcases hcase j p hj with hj | ⟨rfl, rfl⟩
    · have : j < L.length := (List.getElem?_eq_some_iff.1 hj).1
      rw [if_neg (by omega)]
      exact b4 j p hj
    · simp [b2, hk]
  · rcases hcase j p hj with hj | ⟨rfl, rfl⟩
    · exact K _ _ _ (by decide) (h.box j p hj)
    · exact K _ _ _ (by decide) hbx
  · rcases hcase j p hj with hj | ⟨rfl, rfl⟩
    · have : j < L.length := (List.getElem?_eq_some_iff.1 hj).1
      exact (h.cell j p hj (by omega)).imp (fun ⟨a, c⟩ => ⟨a, K _ _ _ (by decide) c⟩) (fun ⟨a, y, b, c, d⟩ => ⟨a, y, b, c, K _ _ _ (by decide) d⟩)
    · exact .inl ⟨rfl, K _ _ _ (by decide) hcl⟩
  · rw [List.pairwise_append]
    exact ⟨h.ord, by simp, fun p hp q hq => by simp at hq; subst hq; exact hlt p hp⟩
  · rcases List.mem_append.1 hp with hp | hp
    · exact h.low.2.2.2.1 p hp
    · simp at hp; subst hp; exact ⟨hcb, hib⟩
theorem CS.lt {t : Nat} {S : Nat → Bool} {c : Nat → Int} {W : World} (h : CS w q lo lc l L t S c W) (hL : L.length ≤ t) : ∀ p ∈ L, p.1 < W.heap.size := fun p hp => by
  obtain ⟨j, hj⟩ := List.getElem?_of_mem hp
  have := (List.getElem?_eq_some_iff.1 hj).1
  rcases h.cell j p hj (by omega) with ⟨_, c⟩ | ⟨_, a, _, _, c⟩ <;> exact (Array.getElem?_eq_some_iff.1 c).1
end

set_option maxRecDepth 100000 in
set_option maxHeartbeats 4000000 in
theorem chain_far (lo : Option Addr) (lc : Nat) (l : List Int) (x : Int) (w : World) (h : l.length = 0 ∨ 100 < l.length) :
    Calls Try.prog 3 #[.slice lo l.length lc, .int .u8 x] w fun e w' => e = .returned (.bool true) ∧ Below w.heap.size w w' := by
  rcases h with h | h
  · obtain rfl := List.eq_nil_of_length_eq_zero h
    clear h
    go_enter Try.func3, Try.ntmps3
    go_wp2_with fail
    refine (lives_true _).mono ?_
    rintro e w1 ⟨rfl, hB⟩
    go_wp2_with fail
    go_ret
    exact ⟨rfl, below_on (below_new _ _) hB (by simp)⟩
  · have h0 : ((l.length : Int) == 0) = false := beq_eq_false_iff_ne.2 (by omega)
    go_enter Try.func3, Try.ntmps3
    go_wp2_with fail
    refine (lives_true _).mono ?_
    rintro e w1 ⟨rfl, hB⟩
    go_wp2_with fail
    go_ret
    exact ⟨rfl, below_on (below_new _ _) hB (by simp)⟩

set_option maxRecDepth 100000 in
set_option maxHeartbeats 8000000 in
theorem chain_near (lo : Option Addr) (lc : Nat) (l : List Int) (x : Int) (w : World) (hl : Sl w 1 lo l.length lc (l.map (Value.int .i64))) (hok : ∀ i ∈ l, (Lit.int .i64 i).wf = true) (h0 : 0 < l.length) (h1 : l.length ≤ 100) (x0 : 0 ≤ x) (x1 : x ≤ 255) :
    Calls Try.prog 3 #[.slice lo l.length lc, .int .u8 x] w fun e w' => e = .returned (.bool true) ∧ Below w.heap.size w w' := by
  have hmf : ∀ (fn : Fn) (first cap : Array Value) (w : World), (Instr.makeFunc fn first cap).run Try.prog w = .ok (.func fn first cap) w := fun _ _ _ _ => rfl
  have hmk := fun W => run_make_row' (P := Try.prog) 24 3 (.int .i64 0) 8 Try.underlying24 infoInt rfl .i64 .i64 l.length (by omega) (by omega) W
  have hmk2 := fun W => run_make_row' (P := Try.prog) 25 26 (.pointer none) 8 Try.underlying25 infoPC rfl .i64 .i64 l.length (by omega) (by omega) W
  have hne : ((l.length : Int) == 0) = false := beq_eq_false_iff_ne.2 (by omega)
  go_enter Try.func3, Try.ntmps3
  go_wp2_with fail
  obtain ⟨q, hq⟩ : ∃ q : Bc, q = ⟨w.heap.size, w.heap.size + 1 + 1, w.heap.size + 1, w.heap.size + 1 + 1 + 1 + 1, w.heap.size + 1 + 1 + 1, w.heap.size + 1 + 1 + 1 + 1 + 1⟩ := ⟨_, rfl⟩
  have Qf : ∀ ib, chFn q ib = .func (.func 9) #[] #[.pointer (some ⟨w.heap.size + 1 + 1, 0, none⟩), .pointer (some ⟨ib, 0, none⟩), .pointer (some ⟨w.heap.size, 0, none⟩), .pointer (some ⟨w.heap.size + 1 + 1 + 1 + 1, 0, none⟩)] := by intro ib; rw [hq]
  have q1 : q.lb = w.heap.size := by rw [hq]
  have q2 : q.cab = w.heap.size + 1 + 1 := by rw [hq]
  have q3 : q.ceb = w.heap.size + 1 + 1 + 1 + 1 := by rw [hq]
  have q4 : q.base = w.heap.size + 5 := by rw [hq]
  obtain ⟨W0, hW0⟩ : ∃ W0, W0 = ((((w.alloc (.cells #[.slice lo l.length lc] 22)).alloc (.cells (madeCells #[.int .i64 0] l.length) 3)).alloc (.cells #[.slice (some ⟨w.heap.size + 1, 0, none⟩) l.length l.length] 24)).alloc (.cells (madeCells #[.pointer none] l.length) 26)).alloc (.cells #[.slice (some ⟨w.heap.size + 1 + 1 + 1, 0, none⟩) l.length l.length] 25) := ⟨_, rfl⟩
  have hz0 : W0.heap.size = w.heap.size + 5 := by rw [hW0]; simp
  have hCS0 : CS w q lo lc l [] 0 (fun _ => false) (fun _ => 0) W0 := by
    rw [hq, hW0]
    refine ⟨(heap_alloc_old _ _ (by simp <;> omega)).trans ((heap_alloc_old _ _ (by simp <;> omega)).trans ((heap_alloc_old _ _ (by simp <;> omega)).trans ((heap_alloc_old _ _ (by simp)).trans (heap_alloc_new _ _)))), (heap_alloc_old _ _ (by simp)).trans ((heap_alloc_old _ _ (by simp)).trans (blk_at _ _ _ (by simp))), blk_at _ _ _ (by simp), ⟨_, (heap_alloc_old _ _ (by simp <;> omega)).trans ((heap_alloc_old _ _ (by simp <;> omega)).trans ((heap_alloc_old _ _ (by simp)).trans (blk_at _ _ _ (by simp)))), by rw [size_madeCells], fun j hj => ?_⟩, ⟨_, (heap_alloc_old _ _ (by simp)).trans (blk_at _ _ _ (by simp)), by rw [size_madeCells], fun j hj => ?_, by simp⟩, by simp, by simp, List.Pairwise.nil, below_on (below_on (below_on (below_on (below_new _ _) (below_new _ _) (by simp)) (below_new _ _) (by simp)) (below_new _ _) (by simp)) (below_new _ _) (by simp), by simp; omega⟩
    · rw [← Array.getElem?_toList, toList_madeCells_one]; simp [hj]
    · rw [← Array.getElem?_toList, toList_madeCells_one]; simp [hj]
  rw [← hW0]
  have Q1 := Lib.hid q1
  have Q2 := Lib.hid q2
  have Q3 := Lib.hid q3
  have Q4 := Lib.hid q4
  have QF := Lib.hid Qf
  have Hz0 := Lib.hid hz0
  clear q1 q2 q3 q4 Qf hq hW0 hz0 hmk hmk2
  go_loopw [30] (fun i wx => ∃ k : Nat, k ≤ l.length ∧ i = .int .i64 k ∧ W0.heap.size ≤ wx.heap.size ∧ ∃ L : List (Nat × Nat), L.length = k ∧ CS w q lo lc l L k (fun _ => false) (fun _ => 0) wx) (fun i _ => l.length - (intOf i).toNat)
  case atStart => exact ⟨0, Nat.zero_le _, rfl, Nat.le_refl _, [], rfl, hCS0⟩
  case round =>
    obtain ⟨k, hk, rfl, hsz, L, hL, hC⟩ := hrel
    by_cases hkl : k < l.length
    · have hC1 := hC.below (below_new wr (.cells #[.int .i64 k] 3))
      have hbx : Bx (wr.alloc (.cells #[.int .i64 k] 3)) wr.heap.size k := heap_alloc_new _ _
      have hlt := hC.lt (by omega)
      obtain ⟨W, hW1⟩ : ∃ W, W = wr.alloc (.cells #[.int .i64 k] 3) := ⟨_, rfl⟩
      rw [← hW1] at hC1 hbx
      have hzW : W.heap.size = wr.heap.size + 1 := by rw [hW1]; simp
      have e0 := block_cell hC1.cebox 0
      have e1 := block_cell hbx 0
      simp at e0 e1
      rw [Q3.out] at e0
      have k0 : (0 : Int) ≤ (k : Int) := Int.natCast_nonneg _
      have k1 : (k : Int) < (l.length : Int) := by omega
      have HL := Lib.hid hL
      have Hlt := Lib.hid hlt
      have HzW := Lib.hid hzW
      clear hL hlt hzW
      go_wp2_with fail
      rw [← hW1]
      clear hW1
      go_region_held3 (fun W' => (W'.cell? ⟨w.heap.size + 1 + 1 + 1 + 1, 0, none⟩ = some (.slice (some ⟨q.CE, 0, none⟩) l.length l.length) ∧ W'.cell? ⟨wr.heap.size, 0, none⟩ = some (.int .i64 k)))
        (first | exact hS2 | exact hS3 | go_keep)
        ((go_at_call 8; refine (new_fn _ _ _).mono ?_; rintro e w2 ⟨rfl, hw2⟩; have hB2 : Below W.heap.size W w2 := (by rw [hw2]; exact below_al (below_dr (Below.refl _ _)) (Nat.le_refl _)); have hCl2 : Cl w2 W.heap.size 0 0 0 0 (chFn q wr.heap.size) 0 := (by rw [hw2, QF.out]; exact cl_new _ _); clear hw2; have hC2 := hC1.below hB2; have hb2 := hbx.below hB2; have u0 := block_cell hC2.cebox 0; have u1 := block_cell hb2 0; simp at u0 u1; rw [Q3.out] at u0; have hS2 := And.intro u0 u1; obtain ⟨A, v1, v2, v3, v4⟩ := hC2.ptrs; have v5 := v3 k hkl; obtain ⟨v6, v7⟩ := Option.isSome_iff_exists.1 v5; have v8 := block_cell v1 k; rw [v7] at v8; have v9 := block_free v1 k; have hC3 := hC2.push HL.out hkl hCl2 hb2 (fun p hp => by have := Hlt.out p hp; have := HzW.out; omega) (by have := Q4.out; have := Hz0.out; have := HzW.out; omega) (by have := Q4.out; have := Hz0.out; omega); have w0 := block_cell hC3.cebox 0; have w1' := block_cell (keeps_set w2 q.CE k (.pointer (some ⟨W.heap.size, 0, none⟩)) v1 _ _ _ (by decide) hb2) 0; simp at w0 w1'; rw [Q3.out] at w0; have hS3 := And.intro w0 w1'; have HC3 := Lib.hid hC3; have HsB := hB2.size; clear v2 v3 v4 v5 v7 hC3))
      go_wp2_with fail
      go_roundw
      case rel => exact ⟨k + 1, by omega, by go_num, by have := HzW.out; simp; omega, _, by have := HL.out; simp; omega, HC3.out⟩
      case measure => simp [intOf]; omega
    · obtain rfl : k = l.length := by omega
      have HL := Lib.hid hL
      have c0 := block_cell hC.lbox 0
      simp at c0
      rw [Q1.out] at c0
      have hp0 : (0 : Int) < (l.length : Int) := by omega
      have m0 : 0 ≤ x % (l.length : Int) := Int.emod_nonneg _ (by omega)
      have m1 : x % (l.length : Int) < l.length := Int.emod_lt_of_pos _ hp0
      obtain ⟨a, ha⟩ : ∃ a : Nat, x % (l.length : Int) = (a : Int) := ⟨(x % (l.length : Int)).toNat, by omega⟩
      have HA := Lib.hid ha
      have ma : a < l.length := by omega
      have ma1 : (a : Int) < (l.length : Int) := by omega
      have ma0 : (0 : Int) ≤ (a : Int) := Int.natCast_nonneg _
      obtain ⟨b, off, hlo, _⟩ := hl.cell 0 (.int .i64 (l.getD 0 0)) (by simp [List.getD_eq_getElem?_getD, List.getElem?_eq_getElem h0])
      have hls : ∀ j (hj : j < l.length), wr.cell? ⟨b, off + j, none⟩ = some (.int .i64 l[j]) := fun j hj => by
        obtain ⟨b', off', e', hc'⟩ := (Sl.below hl hC.B).cell j (.int .i64 l[j]) (by simp [hj])
        rw [hlo] at e'
        simp only [Option.some.injEq, Addr.mk.injEq] at e'
        obtain ⟨rfl, rfl, -⟩ := e'
        exact hc'
      have Hls := Lib.hid hls
      obtain ⟨p, hp⟩ : ∃ p, L[a]? = some p := ⟨L[a]'(by omega), List.getElem?_eq_getElem (by omega)⟩
      have G1 := chain_get hl hok h1 HL.out a p hp (fun _ => 0) wr (hC.down (by omega)) (fun _ _ => rfl)
      have HG1 := Lib.hid G1
      have Hp := Lib.hid hp
      have Hhl := Lib.hid hl
      subst hlo
      have c1 := block_cell hC.cebox 0
      simp at c1
      rw [Q3.out] at c1
      obtain ⟨A, v1, v2, v3, v4⟩ := hC.ptrs
      have c2 := block_cell v1 a
      rw [v4 a p hp] at c2
      have V1 := Lib.hid v1
      clear hL ha hls G1 hp v1 v2 v3 v4 hl hok
      go_wp2_with fail
      rw [HA.out]
      clear m0 m1
      go_loop [9, 10] (fun v9 i => ∃ k : Nat, k ≤ a + 1 ∧ i = .int .i64 k ∧ v9 = .int .i64 (val l k)) (fun _ i => a + 1 - (intOf i).toNat)
      case atStart => exact ⟨0, Nat.zero_le _, rfl, by rw [val_zero]⟩
      case round =>
        obtain ⟨k, hka, rfl, rfl⟩ := hrel
        by_cases hk1 : k ≤ a
        · have hkn : k < l.length := by omega
          have hcell := Hls.out k hkn
          have hst := val_step l k hkn
          obtain ⟨v, hv⟩ : ∃ v, v = l[k] := ⟨_, rfl⟩
          rw [← hv] at hcell hst
          have HST := Lib.hid hst
          clear hst hv
          go_wp2_with fail
          go_round
          case rel => exact ⟨k + 1, by omega, by go_num, by rw [HST.out]⟩
          case measure => simp [intOf]; omega
        · obtain rfl : k = a + 1 := by omega
          go_wp2_with fail
          refine HG1.out.mono ?_
          rintro e w2 ⟨rfl, hC2, hF2, hcl2⟩
          have hM := hC.merge hC2 hF2
          have d1 := block_cell hM.cebox 0
          simp at d1
          rw [Q3.out] at d1
          obtain ⟨A2, u1, u2, u3, u4⟩ := hM.ptrs
          have d2 := block_cell u1 a
          rw [u4 a p Hp.out] at d2
          have hG2 := get_again w2 p.1 0 1 1 (val l (a + 1)) .nilFunc hcl2 (by omega) (by omega)
          have HG2 := Lib.hid hG2
          clear u1 u2 u3 u4 hG2
          go_wp2_with fail
          refine HG2.out.mono ?_
          rintro e w3 ⟨rfl, hcl3, hg3⟩
          have hM3 := hM.touch Hp.out hcl2 (by simp) hg3 (by omega) (by omega) hcl3
          have d3 := block_cell hM3.lbox 0
          simp at d3
          rw [Q1.out] at d3
          have d4 := block_cell hM3.cabox 0
          have d5 := block_cell hM3.cebox 0
          simp at d4 d5
          rw [Q2.out] at d4
          rw [Q3.out] at d5
          have hB3 := hM3.B
          have HM3 := Lib.hid hM3
          clear hC hC2 hM hM3
          go_wp2_with fail
          go_loop [73] (fun i => ∃ j : Nat, j ≤ l.length ∧ i = .int .i64 j) (fun i => l.length - (intOf i).toNat)
          case atStart => exact ⟨0, Nat.zero_le _, rfl⟩
          case round =>
            obtain ⟨j, hj, rfl⟩ := hrel
            by_cases hjl : j < l.length
            · obtain ⟨pj, hpj⟩ : ∃ pj, L[j]? = some pj := ⟨L[j]'(by have := HL.out; omega), List.getElem?_eq_getElem (by have := HL.out; omega)⟩
              obtain ⟨A3, a1, a2, a3⟩ := HM3.out.arr
              obtain ⟨A4, b1, b2, b3, b4⟩ := HM3.out.ptrs
              have e1 := block_cell a1 j
              have e2 := block_cell b1 j
              rw [a3 j hjl] at e1
              rw [b4 j pj hpj] at e2
              have hcl := HM3.out.cell j pj hpj hjl
              by_cases hja : j ≤ a
              · rw [if_pos hja] at e1
                obtain ⟨aj, hclj⟩ : ∃ aj, Cl w3 pj.1 0 1 1 aj .nilFunc (val l (j + 1)) := by
                  rcases hcl with ⟨c, _⟩ | ⟨_, aj, _, _, c⟩
                  · simp [hja] at c
                  · exact ⟨aj, c⟩
                clear a1 a2 a3 b1 b2 b3 b4 hcl hpj
                go_wp2_with fail
                refine (made_at _ _ _ _ _ _ _ _ hclj).mono ?_
                rintro e w' ⟨rfl, rfl⟩
                go_wp2_with fail
                go_round
                case rel => exact ⟨j + 1, by omega, by go_num⟩
                case measure => simp [intOf]; omega
              · rw [if_neg hja] at e1
                obtain ⟨fj, vj, hclj⟩ : ∃ fj vj, Cl w3 pj.1 0 0 0 0 fj vj := by
                  rcases hcl with ⟨_, c⟩ | ⟨c, _⟩
                  · exact ⟨_, _, c⟩
                  · simp [hja] at c
                clear a1 a2 a3 b1 b2 b3 b4 hcl hpj
                go_wp2_with fail
                refine (made_at _ _ _ _ _ _ _ _ hclj).mono ?_
                rintro e w' ⟨rfl, rfl⟩
                go_wp2_with fail
                go_round
                case rel => exact ⟨j + 1, by omega, by go_num⟩
                case measure => simp [intOf]; omega
            · obtain rfl : j = l.length := by omega
              go_wp2_with fail
              refine (lives_true _).mono ?_
              rintro e w4 ⟨rfl, hB4⟩
              go_wp2_with fail
              go_ret
              exact ⟨rfl, below_on hB3 hB4 (Nat.le_refl _)⟩

theorem lazyChain_walk (lo : Option Addr) (lc : Nat) (l : List Int) (x : Int) (w : World) (hl : Sl w 1 lo l.length lc (l.map (Value.int .i64))) (hok : ∀ i ∈ l, (Lit.int .i64 i).wf = true) (x0 : 0 ≤ x) (x1 : x ≤ 255) :
    Calls Try.prog 3 #[.slice lo l.length lc, .int .u8 x] w fun e w' => e = .returned (.bool true) ∧ Below w.heap.size w w' := by
  by_cases h : l.length = 0 ∨ 100 < l.length
  · exact chain_far lo lc l x w h
  · exact chain_near lo lc l x w hl hok (by omega) (by omega) x0 x1
end Go.Proofs.Ytljlgphieefdmaa
