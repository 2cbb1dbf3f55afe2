/- Contracts of package lazy: Get of a cell with a closure, of a nil one; what nil cells and tables do; lives. No statement of the seat is proved here. -/
import Derived.Test.YtljlgphieefdmaaCell
import Derived.Shelf.Abstract
namespace Go.Proofs.Ytljlgphieefdmaa
set_option linter.unusedVariables false
set_option linter.unusedSimpArgs false
set_option linter.unusedSectionVars false
open Go Go.RowKit Go.Shelf

theorem get_fn (k : Nat) (caps : Array Value) (he : ∀ args w, (callFunc k args).run Try.prog w = .ok (.enter k args) w) (w : World) (b : Nat) (asked v : Int) (R : World → Prop) (h : Cl w b 0 0 0 asked (.func (.func k) #[] caps) 0) (h0 : 0 ≤ asked) (h1 : asked < 9223372036854775807)
    (hk : ∀ W, w.grownBy W (some b) → Cl W b 1 0 0 (asked + 1) (.func (.func k) #[] caps) 0 → Calls Try.prog k caps W fun e w1 => e = .returned (.int .i64 v) ∧ Cl w1 b 1 0 0 (asked + 1) (.func (.func k) #[] caps) 0 ∧ R w1) :
    Calls Try.prog 10 #[.pointer (some ⟨b, 0, none⟩)] w fun e w' => e = .returned (.int .i64 v) ∧ Cl w' b 0 1 1 (asked + 1) .nilFunc v ∧ ∃ w1, R w1 ∧ w1.grownBy w' (some b) := by
  refine (get_first w b asked v _ (fun w2 => ∃ w1, R w1 ∧ w1.grownBy w2 (some b)) h h0 h1 fun W hg hW => ?_).mono ?_
  · exact fill_any k caps he W b (asked + 1) v R hW (hk W hg hW)
  · rintro e w' ⟨rfl, h2, w2, ⟨w1, h3, h4⟩, h5⟩
    exact ⟨rfl, h2, w1, h3, grown_trans h4 h5⟩
theorem get_nilfn (w : World) (b : Nat) (asked : Int) (h : Cl w b 0 0 0 asked .nilFunc 0) (h0 : 0 ≤ asked) (h1 : asked < 9223372036854775807) :
    Calls Try.prog 10 #[.pointer (some ⟨b, 0, none⟩)] w fun e w' => e = .returned (.int .i64 0) ∧ Cl w' b 0 1 1 (asked + 1) .nilFunc 0 ∧ w.grownBy w' (some b) := by
  refine (get_first w b asked 0 _ (fun w2 => w.grownBy w2 (some b)) h h0 h1 fun W hg hW => ?_).mono ?_
  · refine (fill_nil W b (asked + 1) hW).mono ?_
    rintro e w2 ⟨rfl, h2, h3⟩
    exact ⟨rfl, h2, grown_trans hg h3⟩
  · rintro e w' ⟨rfl, h2, w2, h3, h4⟩
    exact ⟨rfl, h2, grown_trans h3 h4⟩

theorem cl_new (w : World) (fn : Value) : Cl (w.alloc (.cells #[.int .u32 0, .int .i32 0, .int .u32 0, .int .u32 0, .int .i64 0, fn, .int .i64 0] 47)) w.heap.size 0 0 0 0 fn 0 := heap_alloc_new _ _

/-- the closure of lives -/
theorem lives1 (w : World) (b : Nat) (c : Int) (hc : w.cell? ⟨b, 0, none⟩ = some (.int .i64 c)) (hz : w.frozen? ⟨b, 0, none⟩ = false) (h0 : 0 ≤ c) (h1 : c ≤ 100000) :
    Calls Try.prog 21 #[.pointer (some ⟨b, 0, none⟩)] w fun e w' => e = .returned (.int .i64 7) ∧ w' = w.setCell ⟨b, 0, none⟩ (.int .i64 (c + 1)) := by
  go_enter Try.func21, Try.ntmps21
  go_wp2
  go_ret
  exact ⟨rfl, rfl⟩
theorem cell_grown {w w' : World} {p : Addr} {g : Nat} {v : Value} (h : w.cell? p = some v) (hg : w.grownBy w' (some g)) (hne : p.block ≠ g) : w'.cell? p = some v := by
  rw [World.cell?_of_block (w := w) (hg.block p.block (cell?_lt h) (by simpa using hne))]; exact h
/-- a box of one integer -/
def Bx (w : World) (b : Nat) (c : Int) : Prop := w.heap[b]? = some (.cells #[.int .i64 c] 3 (0, 0))
theorem Bx.grown {w w' : World} {b g : Nat} {c : Int} (h : Bx w b c) (hg : w.grownBy w' (some g)) (hne : b ≠ g) : Bx w' b c := (hg.block _ (Array.getElem?_eq_some_iff.1 h).1 (by simpa using hne)).trans h
theorem Bx.below {w w' : World} {b : Nat} {c : Int} (h : Bx w b c) (hB : Below w.heap.size w w') : Bx w' b c := (hB.block _ (Array.getElem?_eq_some_iff.1 h).1).trans h

set_option maxRecDepth 100000 in
set_option maxHeartbeats 2000000 in
theorem lives_true (w : World) : Calls Try.prog 7 #[] w fun e w' => e = .returned (.bool true) ∧ Below w.heap.size w w' := by
  have hmf : ∀ (fn : Fn) (first cap : Array Value) (w : World), (Instr.makeFunc fn first cap).run Try.prog w = .ok (.func fn first cap) w := fun _ _ _ _ => rfl
  go_enter Try.func7, Try.ntmps7
  go_wp2_with fail
  refine (new_fn _ _ _).mono ?_
  rintro e w1 ⟨rfl, hw1⟩
  have hB1 : Below w.heap.size w w1 := by rw [hw1]; exact below_on (below_new _ _) (below_new _ _) (by simp)
  have hC : Cl w1 (w.heap.size + 1) 0 0 0 0 (.func (.func 21) #[] #[.pointer (some ⟨w.heap.size, 0, none⟩)]) 0 := by
    have := cl_new (w.alloc (.cells #[.int .i64 0] 3)) (.func (.func 21) #[] #[.pointer (some ⟨w.heap.size, 0, none⟩)])
    rw [hw1]; simpa using this
  have hx : Bx w1 w.heap.size 0 := by rw [hw1]; exact (heap_alloc_old _ _ (by simp)).trans (heap_alloc_new _ _)
  have hs1 : w1.heap.size = w.heap.size + 2 := by rw [hw1]; simp
  clear hw1 hmf
  have G1 := get_fn 21 #[.pointer (some ⟨w.heap.size, 0, none⟩)] (enters_of Try.func21 (by kernel_rfl) rfl) w1 (w.heap.size + 1) 0 7 (fun w2 => Bx w2 w.heap.size 1 ∧ Below w.heap.size w w2) hC (by omega) (by omega) (fun W hg hW => by
    have hx2 := hx.grown hg (by omega)
    have hc2 := block_cell hx2 0
    have hz2 := block_free hx2 0
    simp at hc2
    have hB2 := below_grown hB1 hg (by omega) hB1.size
    refine (lives1 W w.heap.size 0 hc2 hz2 (by omega) (by omega)).mono ?_
    rintro e w2 ⟨rfl, rfl⟩
    exact ⟨rfl, cl_grown hW (grown_set _ _ _ _) (by omega), block_set hx2 0 (.int .i64 (0 + 1)), below_grown hB2 (grown_set _ _ _ _) (Nat.le_refl _) hB2.size⟩)
  have H1 := Lib.hid G1
  clear G1
  have Hs1 := Lib.hid hs1
  clear hs1
  go_wp2_with fail
  refine (made_at _ _ _ _ _ _ _ _ hC).mono ?_
  rintro e w' ⟨rfl, rfl⟩
  go_wp2_with fail
  refine H1.out.mono ?_
  rintro e w2 ⟨rfl, hC2, w3, ⟨hx3, hB3⟩, hg3⟩
  have hx2 := hx3.grown hg3 (by omega)
  have hB2 := below_grown hB3 hg3 (by omega) hB3.size
  clear hx3 hB3 hg3 hC H1
  go_wp2_with fail
  refine (get_again _ _ _ _ _ _ _ hC2 (by omega) (by omega)).mono ?_
  rintro e w4 ⟨rfl, hC4, hg4⟩
  have hx4 := hx2.grown hg4 (by omega)
  have hB4 := below_grown hB2 hg4 (by omega) hB2.size
  go_wp2_with fail
  refine (get_again _ _ _ _ _ _ _ hC4 (by omega) (by omega)).mono ?_
  rintro e w5 ⟨rfl, hC5, hg5⟩
  have hx5 := hx4.grown hg5 (by omega)
  have hB5 := below_grown hB4 hg5 (by omega) hB4.size
  have c5 := block_cell hx5 0
  simp at c5
  go_wp2_with fail
  refine (asked_at _ _ _ _ _ _ _ _ hC5).mono ?_
  rintro e w' ⟨rfl, rfl⟩
  go_wp2_with fail
  refine (made_at _ _ _ _ _ _ _ _ hC5).mono ?_
  rintro e w' ⟨rfl, rfl⟩
  go_wp2_with fail
  go_ret
  exact ⟨by simp, hB5⟩

/-! nil cells and tables -/
theorem sget_nil (w : World) : Calls Try.prog 13 #[.pointer none] w fun e w' => e = .returned (.string ⟨#[]⟩) ∧ w = w' := by
  go_enter Try.func13, Try.ntmps13
  go_wp2
  go_ret
  exact ⟨rfl, rfl⟩
theorem smade_nil (w : World) : Calls Try.prog 14 #[.pointer none] w fun e w' => e = .returned (.bool false) ∧ w = w' := by
  go_enter Try.func14, Try.ntmps14
  go_wp2
  go_ret
  exact ⟨rfl, rfl⟩
theorem sasked_nil (w : World) : Calls Try.prog 15 #[.pointer none] w fun e w' => e = .returned (.int .i64 0) ∧ w = w' := by
  go_enter Try.func15, Try.ntmps15
  go_wp2
  go_ret
  exact ⟨rfl, rfl⟩
theorem tlen_nil (w : World) : Calls Try.prog 16 #[.pointer none] w fun e w' => e = .returned (.int .i64 0) ∧ w = w' := by
  go_enter Try.func16, Try.ntmps16
  go_wp2
  go_ret
  exact ⟨rfl, rfl⟩
theorem tmade_nil (w : World) : Calls Try.prog 17 #[.pointer none] w fun e w' => e = .returned (.int .i64 0) ∧ w = w' := by
  go_enter Try.func17, Try.ntmps17
  go_wp2
  go_ret
  exact ⟨rfl, rfl⟩
theorem tat_nil (w : World) (i : Int) : Calls Try.prog 12 #[.pointer none, .int .i64 i] w fun e w' => e = .returned (.tuple #[.int .i64 0, .bool false]) ∧ w = w' := by
  by_cases h : i < 0
  · go_enter Try.func12, Try.ntmps12
    go_wp2
    go_ret2
    exact ⟨rfl, rfl⟩
  · go_enter Try.func12, Try.ntmps12
    go_wp2_with (go_at_call 16; refine (tlen_nil _).mono ?_; rintro e w' ⟨rfl, rfl⟩)
    go_ret2
    exact ⟨rfl, rfl⟩

set_option maxRecDepth 100000 in
set_option maxHeartbeats 2000000 in
theorem lazyNobody_walk (i : Int) (w : World) (h0 : -9223372036854775808 ≤ i) (h1 : i ≤ 9223372036854775807) : Calls Try.prog 4 #[.int .i64 i] w fun e w' => e = .returned (.bool true) ∧ Below w.heap.size w w' := by
  go_enter Try.func4, Try.ntmps4
  go_wp2_with fail
  refine (new_nil _).mono ?_
  rintro e w1 ⟨rfl, hw1⟩
  have hB1 : Below w.heap.size w w1 := by rw [hw1]; exact below_on (below_new _ _) (below_new _ _) (by simp)
  have hN : Cl w1 (w.heap.size + 1) 0 0 0 0 .nilFunc 0 := by
    have := cl_new (w.alloc (.cells #[.int .u32 0, .int .i32 0, .int .u32 0, .int .u32 0, .int .i64 0, .nilFunc, .int .i64 0] 47)) .nilFunc
    rw [hw1]; simpa using this
  have hP : Cl w1 w.heap.size 0 0 0 0 .nilFunc 0 := by rw [hw1]; exact (heap_alloc_old _ _ (by simp)).trans (heap_alloc_new _ _)
  clear hw1
  go_wp2_with fail
  refine (tat_nil _ i).mono ?_
  rintro e w' ⟨rfl, rfl⟩
  go_wp2_with (first
    | (go_at_call 13; refine (sget_nil _).mono ?_; rintro e w' ⟨rfl, rfl⟩)
    | (go_at_call 14; refine (smade_nil _).mono ?_; rintro e w' ⟨rfl, rfl⟩)
    | (go_at_call 15; refine (sasked_nil _).mono ?_; rintro e w' ⟨rfl, rfl⟩)
    | (go_at_call 16; refine (tlen_nil _).mono ?_; rintro e w' ⟨rfl, rfl⟩)
    | (go_at_call 17; refine (tmade_nil _).mono ?_; rintro e w' ⟨rfl, rfl⟩))
  refine (get_nilfn _ _ _ hP (by omega) (by omega)).mono ?_
  rintro e w2 ⟨rfl, hP2, hg2⟩
  have hN2 := cl_grown hN hg2 (by omega)
  have hB2 := below_grown hB1 hg2 (by omega) hB1.size
  go_wp2_with fail
  refine (made_at _ _ _ _ _ _ _ _ hP2).mono ?_
  rintro e w' ⟨rfl, rfl⟩
  go_wp2_with fail
  refine (asked_at _ _ _ _ _ _ _ _ hP2).mono ?_
  rintro e w' ⟨rfl, rfl⟩
  go_wp2_with fail
  refine (get_nilfn _ _ _ hN2 (by omega) (by omega)).mono ?_
  rintro e w3 ⟨rfl, hN3, hg3⟩
  have hB3 := below_grown hB2 hg3 (by omega) hB2.size
  go_wp2_with fail
  refine (made_at _ _ _ _ _ _ _ _ hN3).mono ?_
  rintro e w' ⟨rfl, rfl⟩
  go_wp2_with fail
  refine (lives_true _).mono ?_
  rintro e w4 ⟨rfl, hB4⟩
  go_wp2_with fail
  go_ret
  exact ⟨by simp, below_on hB3 hB4 (Nat.le_refl _)⟩
end Go.Proofs.Ytljlgphieefdmaa
