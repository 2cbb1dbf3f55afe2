/- The walk of lazy.Rows, of a function. No statement of the seat is proved here. -/
import Derived.Test.YtljlgphieefdmaaLazyT
import Derived.Deep.CutBlock
namespace Go.Proofs.Ytljlgphieefdmaa
set_option linter.unusedVariables false
set_option linter.unusedSimpArgs false
set_option linter.unusedSectionVars false
open Go Go.RowKit Go.Shelf
attribute [local go_sem ↓] Go.wp_at_zero Go.wp_at_succ

set_option maxRecDepth 100000 in
set_option maxHeartbeats 8000000 in
theorem rows_fn (n : Nat) (kf : Nat) (caps : Array Value) (w : World) (h : n ≤ 65536) :
    Calls Try.prog 19 #[.int .i64 n, (.func (.func kf) #[] caps : Value)] w fun e w' => ∃ L, e = .returned (.pointer (some ⟨w.heap.size + 1, 0, none⟩)) ∧ L.length = n ∧ TabT w.heap.size w' (w.heap.size + 1) L 0 ∧ TabC w.heap.size w' (w.heap.size + 1) (w.heap.size + 1 + 1) w.heap.size (.func (.func kf) #[] caps : Value) L (fun _ => false) (fun _ => 0) 0 ∧ Below w.heap.size w w' := by
  have hmf : ∀ (fn : Fn) (first cap : Array Value) (w : World), (Instr.makeFunc fn first cap).run Try.prog w = .ok (.func fn first cap) w := fun _ _ _ _ => rfl
  go_enter Try.func19, Try.ntmps19
  go_wp2
  have hb0 : Below w.heap.size w (((w.alloc (.cells #[(.func (.func kf) #[] caps : Value)] 56)).alloc (.cells #[.slice none 0 0, .int .i64 0] 62)).alloc (.cells #[.pointer (some ⟨w.heap.size + 1, 0, none⟩)] 48)) := below_on (below_on (below_new _ _) (below_new _ _) (by simp)) (below_new _ _) (by simp)
  go_loopw [17] (fun i wx => ∃ k : Nat, k ≤ n ∧ i = .int .i64 k ∧ ∃ L : List (Nat × Nat), L.length = k ∧ TabT w.heap.size wx (w.heap.size + 1) L 0 ∧ TabC w.heap.size wx (w.heap.size + 1) (w.heap.size + 1 + 1) w.heap.size (.func (.func kf) #[] caps : Value) L (fun _ => false) (fun _ => 0) 0 ∧ Below w.heap.size w wx) (fun i _ => n - (intOf i).toNat)
  case atStart => exact ⟨0, Nat.zero_le _, rfl, [], rfl, ⟨none, 0, (heap_alloc_old _ _ (by simp)).trans (blk_at _ _ _ (by simp)), World.ownsRow_nil _ _ _ _⟩, ⟨blk_at _ _ _ (by simp), (heap_alloc_old _ _ (by simp; omega)).trans ((heap_alloc_old _ _ (by simp)).trans (blk_at _ _ _ rfl)), by simp, by simp, ⟨by omega, by omega, by simp⟩, List.Pairwise.nil⟩, hb0⟩
  case round =>
    obtain ⟨k, hk, rfl, L, hL, ⟨ao, cap, hT, hown⟩, hC, hB⟩ := hrel
    by_cases hlt : k < n
    · have hR0 : RSt w (.func (.func kf) #[] caps : Value) L ao cap wr.heap.size k (wr.alloc (.cells #[.int .i64 k] 3)) := ⟨hC.below (below_new _ _), (heap_alloc_old _ _ (Array.getElem?_eq_some_iff.1 hT).1).trans hT, own_below hown (below_new _ _), heap_alloc_new _ _, below_on hB (below_new _ _) (Nat.le_refl _)⟩
      obtain ⟨W, hW1⟩ : ∃ W, W = wr.alloc (.cells #[.int .i64 k] 3) := ⟨_, rfl⟩
      rw [← hW1] at hR0
      have hz1 : W.heap.size = wr.heap.size + 1 := by rw [hW1]; simp
      have hlt1 : ∀ p ∈ L, p.1 < W.heap.size := fun p hp => by
        obtain ⟨j, hj⟩ := List.getElem?_of_mem hp
        have := hC.lt j p hj
        omega
      have hbs := hB.size
      have hcb : w.heap.size ≤ W.heap.size := by omega
      obtain ⟨e0, e1⟩ := hR0.cells
      have hLn : L.length ≤ 65536 := by omega
      have HL := Lib.hid hL
      have Hlt1 := Lib.hid hlt1
      clear hz1 hL hlt1 hC hT hown
      go_upto_block 1 with fail
      go_cut [17] (fun v17 wx => v17 = .int .i64 k ∧ TabT w.heap.size wx (w.heap.size + 1) (L ++ [(W.heap.size, wr.heap.size)]) 0 ∧ TabC w.heap.size wx (w.heap.size + 1) (w.heap.size + 1 + 1) w.heap.size (.func (.func kf) #[] caps : Value) (L ++ [(W.heap.size, wr.heap.size)]) (fun _ => false) (fun _ => 0) 0 ∧ Below w.heap.size w wx)
      case first =>
        go_wp2_with fail
        rw [← hW1]
        clear hW1
        go_region_law (first
          | (go_simp; go_at_call 8; refine (new_r (W := W.drew) W.heap.size rfl (RSt.below hR0 (below_dr (Below.refl _ _)))).mono ?_; rintro e w2 ⟨rfl, hR2, hcl2, ⟨e0, e1⟩, e0a, e1a⟩)
          | (refine step_rows (by rfl) (.tmp 24) (.tmp 27) (by rfl) (by rfl) (by rfl) hR2 hcl2 hLn ?_; intro g c3 w3 hF; obtain ⟨e0, e1, z1⟩ := hF.cells))
        all_goals
          go_wp2_with fail
          go_meet
          exact ⟨rfl, hF.fin HL.out Hlt1.out hcb hbs⟩
      case rest =>
        obtain ⟨rfl, hT', hC', hB'⟩ := hcut
        go_wp2_with fail
        go_roundw
        case rel => exact ⟨k + 1, by omega, by go_num, _, by have := HL.out; simp; omega, hT', hC', hB'⟩
        case measure => simp [intOf]; omega
    · obtain rfl : k = n := by omega
      have e0 := block_cell hC.t 0
      simp at e0
      have HL := Lib.hid hL
      clear hL
      go_wp2
      go_ret
      exact ⟨L, rfl, HL.out, ⟨ao, cap, hT, hown⟩, hC, hB⟩
end Go.Proofs.Ytljlgphieefdmaa
