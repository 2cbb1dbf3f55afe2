/- Contracts of package reads: Take, Drop, and lives. No statement of the seat is proved here. -/
import Derived.Test.YtiboaafelabpfaaReadsC
namespace Go.Proofs.Ytiboaafelabpfaa
set_option linter.unusedVariables false
set_option linter.unusedSimpArgs false
set_option linter.unusedSectionVars false
open Go Go.RowKit

theorem take_nil (w : World) (x : Int) : Calls Try.prog 15 #[.pointer none, .int .u64 x] w fun e w' => e = .returned (.slice none 0 0) ∧ Below w.heap.size w w' := by
  go_enter Try.func15, Try.ntmps15
  go_wp2_with (go_at_call 22; refine (part_nil _ _).mono ?_; rintro e w1 ⟨rfl, rfl⟩)
  go_ret
  exact ⟨rfl, below_on (below_new _ _) (below_new _ _) (by simp)⟩
theorem take_not (w : World) (b : Nat) (begun sure x : Int) (ao : Option Addr) (n cap : Nat) (h : Q w b false begun sure ao n cap) :
    Calls Try.prog 15 #[.pointer (some ⟨b, 0, none⟩), .int .u64 x] w fun e w' => e = .returned (.slice none 0 0) ∧ Below w.heap.size w w' := by
  have hbz : b < w.heap.size := (Array.getElem?_eq_some_iff.1 h).1
  have h2 : Q ((w.alloc (.cells #[.pointer (some ⟨b, 0, none⟩)] 24)).alloc (.cells #[.int .u64 x] 26)) b false begun sure ao n cap :=
    (heap_alloc_old _ _ (by simp; omega)).trans ((heap_alloc_old _ _ hbz).trans h)
  go_enter Try.func15, Try.ntmps15
  go_wp2_with (go_at_call 22; refine (part_not _ _ b _ _ _ _ _ h2).mono ?_; rintro e w1 ⟨rfl, rfl⟩)
  go_ret
  exact ⟨rfl, below_on (below_new _ _) (below_new _ _) (by simp)⟩
theorem drop_nil (w : World) : Calls Try.prog 16 #[.pointer none] w fun e w' => e = .returned (.slice none 0 0) ∧ w = w' := by
  go_enter Try.func16, Try.ntmps16
  go_wp2_with (go_at_call 22; refine (part_nil _ _).mono ?_; rintro e w1 ⟨rfl, rfl⟩)
  go_ret
  exact ⟨rfl, rfl⟩
theorem drop_not (w : World) (b : Nat) (begun sure : Int) (ao : Option Addr) (n cap : Nat) (h : Q w b false begun sure ao n cap) :
    Calls Try.prog 16 #[.pointer (some ⟨b, 0, none⟩)] w fun e w' => e = .returned (.slice none 0 0) ∧ w = w' := by
  go_enter Try.func16, Try.ntmps16
  go_wp2_with (go_at_call 22; refine (part_not _ _ b _ _ _ _ _ h).mono ?_; rintro e w1 ⟨rfl, rfl⟩)
  go_ret
  exact ⟨rfl, rfl⟩
theorem drop_at (w : World) (b : Nat) (begun sure : Int) (ao : Option Addr) (cap : Nat) (l : List Rd) (h : Q w b true begun sure ao l.length cap) (hw : Wait w ao cap l) (hn : l.length ≤ 1000) :
    Calls Try.prog 16 #[.pointer (some ⟨b, 0, none⟩)] w (Parted w b begun sure l (fun _ => true)) := by
  go_enter Try.func16, Try.ntmps16
  go_wp2_with (go_at_call 22; refine (part_drop _ b _ _ _ _ l _ h hw hn (drop_tells _ _)).mono ?_; rintro e w1 ⟨a1, c1, a2, c2, rfl, r1, r2, r3, r4⟩)
  go_ret
  exact ⟨a1, c1, a2, c2, rfl, r1, r2, r3, r4⟩
theorem take_at (w : World) (b : Nat) (begun sure x : Int) (ao : Option Addr) (cap : Nat) (l : List Rd) (h : Q w b true begun sure ao l.length cap) (hw : Wait w ao cap l) (hn : l.length ≤ 1000) :
    Calls Try.prog 15 #[.pointer (some ⟨b, 0, none⟩), .int .u64 x] w (Parted w b begun sure l (ripe sure x)) := by
  have hbz : b < w.heap.size := (Array.getElem?_eq_some_iff.1 h).1
  obtain ⟨W, hW⟩ : ∃ W, W = (w.alloc (.cells #[.pointer (some ⟨b, 0, none⟩)] 24)).alloc (.cells #[.int .u64 x] 26) := ⟨_, rfl⟩
  have hbel : Below w.heap.size w W := by rw [hW]; exact below_on (below_new _ _) (below_new _ _) (by simp)
  have h2 : Q W b true begun sure ao l.length cap := (hbel.block b hbz).trans h
  have k1 : W.cell? ⟨w.heap.size, 0, none⟩ = some (.pointer (some ⟨b, 0, none⟩)) := by
    rw [hW]
    exact ((below_new _ _).cell (by simp)).trans (cell?_new _ _ _ _ 0)
  have k2 : W.cell? ⟨w.heap.size + 1, 0, none⟩ = some (.int .u64 x) := by
    have := cell?_new (w.alloc (.cells #[.pointer (some ⟨b, 0, none⟩)] 24)) #[.int .u64 x] 26 (0, 0) 0
    rw [hW]
    simp
  have hz : W.heap.size = w.heap.size + 2 := by rw [hW]; simp
  have ht := take_tells W.heap.size W b w.heap.size (w.heap.size + 1) begun sure x ao l.length cap (by omega) h2 (by omega) k1 (by omega) k2
  have H := part_take W (some ⟨w.heap.size, 0, none⟩) (some ⟨w.heap.size + 1, 0, none⟩) b _ _ _ _ l _ h2 (hw.below hbel) hn ht
  have H' := Lib.hid H
  clear H ht k1 k2 h2 hz
  subst hW
  go_enter Try.func15, Try.ntmps15
  go_wp2_with (go_at_call 22; refine H'.out.mono ?_; rintro e w1 ⟨a1, c1, a2, c2, rfl, r1, r2, r3, r4⟩)
  go_ret
  exact ⟨a1, c1, a2, c2, rfl, r1, r2, r3, grown_trans (grown_below hbel) r4⟩
end Go.Proofs.Ytiboaafelabpfaa
