/- Contract of week's New; week's methods at a plan that nobody made. No statement of the seat is proved here. -/
import Derived.Test.YtndifinjdheceaaWeekQ
namespace Go.Proofs.Ytndifinjdheceaa
set_option linter.unusedVariables false
set_option linter.unusedSimpArgs false
set_option linter.unusedSectionVars false
open Go Go.RowKit

/-- a plan that is nil, or that no call made -/
def NoPlan (w : World) (v : Value) : Prop := v = .pointer none ∨ ∃ g, v = .pointer (some ⟨g, 0, .none⟩) ∧ w.cell? ⟨g, 1, none⟩ = some (.pointer none)
theorem none_no (v : Value) (w : World) (h : NoPlan w v) : Calls Try.prog 28 #[v] w fun e W' => e = .returned (.bool true) ∧ w = W' := by
  rcases h with rfl | ⟨g, rfl, hc⟩
  · go_enter Try.func28, Try.ntmps28
    go_wp2
    go_ret
    exact ⟨rfl, rfl⟩
  · go_enter Try.func28, Try.ntmps28
    go_wp2
    go_ret
    exact ⟨rfl, rfl⟩
theorem total_no (v : Value) (w : World) (h : NoPlan w v) : Calls Try.prog 18 #[v] w fun e W' => e = .returned (.int .i64 0) ∧ w = W' := by
  go_enter Try.func18, Try.ntmps18
  go_wp2_with fail
  refine (none_no v w h).mono ?_
  rintro e W2 ⟨rfl, rfl⟩
  go_wp2_with fail
  go_ret
  exact ⟨rfl, rfl⟩
theorem row_no (v : Value) (w : World) (h : NoPlan w v) : Calls Try.prog 22 #[v] w fun e W' => e = .returned (.slice none 0 0) ∧ w = W' := by
  go_enter Try.func22, Try.ntmps22
  go_wp2_with fail
  refine (none_no v w h).mono ?_
  rintro e W2 ⟨rfl, rfl⟩
  go_wp2_with fail
  go_ret
  exact ⟨rfl, rfl⟩
theorem open_no (v : Value) (t : Int) (w : World) (h : NoPlan w v) : Calls Try.prog 17 #[v, .int .i64 t] w fun e W' => e = .returned (.bool false) ∧ w = W' := by
  go_enter Try.func17, Try.ntmps17
  go_wp2_with fail
  refine (none_no v w h).mono ?_
  rintro e W2 ⟨rfl, rfl⟩
  go_wp2_with fail
  go_ret
  exact ⟨rfl, rfl⟩
theorem until_no (v : Value) (t : Int) (w : World) (h : NoPlan w v) : Calls Try.prog 13 #[v, .int .i64 t] w fun e W' => e = .returned (.int .i64 0) ∧ w = W' := by
  go_enter Try.func13, Try.ntmps13
  go_wp2_with fail
  refine (none_no v w h).mono ?_
  rintro e W2 ⟨rfl, rfl⟩
  go_wp2_with fail
  go_ret
  exact ⟨rfl, rfl⟩
theorem between_no (v : Value) (f t : Int) (w : World) (h : NoPlan w v) : Calls Try.prog 15 #[v, .int .i64 f, .int .i64 t] w fun e W' => e = .returned (.int .i64 0) ∧ w = W' := by
  have h2 := h
  rcases h2 with rfl | ⟨g, rfl, hc⟩
  all_goals
    go_enter Try.func15, Try.ntmps15
    go_wp2_with fail
    refine (until_no _ t w h).mono ?_
    rintro e W2 ⟨rfl, rfl⟩
    go_wp2_with fail
    refine (until_no _ f w h).mono ?_
    rintro e W2 ⟨rfl, rfl⟩
    go_wp2_with fail
    go_ret
    exact ⟨rfl, rfl⟩
theorem nth_no (v : Value) (n : Int) (w : World) (h : NoPlan w v) : Calls Try.prog 11 #[v, .int .i64 n] w fun e W' => e = .returned (.tuple #[.int .i64 0, .int .i64 1]) ∧ w = W' := by
  go_enter Try.func11, Try.ntmps11
  go_wp2_with fail
  refine (total_no v w h).mono ?_
  rintro e W2 ⟨rfl, rfl⟩
  go_wp2_with fail
  refine (none_no v w h).mono ?_
  rintro e W2 ⟨rfl, rfl⟩
  go_wp2_with fail
  refine bodyPost_ret (v := .tuple #[.int .i64 0, .int .i64 1]) (by simp [results, Try.results11, go_sem]) rfl ?_
  exact ⟨rfl, rfl⟩

theorem new_no (ao : Option Addr) (cap : Nat) (l : List Sp) (w : World) (hs : Sps w ao cap l) (h : weekErr l ≠ 0) :
    Calls Try.prog 10 #[.slice ao l.length cap] w fun e W' => e = .returned (.tuple #[.pointer none, .int .i64 (weekErr l : Nat)]) ∧ Below w.heap.size w W' := by
  have hrow := row_any ao cap l w hs
  by_cases h0 : rowErr l = 0
  · have hn : 0 < l.length := by
      cases l with
      | nil => exact absurd rfl h
      | cons s l => simp
    have hal := any_last h0 hn
    have hE : weekErr l = if decide (604800 < (l[l.length - 1]'(by omega)).b) = true then 2 else 0 := by unfold weekErr; rw [if_pos h0, hal]
    have hlast : 604800 < (l[l.length - 1]'(by omega)).b := by
      apply Classical.byContradiction
      intro hc
      rw [hE, if_neg (by simpa using hc)] at h
      exact h rfl
    rw [if_pos (by simpa using hlast)] at hE
    rw [hE]
    have hln := (row_chain h0).2
    obtain ⟨k, hk⟩ : ∃ k, l.length = k + 1 := ⟨l.length - 1, by omega⟩
    have hk1 : k < l.length := by omega
    have hlk : 604800 < l[k].b := by
      have : l.length - 1 = k := by omega
      simp only [this] at hlast
      exact hlast
    have hcell := fun W' (h' : Sps W' ao cap l) => sp_in h' k hk1
    obtain ⟨s, hsd⟩ : ∃ s, s = l[k] := ⟨_, rfl⟩
    simp only [← hsd] at hcell hlk
    have Hcell := Lib.hid hcell
    rw [h0] at hrow
    rw [hk] at hrow hln ⊢
    obtain ⟨x, y⟩ := s
    simp only at hlk
    have s1 : IntKind.i64.wrap (k : Int) = (k : Int) := IntWalk.i64_in _ (by omega)
    have s2 : IntKind.i64.wrap ((k : Int) + 1 - 1) = (k : Int) := by rw [show (k : Int) + 1 - 1 = (k : Int) from by omega]; exact s1
    have i0 : (0 : Int) ≤ (k : Int) := by omega
    have i1 : (k : Int) < (k : Int) + 1 := by omega
    clear hsd hlast hE hal hn hcell h hk
    go_enter Try.func10, Try.ntmps10
    go_wp2_with fail
    refine hrow.mono ?_
    rintro e w1 ⟨rfl, hb1⟩
    obtain ⟨g, off, rfl, g0, g1⟩ := Hcell.out w1 (hs.below hb1)
    go_wp2_with fail
    refine bodyPost_ret (v := .tuple #[.pointer none, .int .i64 2]) (by simp [results, Try.results10, go_sem]) rfl ?_
    exact ⟨rfl, hb1⟩
  · have hE : weekErr l = rowErr l := by unfold weekErr; rw [if_neg h0]
    rw [hE]
    have h1 : ((rowErr l : Nat) : Int) ≠ 0 := by omega
    generalize rowErr l = r at *
    go_enter Try.func10, Try.ntmps10
    go_wp2_with fail
    refine hrow.mono ?_
    rintro e w1 ⟨rfl, hb1⟩
    go_wp2_with fail
    refine bodyPost_ret (v := .tuple #[.pointer none, .int .i64 (r : Nat)]) (by simp [results, Try.results10, go_sem]) rfl ?_
    exact ⟨rfl, hb1⟩
/-- what New leaves of a plan's row -/
def Made (l : List Sp) (w : World) (e : Ending) (w' : World) : Prop :=
  ∃ p b ao cap, e = .returned (.tuple #[.pointer (some ⟨p, 0, .none⟩), .int .i64 0]) ∧ PL p b ao cap l w' ∧ w.heap.size ≤ b ∧ Below w.heap.size w w'
theorem made_of {l : List Sp} {w w2 w3 : World} {ao : Option Addr} {cap n : Nat} (h : weekErr l = 0) (hn : n = l.length) (hs : Sps w2 ao cap l) (hb : Below w.heap.size w w2)
    (hw3 : w3 = (w2.alloc (.cells #[.slice ao n cap, .pointer none] 46)).alloc (.cells #[.int .u32 0, .int .i32 0, .int .u32 0, .int .u32 0, .int .i64 0, sumFn w2.heap.size, .slice none 0 0] 78)) :
    Made l w (.returned (.tuple #[.pointer (some ⟨w2.heap.size, 0, .none⟩), .int .i64 0])) (w3.setCell ⟨w2.heap.size, 1, none⟩ (.pointer (some ⟨w2.heap.size + 1, 0, none⟩))) := by
  subst hn
  have hp : w3.heap[w2.heap.size]? = some (.cells #[.slice ao l.length cap, .pointer none] 46 (0, 0)) := by
    rw [hw3]; exact (heap_alloc_old _ _ (by simp)).trans (heap_alloc_new _ _)
  have hc : Cl w3 (w2.heap.size + 1) 0 0 0 0 (sumFn w2.heap.size) (.slice none 0 0) := by
    rw [hw3]
    have := cl_new (w2.alloc (.cells #[.slice ao l.length cap, .pointer none] 46)) (sumFn w2.heap.size)
    rw [show (w2.alloc (.cells #[.slice ao l.length cap, .pointer none] 46)).heap.size = w2.heap.size + 1 by simp] at this
    exact this
  have hz3 : w3.heap.size = w2.heap.size + 2 := by rw [hw3]; simp
  have hb3 : Below w2.heap.size w2 w3 := by rw [hw3]; exact (below_new _ _).alloc (by simp) _
  have hb4 : Below w2.heap.size w2 (w3.setCell ⟨w2.heap.size, 1, none⟩ (.pointer (some ⟨w2.heap.size + 1, 0, none⟩))) := hb3.setCell (p := ⟨w2.heap.size, 1, none⟩) (Nat.le_refl _) _
  have hsz := hb.size
  have hrb : (l.map spCells).flatten ≠ [] → ∀ a, ao = some a → a.block ≠ w2.heap.size + 1 := by
    intro hne a ha e
    cases l with
    | nil => exact hne rfl
    | cons s l =>
      obtain ⟨g, off, e2, g0, -⟩ := sp_in hs 0 (by simp)
      rw [e2] at ha
      simp only [Option.some.injEq] at ha
      have := cell?_lt g0
      rw [← ha] at e
      simp only at e this
      omega
  refine ⟨w2.heap.size, w2.heap.size + 1, ao, cap, rfl, ⟨?_, hs.below hb4, .inl ⟨0, ?_⟩, hrb, by omega, h⟩, by omega, below_on hb hb4 (Nat.le_refl _)⟩
  · exact block_set hp 1 _
  · exact (heap_setCell_other w3 ⟨w2.heap.size, 1, none⟩ _ _ (by simp)).trans hc
theorem new_ok (ao : Option Addr) (cap : Nat) (l : List Sp) (w : World) (hs : Sps w ao cap l) (h : weekErr l = 0) :
    Calls Try.prog 10 #[.slice ao l.length cap] w (Made l w) := by
  have hrow := row_any ao cap l w hs
  obtain ⟨h0, hw⟩ := week_row h
  have hln := (row_chain h0).2
  rw [h0] at hrow
  by_cases hn : 0 < l.length
  · obtain ⟨k, hk⟩ : ∃ k, l.length = k + 1 := ⟨l.length - 1, by omega⟩
    have hk1 : k < l.length := by omega
    have hlk := hw _ (List.getElem_mem hk1)
    have hcell := fun W' (h' : Sps W' ao cap l) => sp_in h' k hk1
    obtain ⟨s, hsd⟩ : ∃ s, s = l[k] := ⟨_, rfl⟩
    simp only [← hsd] at hcell hlk
    have Hcell := Lib.hid hcell
    have hcl := fun W' (h' : Sps W' ao cap l) => clone_any ao cap l W' (by omega) h'
    rw [hk] at hrow hln ⊢
    simp only [hk] at hcl
    have Hcl := Lib.hid hcl
    have Hk := Lib.hid hk
    obtain ⟨x, y⟩ := s
    simp only at hlk
    have s1 : IntKind.i64.wrap (k : Int) = (k : Int) := IntWalk.i64_in _ (by omega)
    have s2 : IntKind.i64.wrap ((k : Int) + 1 - 1) = (k : Int) := by rw [show (k : Int) + 1 - 1 = (k : Int) from by omega]; exact s1
    have i0 : (0 : Int) ≤ (k : Int) := by omega
    have i1 : (k : Int) < (k : Int) + 1 := by omega
    clear hsd hn hcell hk hcl
    go_enter Try.func10, Try.ntmps10
    go_wp2_with fail
    refine hrow.mono ?_
    rintro e w1 ⟨rfl, hb1⟩
    obtain ⟨g, off, hao, g0, g1⟩ := Hcell.out w1 (hs.below hb1)
    subst hao
    go_wp2_with fail
    refine (Hcl.out w1 (hs.below hb1)).mono ?_
    rintro e w2 ⟨⟨ao2, cap2, rfl, hs2⟩, hb2⟩
    go_wp2_with fail
    refine (new_fn _ _ _).mono ?_
    rintro e w3 ⟨rfl, hw3⟩
    have hp : w3.heap[w2.heap.size]? = some (.cells #[.slice ao2 (k + 1) cap2, .pointer none] 46 (0, 0)) := by
      rw [hw3]; exact (heap_alloc_old _ _ (by simp)).trans (heap_alloc_new _ _)
    have p1 := block_cell hp 1
    have f1 := block_free hp 1
    simp at p1
    have hfin := made_of h Hk.out.symm hs2 (below_on hb1 hb2 (Nat.le_refl _)) hw3
    clear hw3
    go_wp2_with fail
    refine bodyPost_ret (v := .tuple #[.pointer (some ⟨w2.heap.size, 0, .none⟩), .int .i64 0]) (by simp [results, Try.results10, go_sem]) rfl ?_
    exact hfin
  · have hk : l.length = 0 := by omega
    have hcl := fun W' (h' : Sps W' ao cap l) => clone_any ao cap l W' (by omega) h'
    rw [hk] at hrow ⊢
    simp only [hk] at hcl
    have Hcl := Lib.hid hcl
    have Hk := Lib.hid hk
    clear hcl hk hln hn h0
    go_enter Try.func10, Try.ntmps10
    go_wp2_with fail
    refine hrow.mono ?_
    rintro e w1 ⟨rfl, hb1⟩
    go_wp2_with fail
    refine (Hcl.out w1 (hs.below hb1)).mono ?_
    rintro e w2 ⟨⟨ao2, cap2, rfl, hs2⟩, hb2⟩
    go_wp2_with fail
    refine (new_fn _ _ _).mono ?_
    rintro e w3 ⟨rfl, hw3⟩
    have hp : w3.heap[w2.heap.size]? = some (.cells #[.slice ao2 0 cap2, .pointer none] 46 (0, 0)) := by
      rw [hw3]; exact (heap_alloc_old _ _ (by simp)).trans (heap_alloc_new _ _)
    have p1 := block_cell hp 1
    have f1 := block_free hp 1
    simp at p1
    have hfin := made_of h Hk.out.symm hs2 (below_on hb1 hb2 (Nat.le_refl _)) hw3
    clear hw3
    go_wp2_with fail
    refine bodyPost_ret (v := .tuple #[.pointer (some ⟨w2.heap.size, 0, .none⟩), .int .i64 0]) (by simp [results, Try.results10, go_sem]) rfl ?_
    exact hfin
end Go.Proofs.Ytndifinjdheceaa
