/- Contracts of a table: Len, At. No statement of the seat is proved here. -/
import Derived.Test.YtljlgphieefdmaaLazyT
namespace Go.Proofs.Ytljlgphieefdmaa
set_option linter.unusedVariables false
set_option linter.unusedSimpArgs false
set_option linter.unusedSectionVars false
open Go Go.RowKit Go.Shelf

theorem tlen_at (w : World) (T : Nat) (ao : Option Addr) (n cap : Nat) (made : Int) (h : w.heap[T]? = some (.cells #[.slice ao n cap, .int .i64 made] 62 (0, 0))) :
    Calls Try.prog 16 #[.pointer (some ⟨T, 0, none⟩)] w fun e w' => e = .returned (.int .i64 n) ∧ w = w' := by
  have c0 := block_cell h 0
  simp at c0
  go_enter Try.func16, Try.ntmps16
  go_wp2
  go_ret
  exact ⟨rfl, rfl⟩
theorem tmade_at (w : World) (T : Nat) (ao : Option Addr) (n cap : Nat) (made : Int) (h : w.heap[T]? = some (.cells #[.slice ao n cap, .int .i64 made] 62 (0, 0))) :
    Calls Try.prog 17 #[.pointer (some ⟨T, 0, none⟩)] w fun e w' => e = .returned (.int .i64 made) ∧ w = w' := by
  have c0 := block_cell h 1
  simp at c0
  go_enter Try.func17, Try.ntmps17
  go_wp2_with (go_at_call 27; refine (iload ⟨T, 1, none⟩ made _ c0).mono ?_; rintro e w' ⟨rfl, rfl⟩)
  go_ret
  exact ⟨rfl, rfl⟩
theorem tat_out (w : World) (T : Nat) (ao : Option Addr) (n cap : Nat) (made i : Int) (h : w.heap[T]? = some (.cells #[.slice ao n cap, .int .i64 made] 62 (0, 0))) (hi : i < 0 ∨ (n : Int) ≤ i) :
    Calls Try.prog 12 #[.pointer (some ⟨T, 0, none⟩), .int .i64 i] w fun e w' => e = .returned (.tuple #[.int .i64 0, .bool false]) ∧ w = w' := by
  by_cases h0 : i < 0
  · go_enter Try.func12, Try.ntmps12
    go_wp2
    go_ret2
    exact ⟨rfl, rfl⟩
  · have hn : (n : Int) ≤ i := by omega
    clear hi
    go_enter Try.func12, Try.ntmps12
    go_wp2_with (go_at_call 16; refine (tlen_at _ T ao n cap made h).mono ?_; rintro e w' ⟨rfl, rfl⟩)
    go_ret2
    exact ⟨rfl, rfl⟩
/-- At, of a row that is there: Get of its cell -/
theorem tat_in (w : World) (T : Nat) (L : List (Nat × Nat)) (base : Nat) (made v : Int) (i : Nat) (p : Nat × Nat) (R : World → Prop) (h : TabT base w T L made) (hL : L.length ≤ 70000) (hi : L[i]? = some p)
    (hg : Calls Try.prog 10 #[.pointer (some ⟨p.1, 0, none⟩)] w fun e w' => e = .returned (.int .i64 v) ∧ R w') :
    Calls Try.prog 12 #[.pointer (some ⟨T, 0, none⟩), .int .i64 i] w fun e w' => e = .returned (.tuple #[.int .i64 v, .bool true]) ∧ R w' := by
  obtain ⟨ao, cap, hT, hown⟩ := h
  have c0 := block_cell hT 0
  simp at c0
  have hlt : i < L.length := (List.getElem?_eq_some_iff.1 hi).1
  have hs := Sl.of_own hown
  obtain ⟨b, off, rfl, hc⟩ := hs.cell i (.pointer (some ⟨p.1, 0, none⟩)) (by simp [hi])
  have H := Lib.hid hg
  have Hi := Lib.hid hi
  have HT := Lib.hid hT
  clear hg hi hT hown hs
  go_enter Try.func12, Try.ntmps12
  go_wp2_with (first
    | (go_at_call 16; refine (tlen_at _ T _ L.length cap made HT.out).mono ?_; rintro e w' ⟨rfl, rfl⟩)
    | (go_at_call 10; refine H.out.mono ?_; rintro e w' ⟨rfl, hR⟩))
  go_ret2
  exact ⟨rfl, hR⟩

/-- the closure of a row, of a table without a function -/
theorem rows1_nil (w : World) (T tb rb ib : Nat) (sl : Value) (made : Int) (ht : w.heap[tb]? = some (.cells #[.pointer (some ⟨T, 0, none⟩)] 48 (0, 0))) (hr : w.heap[rb]? = some (.cells #[.nilFunc] 56 (0, 0)))
    (hT : w.heap[T]? = some (.cells #[sl, .int .i64 made] 62 (0, 0))) (h0 : 0 ≤ made) (h1 : made < 9223372036854775807) (hne : rb ≠ T) :
    Calls Try.prog 28 #[.pointer (some ⟨tb, 0, none⟩), .pointer (some ⟨rb, 0, none⟩), .pointer (some ⟨ib, 0, none⟩)] w fun e w' => e = .returned (.int .i64 0) ∧ w' = w.setCell ⟨T, 1, none⟩ (.int .i64 (made + 1)) := by
  have c0 := block_cell ht 0
  have c1 := block_cell hT 1
  have f1 := block_free hT 1
  have r0 := block_cell hr 0
  simp at c0 c1 r0
  have r1 : (w.setCell ⟨T, 1, none⟩ (.int .i64 (made + 1))).cell? ⟨rb, 0, none⟩ = some .nilFunc := by
    have := block_cell ((heap_setCell_other w ⟨T, 1, none⟩ rb (.int .i64 (made + 1)) (by simpa using hne)).trans hr) 0
    simpa using this
  have hq := eql_nil
  go_enter Try.func28, Try.ntmps28
  go_wp2_with (go_at_call 22; refine (iadd ⟨T, 1, none⟩ made _ c1 f1 h0 h1).mono ?_; rintro e w' ⟨rfl, rfl⟩)
  go_ret
  exact ⟨rfl, rfl⟩
/-- At, the first time, of a table without a function -/
theorem tat_nil1 (base : Nat) (w : World) (T tb rb : Nat) (L : List (Nat × Nat)) (i : Nat) (hi : i < L.length) (hL : L.length ≤ 70000) (hT : TabT base w T L 0) (hC : TabC base w T tb rb .nilFunc L (fun _ => false) (fun _ => 0) 0) (hb : base ≤ T) (hbw : base ≤ w.heap.size) :
    Calls Try.prog 12 #[.pointer (some ⟨T, 0, none⟩), .int .i64 i] w fun e w' => e = .returned (.tuple #[.int .i64 0, .bool true]) ∧ (∃ ao cap, w'.heap[T]? = some (.cells #[.slice ao L.length cap, .int .i64 1] 62 (0, 0))) ∧ Below base w w' := by
  have hget : L[i]? = some L[i] := List.getElem?_eq_getElem hi
  have hcl : Cl w L[i].1 0 0 0 0 (rowFn tb rb L[i].2) 0 := by
    rcases hC.cell i _ hget with ⟨_, h⟩ | ⟨h, _⟩
    · exact h
    · cases h
  have hlow := (hC.low.2.2 _ (List.getElem_mem hi)).1
  refine tat_in w T L base 0 0 i L[i] _ hT hL hget ?_
  obtain ⟨ao, cap, hT1, hown⟩ := hT
  refine (get_fn 28 _ (enters_of Try.func28 (by kernel_rfl) rfl) w L[i].1 0 0 (fun w1 => w1.heap[T]? = some (.cells #[.slice ao L.length cap, .int .i64 1] 62 (0, 0)) ∧ Below base w w1) hcl (by omega) (by omega) ?_).mono ?_
  · intro W hg hW
    have K := keeps_grown hg (elem?_of hcl)
    have hT2 := K _ _ _ (by decide) hT1
    have ht2 := K _ _ _ (by decide) hC.t
    have hr2 := K _ _ _ (by decide) hC.r
    have hBW := below_grown (Below.refl base w) hg hlow hbw
    refine (rows1_nil W T tb rb _ _ 0 ht2 hr2 hT2 (by omega) (by omega) (fun e => by rw [e, hT2] at hr2; simp at hr2)).mono ?_
    rintro e w1 ⟨rfl, rfl⟩
    refine ⟨rfl, ?_, ?_, ?_⟩
    · exact keeps_set W T 1 _ hT2 _ _ _ (by decide) hW
    · have := block_set hT2 1 (.int .i64 (0 + 1))
      simpa using this
    · exact below_grown hBW (grown_set _ _ _ _) hb (Nat.le_trans hbw hBW.size)
  · rintro e w' ⟨rfl, hc', w1, ⟨h1, h2⟩, h3⟩
    refine ⟨rfl, ⟨ao, cap, ?_⟩, below_grown h2 h3 hlow (Nat.le_trans hbw h2.size)⟩
    have hne : T ≠ L[i].1 := fun e => by
      have := hcl
      unfold Cl at this
      rw [← e, hT1] at this
      simp at this
    exact (h3.block T (Array.getElem?_eq_some_iff.1 h1).1 (by simpa using hne)).trans h1
end Go.Proofs.Ytljlgphieefdmaa
