/- A plan in memory; contracts of week's New, Row, Total, at, Open. No statement of the seat is proved here. -/
import Derived.Test.YtndifinjdheceaaWeekS
namespace Go.Proofs.Ytndifinjdheceaa
set_option linter.unusedVariables false
set_option linter.unusedSimpArgs false
set_option linter.unusedSectionVars false
open Go Go.RowKit

theorem Sl.grownBy {w w' : World} {size n cap g : Nat} {ao : Option Addr} {xs : List Value} (h : Sl w size ao n cap xs) (hg : w.grownBy w' (some g)) (hne : xs ≠ [] → ∀ a, ao = some a → a.block ≠ g) : Sl w' size ao n cap xs :=
  ⟨h.len, h.le, h.max, h.none, fun j u hu => by
    obtain ⟨b, off, e, hc⟩ := h.cell j u hu
    refine ⟨b, off, e, ?_⟩
    have hb : w'.heap[b]? = w.heap[b]? := hg.block b (cell?_lt hc) (fun e2 => hne (by intro e3; subst e3; simp at hu) _ e (by simpa using e2))
    rw [World.cell?_of_block (w := w) hb]; exact hc⟩
def sumFn (p : Nat) : Value := .func (.func 27) #[.pointer (some ⟨p, 0, .none⟩)] #[]
/-- a plan at block p, its cell at block b -/
structure PL (p b : Nat) (ao : Option Addr) (cap : Nat) (l : List Sp) (W : World) : Prop where
  plan : W.heap[p]? = some (.cells #[.slice ao l.length cap, .pointer (some ⟨b, 0, .none⟩)] 46 (0, 0))
  row : Sps W ao cap l
  cell : (∃ y, Cl W b 0 0 0 y (sumFn p) (.slice none 0 0)) ∨ (∃ y so sc, Cl W b 0 1 1 y .nilFunc (.slice so (l.length + 1) sc) ∧ Is W so sc (sumsL l) ∧ (∀ a, so = some a → a.block ≠ b))
  rowb : (l.map spCells).flatten ≠ [] → ∀ a, ao = some a → a.block ≠ b
  ne : p ≠ b
  err : weekErr l = 0
theorem PL.below {p b cap : Nat} {ao : Option Addr} {l : List Sp} {W W' : World} (h : PL p b ao cap l W) (hb : Below W.heap.size W W') : PL p b ao cap l W' :=
  ⟨(hb.block p (Array.getElem?_eq_some_iff.1 h.plan).1).trans h.plan, h.row.below hb, by
    rcases h.cell with ⟨y, c⟩ | ⟨y, so, sc, c, d, e⟩
    · exact .inl ⟨y, cl_below c hb⟩
    · exact .inr ⟨y, so, sc, cl_below c hb, d.below hb, e⟩, h.rowb, h.ne, h.err⟩
theorem PL.drew {p b cap : Nat} {ao : Option Addr} {l : List Sp} {W : World} (h : PL p b ao cap l W) : PL p b ao cap l W.drew := h.below (below_drew (Below.refl _ _))
theorem PL.cells {p b cap : Nat} {ao : Option Addr} {l : List Sp} {W : World} (h : PL p b ao cap l W) : W.cell? ⟨p, 0, none⟩ = some (.slice ao l.length cap) ∧ W.cell? ⟨p, 1, none⟩ = some (.pointer (some ⟨b, 0, none⟩)) := by
  have c0 := block_cell h.plan 0
  have c1 := block_cell h.plan 1
  simp at c0 c1
  exact ⟨c0, c1⟩
theorem PL.lt {p b cap : Nat} {ao : Option Addr} {l : List Sp} {W : World} (h : PL p b ao cap l W) : b < W.heap.size := by
  rcases h.cell with ⟨y, c⟩ | ⟨y, so, sc, c, d, e⟩ <;> exact (Array.getElem?_eq_some_iff.1 c).1
theorem sp_in {ao : Option Addr} {cap : Nat} {l : List Sp} {W : World} (h : Sps W ao cap l) (i : Nat) (hi : i < l.length) :
    ∃ b off, ao = some ⟨b, off, .none⟩ ∧ W.cell? ⟨b, off + i * 2, .none⟩ = some (.int .i64 l[i].a) ∧ W.cell? ⟨b, off + i * 2 + 1, .none⟩ = some (.int .i64 l[i].b) := h.get i hi
theorem is_in {ao : Option Addr} {cap : Nat} {l : List Sp} {W : World} (h : Is W ao cap (sumsL l)) (i : Nat) (hi : i ≤ l.length) :
    ∃ b off, ao = some ⟨b, off, .none⟩ ∧ W.cell? ⟨b, off + i, .none⟩ = some (.int .i64 (lenL (l.take i))) := by
  obtain ⟨b, off, e, hc⟩ := h.get i (by rw [sumsL_len]; omega)
  rw [sumsL_at l i (by omega)] at hc
  exact ⟨b, off, e, hc⟩
/-- what Get tells -/
def Got (p b : Nat) (ao : Option Addr) (cap : Nat) (l : List Sp) (W : World) (e : Ending) (W' : World) : Prop :=
  (∃ so sc, e = .returned (.slice so (l.length + 1) sc) ∧ Is W' so sc (sumsL l)) ∧ PL p b ao cap l W' ∧ W.grownBy W' (some b)
set_option maxRecDepth 100000 in
theorem get_pl {p b cap : Nat} {ao : Option Addr} {l : List Sp} (W : World) (h : PL p b ao cap l W) :
    Calls Try.prog 30 #[.pointer (some ⟨b, 0, none⟩)] W (Got p b ao cap l W) := by
  have hbl := h.lt
  have hplt := (Array.getElem?_eq_some_iff.1 h.plan).1
  rcases h.cell with ⟨y, c⟩ | ⟨y, so, sc, c, d, e⟩
  · refine (get_fn 27 #[.pointer (some ⟨p, 0, .none⟩)] (enters_of Try.func27 (by kernel_rfl) rfl) W b y _ (fun v w1 => ∃ so sc, v = .slice so (l.length + 1) sc ∧ w1.ownsRow W.heap.size 2 1 (.slice so (l.length + 1) sc) (l.length + 1) ((sumsL l).map iCell).flatten ∧ W.grownBy w1 (some b)) c ?_).mono ?_
    · intro W1 y1 hg hc1
      have hp1 : W1.heap[p]? = some (.cells #[.slice ao l.length cap, .pointer (some ⟨b, 0, .none⟩)] 46 (0, 0)) := (hg.block p hplt (fun e => h.ne (by simpa using e))).trans h.plan
      refine (sums_any p b ao cap l W1 h.err hp1 (Sl.grownBy h.row hg h.rowb)).mono ?_
      rintro e w1 ⟨so, sc, rfl, hown, hb⟩
      exact ⟨_, rfl, ⟨so, _, sc, rfl⟩, cl_below hc1 hb, so, sc, rfl, own_base hown hg.size, grown_trans hg (grown_below hb)⟩
    · rintro e W' ⟨v, rfl, ⟨y', hc'⟩, w1, ⟨so, sc, rfl, hown, hg⟩, hg2⟩
      have hgg := grown_trans hg hg2
      have hsb : ∀ a, so = some a → a.block ≠ b := by
        intro a ha
        have := (hown.lt a.block (by rw [ha]; rfl)).1
        omega
      have his : Is w1 so sc (sumsL l) := by
        have h3 := Sl.of_own hown
        unfold Is
        rw [sumsL_len, ← iCells]; exact h3
      have his2 : Is W' so sc (sumsL l) := Sl.grownBy his hg2 (fun _ => hsb)
      exact ⟨⟨so, sc, rfl, his2⟩, ⟨(hgg.block p hplt (fun e => h.ne (by simpa using e))).trans h.plan, Sl.grownBy h.row hgg h.rowb, .inr ⟨y', so, sc, hc', his2, hsb⟩, h.rowb, h.ne, h.err⟩, hgg⟩
  · refine (get_again W b 0 1 y _ _ c).mono ?_
    rintro e' W' ⟨rfl, ⟨y', hc'⟩, hg⟩
    have his2 : Is W' so sc (sumsL l) := Sl.grownBy d hg (fun _ => e)
    exact ⟨⟨so, sc, rfl, his2⟩, ⟨(hg.block p hplt (fun e => h.ne (by simpa using e))).trans h.plan, Sl.grownBy h.row hg h.rowb, .inr ⟨y', so, sc, hc', his2, e⟩, h.rowb, h.ne, h.err⟩, hg⟩

theorem none_pl {p b cap : Nat} {ao : Option Addr} {l : List Sp} (W : World) (h : PL p b ao cap l W) :
    Calls Try.prog 28 #[.pointer (some ⟨p, 0, none⟩)] W fun e W' => e = .returned (.bool false) ∧ W = W' := by
  obtain ⟨c0, c1⟩ := h.cells
  go_enter Try.func28, Try.ntmps28
  go_wp2
  go_ret
  exact ⟨rfl, rfl⟩
theorem at_pl {p b cap : Nat} {ao : Option Addr} {l : List Sp} (t : Int) (W : World) (h : PL p b ao cap l W) :
    Calls Try.prog 32 #[.pointer (some ⟨p, 0, none⟩), .int .i64 t] W fun e W' => e = .returned (.int .i64 (nextI l t : Nat)) ∧ Below W.heap.size W W' := by
  obtain ⟨c0, c1⟩ := h.cells
  have H := bsf_any ao cap l t W (week_row h.err).1 h.row
  go_enter Try.func32, Try.ntmps32
  go_wp2_with fail
  refine H.mono ?_
  rintro e W2 ⟨rfl, hb⟩
  go_wp2_with fail
  go_ret
  exact ⟨rfl, hb⟩
theorem row_pl {p b cap : Nat} {ao : Option Addr} {l : List Sp} (W : World) (h : PL p b ao cap l W) :
    Calls Try.prog 22 #[.pointer (some ⟨p, 0, none⟩)] W fun e W' => (∃ ao' cap', e = .returned (.slice ao' l.length cap') ∧ Sps W' ao' cap' l) ∧ Below W.heap.size W W' := by
  obtain ⟨c0, c1⟩ := h.cells
  have hl := (row_chain (week_row h.err).1).2
  go_enter Try.func22, Try.ntmps22
  go_wp2_with fail
  refine (none_pl W h).mono ?_
  rintro e W2 ⟨rfl, rfl⟩
  go_wp2_with fail
  refine (clone_any ao cap l W (by omega) h.row).mono ?_
  rintro e W2 ⟨⟨ao', cap', rfl, hs'⟩, hb⟩
  go_wp2_with fail
  go_ret
  exact ⟨⟨ao', cap', rfl, hs'⟩, hb⟩
/-- what methods that ask the cell leave -/
def Kept (p b : Nat) (ao : Option Addr) (cap : Nat) (l : List Sp) (W : World) (W' : World) : Prop := PL p b ao cap l W' ∧ W.grownBy W' (some b)
set_option maxHeartbeats 1000000 in
theorem total_pl {p b cap : Nat} {ao : Option Addr} {l : List Sp} (W : World) (h : PL p b ao cap l W) :
    Calls Try.prog 18 #[.pointer (some ⟨p, 0, none⟩)] W fun e W' => e = .returned (.int .i64 (lenL l)) ∧ Kept p b ao cap l W W' := by
  obtain ⟨c0, c1⟩ := h.cells
  have hl := (row_chain (week_row h.err).1).2
  have l0 : (0 : Int) ≤ (l.length : Int) := by omega
  have l1 : (l.length : Int) < (l.length : Int) + 1 := by omega
  obtain ⟨T, hT⟩ : ∃ T, T = lenL l := ⟨_, rfl⟩
  have HT := Lib.hid hT
  rw [← hT]
  clear hT
  go_enter Try.func18, Try.ntmps18
  go_wp2_with fail
  refine (none_pl W h).mono ?_
  rintro e W2 ⟨rfl, rfl⟩
  go_wp2_with fail
  go_region_law ((go_simp; go_at_call 30; refine (get_pl (p := p) (ao := ao) (cap := cap) (l := l) _ h.drew).mono ?_; rintro e W2 ⟨⟨so, sc, rfl, hI⟩, hP2, hg2⟩; obtain ⟨g, goff, rfl, d0⟩ := is_in hI l.length (Nat.le_refl _); rw [List.take_length, ← HT.out] at d0; obtain ⟨e0, e1⟩ := hP2.cells))
  all_goals
    go_wp2_with fail
    go_ret
    exact ⟨rfl, hP2, grown_trans (grown_drew (World.grownBy.refl _ _)) hg2⟩
end Go.Proofs.Ytndifinjdheceaa
