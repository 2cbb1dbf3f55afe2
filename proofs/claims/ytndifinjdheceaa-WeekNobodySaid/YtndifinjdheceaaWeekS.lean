/- Contract of week's sums; a plan in memory, and what Get tells of it. No statement of the seat is proved here. -/
import Derived.Test.YtndifinjdheceaaWeekB
import Derived.Test.YtndifinjdheceaaWCell
import Derived.Laws.OwnMore
import Derived.Deep.RegionHeld3
import Derived.Deep.AppendLies
namespace Go.Proofs.Ytndifinjdheceaa
set_option linter.unusedVariables false
set_option linter.unusedSimpArgs false
set_option linter.unusedSectionVars false
open Go Go.RowKit

theorem infoI : (Try.prog.info? 2).map (fun i => (i.zero, i.size, i.bytes)) = some (some (.int .i64 0), 1, 8) := by kernel_rfl
def iCell (x : Int) : List Value := [.int .i64 x]
theorem iCells (l : List Int) : (l.map iCell).flatten = l.map (Value.int .i64) := by
  induction l with
  | nil => rfl
  | cons x l ih => simp only [List.map_cons, List.flatten_cons, ih]; rfl
theorem run_make1 (n : Nat) (hn : n ≤ 1000000) (w : World) : (Instr.makeSlice 54 (.int .i64 1) (.int .i64 ((n : Int) + 1))).run Try.prog w = .ok (.slice (some ⟨w.heap.size, 0, none⟩) 1 (n + 1)) (w.alloc (.cells (madeCells #[.int .i64 0] (n + 1)) 2)) := by
  obtain ⟨i, hi, hz, hs, hb⟩ := info_parts infoI
  have hr := run_make (P := Try.prog) w 54 2 i (.int .i64 0) Try.underlying54 hi hz .i64 .i64 1 ((n : Int) + 1) (by omega) (by omega) (by rw [hb]; omega) (by omega)
  rw [hr, hs]
  have e1 : ((n : Int) + 1).toNat = n + 1 := by omega
  rw [e1, Nat.mul_one]
  rfl
theorem own_made1 (w : World) (n : Nat) (hn : n ≤ 1000000) : (w.alloc (.cells (madeCells #[.int .i64 0] (n + 1)) 2)).ownsRow w.heap.size 2 1 (.slice (some ⟨w.heap.size, 0, none⟩) 1 (n + 1)) 1 [.int .i64 0] := by
  refine ⟨rfl, .inr ⟨w.heap.size, n + 1, madeCells #[.int .i64 0] (n + 1), rfl, Nat.le_refl _, heap_alloc_new w _, by omega, by unfold maxLen; omega, by rw [size_madeCells]; omega, ?_⟩⟩
  rw [toList_madeCells_one]
  simp [List.replicate_succ]
theorem sumsL_zero (l : List Sp) : (sumsL l).take 1 = [0] := by
  unfold sumsL
  rw [List.range_succ_eq_map]
  simp [lenL]
theorem sumsL_take (l : List Sp) (i : Nat) (hi : i < l.length) : (sumsL l).take (i + 2) = (sumsL l).take (i + 1) ++ [lenL (l.take (i + 1))] := by
  rw [List.take_succ_eq_append_getElem (i := i + 1) (by rw [sumsL_len]; omega), sumsL_at l (i + 1) (by omega)]
set_option maxRecDepth 100000 in
set_option maxHeartbeats 4000000 in
theorem sums_any (p b : Nat) (ao : Option Addr) (cap : Nat) (l : List Sp) (w : World) (h0 : weekErr l = 0) (hp : w.heap[p]? = some (.cells #[.slice ao l.length cap, .pointer (some ⟨b, 0, .none⟩)] 46 (0, 0))) (hs : Sps w ao cap l) :
    Calls Try.prog 27 #[.pointer (some ⟨p, 0, .none⟩)] w fun e w' => ∃ so sc, e = .returned (.slice so (l.length + 1) sc) ∧ w'.ownsRow w.heap.size 2 1 (.slice so (l.length + 1) sc) (l.length + 1) ((sumsL l).map iCell).flatten ∧ Below w.heap.size w w' := by
  obtain ⟨hr0, hw⟩ := week_row h0
  have hln := (row_chain hr0).2
  have hrt := rights_row hr0
  have hwk := total_week h0
  have hpc := block_cell hp 0
  simp at hpc
  have hln2 : (0 : Int) ≤ (l.length : Int) := by omega
  have hln3 : (l.length : Int) ≤ 32 := by omega
  have hmk := run_make1 l.length (by omega) w
  have hplt := cell?_lt hpc
  have hpc2 : (w.alloc (.cells (madeCells #[.int .i64 0] (l.length + 1)) 2)).cell? ⟨p, 0, none⟩ = some (.slice ao l.length cap) := ((below_new w _).cell hplt).trans hpc
  have hown0 := own_made1 w l.length (by omega)
  have hb0 := below_new w (.cells (madeCells #[.int .i64 0] (l.length + 1)) 2)
  obtain ⟨W1, hW1⟩ : ∃ W1, W1 = w.alloc (.cells (madeCells #[.int .i64 0] (l.length + 1)) 2) := ⟨_, rfl⟩
  rw [← hW1] at hpc2 hown0 hb0
  rw [← hW1] at hmk
  have HW1 := Lib.hid hW1
  clear hW1 h0 hr0
  go_enter Try.func27, Try.ntmps27
  go_wp2_with fail
  clear hmk
  go_loopw [3, 18] (fun v u wr => ∃ i : Nat, u = .int .i64 i ∧ i ≤ l.length ∧ ∃ so sc, v = .slice so (i + 1) sc ∧ wr.ownsRow w.heap.size 2 1 (.slice so (i + 1) sc) (i + 1) (((sumsL l).take (i + 1)).map iCell).flatten ∧ Below w.heap.size w wr) (fun _ u _ => l.length - (intOf u).toNat)
  case atStart => exact ⟨0, rfl, Nat.zero_le _, _, _, rfl, by rw [sumsL_zero]; exact hown0, hb0⟩
  case round =>
    obtain ⟨i, rfl, hi, so, sc, rfl, hown, hb⟩ := hrel
    by_cases hlt : i < l.length
    · obtain ⟨b', off, rfl, c0, c1⟩ := (hs.below hb).get i hlt
      have hx := hrt _ (List.getElem_mem hlt)
      have hsn := lenL_snoc l i hlt
      have htk := sumsL_take l i hlt
      have hle1 := lenL_pos (rights_take hrt i)
      have hle2 := lenL_mono hrt i l.length hi
      rw [List.take_length] at hle2
      obtain ⟨s, hsd⟩ : ∃ s, s = l[i] := ⟨_, rfl⟩
      rw [← hsd] at c0 c1 hx hsn
      clear hsd
      obtain ⟨x, y⟩ := s
      simp only at c0 c1 hx hsn
      obtain ⟨Z, hZ⟩ : ∃ Z, Z = lenL (l.take i) := ⟨_, rfl⟩
      have hcs := Sl.of_own hown
      have hgi : ((((sumsL l).take (i + 1)).map iCell).flatten)[i]? = some (.int .i64 Z) := by
        rw [iCells, List.getElem?_map, List.getElem?_take, if_pos (by omega), List.getElem?_eq_getElem (by rw [sumsL_len]; omega), sumsL_at l i (by omega), hZ]; rfl
      obtain ⟨g, goff, rfl, d0⟩ := hcs.cell i _ hgi
      rw [← hZ] at hsn hle1 hle2
      rw [hsn] at htk
      have Htk := Lib.hid htk
      clear htk hgi hsn hZ hcs
      have e1 : IntKind.i64.wrap (Z + y) = Z + y := IntWalk.i64_in _ (by omega)
      have e2 : IntKind.i64.wrap (Z + y - x) = Z + y - x := IntWalk.i64_in _ (by omega)
      have i0 : (0 : Int) ≤ (i : Int) := by omega
      have i1 : (i : Int) < (i : Int) + 1 := by omega
      go_wp2_with fail
      have k0 : (wr.alloc (.cells #[.int .i64 x, .int .i64 y] 50)).cell? ⟨wr.heap.size, 0, none⟩ = some (.int .i64 x) := by simp
      have k1 : (wr.alloc (.cells #[.int .i64 x, .int .i64 y] 50)).cell? ⟨wr.heap.size, 1, none⟩ = some (.int .i64 y) := by simp
      have d1 : (wr.alloc (.cells #[.int .i64 x, .int .i64 y] 50)).cell? ⟨g, goff + i, none⟩ = some (.int .i64 Z) := ((below_new wr _).cell (cell?_lt d0)).trans d0
      have hown1 := hown.alloc (.cells #[.int .i64 x, .int .i64 y] 50)
      have hb1 := hb.alloc hb.size (.cells #[.int .i64 x, .int .i64 y] 50)
      have hz1 := hb1.size
      obtain ⟨W1, hW1⟩ : ∃ W1, W1 = wr.alloc (.cells #[.int .i64 x, .int .i64 y] 50) := ⟨_, rfl⟩
      rw [← hW1] at k0 k1 d1 hown1 hb1 hz1
      rw [← hW1]
      clear hW1 c0 c1 d0 hown hb
      go_region_law ((refine step_append_one (by rfl) (.tmp 23) (.tmp 34) 54 (by rfl) w.heap.size 2 infoI Try.underlying54 (by rfl) (by decide) (.slice (some ⟨g, goff, none⟩) (i + 1) sc) (i + 1) (((sumsL l).take (i + 1)).map iCell) (by rfl) ((hown1.alloc _).drew) ⟨W1.heap.size, 0, none⟩ 1 (iCell (Z + y - x)) (by rfl) (by rfl) (news_at _ rfl) (by simp [iCell, Value.oneCell']) (by omega) (by unfold maxLen; omega) (by simp; omega) ?_; intro gg cc w3 hown3 hg3 hlie))
      all_goals
        have hown4 : w3.ownsRow w.heap.size 2 1 (.slice (some ⟨gg, 0, none⟩) (i + 1 + 1) cc) (i + 1 + 1) (((sumsL l).take (i + 1 + 1)).map iCell).flatten := by
          have e3 : Z + (y - x) = Z + y - x := by omega
          rw [Htk.out, e3, List.map_append]; exact hown3
        have hb4 : Below w.heap.size w w3 := below_app (below_drew (hb1.alloc hz1 _)) hg3 ((hown1.alloc _).drew) (Nat.le_refl _) (by simp; omega)
        clear hown3 hg3
        go_wp2_with fail
        go_roundw
        case rel => exact ⟨i + 1, by simp, by omega, _, _, rfl, hown4, hb4⟩
        case measure => simp [intOf]; omega
    · have hi' : i = l.length := by omega
      subst hi'
      go_wp2_with fail
      go_ret
      refine ⟨so, sc, rfl, ?_, hb⟩
      rw [List.take_of_length_le (by rw [sumsL_len]; omega)] at hown
      exact hown
end Go.Proofs.Ytndifinjdheceaa
