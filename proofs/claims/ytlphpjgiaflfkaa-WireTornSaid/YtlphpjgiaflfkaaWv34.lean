/- Lemmas for WireReads (Nj). No statement of the seat is proved here. -/
import Derived.Test.YtlphpjgiaflfkaaWv32
import Derived.Test.YtlphpjgiaflfkaaWv33
namespace Go.Proofs.Ytlphpjgiaflfkaa
set_option linter.unusedVariables false
set_option linter.unusedSimpArgs false
set_option linter.unusedSectionVars false
open Go Go.RowKit Go.Shelf
set_option maxRecDepth 100000 in
set_option maxHeartbeats 16000000 in
theorem wireRead_no (ao : Option Addr) (cap : Nat) (l : List UInt8) (w : World) (hb : Bs w ao cap l) (hl : l.length ≤ 70000000000000) (hnot : ¬ wholeF 5 l) :
    Calls Try.prog 36 #[.slice ao l.length cap] w (MsgTold (wireR 6 l) w) := by
  rw [wireR_mx 6 7 (by decide) (by decide) (by decide) (by decide) l]
  obtain ⟨R, hR⟩ : ∃ R, R = wireR 7 l := ⟨_, rfl⟩
  rw [← hR]
  have HR := Lib.hid hR
  clear hR
  obtain ⟨W1, hW1⟩ : ∃ W1, W1 = w.alloc (.cells #[.int .i64 0, .int .i64 0, .int .i64 0, .int .u64 0, .int .u64 0, .int .u64 0, .int .u64 0, .int .u64 0, .bool false, .bool false, .slice none 0 0, .int .u64 0, .int .u64 0, .slice none 0 0, .slice none 0 0] 49) := ⟨_, rfl⟩
  have hB1 : Below w.heap.size w W1 := by rw [hW1]; exact below_new _ _
  have k1 : W1.heap[w.heap.size]? = some (.cells #[.int .i64 0, .int .i64 0, .int .i64 0, .int .u64 0, .int .u64 0, .int .u64 0, .int .u64 0, .int .u64 0, .bool false, .bool false, .slice none 0 0, .int .u64 0, .int .u64 0, .slice none 0 0, .slice none 0 0] 49) := by rw [hW1]; exact heap_alloc_new _ _
  have Hwh := Lib.hid (whole_any ao cap l W1 hl (hb.below hB1))
  go_enter Try.func36, Try.ntmps36
  go_upto_region 1 with fail
  rw [← hW1]
  clear hW1
  go_wp2_with fail
  refine Hwh.out.mono ?_
  rintro e W2 ⟨hB2, hor⟩
  have k2 := (hB2.block _ (Array.getElem?_eq_some_iff.1 k1).1).trans k1
  have z2 := (Array.getElem?_eq_some_iff.1 k2).1
  have hBw2 := below_on hB1 hB2 (Nat.le_refl _)
  have hno : ∀ w', Below w.heap.size w w' → R = (ms0, false) → MsgTold R w (.returned (.tuple #[.agg #[.int .i64 0, .int .i64 0, .int .i64 0, .int .u64 0, .int .u64 0, .int .u64 0, .int .u64 0, .int .u64 0, .bool false, .bool false, .slice none 0 0, .int .u64 0, .int .u64 0, .slice none 0 0, .slice none 0 0], .bool false])) w' := fun w' hw h => by rw [h]; exact told_none w w' hw
  have Hno := Lib.hid hno
  clear hno k1 Hwh
  rcases hor with ⟨h1, h2, ab, cb, rfl, hbody⟩ | ⟨h1, rfl⟩
  · by_cases h3 : (Fr.take l).kind = 5
    · exact absurd ⟨⟨h1, h2⟩, h3⟩ hnot
    · have hnw : ¬ wholeF 5 l := fun h => h3 h.2
      have hnr : R = (ms0, false) := by rw [HR.out]; unfold wireR; rw [if_neg hnw]
      have HnoR := Lib.hid hnr
      obtain ⟨kd, hkd⟩ : ∃ kd, kd = (Fr.take l).kind := ⟨_, rfl⟩
      rw [← hkd] at h3 ⊢
      have n4 := u8_ne h3
      rw [show (((5 : UInt8).toNat : Nat) : Int) = 5 from rfl] at n4
      have hbel := Below.refl W2.heap.size W2
      clear hnw hnr h1 h2 h3 hkd HR hbody
      have kR := (hbel.block _ z2).trans k2
      have cR0 : W2.cell? ⟨w.heap.size, 0, none⟩ = some (.int .i64 0) := block_cell kR 0
      have zR0 := block_free kR 0
      have cR1 : W2.cell? ⟨w.heap.size, 1, none⟩ = some (.int .i64 0) := block_cell kR 1
      have zR1 := block_free kR 1
      have cR2 : W2.cell? ⟨w.heap.size, 2, none⟩ = some (.int .i64 0) := block_cell kR 2
      have zR2 := block_free kR 2
      have cR3 : W2.cell? ⟨w.heap.size, 3, none⟩ = some (.int .u64 0) := block_cell kR 3
      have zR3 := block_free kR 3
      have cR4 : W2.cell? ⟨w.heap.size, 4, none⟩ = some (.int .u64 0) := block_cell kR 4
      have zR4 := block_free kR 4
      have cR5 : W2.cell? ⟨w.heap.size, 5, none⟩ = some (.int .u64 0) := block_cell kR 5
      have zR5 := block_free kR 5
      have cR6 : W2.cell? ⟨w.heap.size, 6, none⟩ = some (.int .u64 0) := block_cell kR 6
      have zR6 := block_free kR 6
      have cR7 : W2.cell? ⟨w.heap.size, 7, none⟩ = some (.int .u64 0) := block_cell kR 7
      have zR7 := block_free kR 7
      have cR8 : W2.cell? ⟨w.heap.size, 8, none⟩ = some (.bool false) := block_cell kR 8
      have zR8 := block_free kR 8
      have cR9 : W2.cell? ⟨w.heap.size, 9, none⟩ = some (.bool false) := block_cell kR 9
      have zR9 := block_free kR 9
      have cR10 : W2.cell? ⟨w.heap.size, 10, none⟩ = some (.slice none 0 0) := block_cell kR 10
      have zR10 := block_free kR 10
      have cR11 : W2.cell? ⟨w.heap.size, 11, none⟩ = some (.int .u64 0) := block_cell kR 11
      have zR11 := block_free kR 11
      have cR12 : W2.cell? ⟨w.heap.size, 12, none⟩ = some (.int .u64 0) := block_cell kR 12
      have zR12 := block_free kR 12
      have cR13 : W2.cell? ⟨w.heap.size, 13, none⟩ = some (.slice none 0 0) := block_cell kR 13
      have zR13 := block_free kR 13
      have cR14 : W2.cell? ⟨w.heap.size, 14, none⟩ = some (.slice none 0 0) := block_cell kR 14
      have zR14 := block_free kR 14
      have zR := (Array.getElem?_eq_some_iff.1 kR).1
      obtain ⟨kS, hgS⟩ := set15 kR (.int .i64 0) (.int .i64 0) (.int .i64 0) (.int .u64 0) (.int .u64 0) (.int .u64 0) (.int .u64 0) (.int .u64 0) (.bool false) (.bool false) (.slice none 0 0) (.int .u64 0) (.int .u64 0) (.slice none 0 0) (.slice none 0 0)
      have u0 := block_cell kS 0
      have u1 := block_cell kS 1
      have u2 := block_cell kS 2
      have u3 := block_cell kS 3
      have u4 := block_cell kS 4
      have u5 := block_cell kS 5
      have u6 := block_cell kS 6
      have u7 := block_cell kS 7
      have u8 := block_cell kS 8
      have u9 := block_cell kS 9
      have u10 := block_cell kS 10
      have u11 := block_cell kS 11
      have u12 := block_cell kS 12
      have u13 := block_cell kS 13
      have u14 := block_cell kS 14
      simp at u0 u1 u2 u3 u4 u5 u6 u7 u8 u9 u10 u11 u12 u13 u14
      go_wp2_with fail
      refine bodyPost_ret (v := .tuple #[.agg #[.int .i64 0, .int .i64 0, .int .i64 0, .int .u64 0, .int .u64 0, .int .u64 0, .int .u64 0, .int .u64 0, .bool false, .bool false, .slice none 0 0, .int .u64 0, .int .u64 0, .slice none 0 0, .slice none 0 0], .bool false]) (by simp [results, Try.results36, go_sem, u0, u1, u2, u3, u4, u5, u6, u7, u8, u9, u10, u11, u12, u13, u14]) rfl ?_
      exact Hno.out _ (grown_row (below_on hBw2 hbel (Nat.le_refl _)) hgS (Nat.le_refl _) (by omega)) HnoR.out
  · have hnw : ¬ wholeF 5 l := fun h => h1 h.1
    have hnr : R = (ms0, false) := by rw [HR.out]; unfold wireR; rw [if_neg hnw]
    have HnoR := Lib.hid hnr
    have hbel := Below.refl W2.heap.size W2
    clear hnw hnr h1 HR
    have kR := (hbel.block _ z2).trans k2
    have cR0 : W2.cell? ⟨w.heap.size, 0, none⟩ = some (.int .i64 0) := block_cell kR 0
    have zR0 := block_free kR 0
    have cR1 : W2.cell? ⟨w.heap.size, 1, none⟩ = some (.int .i64 0) := block_cell kR 1
    have zR1 := block_free kR 1
    have cR2 : W2.cell? ⟨w.heap.size, 2, none⟩ = some (.int .i64 0) := block_cell kR 2
    have zR2 := block_free kR 2
    have cR3 : W2.cell? ⟨w.heap.size, 3, none⟩ = some (.int .u64 0) := block_cell kR 3
    have zR3 := block_free kR 3
    have cR4 : W2.cell? ⟨w.heap.size, 4, none⟩ = some (.int .u64 0) := block_cell kR 4
    have zR4 := block_free kR 4
    have cR5 : W2.cell? ⟨w.heap.size, 5, none⟩ = some (.int .u64 0) := block_cell kR 5
    have zR5 := block_free kR 5
    have cR6 : W2.cell? ⟨w.heap.size, 6, none⟩ = some (.int .u64 0) := block_cell kR 6
    have zR6 := block_free kR 6
    have cR7 : W2.cell? ⟨w.heap.size, 7, none⟩ = some (.int .u64 0) := block_cell kR 7
    have zR7 := block_free kR 7
    have cR8 : W2.cell? ⟨w.heap.size, 8, none⟩ = some (.bool false) := block_cell kR 8
    have zR8 := block_free kR 8
    have cR9 : W2.cell? ⟨w.heap.size, 9, none⟩ = some (.bool false) := block_cell kR 9
    have zR9 := block_free kR 9
    have cR10 : W2.cell? ⟨w.heap.size, 10, none⟩ = some (.slice none 0 0) := block_cell kR 10
    have zR10 := block_free kR 10
    have cR11 : W2.cell? ⟨w.heap.size, 11, none⟩ = some (.int .u64 0) := block_cell kR 11
    have zR11 := block_free kR 11
    have cR12 : W2.cell? ⟨w.heap.size, 12, none⟩ = some (.int .u64 0) := block_cell kR 12
    have zR12 := block_free kR 12
    have cR13 : W2.cell? ⟨w.heap.size, 13, none⟩ = some (.slice none 0 0) := block_cell kR 13
    have zR13 := block_free kR 13
    have cR14 : W2.cell? ⟨w.heap.size, 14, none⟩ = some (.slice none 0 0) := block_cell kR 14
    have zR14 := block_free kR 14
    have zR := (Array.getElem?_eq_some_iff.1 kR).1
    obtain ⟨kS, hgS⟩ := set15 kR (.int .i64 0) (.int .i64 0) (.int .i64 0) (.int .u64 0) (.int .u64 0) (.int .u64 0) (.int .u64 0) (.int .u64 0) (.bool false) (.bool false) (.slice none 0 0) (.int .u64 0) (.int .u64 0) (.slice none 0 0) (.slice none 0 0)
    have u0 := block_cell kS 0
    have u1 := block_cell kS 1
    have u2 := block_cell kS 2
    have u3 := block_cell kS 3
    have u4 := block_cell kS 4
    have u5 := block_cell kS 5
    have u6 := block_cell kS 6
    have u7 := block_cell kS 7
    have u8 := block_cell kS 8
    have u9 := block_cell kS 9
    have u10 := block_cell kS 10
    have u11 := block_cell kS 11
    have u12 := block_cell kS 12
    have u13 := block_cell kS 13
    have u14 := block_cell kS 14
    simp at u0 u1 u2 u3 u4 u5 u6 u7 u8 u9 u10 u11 u12 u13 u14
    go_wp2_with fail
    refine bodyPost_ret (v := .tuple #[.agg #[.int .i64 0, .int .i64 0, .int .i64 0, .int .u64 0, .int .u64 0, .int .u64 0, .int .u64 0, .int .u64 0, .bool false, .bool false, .slice none 0 0, .int .u64 0, .int .u64 0, .slice none 0 0, .slice none 0 0], .bool false]) (by simp [results, Try.results36, go_sem, u0, u1, u2, u3, u4, u5, u6, u7, u8, u9, u10, u11, u12, u13, u14]) rfl ?_
    exact Hno.out _ (grown_row (below_on hBw2 hbel (Nat.le_refl _)) hgS (Nat.le_refl _) (by omega)) HnoR.out
theorem wireRead_any (ao : Option Addr) (cap : Nat) (l : List UInt8) (w : World) (hb : Bs w ao cap l) (hl : l.length ≤ 70000000000000) :
    Calls Try.prog 36 #[.slice ao l.length cap] w (MsgTold (wireR 6 l) w) := by
  by_cases h : wholeF 5 l
  · cases hr : (wireR 6 l).2 with
    | true => exact wireRead_true ao cap l w hb hl h hr
    | false => exact wireRead_false ao cap l w hb hl h hr
  · exact wireRead_no ao cap l w hb hl h
end Go.Proofs.Ytlphpjgiaflfkaa
