/- wheel: two wheels side by side; equality. No statement of the seat is proved here. -/
import Derived.Test.YtadghaiengonoaaWheelFull
import Derived.Test.YtadghaiengonoaaOpenT
import Derived.Test.YtadghaiengonoaaOpenI
import Derived.ChangeKeysEq
import Derived.Stop.BytesEq
namespace Go.Proofs.Ytadghaiengonoaa
set_option linter.unusedVariables false
set_option linter.unusedSimpArgs false
set_option linter.unusedSectionVars false
open Go Go.RowKit Go.Maps

section
variable {W wr wr' : World} {F : Nat → Prop} {w : Nat} {now : Int} {X : List Th}
theorem adv_r (h : Wo W wr F w now X) (tb : Int) :
    Calls Try.prog 11 #[.pointer (some ⟨w, 0, none⟩), .int .i64 tb] wr fun e W' => ∃ ao cap, e = .returned (.tuple #[.slice ao (advL now tb X).length cap, .int .i64 (advE now tb)]) ∧ Wnx W wr F w (advN now tb) (advX now tb X) W' ∧ W'.ownsRow wr.heap.size thT 3 (.slice ao (advL now tb X).length cap) (advL now tb X).length (thFlat (advL now tb X)) := by
  refine (adv_any wr F w now tb X h.whl).mono ?_
  rintro e W' ⟨ao, cap, rfl, hs, hrow⟩
  exact ⟨ao, cap, rfl, h.st hs, hrow⟩
theorem all_r (h : Wo W wr F w now X) :
    Calls Try.prog 13 #[.pointer (some ⟨w, 0, none⟩)] wr fun e W' => ∃ ao cap, e = .returned (.slice ao X.length cap) ∧ W'.ownsRow wr.heap.size thT 3 (.slice ao X.length cap) X.length (thFlat X) ∧ Below wr.heap.size wr W' := by
  refine (all_any wr F w now X h.whl).mono ?_
  rintro e W' ⟨ao, cap, rfl, hrow, hb⟩
  exact ⟨ao, cap, rfl, hrow, hb⟩
theorem adv_in {tb : Int} (hd : Inst tb) (hle : now ≤ tb) : advE now tb = 0 ∧ advN now tb = tb ∧ advX now tb X = soonT X tb ∧ advL now tb X = dueT X tb := by
  refine ⟨?_, ?_, ?_, ?_⟩
  · unfold advE; rw [if_pos hd, if_neg (by omega)]
  · unfold advN; rw [if_pos hd, if_neg (by omega)]
  · unfold advX; rw [if_pos hd, if_neg (by omega)]
  · unfold advL; rw [if_pos hd, if_neg (by omega)]
end
/-- two wheels that the call made, apart from each other -/
structure Two (W wr : World) (F G : Nat → Prop) (v w : Nat) (a b : Int) (X Y : List Th) : Prop where
  fst : Wo W wr F v a X
  snd : Wo W wr G w b Y
  apart : ∀ i, F i → ¬ G i
section
variable {W wr wr' : World} {F G : Nat → Prop} {v w : Nat} {a b : Int} {X Y : List Th}
theorem Two.below (h : Two W wr F G v w a b X Y) (hb : Below wr.heap.size wr wr') : Two W wr' F G v w a b X Y := ⟨h.fst.below hb, h.snd.below hb, h.apart⟩
theorem Two.left {a' : Int} {X' : List Th} (h : Two W wr F G v w a b X Y) (hn : Wnx W wr F v a' X' wr') : ∃ F', Two W wr' F' G v w a' b X' Y ∧ Gr F wr wr' ∧ ∀ i, F' i → F i ∨ wr.heap.size ≤ i := by
  obtain ⟨F', h1, h2, h3⟩ := hn
  refine ⟨F', ⟨h1, h.snd.beside h2 (fun i hg hf => h.apart i hf hg) h.fst.up, fun i hi hg => ?_⟩, h2, h3⟩
  rcases h3 i hi with e | e
  · exact h.apart i e hg
  · have := h.snd.bd i hg; omega
theorem Two.right {b' : Int} {Y' : List Th} (h : Two W wr F G v w a b X Y) (hn : Wnx W wr G w b' Y' wr') : ∃ G', Two W wr' F G' v w a b' X Y' ∧ Gr G wr wr' ∧ ∀ i, G' i → G i ∨ wr.heap.size ≤ i := by
  obtain ⟨G', h1, h2, h3⟩ := hn
  refine ⟨G', ⟨h.fst.beside h2 h.apart h.snd.up, h1, fun i hf hg => ?_⟩, h2, h3⟩
  rcases h3 i hg with e | e
  · exact h.apart i hf e
  · have := h.fst.bd i hf; omega
end
theorem neq_th (x : Th) (V : World) : (binOp .neq thT (thVal x) (thVal x)).run Try.prog V = .ok (.bool false) V := by
  unfold thVal
  rw [run_neq_struct, eqin_th]
  simp [Result.andThen]
theorem infoI : ∃ i, Try.prog.info? 3 = some i := Option.isSome_iff_exists.1 (by kernel_rfl)
theorem eqin_fi (a : Nat → Nat) (V : World) : (Op.equalIn 10000 fiT (fiVal a) (fiVal a)).run Try.prog V = .ok true V := by
  obtain ⟨i, hi⟩ := infoI
  have hc : Try.prog.cellsOf 3 = 1 := by kernel_rfl
  unfold fiVal
  rw [run_equalIn_array V 9999 _ _ Try.underlying38 hi, hc]
  have pe : ∀ x y : Int, ∀ w, (Op.equalIn (9998 + 1) 3 (.int .i64 x) (.int .i64 y)).run Try.prog w = .ok (x == y) w := fun x y w => run_equalIn_int w 9998 _ .i64 .i64 x y Try.underlying3
  simp [List.range_succ, Op.eqItems, part, isAgg, run_underlying Try.underlying3, pe, go_sem]
theorem eq_fi (f : Nat → Nat) (V : World) : (binOp .eql fiT (fiVal f) (fiVal f)).run Try.prog V = .ok (.bool true) V := by
  have h := eqin_fi f V
  unfold fiVal at h ⊢
  rw [run_eql_struct, h]
  rfl
theorem neq_fi (f : Nat → Nat) (V : World) : (binOp .neq fiT (fiVal f) (fiVal f)).run Try.prog V = .ok (.bool false) V := by
  have h := eqin_fi f V
  unfold fiVal at h ⊢
  rw [run_neq_struct, h]
  rfl
end Go.Proofs.Ytadghaiengonoaa
