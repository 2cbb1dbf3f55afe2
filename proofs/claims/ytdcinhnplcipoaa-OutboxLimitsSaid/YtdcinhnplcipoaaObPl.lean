/- Plain law: what a call makes of a sound state is sound. No statement of the seat is proved here. -/
import Derived.Test.YtdcinhnplcipoaaObSn
import Derived.Test.YtdcinhnplcipoaaObP
import Derived.Test.YtdcinhnplcipoaaObQ
namespace Go.Proofs.Ytdcinhnplcipoaa
set_option linter.unusedVariables false
set_option linter.unusedSimpArgs false
set_option linter.unusedSectionVars false
open Go Go.RowKit Go.Shelf

theorem soundF_cons {top last : Int} {n : No} {l : List No} : soundF top last (n :: l) = true ↔ last < n.id ∧ n.id ≤ top ∧ fitsN n = true ∧ standsN n = true ∧ soundF top n.id l = true := by
  show (decide (last < n.id) && decide (n.id ≤ top) && fitsN n && standsN n && soundF top n.id l) = true ↔ _
  simp [and_assoc]
theorem soundF_set {top : Int} (l : List No) : ∀ {last : Int} (i : Nat) (hi : i < l.length) (n : No), soundF top last l = true → n.id = l[i].id → fitsN n = true → standsN n = true → soundF top last (l.set i n) = true := by
  induction l with
  | nil => intro last i hi; simp at hi
  | cons m l ih =>
    intro last i hi n h e hf hs
    obtain ⟨h1, h2, h3, h4, h5⟩ := soundF_cons.1 h
    cases i with
    | zero =>
      simp only [List.getElem_cons_zero] at e
      simp only [List.set_cons_zero]
      exact soundF_cons.2 ⟨by omega, by omega, hf, hs, by rw [e]; exact h5⟩
    | succ i =>
      simp only [List.getElem_cons_succ] at e
      simp only [List.set_cons_succ]
      exact soundF_cons.2 ⟨h1, h2, h3, h4, ih i (by simpa using hi) n h5 e hf hs⟩
theorem soundF_map {top : Int} (f : No → No) (hf : ∀ n, fitsN n = true → standsN n = true → (f n).id = n.id ∧ fitsN (f n) = true ∧ standsN (f n) = true) (l : List No) : ∀ {last : Int}, soundF top last l = true → soundF top last (l.map f) = true := by
  induction l with
  | nil => intro last h; rfl
  | cons m l ih =>
    intro last h
    obtain ⟨h1, h2, h3, h4, h5⟩ := soundF_cons.1 h
    obtain ⟨e, a, b⟩ := hf m h3 h4
    exact soundF_cons.2 ⟨by omega, by omega, a, b, by rw [e]; exact ih h5⟩
theorem soundF_last {top a b : Int} {l : List No} (h : soundF top b l = true) (hab : a ≤ b) : soundF top a l = true := by
  cases l with
  | nil => rfl
  | cons m l =>
    obtain ⟨h1, h2, h3, h4, h5⟩ := soundF_cons.1 h
    exact soundF_cons.2 ⟨by omega, h2, h3, h4, h5⟩
theorem soundF_erase {top : Int} (l : List No) : ∀ {last : Int} (i : Nat), soundF top last l = true → soundF top last (l.eraseIdx i) = true := by
  induction l with
  | nil => intro last i h; exact h
  | cons m l ih =>
    intro last i h
    obtain ⟨h1, h2, h3, h4, h5⟩ := soundF_cons.1 h
    cases i with
    | zero => exact soundF_last h5 (by omega)
    | succ i => exact soundF_cons.2 ⟨h1, h2, h3, h4, ih i h5⟩
theorem soundF_snoc {top top' : Int} (l : List No) (n : No) (h1 : top < n.id) (h2 : n.id ≤ top') (hf : fitsN n = true) (hs : standsN n = true) : ∀ {last : Int}, last ≤ top → soundF top last l = true → soundF top' last (l ++ [n]) = true := by
  induction l with
  | nil => intro last hl h; exact soundF_cons.2 ⟨by omega, h2, hf, hs, rfl⟩
  | cons m l ih =>
    intro last hl h
    obtain ⟨a1, a2, a3, a4, a5⟩ := soundF_cons.1 h
    exact soundF_cons.2 ⟨a1, by omega, a3, a4, ih a2 a5⟩
theorem soundF_get {top : Int} (l : List No) : ∀ {last : Int} (i : Nat) (hi : i < l.length), soundF top last l = true → fitsN l[i] = true ∧ standsN l[i] = true := by
  induction l with
  | nil => intro last i hi; simp at hi
  | cons m l ih =>
    intro last i hi h
    obtain ⟨a1, a2, a3, a4, a5⟩ := soundF_cons.1 h
    cases i with
    | zero => exact ⟨a3, a4⟩
    | succ i => exact ih i (by simpa using hi) a5
theorem soundS_iff {top : Int} {l : List No} : soundS top l = true ↔ top ≤ 1152921504606846976 ∧ l.length ≤ 128 ∧ soundF top 0 l = true := by
  unfold soundS; simp [and_assoc]
theorem stands_iff {n : No} : standsN n = true ↔ 0 ≤ n.tr ∧ n.tr ≤ n.rt ∧ 0 ≤ n.nx ∧ n.nx ≤ 1125899906842624 ∧ (n.st = 1 ∨ (n.st = 2 ∧ 0 < n.tr) ∨ (n.st = 3 ∧ n.tr = n.rt)) := by
  unfold standsN instB; simp [and_assoc, or_assoc]
theorem fits_iff {n : No} : fitsN n = true ↔ 1 ≤ n.rt ∧ n.rt ≤ 8 ∧ 1 ≤ n.wt ∧ n.wt ≤ 1048576 ∧ 0 ≤ n.lv ∧ n.lv < 6 ∧ 0 ≤ n.pt ∧ n.pt < 8 := by
  unfold fitsN; simp [and_assoc]
theorem sound_tick {top : Int} {l : List No} (now : Int) (h : soundS top l = true) : soundS top (l.map (tickN now)) = true := by
  obtain ⟨h1, h2, h3⟩ := soundS_iff.1 h
  refine soundS_iff.2 ⟨h1, by simpa using h2, soundF_map _ (fun n hf hs => ?_) l h3⟩
  unfold tickN
  split
  · rename_i g
    refine ⟨rfl, hf, ?_⟩
    unfold spentB waitsB at g
    simp at g
    obtain ⟨a1, a2, a3, a4, a5⟩ := stands_iff.1 hs
    exact stands_iff.2 ⟨a1, a2, a3, a4, .inr (.inr ⟨rfl, by show n.tr = n.rt; omega⟩)⟩
  · exact ⟨rfl, hf, hs⟩
theorem sound_ack {top : Int} {l : List No} (i : Nat) (hi : i < l.length) (h : soundS top l = true) (hb : ackBad l[i] = false) : soundS top (l.set i (setSt l[i] 2)) = true := by
  obtain ⟨h1, h2, h3⟩ := soundS_iff.1 h
  obtain ⟨hf, hs⟩ := soundF_get l i hi h3
  refine soundS_iff.2 ⟨h1, by simpa using h2, soundF_set l i hi _ h3 rfl hf ?_⟩
  unfold ackBad waitsB at hb
  simp at hb
  obtain ⟨a1, a2, a3, a4, a5⟩ := stands_iff.1 hs
  exact stands_iff.2 ⟨a1, a2, a3, a4, .inr (.inl ⟨rfl, by show 0 < l[i].tr; omega⟩)⟩
theorem sound_try {top : Int} {l : List No} (i : Nat) (hi : i < l.length) (now : Int) (h : soundS top l = true) (hb : tryErr l[i] now = 0) : soundS top (l.set i (tryN l[i] now)) = true := by
  obtain ⟨h1, h2, h3⟩ := soundS_iff.1 h
  obtain ⟨hf, hs⟩ := soundF_get l i hi h3
  obtain ⟨a1, a2, a3, a4, a5⟩ := stands_iff.1 hs
  obtain ⟨b1, b2, b3, b4, b5, b6, b7, b8⟩ := fits_iff.1 hf
  have hw : l[i].st = 1 ∧ l[i].tr < l[i].rt ∧ l[i].nx ≤ now := by
    unfold tryErr waitsB at hb
    by_cases g : (!(l[i].st == 1) || decide (l[i].rt ≤ l[i].tr)) = true
    · rw [if_pos g] at hb; cases hb
    · rw [if_neg g] at hb
      by_cases g2 : now < l[i].nx
      · rw [if_pos g2] at hb; cases hb
      · simp at g; exact ⟨g.1, g.2, by omega⟩
  obtain ⟨w1, w2, w3⟩ := hw
  refine soundS_iff.2 ⟨h1, by simpa using h2, soundF_set l i hi _ h3 rfl (fits_iff.2 ?_) (stands_iff.2 ?_)⟩
  · unfold tryN
    refine ⟨b1, b2, ?_, ?_, b5, b6, b7, b8⟩
    · simp only; split <;> omega
    · simp only; split <;> omega
  · unfold tryN
    refine ⟨?_, ?_, ?_, ?_, .inl w1⟩
    · simp only; omega
    · simp only; omega
    · simp only; split <;> omega
    · simp only; split <;> omega
theorem sound_put {top : Int} {l : List No} (n : No) (now : Int) (h0 : 0 ≤ top) (h : soundS top l = true) (hb : putErr top l n now = 0) : soundS (top + 1) (roomL l ++ [putN top n now]) = true := by
  obtain ⟨h1, h2, h3⟩ := soundS_iff.1 h
  unfold putErr at hb
  by_cases g : (!instB now || !fitsN n) = true
  · rw [if_pos g] at hb; cases hb
  rw [if_neg g] at hb
  by_cases g1 : 1152921504606846976 ≤ top
  · rw [if_pos g1] at hb; cases hb
  rw [if_neg g1] at hb
  have g2 : ¬ (128 ≤ l.length ∧ l.findIdx (fun n => !waitsB n) = l.length) := fun g2 => by rw [if_pos g2] at hb; cases hb
  simp at g
  obtain ⟨i1, i2⟩ := instT now g.1
  obtain ⟨b1, b2, b3, b4, b5, b6, b7, b8⟩ := fits_iff.1 g.2
  have hN : fitsN (putN top n now) = true := fits_iff.2 ⟨b1, b2, b3, b4, b5, b6, b7, b8⟩
  have hS : standsN (putN top n now) = true := stands_iff.2 ⟨Int.le_refl _, by show (0 : Int) ≤ n.rt; omega, i1, i2, .inl rfl⟩
  refine soundS_iff.2 ⟨by omega, ?_, ?_⟩
  · unfold roomL
    split
    · simp; omega
    · have hlt : restN l < l.length := by
        have := List.findIdx_le_length (xs := l) (p := fun n => !waitsB n)
        unfold restN
        omega
      simp [List.length_eraseIdx_of_lt hlt]; omega
  · refine soundF_snoc (top := top) _ _ (by show top < top + 1; omega) (Int.le_refl _) hN hS h0 ?_
    unfold roomL
    split
    · exact h3
    · exact soundF_erase l _ h3
end Go.Proofs.Ytdcinhnplcipoaa
