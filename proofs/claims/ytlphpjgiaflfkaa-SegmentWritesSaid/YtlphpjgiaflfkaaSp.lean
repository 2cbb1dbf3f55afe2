/- Plain law of segments: what is written is read. No program in sight, no statement of the seat is proved here. -/
import Derived.Test.YtlphpjgiaflfkaaSh
import Derived.Test.YtlphpjgiaflfkaaSf
namespace Go.Proofs.Ytlphpjgiaflfkaa
set_option linter.unusedVariables false
set_option linter.unusedSimpArgs false
set_option linter.unusedSectionVars false
open Go Go.RowKit Go.Shelf

theorem numsB3 (a b c : Nat) (l : List UInt8) : numsB [a, b, c] ++ l = numB a ++ (numB b ++ (numB c ++ l)) := by simp [numsB]
theorem headV_numB (n : Nat) (h : n ≤ 1152921504606846976) : headV 1 (numB n) = n := by
  have h2 := readN_numB 1152921504606846976 n [] false h (by omega)
  rw [List.append_nil] at h2
  unfold headV
  rw [h2, if_pos ⟨rfl, rfl, rfl⟩]
theorem lnN (i t k : Nat) (d : List UInt8) (hi : i < 2 ^ 64) (ht : t ≤ 1152921504606846976) (hk : k ≤ 3) (hd : d.length ≤ 4096) :
    ln0 (lineN i t k d) = (i, numB t ++ (numB k ++ (numB d.length ++ d)), false) ∧ ln1 (lineN i t k d) = (t, numB k ++ (numB d.length ++ d), false) ∧ ln2 (lineN i t k d) = (k, numB d.length ++ d, false) ∧ ln3 (lineN i t k d) = (d, [], false) := by
  have h0 : ln0 (lineN i t k d) = (i, numB t ++ (numB k ++ (numB d.length ++ d)), false) := by
    unfold ln0 lineN
    rw [numsB3, readN_numB _ _ _ _ (by omega) hi]
  have h1 : ln1 (lineN i t k d) = (t, numB k ++ (numB d.length ++ d), false) := by
    unfold ln1
    rw [h0]
    exact readN_numB _ _ _ _ ht (by omega)
  have h2 : ln2 (lineN i t k d) = (k, numB d.length ++ d, false) := by
    unfold ln2
    rw [h1]
    exact readN_numB _ _ _ _ hk (by omega)
  refine ⟨h0, h1, h2, ?_⟩
  unfold ln3
  rw [h2]
  have := readT_enc 4096 d [] false hd (by omega)
  rw [List.append_nil] at this
  exact this
theorem lineE_N (i t k : Nat) (d : List UInt8) (hi : i < 2 ^ 64) (ht : t ≤ 1152921504606846976) (hk : k ≤ 3) (hd : d.length ≤ 4096) : lineE (lineN i t k d) = ⟨(t : Nat), (k : Nat), d⟩ := by
  obtain ⟨-, h1, h2, h3⟩ := lnN i t k d hi ht hk hd
  unfold lineE
  rw [h1, h2, h3]
theorem lineOk_N (i t k : Nat) (d : List UInt8) (hi : i < 2 ^ 64) (hs : soundE ⟨(t : Nat), (k : Nat), d⟩ = true) : lineOk 2 (lineN i t k d) i = true := by
  obtain ⟨s1, s2, s3, s4, s5⟩ := soundE_iff.1 hs
  simp only at s1 s2 s3 s4 s5
  obtain ⟨h0, h1, h2, h3⟩ := lnN i t k d hi (by omega) (by omega) s5
  unfold lineOk
  rw [lineE_N i t k d hi (by omega) (by omega) s5, hs, h3, h0]
  simp [endR]
theorem all_wrapped (k : UInt8) (body more : List UInt8) (hk : k ≠ 0) (hb : body.length ≤ 65536) : Fr.all (Fr.wrapped k body ++ more) = (k, body) :: Fr.all more := by
  have ht := Fr.take_wrapped k body more hk hb
  have he : (Fr.take (Fr.wrapped k body ++ more)).err = 0 := by rw [ht]
  rw [Fr.all_step _ (take_ne he) he, ht]
  simp only
  rw [← Fr.wrapped_length k body, List.drop_left]
/-- the lines of entries, from an index on -/
def linesB (i : Nat) : List En → List UInt8
  | [] => []
  | e :: l => lineB i e.term.toNat e.kind.toNat e.data ++ linesB (i + 1) l
theorem sound_nats {e : En} (h : soundE e = true) : e = ⟨(e.term.toNat : Nat), (e.kind.toNat : Nat), e.data⟩ := by
  obtain ⟨s1, s2, s3, s4, s5⟩ := soundE_iff.1 h
  obtain ⟨t, k, d⟩ := e
  simp only at s1 s2 s3 s4 s5 ⊢
  rw [Int.toNat_of_nonneg (by omega), Int.toNat_of_nonneg (by omega)]
theorem seg_one (s : SegS) (i t k : Nat) (d more : List UInt8) (hf : s.first ≠ 0) (hix : i = s.first + s.l.length) (hi : i < 2 ^ 64) (hs : soundE ⟨(t : Nat), (k : Nat), d⟩ = true) :
    segRun s (Fr.all (lineB i t k d ++ more)) = segRun ⟨s.first, s.l ++ [⟨(t : Nat), (k : Nat), d⟩], s.good + (lineB i t k d).length⟩ (Fr.all more) := by
  obtain ⟨s1, s2, s3, s4, s5⟩ := soundE_iff.1 hs
  simp only at s1 s2 s3 s4 s5
  have hlen := lineN_len i t k d hi (by omega) (by omega) (by omega)
  unfold lineB
  rw [all_wrapped 2 _ _ (by decide) (by omega)]
  have hst : segStep s (2, lineN i t k d) = some ⟨s.first, s.l ++ [⟨(t : Nat), (k : Nat), d⟩], s.good + (Fr.wrapped 2 (lineN i t k d)).length⟩ := by
    unfold segStep
    rw [if_neg hf]
    simp only
    rw [← hix, lineOk_N i t k d hi hs, if_pos rfl, lineE_N i t k d hi (by omega) (by omega) s5, Fr.wrapped_length]
  rw [segRun, hst]
theorem seg_lines (l : List En) : ∀ (s : SegS) (i : Nat) (more : List UInt8), s.first ≠ 0 → i = s.first + s.l.length → i + l.length < 2 ^ 64 → (∀ e ∈ l, soundE e = true) →
    segRun s (Fr.all (linesB i l ++ more)) = segRun ⟨s.first, s.l ++ l, s.good + (linesB i l).length⟩ (Fr.all more) := by
  induction l with
  | nil => intro s i more _ _ _ _; simp [linesB]
  | cons e l ih =>
    intro s i more hf hix hi hs
    have he := hs e (by simp)
    have hn := sound_nats he
    rw [linesB, List.append_assoc, seg_one s i _ _ _ _ hf hix (by simp at hi; omega) (by rw [← hn]; exact he)]
    rw [← hn]
    rw [ih ⟨s.first, s.l ++ [e], s.good + (lineB i e.term.toNat e.kind.toNat e.data).length⟩ (i + 1) more hf (by simp; omega) (by simp at hi; omega) (fun x hx => hs x (by simp [hx]))]
    simp [Nat.add_assoc]
theorem seg_head (f : Nat) (more : List UInt8) (h0 : f ≠ 0) (h1 : f ≤ 1152921504606846976) : segRead (headB f ++ more) = segRun ⟨f, [], (headB f).length⟩ (Fr.all more) := by
  have hl := numB_len f (by omega)
  unfold segRead headB
  rw [all_wrapped 1 _ _ (by decide) (by omega)]
  have hst : segStep seg0 (1, numB f) = some ⟨f, [], (Fr.wrapped 1 (numB f)).length⟩ := by
    unfold segStep
    rw [if_pos (show seg0.first = 0 from rfl)]
    simp only
    rw [headV_numB f h1, if_neg h0, Fr.wrapped_length]
    simp [seg0]
  rw [segRun, hst]
end Go.Proofs.Ytlphpjgiaflfkaa
