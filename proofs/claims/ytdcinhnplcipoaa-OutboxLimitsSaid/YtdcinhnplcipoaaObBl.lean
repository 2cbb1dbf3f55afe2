/- Plain law of a state's bytes: written and read. No program in sight, no statement of the seat is proved here. -/
import Derived.Test.YtdcinhnplcipoaaObM
import Derived.Test.YtdcinhnplcipoaaQx
namespace Go.Proofs.Ytdcinhnplcipoaa
set_option linter.unusedVariables false
set_option linter.unusedSimpArgs false
set_option linter.unusedSectionVars false
open Go Go.RowKit

/-- the numbers of a notice -/
def noNums (n : No) : List Nat := [n.id.toNat, n.tk.toNat, n.lv.toNat, n.pt.toNat, n.st.toNat, n.tr.toNat, n.rt.toNat, n.wt.toNat, n.nx.toNat]
def encN (n : No) : List UInt8 := numsB (noNums n)
def encL (l : List No) : List UInt8 := (l.map encN).flatten
def encS (last : Int) (l : List No) : List UInt8 := numsB [last.toNat, l.length] ++ encL l
structure EncOk (n : No) : Prop where
  id : 0 ≤ n.id ∧ n.id ≤ 1152921504606846976
  tk : 0 ≤ n.tk ∧ n.tk ≤ 18446744073709551615
  lv : 0 ≤ n.lv ∧ n.lv ≤ 5
  pt : 0 ≤ n.pt ∧ n.pt ≤ 7
  st : 0 ≤ n.st ∧ n.st ≤ 3
  tr : 0 ≤ n.tr ∧ n.tr ≤ 8
  rt : 0 ≤ n.rt ∧ n.rt ≤ 8
  wt : 0 ≤ n.wt ∧ n.wt ≤ 1048576
  nx : 0 ≤ n.nx ∧ n.nx ≤ 1125899906842624
theorem soundF_ids {top : Int} (l : List No) : ∀ {last : Int} (i : Nat) (hi : i < l.length), soundF top last l = true → last < l[i].id ∧ l[i].id ≤ top := by
  induction l with
  | nil => intro last i hi; simp at hi
  | cons m l ih =>
    intro last i hi h
    obtain ⟨h1, h2, h3, h4, h5⟩ := soundF_cons.1 h
    cases i with
    | zero => exact ⟨h1, h2⟩
    | succ i =>
      have := ih i (by simpa using hi) h5
      simp only [List.getElem_cons_succ]
      exact ⟨by omega, this.2⟩
theorem enc_ok {top : Int} {l : List No} (h : soundS top l = true) (htk : ∀ n ∈ l, 0 ≤ n.tk ∧ n.tk ≤ 18446744073709551615) : ∀ n ∈ l, EncOk n := by
  intro n hn
  obtain ⟨i, hi, rfl⟩ := List.mem_iff_getElem.1 hn
  obtain ⟨h1, h2, h3⟩ := soundS_iff.1 h
  obtain ⟨h4, h5⟩ := soundF_get l i hi h3
  obtain ⟨h6, h7⟩ := soundF_ids l i hi h3
  have h8 := fits_iff.1 h4
  have h9 := stands_iff.1 h5
  exact ⟨by omega, htk _ hn, by omega, by omega, by omega, by omega, by omega, by omega, by omega⟩
/-- a notice read -/
def readNo (s : List UInt8 × Bool) : No × (List UInt8 × Bool) :=
  let r0 := readN 1152921504606846976 s.1 s.2
  let r1 := readN 18446744073709551615 r0.2.1 r0.2.2
  let r2 := readN 5 r1.2.1 r1.2.2
  let r3 := readN 7 r2.2.1 r2.2.2
  let r4 := readN 3 r3.2.1 r3.2.2
  let r5 := readN 8 r4.2.1 r4.2.2
  let r6 := readN 8 r5.2.1 r5.2.2
  let r7 := readN 1048576 r6.2.1 r6.2.2
  let r8 := readN 1125899906842624 r7.2.1 r7.2.2
  (⟨(r0.1 : Int), (r1.1 : Int), (r2.1 : Int), (r3.1 : Int), (r4.1 : Int), (r5.1 : Int), (r6.1 : Int), (r7.1 : Int), (r8.1 : Int)⟩, r8.2)
def readL : Nat → List UInt8 × Bool → List No × (List UInt8 × Bool)
  | 0, s => ([], s)
  | k + 1, s => ((readL k s).1 ++ [(readNo (readL k s).2).1], (readNo (readL k s).2).2)
/-- a state read -/
def readS (s : List UInt8 × Bool) : (Int × List No) × Bool × (List UInt8 × Bool) :=
  let r0 := readN 1152921504606846976 s.1 s.2
  let r1 := readN 128 r0.2.1 r0.2.2
  let q := readL r1.1 r1.2
  if q.2.2 = false ∧ soundS (r0.1 : Int) q.1 = true then (((r0.1 : Int), q.1), true, q.2) else ((0, []), false, ([], true))
theorem readL_len (k : Nat) (s : List UInt8 × Bool) : (readL k s).1.length = k := by
  induction k with
  | zero => rfl
  | succ k ih => simp [readL, ih]
theorem numsB_cons (x : Nat) (xs : List Nat) : numsB (x :: xs) = numB x ++ numsB xs := rfl
theorem readN_nums (most x : Nat) (xs : List Nat) (rest : List UInt8) (bad : Bool) (h : x ≤ most) (hm : most ≤ 18446744073709551615) : readN most (numsB (x :: xs) ++ rest) bad = (x, numsB xs ++ rest, bad) := by
  rw [numsB_cons, List.append_assoc]
  exact readN_numB most x _ bad h (by omega)
theorem readNo_enc (n : No) (h : EncOk n) (rest : List UInt8) (bad : Bool) : readNo (encN n ++ rest, bad) = (n, (rest, bad)) := by
  obtain ⟨id, tk, lv, pt, st, tr, rt, wt, nx⟩ := n
  obtain ⟨h0, h1, h2, h3, h4, h5, h6, h7, h8⟩ := h
  simp only at h0 h1 h2 h3 h4 h5 h6 h7 h8
  unfold readNo encN noNums
  simp only
  rw [readN_nums _ _ _ _ _ (by omega) (by omega)]
  simp only
  rw [readN_nums _ _ _ _ _ (by omega) (by omega)]
  simp only
  rw [readN_nums _ _ _ _ _ (by omega) (by omega)]
  simp only
  rw [readN_nums _ _ _ _ _ (by omega) (by omega)]
  simp only
  rw [readN_nums _ _ _ _ _ (by omega) (by omega)]
  simp only
  rw [readN_nums _ _ _ _ _ (by omega) (by omega)]
  simp only
  rw [readN_nums _ _ _ _ _ (by omega) (by omega)]
  simp only
  rw [readN_nums _ _ _ _ _ (by omega) (by omega)]
  simp only
  rw [readN_nums _ _ _ _ _ (by omega) (by omega)]
  simp only [Int.toNat_of_nonneg h0.1, Int.toNat_of_nonneg h1.1, Int.toNat_of_nonneg h2.1, Int.toNat_of_nonneg h3.1, Int.toNat_of_nonneg h4.1, Int.toNat_of_nonneg h5.1, Int.toNat_of_nonneg h6.1, Int.toNat_of_nonneg h7.1, Int.toNat_of_nonneg h8.1]
  simp [numsB]
theorem encL_snoc (l : List No) (n : No) : encL (l ++ [n]) = encL l ++ encN n := by unfold encL; simp
theorem readL_enc (k : Nat) : ∀ (l : List No) (rest : List UInt8) (bad : Bool), l.length = k → (∀ n ∈ l, EncOk n) → readL k (encL l ++ rest, bad) = (l, (rest, bad)) := by
  induction k with
  | zero => intro l rest bad hl _; obtain rfl := List.eq_nil_of_length_eq_zero hl; rfl
  | succ k ih =>
    intro l rest bad hl hok
    have hne : l ≠ [] := by intro e; subst e; simp at hl
    have e := List.dropLast_concat_getLast hne
    obtain ⟨l0, hl0⟩ : ∃ l0, l0 = l.dropLast := ⟨_, rfl⟩
    obtain ⟨n, hn⟩ : ∃ n, n = l.getLast hne := ⟨_, rfl⟩
    rw [← hl0, ← hn] at e
    subst e
    have h1 := ih l0 (encN n ++ rest) bad (by simpa using hl) (fun m hm => hok m (by simp [hm]))
    rw [encL_snoc, List.append_assoc]
    unfold readL
    rw [h1]
    simp only
    rw [readNo_enc n (hok n (by simp))]
theorem readS_enc {last : Int} {l : List No} (h : soundS last l = true) (h0 : 0 ≤ last) (htk : ∀ n ∈ l, 0 ≤ n.tk ∧ n.tk ≤ 18446744073709551615) : readS (encS last l, false) = ((last, l), true, ([], false)) := by
  obtain ⟨h1, h2, h3⟩ := soundS_iff.1 h
  unfold readS encS
  simp only
  rw [readN_nums _ _ _ _ _ (by omega) (by omega)]
  simp only
  rw [readN_nums _ _ _ _ _ (by omega) (by omega)]
  simp only
  have e1 : numsB [] ++ encL l = encL l ++ [] := by simp [numsB]
  rw [e1, readL_enc l.length l [] false rfl (enc_ok h htk)]
  simp only [Int.toNat_of_nonneg h0]
  rw [if_pos (by simp [h])]
theorem noNums_lt {n : No} (h : EncOk n) : ∀ x ∈ noNums n, x < 2 ^ 64 := by
  obtain ⟨h0, h1, h2, h3, h4, h5, h6, h7, h8⟩ := h
  intro x hx
  simp only [noNums, List.mem_cons, List.not_mem_nil, or_false] at hx
  rcases hx with rfl | rfl | rfl | rfl | rfl | rfl | rfl | rfl | rfl <;> omega
theorem encN_len {n : No} (h : EncOk n) : (encN n).length ≤ 81 := by
  have := numsB_len _ (noNums_lt h)
  simpa [noNums, encN] using this
theorem encL_len (l : List No) (h : ∀ n ∈ l, EncOk n) : (encL l).length ≤ 81 * l.length := by
  induction l with
  | nil => simp [encL]
  | cons n l ih =>
    have h1 := encN_len (h n (by simp))
    have h2 := ih (fun m hm => h m (by simp [hm]))
    have : encL (n :: l) = encN n ++ encL l := rfl
    rw [this]; simp; omega
theorem encL_take (l : List No) (i : Nat) (hi : i < l.length) : encL (l.take (i + 1)) = encL (l.take i) ++ encN l[i] := by
  rw [List.take_succ_eq_append_getElem hi, encL_snoc]
end Go.Proofs.Ytdcinhnplcipoaa
