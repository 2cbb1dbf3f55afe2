/- Lemmas for BagOnce (Na). No statement of the seat is proved here. -/
import Derived.Test.YtbmkgcoolofmpaaO4
namespace Go.Proofs.Ytbmkgcoolofmpaa
set_option linter.unusedVariables false
set_option linter.unusedSimpArgs false
set_option linter.unusedSectionVars false
open Go Go.RowKit Go.Shelf
/-- what a reader holds: what is left, whether it is bad -/
abbrev St := List UInt8 × Bool
def gN (most : Nat) (s : St) : Nat × St := ((readN most s.1 s.2).1, (readN most s.1 s.2).2)
def gT (most : Nat) (s : St) : List UInt8 × St := ((readT most s.1 s.2).1, (readT most s.1 s.2).2)
def gF (s : St) : Bool × St := (decide ((gN 1 s).1 = 1), (gN 1 s).2)
def flagB (b : Bool) : List UInt8 := numB (if b then 1 else 0)
theorem gN_le (most : Nat) (s : St) : (gN most s).1 ≤ most := readN_le _ _ _
theorem gT_le (most : Nat) (s : St) : (gT most s).1.length ≤ most := readT_le _ _ _
theorem gN_len (most : Nat) (s : St) : (gN most s).2.1.length ≤ s.1.length := readN_len _ _ _
theorem gN_numB (most n : Nat) (rest : List UInt8) (bad : Bool) (h : n ≤ most) (hn : n < 2 ^ 64) : gN most (numB n ++ rest, bad) = (n, rest, bad) := by
  unfold gN; simp only; rw [readN_numB most n rest bad h hn]
theorem gT_enc (most : Nat) (d rest : List UInt8) (bad : Bool) (h : d.length ≤ most) (hn : d.length < 2 ^ 64) : gT most (numB d.length ++ (d ++ rest), bad) = (d, rest, bad) := by
  unfold gT; simp only
  rw [← List.append_assoc, readT_enc most d rest bad h hn]
theorem gF_enc (b : Bool) (rest : List UInt8) (bad : Bool) : gF (flagB b ++ rest, bad) = (b, rest, bad) := by
  unfold gF flagB
  rw [gN_numB 1 _ rest bad (by split <;> omega) (by split <;> omega)]
  cases b <;> rfl
theorem digs_valN (l : List UInt8) (h : l.head? ≠ some 0) : digs (valN l) = l := by
  rw [← List.reverse_reverse l] at h ⊢
  generalize l.reverse = r at h ⊢
  induction r with
  | nil => simp [valN, digs_zero]
  | cons c r ih =>
    rw [List.reverse_cons] at h ⊢
    rw [valN_snoc]
    have hr : r.reverse.head? ≠ some 0 := by
      intro e
      rw [List.head?_append] at h
      rw [e] at h
      exact h rfl
    have hne : valN r.reverse * 256 + c.toNat ≠ 0 := by
      intro e
      have h1 : valN r.reverse = 0 := by omega
      have h2 : c.toNat = 0 := by omega
      have h3 := ih hr
      rw [h1, digs_zero] at h3
      rw [← h3] at h
      simp at h
      exact h (UInt8.toNat_inj.1 (by simpa using h2))
    have hc := c.toNat_lt
    rw [digs_pos hne]
    have e1 : (valN r.reverse * 256 + c.toNat) / 256 = valN r.reverse := by omega
    have e2 : UInt8.ofNat (valN r.reverse * 256 + c.toNat) = c := by
      apply UInt8.toNat_inj.1
      simp
    rw [e1, e2, ih hr]
/-- a number that was read has its own bytes -/
theorem gN_inv (most : Nat) (s : St) (h : (gN most s).2.2 = false) : s.2 = false ∧ s.1 = numB (gN most s).1 ++ (gN most s).2.1 := by
  obtain ⟨l, bad⟩ := s
  unfold gN at h ⊢
  simp only at h ⊢
  cases l with
  | nil => simp [readN] at h
  | cons c r =>
    rw [readN_cons] at h ⊢
    split at h
    · simp at h
    · rename_i h1
      split at h
      · simp at h
      · rename_i h2
        rw [if_neg h1, if_neg h2]
        simp only at h ⊢
        refine ⟨h, ?_⟩
        have hl : (r.take c.toNat).length = c.toNat := by simp; omega
        have hd : digs (valN (r.take c.toNat)) = r.take c.toNat := by
          apply digs_valN
          intro e
          by_cases hc : 0 < c.toNat
          · apply h1
            right; right
            refine ⟨hc, ?_⟩
            rw [List.head?_take] at e
            rw [if_neg (by omega)] at e
            exact e
          · have : c.toNat = 0 := by omega
            rw [this] at e
            simp at e
        unfold numB
        rw [hd, hl]
        simp
theorem gT_inv (most : Nat) (s : St) (h : (gT most s).2.2 = false) : s.2 = false ∧ s.1 = numB (gT most s).1.length ++ ((gT most s).1 ++ (gT most s).2.1) := by
  obtain ⟨l, bad⟩ := s
  have hn := gN_inv most (l, bad)
  unfold gT at h ⊢
  unfold gN at hn
  simp only at h hn ⊢
  unfold readT at h ⊢
  split at h
  · simp at h
  · rename_i h1
    rw [if_neg h1]
    simp only at h ⊢
    obtain ⟨h2, h3⟩ := hn h
    refine ⟨h2, ?_⟩
    have hl : (List.take (readN most l bad).1 (readN most l bad).2.1).length = (readN most l bad).1 := by simp; omega
    rw [hl, List.take_append_drop]
    exact h3
theorem gF_inv (s : St) (h : (gF s).2.2 = false) : s.2 = false ∧ s.1 = flagB (gF s).1 ++ (gF s).2.1 := by
  obtain ⟨h1, h2⟩ := gN_inv 1 s h
  refine ⟨h1, ?_⟩
  have hle := gN_le 1 s
  have e : (if (gF s).1 = true then 1 else 0) = (gN 1 s).1 := by
    unfold gF
    simp only [decide_eq_true_eq]
    split <;> omega
  unfold flagB
  rw [e]
  exact h2
/-- so many members -/
def gMems (mx : Nat) : Nat → St → List Int × St
  | 0, s => ([], s)
  | k + 1, s => ((gMems mx k s).1 ++ [((gN mx (gMems mx k s).2).1 : Int)], (gN mx (gMems mx k s).2).2)
def memB (l : List Int) : List UInt8 := numsB (l.map Int.toNat)
theorem memB_snoc (l : List Int) (x : Int) : memB (l ++ [x]) = memB l ++ numB x.toNat := by simp [memB, numsB]
theorem gMems_len (mx k : Nat) (s : St) : (gMems mx k s).1.length = k := by
  induction k with
  | zero => rfl
  | succ k ih => simp [gMems, ih]
theorem gMems_enc (mx : Nat) (hmx : mx < 2 ^ 64) (k : Nat) : ∀ (l : List Int) (rest : List UInt8) (bad : Bool), l.length = k → (∀ x ∈ l, 0 ≤ x ∧ x ≤ mx) → gMems mx k (memB l ++ rest, bad) = (l, rest, bad) := by
  induction k with
  | zero => intro l rest bad h1 h2; obtain rfl := List.length_eq_zero_iff.1 h1; simp [gMems, memB, numsB]
  | succ k ih =>
    intro l rest bad h1 h2
    obtain ⟨l', x, rfl⟩ : ∃ l' x, l = l' ++ [x] := by
      rcases List.eq_nil_or_concat l with rfl | ⟨l', x, rfl⟩
      · simp at h1
      · exact ⟨l', x, by simp⟩
    have h3 : l'.length = k := by simpa using h1
    obtain ⟨h4, h5⟩ := h2 x (by simp)
    unfold gMems
    rw [memB_snoc, List.append_assoc, ih l' _ bad h3 (fun y hy => h2 y (by simp [hy]))]
    simp only
    rw [gN_numB mx x.toNat rest bad (by omega) (by omega)]
    simp only [Int.toNat_of_nonneg h4]
theorem gMems_inv (mx k : Nat) (s : St) : (gMems mx k s).2.2 = false → s.2 = false ∧ s.1 = memB (gMems mx k s).1 ++ (gMems mx k s).2.1 := by
  induction k with
  | zero => intro h; exact ⟨h, by simp [gMems, memB, numsB]⟩
  | succ k ih =>
    intro h
    simp only [gMems] at h ⊢
    obtain ⟨h1, h2⟩ := gN_inv mx _ h
    obtain ⟨h3, h4⟩ := ih h1
    refine ⟨h3, ?_⟩
    rw [memB_snoc, Int.toNat_natCast, List.append_assoc, ← h2]
    exact h4
/-- a snapshot's bytes -/
def snBody (s : Sn) : List UInt8 := numsB [s.index.toNat, s.term.toNat, s.members.length] ++ memB s.members ++ (numB s.data.length ++ s.data)
def snB (s : Sn) : List UInt8 := Fr.wrapped 4 (snBody s)
def gSn (mx : Nat) (s : St) : Sn × St :=
  let i := gN 576460752303423488 s
  let t := gN 1152921504606846976 i.2
  let n := gN 7 t.2
  let m := gMems mx n.1 n.2
  let d := gT 32768 m.2
  (⟨i.1, t.1, m.1, d.1⟩, d.2)
def sn0 : Sn := ⟨0, 0, [], []⟩
def doneR (s : St) : Bool := !s.2 && decide (s.1.length = 0)
theorem endR_done (s : St) : endR s.1 s.2 = if doneR s = true then 0 else 20 := by
  obtain ⟨l, b⟩ := s
  unfold endR doneR
  cases b <;> cases l <;> simp
def wholeF (k : UInt8) (l : List UInt8) : Prop := ((Fr.take l).err = 0 ∧ (Fr.take l).n = l.length) ∧ (Fr.take l).kind = k
instance (k : UInt8) (l : List UInt8) : Decidable (wholeF k l) := by unfold wholeF; exact inferInstance
/-- a snapshot read -/
def snR (mx : Nat) (l : List UInt8) : Sn × Bool :=
  if wholeF 4 l then
    if doneR (gSn mx ((Fr.take l).body, false)).2 = true ∧ soundSn (gSn mx ((Fr.take l).body, false)).1 = true then ((gSn mx ((Fr.take l).body, false)).1, true) else (sn0, false)
  else (sn0, false)
theorem numsB_cons (x : Nat) (l : List Nat) : numsB (x :: l) = numB x ++ numsB l := rfl
theorem numsB_nil : numsB [] = [] := rfl
theorem mRise_all (l : List Int) : ∀ last : Int, -1 ≤ last → mRise last l = true → ∀ x ∈ l, 0 ≤ x ∧ x ≤ 6 := by
  induction l with
  | nil => intro last _ _ x hx; cases hx
  | cons y r ih =>
    intro last h0 h x hx
    simp only [mRise, Bool.and_eq_true, decide_eq_true_eq] at h
    rcases List.mem_cons.1 hx with rfl | hx
    · omega
    · exact ih y (by omega) h.2 x hx
theorem mOk_all {l : List Int} (h : mOk l = true) : 1 ≤ l.length ∧ l.length ≤ 7 ∧ ∀ x ∈ l, 0 ≤ x ∧ x ≤ 6 := by
  simp only [mOk, Bool.and_eq_true, decide_eq_true_eq] at h
  exact ⟨by omega, by omega, mRise_all l (-1) (by omega) h.2⟩
theorem gSn_enc (mx : Nat) (h6 : 6 ≤ mx) (hmx : mx < 2 ^ 64) (s : Sn) (hs : soundSn s = true) (rest : List UInt8) (bad : Bool) : gSn mx (snBody s ++ rest, bad) = (s, rest, bad) := by
  obtain ⟨h1, h2, h3, h4, h5, h7⟩ := soundSn_iff.1 hs
  obtain ⟨m1, m2, m3⟩ := mOk_all h5
  unfold gSn snBody
  rw [numsB_cons, numsB_cons, numsB_cons, numsB_nil]
  simp only [List.append_assoc, List.nil_append]
  rw [gN_numB _ s.index.toNat _ bad (by omega) (by omega)]
  simp only
  rw [gN_numB _ s.term.toNat _ bad (by omega) (by omega)]
  simp only
  rw [gN_numB _ s.members.length _ bad (by omega) (by omega)]
  simp only
  rw [gMems_enc mx hmx s.members.length s.members _ bad rfl (fun x hx => by have := m3 x hx; omega)]
  simp only
  rw [gT_enc 32768 s.data rest bad (by omega) (by omega)]
  simp only
  obtain ⟨i, t, m, d⟩ := s
  simp only at h1 h3 ⊢
  rw [Int.toNat_of_nonneg (by omega), Int.toNat_of_nonneg (by omega)]
theorem gSn_inv (mx : Nat) (s : St) (h : (gSn mx s).2.2 = false) : s.2 = false ∧ s.1 = snBody (gSn mx s).1 ++ (gSn mx s).2.1 := by
  unfold gSn at h ⊢
  simp only at h ⊢
  obtain ⟨d1, d2⟩ := gT_inv _ _ h
  obtain ⟨m1, m2⟩ := gMems_inv _ _ _ d1
  obtain ⟨n1, n2⟩ := gN_inv _ _ m1
  obtain ⟨t1, t2⟩ := gN_inv _ _ n1
  obtain ⟨i1, i2⟩ := gN_inv _ _ t1
  refine ⟨i1, ?_⟩
  unfold snBody
  simp only [Int.toNat_natCast, gMems_len]
  rw [numsB_cons, numsB_cons, numsB_cons, numsB_nil]
  simp only [List.append_assoc, List.nil_append]
  rw [← d2, ← m2, ← n2, ← t2]
  exact i2
theorem snBody_len (s : Sn) (hs : soundSn s = true) : (snBody s).length ≤ 33000 := by
  obtain ⟨h1, h2, h3, h4, h5, h7⟩ := soundSn_iff.1 hs
  obtain ⟨m1, m2, m3⟩ := mOk_all h5
  have a1 := numsB_len [s.index.toNat, s.term.toNat, s.members.length] (by intro n hn; simp at hn; omega)
  have a2 := numsB_len (s.members.map Int.toNat) (by intro n hn; obtain ⟨x, hx, rfl⟩ := List.mem_map.1 hn; have := m3 x hx; omega)
  have a3 := numB_len s.data.length (by omega)
  unfold snBody memB
  simp only [List.length_append, List.length_map, List.length_cons, List.length_nil] at a1 a2 ⊢
  omega
theorem wholeF_wrapped (k : UInt8) (body : List UInt8) (hk : k ≠ 0) (hb : body.length ≤ 65536) : wholeF k (Fr.wrapped k body) ∧ (Fr.take (Fr.wrapped k body)).body = body := by
  have h := Fr.take_wrapped k body [] hk hb
  rw [List.append_nil] at h
  unfold wholeF
  rw [h, Fr.wrapped_length]
  exact ⟨⟨⟨rfl, rfl⟩, rfl⟩, rfl⟩
theorem wrapped_of (k : UInt8) (l : List UInt8) (h : wholeF k l) : l = Fr.wrapped k (Fr.take l).body ∧ (Fr.take l).body.length ≤ 65536 := by
  obtain ⟨⟨h1, h2⟩, h3⟩ := h
  have hs : (Fr.size l).2 = 0 := by
    by_cases h : (Fr.size l).2 = 0
    · exact h
    · rw [Fr.take_err l h] at h1; exact absurd h1 h
  have ho : Crc.opened (l.take (Fr.size l).1) ≠ none := by
    intro e
    rw [Fr.take_sum l hs e] at h1
    cases h1
  obtain ⟨h4, h5⟩ := Fr.take_yes l hs ho
  have hr := Fr.rebuilt l hs
  have hn := Fr.take_n l h1
  rw [h5] at h2 h3 hn ⊢
  simp only at h2 h3 hn ⊢
  refine ⟨?_, hn.2.2⟩
  rw [← h3, hr]
  have hop : Crc.opened l = some (l.take ((Fr.size l).1 - 3)) := by
    rw [h2, List.take_length] at h4
    rw [h4, h2]
  unfold Crc.opened at hop
  split at hop
  · rename_i hc
    rw [h2]
    exact hc.2.symm
  · cases hop
theorem doneR_iff {s : St} : doneR s = true ↔ s.2 = false ∧ s.1 = [] := by
  unfold doneR; simp [List.length_eq_zero_iff]
theorem snR_enc (mx : Nat) (h6 : 6 ≤ mx) (hmx : mx < 2 ^ 64) (s : Sn) (hs : soundSn s = true) : snR mx (snB s) = (s, true) := by
  obtain ⟨h1, h2⟩ := wholeF_wrapped 4 (snBody s) (by decide) (by have := snBody_len s hs; omega)
  unfold snR snB
  rw [if_pos h1, h2]
  have h3 := gSn_enc mx h6 hmx s hs [] false
  rw [List.append_nil] at h3
  rw [h3, if_pos ⟨rfl, hs⟩]
theorem snR_inv (mx : Nat) (l : List UInt8) (h : (snR mx l).2 = true) : soundSn (snR mx l).1 = true ∧ l = snB (snR mx l).1 := by
  unfold snR at h ⊢
  by_cases h1 : wholeF 4 l
  · rw [if_pos h1] at h ⊢
    by_cases h2 : doneR (gSn mx ((Fr.take l).body, false)).2 = true ∧ soundSn (gSn mx ((Fr.take l).body, false)).1 = true
    · rw [if_pos h2]
      refine ⟨h2.2, ?_⟩
      obtain ⟨h3, h4⟩ := doneR_iff.1 h2.1
      obtain ⟨h5, h6⟩ := gSn_inv mx _ h3
      rw [h4, List.append_nil] at h6
      simp only at h6
      unfold snB
      simp only
      rw [← h6]
      exact (wrapped_of 4 l h1).1
    · rw [if_neg h2] at h; cases h
  · rw [if_neg h1] at h; cases h
theorem snR_none (mx : Nat) (l : List UInt8) (h : (snR mx l).2 = false) : (snR mx l).1 = sn0 := by
  unfold snR at h ⊢
  split at h
  · rename_i h1
    rw [if_pos h1]
    split at h
    · cases h
    · rename_i h2; rw [if_neg h2]
  · rename_i h1; rw [if_neg h1]
theorem snR_mx (a b : Nat) (ha : 6 ≤ a) (hb : 6 ≤ b) (ha2 : a < 2 ^ 64) (hb2 : b < 2 ^ 64) (l : List UInt8) : snR a l = snR b l := by
  have key : ∀ a b : Nat, 6 ≤ b → b < 2 ^ 64 → (snR a l).2 = true → snR b l = ((snR a l).1, true) := fun a b hb hb2 h => by
    obtain ⟨h1, h2⟩ := snR_inv a l h
    rw [h2, snR_enc b hb hb2 _ h1]
    rw [← h2]
  cases h : (snR a l).2 with
  | true => rw [key a b hb hb2 h, ← h]
  | false =>
    cases h2 : (snR b l).2 with
    | true => have := key b a ha ha2 h2; rw [this] at h; cases h
    | false =>
      have h3 := snR_none a l h
      have h4 := snR_none b l h2
      exact Prod.ext (h3.trans h4.symm) (h.trans h2.symm)
/-- entries -/
def entE (e : En) : List UInt8 := numsB [e.term.toNat, e.kind.toNat] ++ (numB e.data.length ++ e.data)
def entsB (l : List En) : List UInt8 := (l.map entE).flatten
def gEnt (s : St) : En × St :=
  let t := gN 1152921504606846976 s
  let k := gN 3 t.2
  let d := gT 4096 k.2
  (⟨t.1, k.1, d.1⟩, d.2)
def gEnts : Nat → St → List En × St
  | 0, s => ([], s)
  | k + 1, s => ((gEnts k s).1 ++ [(gEnt (gEnts k s).2).1], (gEnt (gEnts k s).2).2)
theorem entsB_snoc (l : List En) (e : En) : entsB (l ++ [e]) = entsB l ++ entE e := by simp [entsB]
theorem gEnts_len (k : Nat) (s : St) : (gEnts k s).1.length = k := by
  induction k with
  | zero => rfl
  | succ k ih => simp [gEnts, ih]
theorem gEnt_enc (e : En) (rest : List UInt8) (bad : Bool) (he : soundE e = true) : gEnt (entE e ++ rest, bad) = (e, rest, bad) := by
  obtain ⟨h1, h2, h3, h4, h5⟩ := soundE_iff.1 he
  unfold gEnt entE
  rw [numsB_cons, numsB_cons, numsB_nil]
  simp only [List.append_assoc, List.nil_append]
  rw [gN_numB _ e.term.toNat _ bad (by omega) (by omega)]
  simp only
  rw [gN_numB _ e.kind.toNat _ bad (by omega) (by omega)]
  simp only
  rw [gT_enc 4096 e.data rest bad (by omega) (by omega)]
  obtain ⟨t, k, d⟩ := e
  simp only at h1 h3 ⊢
  rw [Int.toNat_of_nonneg (by omega), Int.toNat_of_nonneg (by omega)]
theorem gEnt_inv (s : St) (h : (gEnt s).2.2 = false) : s.2 = false ∧ s.1 = entE (gEnt s).1 ++ (gEnt s).2.1 := by
  unfold gEnt at h ⊢
  simp only at h ⊢
  obtain ⟨d1, d2⟩ := gT_inv _ _ h
  obtain ⟨k1, k2⟩ := gN_inv _ _ d1
  obtain ⟨t1, t2⟩ := gN_inv _ _ k1
  refine ⟨t1, ?_⟩
  unfold entE
  simp only [Int.toNat_natCast]
  rw [numsB_cons, numsB_cons, numsB_nil]
  simp only [List.append_assoc, List.nil_append]
  rw [← d2, ← k2]
  exact t2
theorem gEnts_enc (k : Nat) : ∀ (l : List En) (rest : List UInt8) (bad : Bool), l.length = k → (∀ x ∈ l, soundE x = true) → gEnts k (entsB l ++ rest, bad) = (l, rest, bad) := by
  induction k with
  | zero => intro l rest bad h1 h2; obtain rfl := List.length_eq_zero_iff.1 h1; simp [gEnts, entsB]
  | succ k ih =>
    intro l rest bad h1 h2
    obtain ⟨l', x, rfl⟩ : ∃ l' x, l = l' ++ [x] := by
      rcases List.eq_nil_or_concat l with rfl | ⟨l', x, rfl⟩
      · simp at h1
      · exact ⟨l', x, by simp⟩
    have h3 : l'.length = k := by simpa using h1
    unfold gEnts
    rw [entsB_snoc, List.append_assoc, ih l' _ bad h3 (fun y hy => h2 y (by simp [hy]))]
    simp only
    rw [gEnt_enc x rest bad (h2 x (by simp))]
theorem gEnts_inv (k : Nat) (s : St) : (gEnts k s).2.2 = false → s.2 = false ∧ s.1 = entsB (gEnts k s).1 ++ (gEnts k s).2.1 := by
  induction k with
  | zero => intro h; exact ⟨h, by simp [gEnts, entsB]⟩
  | succ k ih =>
    intro h
    simp only [gEnts] at h ⊢
    obtain ⟨h1, h2⟩ := gEnt_inv _ h
    obtain ⟨h3, h4⟩ := ih h1
    refine ⟨h3, ?_⟩
    rw [entsB_snoc, List.append_assoc, ← h2]
    exact h4
theorem entE_len (e : En) (he : soundE e = true) : (entE e).length ≤ e.data.length + 27 := by
  obtain ⟨h1, h2, h3, h4, h5⟩ := soundE_iff.1 he
  have a1 := numsB_len [e.term.toNat, e.kind.toNat] (by intro n hn; simp at hn; omega)
  have a2 := numB_len e.data.length (by omega)
  unfold entE
  simp only [List.length_append, List.length_cons, List.length_nil] at a1 ⊢
  omega
theorem entsB_len (l : List En) (h : ∀ x ∈ l, soundE x = true) : (entsB l).length ≤ 4123 * l.length := by
  induction l with
  | nil => simp [entsB]
  | cons x r ih =>
    have h1 := entE_len x (h x (by simp))
    have h2 := ih (fun y hy => h y (by simp [hy]))
    obtain ⟨_, _, _, _, h5⟩ := soundE_iff.1 (h x (by simp))
    have : entsB (x :: r) = entE x ++ entsB r := rfl
    rw [this]; simp; omega
/-- a message's bytes -/
def fieldsB (m : Ms) : List UInt8 :=
  if m.kind = 1 then numsB [m.index.toNat, m.logTerm.toNat]
  else if m.kind = 2 ∨ m.kind = 4 then flagB m.ok
  else if m.kind = 3 then numsB [m.index.toNat, m.logTerm.toNat] ++ flagB m.force
  else if m.kind = 5 then numsB [m.index.toNat, m.logTerm.toNat, m.commit.toNat, m.round.toNat, m.es.length] ++ entsB m.es
  else if m.kind = 6 then flagB m.ok ++ numsB [m.index.toNat, m.round.toNat]
  else if m.kind = 7 then numsB [m.round.toNat] ++ (numB (snB m.sn).length ++ snB m.sn)
  else []
def bodyB (m : Ms) : List UInt8 := numsB [m.kind.toNat, m.frm.toNat, m.dst.toNat, m.term.toNat] ++ fieldsB m
def wireB (m : Ms) : List UInt8 := Fr.wrapped 5 (bodyB m)
/-- the fields that a kind has are read -/
def gFields (m : Ms) (s : St) : Ms × St :=
  if m.kind = 1 then ({ m with index := (gN 576460752303423488 s).1, logTerm := (gN 1152921504606846976 (gN 576460752303423488 s).2).1 }, (gN 1152921504606846976 (gN 576460752303423488 s).2).2)
  else if m.kind = 2 ∨ m.kind = 4 then ({ m with ok := (gF s).1 }, (gF s).2)
  else if m.kind = 3 then
    let i := gN 576460752303423488 s
    let l := gN 1152921504606846976 i.2
    let f := gF l.2
    ({ m with index := i.1, logTerm := l.1, force := f.1 }, f.2)
  else if m.kind = 5 then
    let i := gN 576460752303423488 s
    let l := gN 1152921504606846976 i.2
    let c := gN 576460752303423488 l.2
    let r := gN 1152921504606846976 c.2
    let n := gN 8 r.2
    let e := gEnts n.1 n.2
    ({ m with index := i.1, logTerm := l.1, commit := c.1, round := r.1, es := e.1 }, e.2)
  else if m.kind = 6 then
    let f := gF s
    let i := gN 576460752303423488 f.2
    let r := gN 1152921504606846976 i.2
    ({ m with ok := f.1, index := i.1, round := r.1 }, r.2)
  else if m.kind = 7 then
    let r := gN 1152921504606846976 s
    let t := gT 65536 r.2
    ({ m with round := r.1, sn := (snR 6 t.1).1 }, if (snR 6 t.1).2 = true then t.2 else ([], true))
  else (m, s)
def m0 (k f d t : Nat) : Ms := ⟨k, f, d, t, 0, 0, 0, 0, false, false, [], sn0⟩
def gMsg (mx : Nat) (s : St) : Ms × St :=
  let k := gN 8 s
  let f := gN mx k.2
  let d := gN mx f.2
  let t := gN 1152921504606846976 d.2
  gFields (m0 k.1 f.1 d.1 t.1) t.2
def ms0 : Ms := m0 0 0 0 0
def wireR (mx : Nat) (l : List UInt8) : Ms × Bool :=
  if wholeF 5 l then
    if doneR (gMsg mx ((Fr.take l).body, false)).2 = true ∧ soundM (gMsg mx ((Fr.take l).body, false)).1 = true then ((gMsg mx ((Fr.take l).body, false)).1, true) else (ms0, false)
  else (ms0, false)
theorem rowB_all (tt : Int) (es : List En) : ∀ f : Int, rowB f tt es = true → ∀ e ∈ es, soundE e = true := by
  induction es with
  | nil => intro f _ e he; cases he
  | cons x r ih =>
    intro f h e he
    simp only [rowB, Bool.and_eq_true] at h
    rcases List.mem_cons.1 he with rfl | he
    · exact h.1.1.1.1
    · exact ih x.term h.2 e he
/-- what a sound message has -/
structure MOk (m : Ms) : Prop where
  kind : 1 ≤ m.kind ∧ m.kind ≤ 8
  frm : 0 ≤ m.frm ∧ m.frm ≤ 6
  dst : 0 ≤ m.dst ∧ m.dst ≤ 6
  term : 1 ≤ m.term ∧ m.term ≤ 1152921504606846976
  commit : m.commit ≤ 576460752303423488
  round : m.round ≤ 1152921504606846976
  log : m.logTerm ≤ 1152921504606846976
  index : m.index ≤ 576460752303423488
  es8 : m.es.length ≤ 8
  ents : ∀ e ∈ m.es, soundE e = true
  snap : m.kind = 7 → soundSn m.sn = true
  plain : m = plainM m
theorem soundM_ok {m : Ms} (h : soundM m = true) : MOk m := by
  obtain ⟨⟨a1, a2, a3, a4, a5, a6, a7⟩, ⟨b1, b2, b3, b4⟩, c, d, e⟩ := soundM_iff.1 h
  obtain ⟨c1, c2, c3, c4, c5⟩ := entM_iff.1 c
  exact ⟨⟨a1, a2⟩, ⟨a3, a4⟩, ⟨a5, a6⟩, ⟨b1, b2⟩, b3, b4, by omega, c2, c3, rowB_all _ _ _ c4, fun h7 => (d.resolve_left (fun h => h h7)).1, plainM_iff.1 e⟩
theorem fieldsB_len (m : Ms) (h : soundM m = true) (h0 : 0 ≤ m.index ∧ 0 ≤ m.logTerm ∧ 0 ≤ m.commit ∧ 0 ≤ m.round) : (fieldsB m).length ≤ 33500 := by
  obtain ⟨kind, frm, dst, term, commit, round, log, index, es8, ents, snap, plain⟩ := soundM_ok h
  obtain ⟨i0, l0, c0, r0⟩ := h0
  have n1 := numB_len m.index.toNat (by omega)
  have n2 := numB_len m.logTerm.toNat (by omega)
  have n3 := numB_len m.commit.toNat (by omega)
  have n4 := numB_len m.round.toNat (by omega)
  have n5 := numB_len m.es.length (by omega)
  have n6 : (flagB m.ok).length ≤ 9 := numB_len _ (by split <;> omega)
  have n7 : (flagB m.force).length ≤ 9 := numB_len _ (by split <;> omega)
  have n8 := entsB_len m.es ents
  unfold fieldsB
  split
  · simp [numsB]; omega
  split
  · omega
  split
  · simp [numsB]; omega
  split
  · simp [numsB]; omega
  split
  · simp [numsB]; omega
  split
  · rename_i h7
    have s1 := snBody_len m.sn (snap h7)
    have s2 : (snB m.sn).length = (snBody m.sn).length + 8 := Fr.wrapped_length _ _
    have s3 := numB_len (snB m.sn).length (by omega)
    simp only [numsB_cons, numsB_nil, List.length_append, List.length_nil]; omega
  · simp
theorem bodyB_len (m : Ms) (h : soundM m = true) (h0 : 0 ≤ m.index ∧ 0 ≤ m.logTerm ∧ 0 ≤ m.commit ∧ 0 ≤ m.round) : (bodyB m).length ≤ 33600 := by
  have h1 := fieldsB_len m h h0
  obtain ⟨kind, frm, dst, term, commit, round, log, index, es8, ents, snap, plain⟩ := soundM_ok h
  have a1 := numsB_len [m.kind.toNat, m.frm.toNat, m.dst.toNat, m.term.toNat] (by intro n hn; simp at hn; omega)
  unfold bodyB
  simp only [List.length_append, List.length_cons, List.length_nil] at a1 ⊢
  omega
theorem gFields_enc (m : Ms) (h : soundM m = true) (h0 : 0 ≤ m.index ∧ 0 ≤ m.logTerm ∧ 0 ≤ m.commit ∧ 0 ≤ m.round) (rest : List UInt8) (bad : Bool) :
    gFields (m0 m.kind.toNat m.frm.toNat m.dst.toNat m.term.toNat) (fieldsB m ++ rest, bad) = (m, rest, bad) := by
  have hlen := fieldsB_len m h h0
  obtain ⟨kind, frm, dst, term, commit, round, log, index, es8, ents, snap, plain⟩ := soundM_ok h
  obtain ⟨i0, l0, c0, r0⟩ := h0
  obtain ⟨mk, mf, md, mt, mi, ml, mc, mr, mo, mg, me, mn⟩ := m
  simp only at *
  have ek : ((mk.toNat : Nat) : Int) = mk := Int.toNat_of_nonneg (by omega)
  have ef : ((mf.toNat : Nat) : Int) = mf := Int.toNat_of_nonneg (by omega)
  have ed : ((md.toNat : Nat) : Int) = md := Int.toNat_of_nonneg (by omega)
  have et : ((mt.toNat : Nat) : Int) = mt := Int.toNat_of_nonneg (by omega)
  have ei : ((mi.toNat : Nat) : Int) = mi := Int.toNat_of_nonneg (by omega)
  have el : ((ml.toNat : Nat) : Int) = ml := Int.toNat_of_nonneg (by omega)
  have ec : ((mc.toNat : Nat) : Int) = mc := Int.toNat_of_nonneg (by omega)
  have er : ((mr.toNat : Nat) : Int) = mr := Int.toNat_of_nonneg (by omega)
  have hnI : ∀ rest bad, gN 576460752303423488 (numB mi.toNat ++ rest, bad) = (mi.toNat, rest, bad) := fun rest bad => gN_numB _ _ _ _ (by omega) (by omega)
  have hnL : ∀ rest bad, gN 1152921504606846976 (numB ml.toNat ++ rest, bad) = (ml.toNat, rest, bad) := fun rest bad => gN_numB _ _ _ _ (by omega) (by omega)
  have hnC : ∀ rest bad, gN 576460752303423488 (numB mc.toNat ++ rest, bad) = (mc.toNat, rest, bad) := fun rest bad => gN_numB _ _ _ _ (by omega) (by omega)
  have hnR : ∀ rest bad, gN 1152921504606846976 (numB mr.toNat ++ rest, bad) = (mr.toNat, rest, bad) := fun rest bad => gN_numB _ _ _ _ (by omega) (by omega)
  unfold plainM at plain
  simp only [Ms.mk.injEq, true_and] at plain
  obtain ⟨p1, p2, p3, p4, p5, p6, p7, p8⟩ := plain
  unfold gFields m0
  simp only [ek, ef, ed, et]
  by_cases k1 : mk = 1
  · subst k1
    simp at p1 p2 p3 p4 p5 p6 p7 p8
    subst p3 p4 p5 p6 p7 p8
    simp only [fieldsB, if_true, numsB_cons, numsB_nil, List.append_nil, List.append_assoc, hnI, hnL, ei, el]
    rfl
  by_cases k2 : mk = 2
  · subst k2
    simp at p1 p2 p3 p4 p5 p6 p7 p8
    subst p1 p2 p3 p4 p6 p7 p8
    simp [fieldsB, gF_enc, sn0]
  by_cases k4 : mk = 4
  · subst k4
    simp at p1 p2 p3 p4 p5 p6 p7 p8
    subst p1 p2 p3 p4 p6 p7 p8
    simp [fieldsB, gF_enc, sn0]
  by_cases k3 : mk = 3
  · subst k3
    simp at p1 p2 p3 p4 p5 p6 p7 p8
    subst p3 p4 p5 p7 p8
    simp [fieldsB, numsB_cons, numsB_nil, hnI, hnL, gF_enc, ei, el, sn0]
  by_cases k5 : mk = 5
  · subst k5
    simp at p1 p2 p3 p4 p5 p6 p7 p8
    subst p5 p6 p8
    have hn8 : ∀ rest bad, gN 8 (numB me.length ++ rest, bad) = (me.length, rest, bad) := fun rest bad => gN_numB _ _ _ _ (by omega) (by omega)
    have hes : ∀ rest bad, gEnts me.length (entsB me ++ rest, bad) = (me, rest, bad) := fun rest bad => gEnts_enc _ _ _ _ rfl ents
    simp [fieldsB, numsB_cons, numsB_nil, hnI, hnL, hnC, hnR, hn8, hes, ei, el, ec, er, sn0]
  by_cases k6 : mk = 6
  · subst k6
    simp at p1 p2 p3 p4 p5 p6 p7 p8
    subst p2 p3 p6 p7 p8
    simp [fieldsB, numsB_cons, numsB_nil, hnI, hnR, gF_enc, ei, er, sn0]
  by_cases k7 : mk = 7
  · subst k7
    simp at p1 p2 p3 p4 p5 p6 p7 p8
    subst p1 p2 p3 p5 p6 p7
    have hsn := snap rfl
    have hl := snBody_len mn hsn
    have hl2 : (snB mn).length = (snBody mn).length + 8 := Fr.wrapped_length _ _
    have hgt : ∀ rest bad, gT 65536 (numB (snB mn).length ++ (snB mn ++ rest), bad) = (snB mn, rest, bad) := fun rest bad => gT_enc _ _ _ _ (by omega) (by omega)
    have hsr := snR_enc 6 (by omega) (by omega) mn hsn
    simp [fieldsB, numsB_cons, numsB_nil, hnR, hgt, hsr, er]
  · simp [k1, k2, k3, k4, k5, k6, k7] at p1 p2 p3 p4 p5 p6 p7 p8
    subst p1 p2 p3 p4 p5 p6 p7 p8
    simp [fieldsB, k1, k2, k3, k4, k5, k6, k7, sn0]
theorem gFields_kind (m : Ms) (s : St) : (gFields m s).1.kind = m.kind ∧ (gFields m s).1.frm = m.frm ∧ (gFields m s).1.dst = m.dst ∧ (gFields m s).1.term = m.term := by
  unfold gFields
  split
  · exact ⟨rfl, rfl, rfl, rfl⟩
  split
  · exact ⟨rfl, rfl, rfl, rfl⟩
  split
  · exact ⟨rfl, rfl, rfl, rfl⟩
  split
  · exact ⟨rfl, rfl, rfl, rfl⟩
  split
  · exact ⟨rfl, rfl, rfl, rfl⟩
  split
  · exact ⟨rfl, rfl, rfl, rfl⟩
  · exact ⟨rfl, rfl, rfl, rfl⟩
theorem gFields_inv (m : Ms) (s : St) (h : (gFields m s).2.2 = false) : s.2 = false ∧ s.1 = fieldsB (gFields m s).1 ++ (gFields m s).2.1 := by
  unfold gFields at h ⊢
  by_cases k1 : m.kind = 1
  · rw [if_pos k1] at h ⊢
    simp only at h ⊢
    obtain ⟨b1, b2⟩ := gN_inv _ _ h
    obtain ⟨a1, a2⟩ := gN_inv _ _ b1
    refine ⟨a1, ?_⟩
    simp only [fieldsB, k1, if_true, numsB_cons, numsB_nil, List.append_assoc, List.nil_append, Int.toNat_natCast]
    rw [← b2]; exact a2
  rw [if_neg k1] at h ⊢
  by_cases k2 : m.kind = 2 ∨ m.kind = 4
  · rw [if_pos k2] at h ⊢
    simp only at h ⊢
    obtain ⟨a1, a2⟩ := gF_inv _ h
    refine ⟨a1, ?_⟩
    simp only [fieldsB, k1, k2, if_true, if_false]
    exact a2
  rw [if_neg k2] at h ⊢
  by_cases k3 : m.kind = 3
  · rw [if_pos k3] at h ⊢
    simp only at h ⊢
    obtain ⟨c1, c2⟩ := gF_inv _ h
    obtain ⟨b1, b2⟩ := gN_inv _ _ c1
    obtain ⟨a1, a2⟩ := gN_inv _ _ b1
    refine ⟨a1, ?_⟩
    unfold fieldsB
    simp only
    rw [if_neg k1, if_neg k2, if_pos k3]
    simp only [numsB_cons, numsB_nil, List.append_assoc, List.nil_append, Int.toNat_natCast]
    rw [← c2, ← b2]; exact a2
  rw [if_neg k3] at h ⊢
  by_cases k5 : m.kind = 5
  · rw [if_pos k5] at h ⊢
    simp only at h ⊢
    obtain ⟨f1, f2⟩ := gEnts_inv _ _ h
    obtain ⟨e1, e2⟩ := gN_inv _ _ f1
    obtain ⟨d1, d2⟩ := gN_inv _ _ e1
    obtain ⟨c1, c2⟩ := gN_inv _ _ d1
    obtain ⟨b1, b2⟩ := gN_inv _ _ c1
    obtain ⟨a1, a2⟩ := gN_inv _ _ b1
    refine ⟨a1, ?_⟩
    unfold fieldsB
    simp only
    rw [if_neg k1, if_neg k2, if_neg k3, if_pos k5]
    simp only [numsB_cons, numsB_nil, List.append_assoc, List.nil_append, Int.toNat_natCast, gEnts_len]
    rw [← f2, ← e2, ← d2, ← c2, ← b2]; exact a2
  rw [if_neg k5] at h ⊢
  by_cases k6 : m.kind = 6
  · rw [if_pos k6] at h ⊢
    simp only at h ⊢
    obtain ⟨c1, c2⟩ := gN_inv _ _ h
    obtain ⟨b1, b2⟩ := gN_inv _ _ c1
    obtain ⟨a1, a2⟩ := gF_inv _ b1
    refine ⟨a1, ?_⟩
    unfold fieldsB
    simp only
    rw [if_neg k1, if_neg k2, if_neg k3, if_neg k5, if_pos k6]
    simp only [numsB_cons, numsB_nil, List.append_assoc, List.nil_append, Int.toNat_natCast]
    rw [← c2, ← b2]; exact a2
  rw [if_neg k6] at h ⊢
  by_cases k7 : m.kind = 7
  · rw [if_pos k7] at h ⊢
    simp only at h ⊢
    cases hs : (snR 6 (gT 65536 (gN 1152921504606846976 s).2).1).2 with
    | false => rw [hs] at h; simp at h
    | true =>
      rw [hs] at h
      simp only [if_true] at h ⊢
      obtain ⟨b1, b2⟩ := gT_inv _ _ h
      obtain ⟨a1, a2⟩ := gN_inv _ _ b1
      obtain ⟨s1, s2⟩ := snR_inv 6 _ hs
      refine ⟨a1, ?_⟩
      unfold fieldsB
      simp only
      rw [if_neg k1, if_neg k2, if_neg k3, if_neg k5, if_neg k6, if_pos k7]
      simp only [numsB_cons, numsB_nil, List.append_assoc, List.nil_append, Int.toNat_natCast]
      rw [← s2, ← b2]; exact a2
  rw [if_neg k7] at h ⊢
  refine ⟨h, ?_⟩
  unfold fieldsB
  rw [if_neg k1, if_neg k2, if_neg k3, if_neg k5, if_neg k6, if_neg k7]
  rfl
theorem wireR_enc (mx : Nat) (h6 : 6 ≤ mx) (hmx : mx < 2 ^ 64) (m : Ms) (h : soundM m = true) (h0 : 0 ≤ m.index ∧ 0 ≤ m.logTerm ∧ 0 ≤ m.commit ∧ 0 ≤ m.round) : wireR mx (wireB m) = (m, true) := by
  have hf := gFields_enc m h h0 [] false
  obtain ⟨h1, h2⟩ := wholeF_wrapped 5 (bodyB m) (by decide) (by have := bodyB_len m h h0; omega)
  obtain ⟨kind, frm, dst, term, _⟩ := soundM_ok h
  have hg : gMsg mx (bodyB m, false) = (m, [], false) := by
    unfold gMsg bodyB
    simp only [numsB_cons, numsB_nil, List.append_assoc, List.nil_append]
    rw [gN_numB 8 m.kind.toNat _ false (by omega) (by omega)]
    simp only
    rw [gN_numB mx m.frm.toNat _ false (by omega) (by omega)]
    simp only
    rw [gN_numB mx m.dst.toNat _ false (by omega) (by omega)]
    simp only
    rw [gN_numB _ m.term.toNat _ false (by omega) (by omega)]
    simp only
    rw [List.append_nil] at hf
    exact hf
  unfold wireR wireB
  rw [if_pos h1, h2, hg, if_pos ⟨rfl, h⟩]
theorem wireR_inv (mx : Nat) (l : List UInt8) (h : (wireR mx l).2 = true) : soundM (wireR mx l).1 = true ∧ l = wireB (wireR mx l).1 := by
  unfold wireR at h ⊢
  by_cases h1 : wholeF 5 l
  · rw [if_pos h1] at h ⊢
    by_cases h2 : doneR (gMsg mx ((Fr.take l).body, false)).2 = true ∧ soundM (gMsg mx ((Fr.take l).body, false)).1 = true
    · rw [if_pos h2]
      refine ⟨h2.2, ?_⟩
      obtain ⟨h3, h4⟩ := doneR_iff.1 h2.1
      have e : (Fr.take l).body = bodyB (gMsg mx ((Fr.take l).body, false)).1 := by
        unfold gMsg at h3 h4 ⊢
        simp only at h3 h4 ⊢
        obtain ⟨f1, f2⟩ := gFields_inv _ _ h3
        obtain ⟨d1, d2⟩ := gN_inv _ _ f1
        obtain ⟨c1, c2⟩ := gN_inv _ _ d1
        obtain ⟨b1, b2⟩ := gN_inv _ _ c1
        obtain ⟨a1, a2⟩ := gN_inv _ _ b1
        rw [h4, List.append_nil] at f2
        unfold bodyB
        obtain ⟨k1, k2, k3, k4⟩ := gFields_kind (m0 (gN 8 ((Fr.take l).body, false)).1 (gN mx (gN 8 ((Fr.take l).body, false)).2).1 (gN mx (gN mx (gN 8 ((Fr.take l).body, false)).2).2).1 (gN 1152921504606846976 (gN mx (gN mx (gN 8 ((Fr.take l).body, false)).2).2).2).1) (gN 1152921504606846976 (gN mx (gN mx (gN 8 ((Fr.take l).body, false)).2).2).2).2
        rw [k1, k2, k3, k4, ← f2]
        simp only [m0, numsB_cons, numsB_nil, List.append_assoc, List.nil_append, Int.toNat_natCast]
        rw [← d2, ← c2, ← b2]
        exact a2
      unfold wireB
      simp only
      rw [← e]
      exact (wrapped_of 5 l h1).1
    · rw [if_neg h2] at h; cases h
  · rw [if_neg h1] at h; cases h
theorem wireR_none (mx : Nat) (l : List UInt8) (h : (wireR mx l).2 = false) : (wireR mx l).1 = ms0 := by
  unfold wireR at h ⊢
  split at h
  · rename_i h1
    rw [if_pos h1]
    split at h
    · cases h
    · rename_i h2; rw [if_neg h2]
  · rename_i h1; rw [if_neg h1]
theorem gFields_nat (m : Ms) (s : St) (h : 0 ≤ m.index ∧ 0 ≤ m.logTerm ∧ 0 ≤ m.commit ∧ 0 ≤ m.round) : 0 ≤ (gFields m s).1.index ∧ 0 ≤ (gFields m s).1.logTerm ∧ 0 ≤ (gFields m s).1.commit ∧ 0 ≤ (gFields m s).1.round := by
  unfold gFields
  split
  · simp only; omega
  split
  · exact h
  split
  · simp only; omega
  split
  · simp only; omega
  split
  · simp only; omega
  split
  · simp only; omega
  · exact h
theorem wireR_nat (mx : Nat) (l : List UInt8) : 0 ≤ (wireR mx l).1.index ∧ 0 ≤ (wireR mx l).1.logTerm ∧ 0 ≤ (wireR mx l).1.commit ∧ 0 ≤ (wireR mx l).1.round := by
  unfold wireR
  split
  · split
    · exact gFields_nat _ _ (by unfold m0; simp)
    · unfold ms0 m0; simp
  · unfold ms0 m0; simp
theorem wireR_mx (a b : Nat) (ha : 6 ≤ a) (hb : 6 ≤ b) (ha2 : a < 2 ^ 64) (hb2 : b < 2 ^ 64) (l : List UInt8) : wireR a l = wireR b l := by
  have key : ∀ a b : Nat, 6 ≤ b → b < 2 ^ 64 → (wireR a l).2 = true → wireR b l = ((wireR a l).1, true) := fun a b hb hb2 h => by
    obtain ⟨h1, h2⟩ := wireR_inv a l h
    have h3 := wireR_enc b hb hb2 _ h1 (wireR_nat a l)
    rw [← h2] at h3
    exact h3
  cases h : (wireR a l).2 with
  | true => rw [key a b hb hb2 h, ← h]
  | false =>
    cases h2 : (wireR b l).2 with
    | true => have := key b a ha ha2 h2; rw [this] at h; cases h
    | false =>
      have h3 := wireR_none a l h
      have h4 := wireR_none b l h2
      exact Prod.ext (h3.trans h4.symm) (h.trans h2.symm)
end Go.Proofs.Ytbmkgcoolofmpaa
