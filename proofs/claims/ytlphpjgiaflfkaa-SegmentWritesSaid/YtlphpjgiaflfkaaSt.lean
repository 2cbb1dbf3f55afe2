/- Plain law of a segment cut off, and of one turned at its end. No program in sight, no statement of the seat is proved here. -/
import Derived.Test.YtlphpjgiaflfkaaSp
namespace Go.Proofs.Ytlphpjgiaflfkaa
set_option linter.unusedVariables false
set_option linter.unusedSimpArgs false
set_option linter.unusedSectionVars false
open Go Go.RowKit Go.Shelf

namespace Fr
theorem take_cut (kind : UInt8) (body : List UInt8) (hk : kind ≠ 0) (hb : body.length ≤ 65536) (q : Nat) (hq : q < body.length + 8) :
    (take ((wrapped kind body).take q)).err ≠ 0 := by
  have hl : ((wrapped kind body).take q).length = q := by
    rw [List.length_take, wrapped_length]; omega
  by_cases hs : (size ((wrapped kind body).take q)).2 = 0
  · obtain ⟨h5, h0, h1, hn, hs1, hle⟩ := size_ok _ hs
    rw [hl] at hle
    obtain ⟨r, hr⟩ := wrapped_at kind body []
    rw [List.append_nil] at hr
    have hnum := num_hdr body.length (by omega)
    obtain ⟨j, rfl⟩ : ∃ j, q = j + 8 := ⟨q - 8, by omega⟩
    rw [hr, show j + 8 = j + 3 + 5 from by omega] at hs1
    simp only [List.take_succ_cons, List.getD_cons_zero, List.getD_cons_succ, hnum] at hs1
    rw [hr, show j + 8 = j + 3 + 5 from by omega] at hle
    simp only [List.take_succ_cons] at hle
    omega
  · rw [take_err _ hs]; exact hs
/-- a frame cut off and turned at its end is no frame -/
theorem torn_turn (kind : UInt8) (body : List UInt8) (hk : kind ≠ 0) (hb : body.length ≤ 65536) (q : Nat) (h3 : 3 ≤ q) (hq : q < body.length + 8) (x y z : UInt8) :
    (take ((wrapped kind body).take (q - 3) ++ [x, y, z])).err ≠ 0 := by
  have hl : ((wrapped kind body).take (q - 3) ++ [x, y, z]).length = q := by
    rw [List.length_append, List.length_take, wrapped_length]; simp; omega
  by_cases hs : (size ((wrapped kind body).take (q - 3) ++ [x, y, z])).2 = 0
  · obtain ⟨h5, h0, h1, hn, hs1, hle⟩ := size_ok _ hs
    rw [hl] at hle
    obtain ⟨r, hr⟩ := wrapped_at kind body []
    rw [List.append_nil] at hr
    have hnum := num_hdr body.length (by omega)
    obtain ⟨j, rfl⟩ : ∃ j, q = j + 8 := ⟨q - 8, by omega⟩
    rw [hr, show j + 8 - 3 = j + 5 from by omega] at hs1
    simp only [List.take_succ_cons, List.cons_append, List.getD_cons_zero, List.getD_cons_succ, hnum] at hs1
    rw [hr, show j + 8 - 3 = j + 5 from by omega] at hle
    simp only [List.take_succ_cons, List.cons_append] at hle
    omega
  · rw [take_err _ hs]; exact hs
theorem size_kept (kind : UInt8) (body more : List UInt8) (hk : kind ≠ 0) (hb : body.length ≤ 65536) (hm : more.take (body.length + 5) = hdr kind body.length ++ body) (hl : body.length + 8 ≤ more.length) :
    size more = (body.length + 8, 0) := by
  have hn := num_hdr body.length (by omega)
  obtain ⟨r, hr⟩ : ∃ r, more = 102 :: kind :: UInt8.ofNat (body.length / 65536) :: UInt8.ofNat (body.length / 256) :: UInt8.ofNat body.length :: r := by
    rw [← List.take_append_drop (body.length + 5) more, hm]
    exact ⟨_, rfl⟩
  unfold size
  rw [if_neg (by omega)]
  rw [hr] at hl ⊢
  simp only [List.getD_cons_zero, List.getD_cons_succ, hn]
  rw [if_neg (by simp), if_neg (by omega), if_neg hk, if_neg (by omega), if_neg (by omega), if_neg (by omega)]
/-- a frame whose sum alone is turned is that frame, or none -/
theorem take_kept (kind : UInt8) (body more : List UInt8) (hk : kind ≠ 0) (hb : body.length ≤ 65536) (hm : more.take (body.length + 5) = hdr kind body.length ++ body) (hl : body.length + 8 ≤ more.length) :
    (take more).err ≠ 0 ∨ take more = ⟨kind, body, body.length + 8, 0⟩ := by
  have hs := size_kept kind body more hk hb hm hl
  have hs2 : (size more).2 = 0 := by rw [hs]
  by_cases ho : Crc.opened (more.take (size more).1) = none
  · left; rw [take_sum more hs2 ho]; decide
  · right
    have h := (take_yes more hs2 ho).2
    rw [hs] at h
    simp only [show body.length + 8 - 3 = body.length + 5 from by omega, hm] at h
    rw [h]
    have h1 : more.getD 1 0 = kind := by
      rw [← List.take_append_drop (body.length + 5) more, hm]; rfl
    rw [h1]
    congr 1
theorem err_short (l : List UInt8) (h : l.length < 8) : (take l).err ≠ 0 := by
  by_cases hs : (size l).2 = 0
  · obtain ⟨h5, h0, h1, hn, hs1, hle⟩ := size_ok _ hs
    omega
  · rw [take_err _ hs]; exact hs
end Fr
def lnB (i : Nat) (e : En) : List UInt8 := lineB i e.term.toNat e.kind.toNat e.data
theorem linesB_cons (i : Nat) (e : En) (l : List En) : linesB i (e :: l) = lnB i e ++ linesB (i + 1) l := rfl
theorem linesB_snoc (e : En) (l : List En) : ∀ i, linesB i (l ++ [e]) = linesB i l ++ lnB (i + l.length) e := by
  induction l with
  | nil => intro i; simp [linesB, lnB]
  | cons a l ih => intro i; rw [List.cons_append, linesB_cons, linesB_cons, ih, List.append_assoc]; simp [Nat.add_assoc, Nat.add_comm 1]
theorem split_lines (l : List En) : ∀ (i m : Nat), m < (linesB i l).length → ∃ (k : Nat) (hk : k < l.length) (q : Nat), q < (lnB (i + k) l[k]).length ∧ m = (linesB i (l.take k)).length + q ∧ (linesB i l).take m = linesB i (l.take k) ++ (lnB (i + k) l[k]).take q := by
  induction l with
  | nil => intro i m h; simp [linesB] at h
  | cons e l ih =>
    intro i m h
    rw [linesB_cons] at h ⊢
    by_cases hm : m < (lnB i e).length
    · exact ⟨0, by simp, m, by simpa using hm, by simp [linesB], by simp [linesB, List.take_append_of_le_length (Nat.le_of_lt hm)]⟩
    · rw [List.length_append] at h
      obtain ⟨k, hk, q, hq, h1, h2⟩ := ih (i + 1) (m - (lnB i e).length) (by omega)
      refine ⟨k + 1, by simpa using hk, q, ?_, ?_, ?_⟩
      · simpa [Nat.add_assoc, Nat.add_comm 1] using hq
      · rw [List.take_succ_cons, linesB_cons, List.length_append]; omega
      · rw [List.take_succ_cons, linesB_cons, List.take_append, List.take_of_length_le (by omega), h2, List.append_assoc]
        simp [Nat.add_assoc, Nat.add_comm 1]
theorem lnB_frame (i : Nat) (e : En) (hi : i < 2 ^ 64) (hs : soundE e = true) : ∃ bd, lnB i e = Fr.wrapped 2 bd ∧ bd.length ≤ 65536 ∧ lineOk 2 bd i = true ∧ lineE bd = e ∧ (lnB i e).length = bd.length + 8 := by
  have hn := sound_nats hs
  obtain ⟨s1, s2, s3, s4, s5⟩ := soundE_iff.1 hs
  have hlen := lineN_len i e.term.toNat e.kind.toNat e.data hi (by omega) (by omega) (by omega)
  refine ⟨lineN i e.term.toNat e.kind.toNat e.data, rfl, by omega, lineOk_N i _ _ _ hi (by rw [← hn]; exact hs), ?_, ?_⟩
  · rw [lineE_N i _ _ _ hi (by omega) (by omega) s5, ← hn]
  · exact Fr.wrapped_length _ _
/-- the law: what a cut segment reads as, and what one whose last bytes were turned -/
theorem torn_law (f : Nat) (l : List En) (h0 : f ≠ 0) (h1 : f ≤ 576460752303423488) (hs : ∀ e ∈ l, soundE e = true) (hl : l.length ≤ 1000) (m : Nat) (hm : m < (linesB f l).length) :
    ∃ (k : Nat) (hk : k < l.length) (q : Nat), q < (lnB (f + k) l[k]).length ∧ m = (linesB f (l.take k)).length + q ∧
      segRead ((headB f ++ linesB f l).take ((headB f).length + m)) = ⟨f, l.take k, (headB f).length + (linesB f (l.take k)).length⟩ ∧
      (3 ≤ m → ∀ x y z, ∃ k' g, k' ≤ k ∧ k ≤ k' + 1 ∧ segRead ((headB f ++ linesB f l).take ((headB f).length + m - 3) ++ [x, y, z]) = ⟨f, l.take k', g⟩) := by
  obtain ⟨k, hk, q, hq, hmq, htk⟩ := split_lines l f m hm
  have hsk : ∀ k, ∀ e ∈ l.take k, soundE e = true := fun k e he => hs e (List.mem_of_mem_take he)
  obtain ⟨bd, hw, hbd, hok, hle, hlw⟩ := lnB_frame (f + k) l[k] (by omega) (hs _ (List.getElem_mem hk))
  have hread : ∀ (j : Nat) (more : List UInt8), j ≤ l.length → segRead (headB f ++ (linesB f (l.take j) ++ more)) = segRun ⟨f, l.take j, (headB f).length + (linesB f (l.take j)).length⟩ (Fr.all more) := by
    intro j more hj
    rw [seg_head f _ h0 (by omega), seg_lines (l.take j) _ f more h0 (by simp) (by simp; omega) (hsk j)]
    simp
  refine ⟨k, hk, q, hq, hmq, ?_, ?_⟩
  · rw [List.take_length_add_append, htk, hread k _ (by omega)]
    refine segRun_nil (.inr ?_)
    rw [hw]
    exact Fr.take_cut 2 bd (by decide) hbd q (by omega)
  · intro h3 x y z
    have hcut : (headB f ++ linesB f l).take ((headB f).length + m - 3) = headB f ++ (linesB f (l.take k) ++ (lnB (f + k) l[k]).take q).take (m - 3) := by
      rw [show (headB f).length + m - 3 = (headB f).length + (m - 3) from by omega, List.take_length_add_append]
      rw [← htk, List.take_take, show min (m - 3) m = m - 3 from by omega]
    rw [hcut]
    by_cases hq3 : 3 ≤ q
    · refine ⟨k, (headB f).length + (linesB f (l.take k)).length, Nat.le_refl _, by omega, ?_⟩
      rw [show m - 3 = (linesB f (l.take k)).length + (q - 3) from by omega, List.take_length_add_append, List.take_take, show min (q - 3) q = q - 3 from by omega]
      rw [List.append_assoc, List.append_assoc, hread k _ (by omega)]
      refine segRun_nil (.inr ?_)
      rw [hw]
      exact Fr.torn_turn 2 bd (by decide) hbd q hq3 (by omega) x y z
    · cases k with
      | zero => simp [linesB] at hmq; omega
      | succ j =>
        have hj : j < l.length := by omega
        obtain ⟨b2, hw2, hb2, hok2, hle2, hlw2⟩ := lnB_frame (f + j) l[j] (by omega) (hs _ (List.getElem_mem hj))
        have hlj : linesB f (l.take (j + 1)) = linesB f (l.take j) ++ lnB (f + j) l[j] := by
          rw [List.take_succ_eq_append_getElem hj, linesB_snoc, List.length_take, Nat.min_eq_left (by omega)]
        obtain ⟨G, hG⟩ : ∃ G, G = (lnB (f + (j + 1)) l[j + 1]).take q := ⟨_, rfl⟩
        have hGl : G.length = q := by rw [hG, List.length_take]; omega
        rw [← hG]
        rw [hlj] at hmq ⊢
        rw [List.length_append] at hmq
        have hm3 : m - 3 = (linesB f (l.take j)).length + (b2.length + 8 + q - 3) := by omega
        rw [hm3, List.append_assoc (linesB f (List.take j l)), List.take_length_add_append]
        obtain ⟨M, hM⟩ : ∃ M, M = (lnB (f + j) l[j] ++ G).take (b2.length + 8 + q - 3) ++ [x, y, z] := ⟨_, rfl⟩
        rw [List.append_assoc, List.append_assoc, ← hM]
        have hrj := hread j M (by omega)
        have hMl : M.length = b2.length + 8 + q := by rw [hM, List.length_append, List.length_take, List.length_append, hGl, hlw2]; simp; omega
        have hMt : M.take (b2.length + 5) = Fr.hdr 2 b2.length ++ b2 := by
          rw [hM, List.take_append_of_le_length (by rw [List.length_take, List.length_append, hGl, hlw2]; omega), List.take_take, Nat.min_eq_left (by omega), List.take_append_of_le_length (by omega), hw2]
          unfold Fr.wrapped Crc.sealed
          rw [List.take_append_of_le_length (by simp [Fr.hdr])]
          exact List.take_of_length_le (by simp [Fr.hdr])
        rcases Fr.take_kept 2 b2 M (by decide) hb2 hMt (by omega) with he | ht
        · exact ⟨j, _, by omega, by omega, hrj.trans (segRun_nil (.inr he))⟩
        · refine ⟨j + 1, (headB f).length + (linesB f (l.take j)).length + (b2.length + 8), by omega, by omega, ?_⟩
          have hx := seg_line ⟨f, l.take j, (headB f).length + (linesB f (l.take j)).length⟩ M h0 (by rw [ht]) (by rw [ht]; simp only [List.length_take, Nat.min_eq_left (Nat.le_of_lt hj)]; exact hok2)
          rw [hrj, hx, ht]
          simp only
          rw [segRun_nil (.inr (Fr.err_short _ (by rw [List.length_drop]; omega))), hle2, ← List.take_succ_eq_append_getElem hj]
/-- three bytes set at the end -/
theorem set_three (l : List UInt8) (n : Nat) (hn : l.length = n + 3) (x y z : UInt8) : ((l.set n x).set (n + 1) y).set (n + 2) z = l.take n ++ [x, y, z] := by
  apply List.ext_getElem
  · simp [hn]
  · intro j h1 h2
    simp only [List.length_set] at h1
    simp only [List.getElem_set, List.getElem_append, List.length_take, hn]
    by_cases hj : j < n
    · rw [if_neg (by omega), if_neg (by omega), if_neg (by omega), dif_pos (by omega), List.getElem_take]
    · rw [dif_neg (by omega)]
      have : j = n ∨ j = n + 1 ∨ j = n + 2 := by omega
      rcases this with rfl | rfl | rfl
      · rw [if_neg (by omega), if_neg (by omega), if_pos rfl]
        simp [Nat.min_eq_left]
      · rw [if_neg (by omega), if_pos rfl]
        simp [Nat.min_eq_left, show n + 1 - n = 1 from by omega]
      · rw [if_pos rfl]
        simp [Nat.min_eq_left, show n + 2 - n = 2 from by omega]
end Go.Proofs.Ytlphpjgiaflfkaa
