/- Light and whole of the laws of segments. No statement of the seat is proved here. -/
import Derived.Test.YtlphpjgiaflfkaaSs
import Derived.Test.YtlphpjgiaflfkaaSk
import Derived.Test.YtlphpjgiaflfkaaSt
namespace Go.Proofs.Ytlphpjgiaflfkaa
set_option linter.unusedVariables false
set_option linter.unusedSimpArgs false
set_option linter.unusedSectionVars false
open Go Go.RowKit Go.Shelf

def LightP (l : List Ep) : Prop := (∀ x ∈ l, x.e.data.length ≤ 5000) ∧ l.length ≤ 60
instance (l : List Ep) : Decidable (LightP l) := by unfold LightP; exact inferInstance
set_option maxRecDepth 100000 in
set_option maxHeartbeats 2000000 in
theorem light24_any (ao : Option Addr) (cap : Nat) (l : List Ep) (w : World) (h : Ens w ao cap l) :
    Calls Try.prog 15 #[.slice ao l.length cap] w fun e w' => e = .returned (.bool (decide (LightP l))) ∧ Below w.heap.size w w' := by
  obtain ⟨c, hc⟩ : ∃ c, c = decide (LightP l) := ⟨_, rfl⟩
  rw [← hc]
  have Hc := Lib.hid hc
  clear hc
  have hmx : l.length ≤ maxLen := Nat.le_trans h.sl.le h.sl.max
  unfold maxLen at hmx
  go_enter Try.func15, Try.ntmps15
  go_wp2_with fail
  go_loopw [7] (fun u wr => ∃ i : Nat, u = .int .i64 (i : Nat) ∧ i ≤ l.length ∧ Hid (∀ x ∈ l.take i, x.e.data.length ≤ 5000) ∧ Below w.heap.size w wr) (fun u _ => l.length - (intOf u).toNat)
  case atStart => exact ⟨0, rfl, Nat.zero_le _, Lib.hid (by simp), Below.refl _ _⟩
  case round =>
    obtain ⟨i, rfl, hi, Hinv, hB⟩ := hrel
    by_cases hlt : i < l.length
    · have g1 := h.below hB
      obtain ⟨b1, o1, rfl, p0, p1, p2⟩ := g1.get i hlt
      have i0 : (0 : Int) ≤ (i : Int) := by omega
      have i1 : (i : Int) < (l.length : Int) := by omega
      have hz := hB.size
      by_cases h5 : l[i].e.data.length ≤ 5000
      · have h5b : ¬ (5000 : Int) < (l[i].e.data.length : Int) := by omega
        have hnext : ∀ x ∈ l.take (i + 1), x.e.data.length ≤ 5000 := by
          rw [List.take_succ_eq_append_getElem hlt]
          intro x hx
          rcases List.mem_append.1 hx with hx | hx
          · exact Hinv.out x hx
          · simp at hx; subst hx; exact h5
        have Hnext := Lib.hid hnext
        clear hnext h5
        go_wp2_with fail
        go_roundw
        case rel => exact ⟨i + 1, by simp, by omega, Hnext, hB.alloc hz _⟩
        case measure => simp [intOf]; omega
      · have h5b : (5000 : Int) < (l[i].e.data.length : Int) := by omega
        have hcf : Hid (c = false) := by
          show _ = _
          rw [Hc.out]
          simp only [decide_eq_false_iff_not]
          intro hl
          exact h5 (hl.1 _ (List.getElem_mem hlt))
        clear h5
        go_wp2_with fail
        go_ret
        exact ⟨by rw [hcf.out]; rfl, hB.alloc hz _⟩
    · have hii : i = l.length := by omega
      subst hii
      have hcl : Hid (c = decide ((l.length : Int) ≤ 60)) := by
        show _ = _
        rw [Hc.out]
        congr 1
        have hh := Hinv.out
        rw [List.take_length] at hh
        unfold LightP
        apply propext
        constructor
        · rintro ⟨_, h6⟩; omega
        · intro h6; exact ⟨hh, by omega⟩
      go_wp2_with fail
      go_ret
      exact ⟨by rw [hcl.out]; rfl, hB⟩
set_option maxRecDepth 100000 in
set_option maxHeartbeats 4000000 in
theorem whole24_any (f : Nat) (hf : f ≤ 576460752303423488) (ao : Option Addr) (cap : Nat) (l : List Ep) (w : World) (h : Ens w ao cap l) (hl : l.length ≤ 60) :
    Calls Try.prog 16 #[.int .u64 (f : Nat), .slice ao l.length cap] w fun e w' => Below w.heap.size w w' ∧
      (((∀ x ∈ l, soundE x.e = true) ∧ ∃ ao' cap' b, e = .returned (.tuple #[.slice ao' b.length cap', .bool true]) ∧ b = headB f ++ linesB f (l.map Ep.e) ∧ w'.ownsRow w.heap.size 5 1 (.slice ao' b.length cap') b.length (b.map u8)) ∨
        e = .returned (.tuple #[.slice none 0 0, .bool false])) := by
  have Hhead := Lib.hid (refHeadB_any f (by omega))
  have hhl : (headB f).length ≤ 17 := by
    have := numB_len f (by omega)
    unfold headB
    rw [Fr.wrapped_length]; omega
  have Hz : Hid (headB f = headB f ++ linesB f ((l.take 0).map Ep.e)) := by show _ = _; simp [linesB]
  go_enter Try.func16, Try.ntmps16
  go_wp2_with fail
  refine (Hhead.out _).mono ?_
  rintro e w1 ⟨a1, c1, rfl, hf1⟩
  go_wp2_with fail
  go_loopw [6, 13] (fun v u wr => ∃ (i : Nat) (a2 : Option Addr) (c2 : Nat) (b : List UInt8), v = .slice a2 b.length c2 ∧ u = .int .i64 (i : Nat) ∧ i ≤ l.length ∧ b.length ≤ 17 + 5000 * i ∧ Hid (b = headB f ++ linesB f ((l.take i).map Ep.e)) ∧ Hid (∀ x ∈ l.take i, soundE x.e = true) ∧ wr.ownsRow w.heap.size 5 1 (.slice a2 b.length c2) b.length (b.map u8) ∧ Below w.heap.size w wr) (fun _ u _ => l.length - (intOf u).toNat)
  case atStart => exact ⟨0, a1, c1, headB f, rfl, rfl, Nat.zero_le _, by omega, Hz, Lib.hid (by simp), hf1.own, hf1.bel⟩
  case round =>
    obtain ⟨i, a2, c2, b, rfl, rfl, hi, hbl, Hb, Hinv, hown, hB⟩ := hrel
    by_cases hlt : i < l.length
    · have g1 := h.below hB
      obtain ⟨b1, o1, rfl, p0, p1, p2⟩ := g1.get i hlt
      have hd1 := g1.data _ (List.getElem_mem hlt)
      have i0 : (0 : Int) ≤ (i : Int) := by omega
      have i1 : (i : Int) < (l.length : Int) := by omega
      have hz := hB.size
      have hsn : linesB f ((l.take (i + 1)).map Ep.e) = linesB f ((l.take i).map Ep.e) ++ lnB (f + i) l[i].e := by
        rw [List.take_succ_eq_append_getElem hlt, List.map_append, List.map_singleton, linesB_snoc, List.length_map, List.length_take, Nat.min_eq_left hi]
      have hin : soundE l[i].e = true → ∀ x ∈ l.take (i + 1), soundE x.e = true := by
        rw [List.take_succ_eq_append_getElem hlt]
        intro hs x hx
        rcases List.mem_append.1 hx with hx | hx
        · exact Hinv.out x hx
        · simp at hx; subst hx; exact hs
      obtain ⟨x, hx⟩ : ∃ x, x = l[i] := ⟨_, rfl⟩
      rw [← hx] at p0 p1 p2 hd1 hsn hin
      clear hx
      obtain ⟨⟨x1, x2, xd⟩, xa, xc⟩ := x
      simp only at p0 p1 p2 hd1 hsn hin
      have hsd := fun W => refSound_e x1 x2 xa xd.length xc xd rfl W
      cases hs : soundE ⟨x1, x2, xd⟩ with
      | false =>
        rw [hs] at hsd
        have Hsd := Lib.hid hsd
        clear hsd hs hsn hin
        go_wp2_with fail
        refine (Hsd.out _).mono ?_
        rintro e w2 ⟨rfl, hB2⟩
        go_wp2_with fail
        go_ret2
        exact ⟨below_on (hB.alloc hz _) hB2 (Nat.le_refl _), .inr rfl⟩
      | true =>
        rw [hs] at hsd
        have Hsd := Lib.hid hsd
        obtain ⟨s1, s2, s3, s4, s5⟩ := soundE_iff.1 hs
        simp only at s1 s2 s3 s4 s5
        obtain ⟨t, rfl⟩ := Int.eq_ofNat_of_zero_le (show (0 : Int) ≤ x1 by omega)
        obtain ⟨k, rfl⟩ := Int.eq_ofNat_of_zero_le (show (0 : Int) ≤ x2 by omega)
        have hln := fun W hd => refLine_any (f + i) t k (by omega) xa xc xd W hd hs
        have hll := lineN_len (f + i) t k xd (by omega) (by omega) (by omega) (by omega)
        have hlb : (lineB (f + i) t k xd).length = (lineN (f + i) t k xd).length + 8 := Fr.wrapped_length _ _
        have hlnb : lnB (f + i) ⟨(t : Nat), (k : Nat), xd⟩ = lineB (f + i) t k xd := by simp [lnB]
        rw [hlnb] at hsn
        have hin2 := Lib.hid (hin hs)
        obtain ⟨L, hL⟩ : ∃ L, L = lineB (f + i) t k xd := ⟨_, rfl⟩
        rw [← hL] at hln hlb hsn
        have hLl : L.length ≤ 4200 := by omega
        have Hsn := Lib.hid hsn
        have Hln := Lib.hid hln
        have u1 : IntKind.u64.wrap (i : Int) = (i : Int) := IntWalk.u64_in _ (by omega)
        have u2 : IntKind.u64.wrap ((f : Int) + (i : Int)) = ((f + i : Nat) : Int) := by rw [IntWalk.u64_in _ (by omega)]; omega
        clear hsd hs hsn hin s1 s2 s3 s4 s5 hln hlb hlnb hL hll
        obtain ⟨W1, hW1⟩ : ∃ W1, W1 = wr.alloc (.cells #[.int .u64 (t : Nat), .int .i64 (k : Nat), .slice xa xd.length xc] 38) := ⟨_, rfl⟩
        have hb1 : Below wr.heap.size wr W1 := by rw [hW1]; exact below_new _ _
        have k1 : W1.heap[wr.heap.size]? = some (.cells #[.int .u64 (t : Nat), .int .i64 (k : Nat), .slice xa xd.length xc] 38) := by rw [hW1]; exact heap_alloc_new _ _
        have hzk := (Array.getElem?_eq_some_iff.1 k1).1
        have q0 : W1.cell? ⟨wr.heap.size, 0, none⟩ = some (.int .u64 (t : Nat)) := block_cell k1 0
        have q1 : W1.cell? ⟨wr.heap.size, 1, none⟩ = some (.int .i64 (k : Nat)) := block_cell k1 1
        have q2 : W1.cell? ⟨wr.heap.size, 2, none⟩ = some (.slice xa xd.length xc) := block_cell k1 2
        go_wp2_with fail
        rw [← hW1]
        clear hW1 q0 q1 q2
        refine (Hsd.out _).mono ?_
        rintro e w2 ⟨rfl, hB2⟩
        have k2 := (hB2.block _ hzk).trans k1
        have q0 : w2.cell? ⟨wr.heap.size, 0, none⟩ = some (.int .u64 (t : Nat)) := block_cell k2 0
        have q1 : w2.cell? ⟨wr.heap.size, 1, none⟩ = some (.int .i64 (k : Nat)) := block_cell k2 1
        have q2 : w2.cell? ⟨wr.heap.size, 2, none⟩ = some (.slice xa xd.length xc) := block_cell k2 2
        have hB2' := below_on hb1 hB2 (Nat.le_refl _)
        have hBw2 := below_on hB hB2' (Nat.le_refl _)
        go_wp2_with fail
        refine (Hln.out _ (hd1.below hB2')).mono ?_
        rintro e w3 ⟨a3, c3, rfl, hf3⟩
        have hB3' := below_on hB2' hf3.bel (Nat.le_refl _)
        have hBw3 := below_on hB hB3' (Nat.le_refl _)
        have hown3 := own_below hown hB3'
        have hz3 := hBw3.size
        clear q0 q1 q2
        go_wp2_with (at_builtin; refine wpl_append_bs rfl (.tmp 21) (.tmp 27) 22 rfl w.heap.size 5 infoU8 Try.underlying22 _ _ b rfl hown3 _ _ L rfl (Bs.of_own hf3.own) ?_ ?_ ?_; omega; omega; intro a4 c4 b4 w4 hb4 hown4 hg4; have hBw4 := below_app hBw3 hg4 hown3 (Nat.le_refl _) hz3; have hb4l : b4.length ≤ 17 + 5000 * (i + 1) := (by rw [hb4.out]; simp; omega); have hb5 : Hid (b4 = headB f ++ linesB f ((l.take (i + 1)).map Ep.e)) := (by show _ = _; rw [hb4.out, Hb.out, Hsn.out, List.append_assoc]))
        go_roundw
        case rel => exact ⟨i + 1, a4, c4, b4, rfl, by simp, by omega, hb4l, hb5, hin2, hown4, hBw4⟩
        case measure => simp [intOf]; omega
    · have hii : i = l.length := by omega
      subst hii
      have hb2 := Hb.out
      have hi2 := Hinv.out
      rw [List.take_length] at hb2 hi2
      have Hb2 := Lib.hid hb2
      have Hi2 := Lib.hid hi2
      clear hb2 hi2
      go_wp2_with fail
      go_ret2
      exact ⟨hB, .inl ⟨Hi2.out, a2, c2, b, rfl, Hb2.out, hown⟩⟩
end Go.Proofs.Ytlphpjgiaflfkaa
