/- slots: two parts of a row that change places (slices.rotateCmpFunc). No statement of the seat is proved here. -/
import Derived.Test.YtadghaiengonoaaTs
namespace Go.Proofs.Ytadghaiengonoaa
set_option linter.unusedVariables false
set_option linter.unusedSimpArgs false
set_option linter.unusedSectionVars false
open Go Go.RowKit

theorem rot_nums (p x y q n m i j : Nat) (hs : p + (x + (y + q)) = n) (hm : m = p + x) (hi : i = x) (hj : j = y) : m ≤ n ∧ m = p + i ∧ i ≤ n ∧ j ≤ n ∧ m + j ≤ n := by omega
/-- how far a rotation has come -/
structure Rot (P A B Q : List Th) (m i j : Nat) (P' X Y Q' : List Th) : Prop where
  eq : P ++ (B ++ (A ++ Q)) = P' ++ (Y ++ (X ++ Q'))
  mm : m = P'.length + X.length
  ii : i = X.length
  jj : j = Y.length
  i0 : 0 < i
  j0 : 0 < j
theorem Rot.left {P A B Q P' X Y Q' : List Th} {m i j : Nat} (h : Rot P A B Q m i j P' X Y Q') (hij : j < i) : Rot P A B Q m (i - j) j (P' ++ Y) (X.drop j) (X.take j) Q' := by
  obtain ⟨h1, h2, h3, h4, h5, h6⟩ := h
  refine ⟨?_, ?_, ?_, ?_, by omega, h6⟩
  · rw [h1, List.append_assoc, ← List.append_assoc (X.take j), List.take_append_drop]
  · rw [List.length_append, List.length_drop]; omega
  · rw [List.length_drop]; omega
  · rw [List.length_take]; omega
theorem Rot.right {P A B Q P' X Y Q' : List Th} {m i j : Nat} (h : Rot P A B Q m i j P' X Y Q') (hij : i < j) : Rot P A B Q m i (j - i) P' (Y.drop (j - i)) (Y.take (j - i)) (X ++ Q') := by
  obtain ⟨h1, h2, h3, h4, h5, h6⟩ := h
  refine ⟨?_, ?_, ?_, ?_, h5, by omega⟩
  · rw [h1, ← List.append_assoc (Y.take (j - i)), List.take_append_drop]
  · rw [List.length_drop]; omega
  · rw [List.length_drop]; omega
  · rw [List.length_take]; omega
set_option maxRecDepth 100000 in
set_option maxHeartbeats 4000000 in
theorem rotate_any (P A B Q : List Th) (a m b : Nat) (fv : Value) (W0 W : World) (base g n cap : Nat) (hn : n ≤ 4611686018427387904) (ha : a = P.length) (hm : m = P.length + A.length) (hb : b = P.length + A.length + B.length) (hA : 0 < A.length) (hB : 0 < B.length)
    (h : SR thT W0 W base g n cap (P ++ (A ++ (B ++ Q)))) :
    Calls Try.prog 64 #[.slice (some ⟨g, 0, none⟩) n cap, .int .i64 (a : Nat), .int .i64 (m : Nat), .int .i64 (b : Nat), fv] W fun e W' => e = .returned (.tuple #[]) ∧ SR thT W0 W' base g n cap (P ++ (B ++ (A ++ Q))) := by
  have hlen := h.len
  simp only [List.length_append] at hlen
  obtain ⟨i0, hi0⟩ : ∃ i, i = A.length := ⟨_, rfl⟩
  obtain ⟨j0, hj0⟩ : ∃ j, j = B.length := ⟨_, rfl⟩
  have hR : Rot P A B Q m i0 j0 P A B Q := ⟨rfl, hm, hi0, hj0, by omega, by omega⟩
  have w1 := w_sub m a i0 n (by omega) (by omega) hn
  have w2 := w_sub b m j0 n (by omega) (by omega) hn
  have HR := Lib.hid hR
  have H := Lib.hid h
  have HW1 := Lib.hid w1
  have HW2 := Lib.hid w2
  clear hi0 hj0 hR h ha hm hb hA hB hlen
  go_enter Try.func64, Try.ntmps64
  go_wp2_with fail
  clear w1 w2
  go_loopw [10, 11] (fun u v wr => ∃ (i j : Nat) (P' X Y Q' : List Th), u = .int .i64 (i : Nat) ∧ v = .int .i64 (j : Nat) ∧ Hid (Rot P A B Q m i j P' X Y Q') ∧ SR thT W0 wr base g n cap (P' ++ (X ++ (Y ++ Q')))) (fun u v _ => (intOf u).toNat + (intOf v).toNat)
  case atStart => exact ⟨i0, j0, P, A, B, Q, by first | rfl | rw [HW1.out], by first | rfl | rw [HW2.out], HR, H.out⟩
  case round =>
    obtain ⟨i, j, P', X, Y, Q', rfl, rfl, hR, hr⟩ := hrel
    have hlen := hr.len
    simp only [List.length_append] at hlen
    obtain ⟨m1, m2, m3, m4, m5⟩ := rot_nums _ _ _ _ n m i j hlen hR.out.mm hR.out.ii hR.out.jj
    obtain ⟨p, hp⟩ : ∃ p, p = P'.length := ⟨_, rfl⟩
    rw [← hp] at m2
    have Hn := Lib.hid hlen
    have Hp := Lib.hid hp
    clear hlen hp
    have w1 := w_sub m i p n m2 m1 hn
    have M2 := Lib.hid m2
    clear m2
    by_cases h1 : i = j
    · subst h1
      have hst := swapRange_any P' X [] Y Q' p m i fv W0 wr base g n cap (by rw [← hR.out.ii, ← hR.out.jj]) hn Hp.out (by rw [hR.out.mm]; simp) hR.out.ii (by simpa using hr)
      have Hst := Lib.hid hst
      have c1 : (i != i) = false := by simp
      clear hst hr m1 m3 m4 m5 HR H
      go_wp2_with fail
      refine Hst.out.mono ?_
      rintro e W2 ⟨rfl, hr2⟩
      go_wp2_with fail
      refine bodyPost_end (results_none rfl _ _ _) rfl ?_
      rw [hR.out.eq]
      exact ⟨rfl, by simpa using hr2⟩
    · have c1 : ((i : Int) != (j : Int)) = true := by simp; omega
      by_cases h2 : j < i
      · have c2 : (j : Int) < (i : Int) := by omega
        have w2 := w_sub i j (i - j) n (by omega) m3 hn
        have hst := swapRange_any P' (X.take j) (X.drop j) Y Q' p m j fv W0 wr base g n cap (by rw [List.length_take, ← hR.out.ii, ← hR.out.jj]; omega) hn Hp.out (by rw [hR.out.mm, List.length_take, List.length_drop]; omega) (by rw [List.length_take, ← hR.out.ii]; omega) (by rw [← List.append_assoc (X.take j), List.take_append_drop]; exact hr)
        have Hst := Lib.hid hst
        have HR2 := Lib.hid (hR.out.left h2)
        have Hj := Lib.hid hR.out.j0
        have H2 := Lib.hid h2
        clear hst hr m1 m3 m4 m5 HR H h1 h2
        go_wp2_with fail
        refine Hst.out.mono ?_
        rintro e W2 ⟨rfl, hr2⟩
        go_wp2_with fail
        go_roundw
        case rel => exact ⟨i - j, j, P' ++ Y, X.drop j, X.take j, Q', by rw [w2], rfl, HR2, by rw [List.append_assoc]; exact hr2⟩
        case measure =>
          rw [w2]
          simp only [intOf, Int.toNat_natCast]
          have := Hj.out
          have := H2.out
          omega
      · have h2' : i < j := by omega
        have c2 : ¬ (j : Int) < (i : Int) := by omega
        have w2 := w_sub j i (j - i) n (by omega) m4 hn
        obtain ⟨mj, hmj⟩ : ∃ mj, mj = m + j := ⟨_, rfl⟩
        obtain ⟨pj, hpj⟩ : ∃ pj, pj = p + j := ⟨_, rfl⟩
        have w3 := w_add m j mj n hmj (by rw [hmj]; exact m5) hn
        have w4 := w_sub mj i pj n (by rw [hmj, hpj, M2.out]; omega) (by rw [hmj]; exact m5) hn
        have hst := swapRange_any P' X (Y.take (j - i)) (Y.drop (j - i)) Q' p pj i fv W0 wr base g n cap (by rw [List.length_drop, ← hR.out.ii, ← hR.out.jj]; omega) hn Hp.out (by rw [← Hp.out, hpj, List.length_take, ← hR.out.jj, ← hR.out.ii]; omega) hR.out.ii (by rw [← List.append_assoc (Y.take (j - i)), List.take_append_drop]; exact hr)
        have Hst := Lib.hid hst
        have HR2 := Lib.hid (hR.out.right h2')
        have Hi := Lib.hid hR.out.i0
        have H2 := Lib.hid h2'
        clear hst hr m1 m3 m4 m5 HR H h1 h2 h2' hmj hpj
        go_wp2_with fail
        refine Hst.out.mono ?_
        rintro e W2 ⟨rfl, hr2⟩
        go_wp2_with fail
        go_roundw
        case rel => exact ⟨i, j - i, P', Y.drop (j - i), Y.take (j - i), X ++ Q', rfl, by rw [w2], HR2, hr2⟩
        case measure =>
          rw [w2]
          simp only [intOf, Int.toNat_natCast]
          have := Hi.out
          have := H2.out
          omega
end Go.Proofs.Ytadghaiengonoaa
