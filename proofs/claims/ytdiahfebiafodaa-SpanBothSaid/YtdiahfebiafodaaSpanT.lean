/- Contracts of span's Within, Len, Nth; the law's lives. No statement of the seat is proved here. -/
import Derived.Test.YtdiahfebiafodaaJoin
import Derived.Test.YtdiahfebiafodaaAlmA
namespace Go.Proofs.Ytdiahfebiafodaa
set_option linter.unusedVariables false
set_option linter.unusedSimpArgs false
set_option linter.unusedSectionVars false
open Go Go.RowKit Go.Shelf

def dist (x y : Int) : Int := IntKind.i64.wrap (y - x)
set_option maxHeartbeats 1000000 in
theorem within_any (ao : Option Addr) (cap : Nat) (l : List Sp) (f t : Int) (w : World) (hl : l.length ≤ 1000000) (hs : Sps w ao cap l) :
    Calls Try.prog 33 #[.slice ao l.length cap, .int .i64 f, .int .i64 t] w fun e w' => e = .returned (.int .i64 (sumL dist (cutL l f t) 0)) ∧ Below w.heap.size w w' := by
  have hcl := cut_len l f t
  have hcut := cut_any ao cap l f t w hs
  obtain ⟨m, hm⟩ : ∃ m, m = cutL l f t := ⟨_, rfl⟩
  rw [← hm] at hcl ⊢
  rw [← hm] at hcut
  clear hm
  obtain ⟨r, hr⟩ : ∃ r, r = sumL dist m 0 := ⟨_, rfl⟩
  rw [← hr]
  have Hr := Lib.hid hr
  clear hr
  go_enter Try.func33, Try.ntmps33
  go_wp2_with fail
  refine hcut.mono ?_
  rintro e w2 ⟨⟨ao2, cap2, rfl, hs2⟩, hb2⟩
  go_wp2_with fail
  go_loopw [6, 14] (fun v u wr => ∃ (i : Nat) (n : Int), v = .int .i64 n ∧ u = .int .i64 i ∧ i ≤ m.length ∧ Hid (r = sumL dist (m.drop i) n) ∧ Below w2.heap.size w2 wr) (fun v u _ => m.length - (intOf u).toNat)
  case atStart => exact ⟨0, 0, rfl, rfl, Nat.zero_le _, Hr, Below.refl _ _⟩
  case round =>
    obtain ⟨i, n, rfl, rfl, hi, hri, hb⟩ := hrel
    by_cases hlt : i < m.length
    · obtain ⟨b, off, rfl, c0, c1⟩ := (hs2.below hb).get i hlt
      have Hst := Lib.hid (sumL_at dist m i hlt n)
      obtain ⟨s, hsd⟩ : ∃ s, s = m[i] := ⟨_, rfl⟩
      rw [← hsd] at c0 c1 Hst
      clear hsd
      obtain ⟨x, y⟩ := s
      simp only at c0 c1 Hst
      unfold dist at Hst
      obtain ⟨q, hq⟩ : ∃ q, IntKind.i64.wrap (n + IntKind.i64.wrap (y - x)) = q := ⟨_, rfl⟩
      rw [hq] at Hst
      go_wp2_with fail
      go_roundw
      case rel => exact ⟨i + 1, q, by first | rfl | rw [hq] | (simp only [← hq, IntWalk.i64_left]), by simp, by omega, (by show r = _; rw [hri.out]; exact Hst.out), hb.alloc hb.size _⟩
      case measure => simp [intOf]; omega
    · have hi' : i = m.length := by omega
      subst hi'
      have hrn : r = n := by rw [hri.out, List.drop_length]; rfl
      go_wp2_with fail
      go_ret
      exact ⟨by rw [hrn]; rfl, below_on hb2 hb (Nat.le_refl _)⟩

theorem len_any (ao : Option Addr) (cap : Nat) (l : List Sp) (w : World) (hl : l.length ≤ 1000000) (hs : Sps w ao cap l) :
    Calls Try.prog 34 #[.slice ao l.length cap] w fun e w' => e = .returned (.int .i64 (sumL dist (cutL l 0 1125899906842624) 0)) ∧ Below w.heap.size w w' := by
  have h := within_any ao cap l 0 1125899906842624 w hl hs
  generalize sumL dist (cutL l 0 1125899906842624) 0 = r at h ⊢
  go_enter Try.func34, Try.ntmps34
  go_wp2_with fail
  refine h.mono ?_
  rintro e w2 ⟨rfl, hb2⟩
  go_wp2_with fail
  go_ret
  exact ⟨rfl, hb2⟩

/-- the second that has n ahead -/
def nthL : List Sp → Int → Int × Bool
  | [], _ => (0, false)
  | s :: l, n => if n < s.b - s.a then (s.a + n, true) else nthL l (n - (s.b - s.a))
theorem nthL_at (l : List Sp) (i : Nat) (hi : i < l.length) (n : Int) : nthL (l.drop i) n = if n < l[i].b - l[i].a then (l[i].a + n, true) else nthL (l.drop (i + 1)) (n - (l[i].b - l[i].a)) := by
  rw [List.drop_eq_getElem_cons hi]; rfl
theorem row_right {l : List Sp} (h0 : rowErr l = 0) (i : Nat) (hi : i < l.length) : l[i].a < l[i].b ∧ 0 ≤ l[i].a ∧ l[i].b ≤ 1125899906842624 := by
  obtain ⟨hch, -⟩ := row_chain h0
  have key : ∀ (l : List Sp) (e : Int), chain e l = true → ∀ x ∈ l, x.right = true := by
    intro l
    induction l with
    | nil => intro e _ x hx; cases hx
    | cons s l ih =>
      intro e h x hx
      unfold chain at h
      simp only [Bool.and_eq_true, decide_eq_true_eq] at h
      rcases List.mem_cons.1 hx with rfl | hx
      · exact h.1.1
      · exact ih s.b h.2 x hx
  exact right_lt (key l 0 hch _ (List.getElem_mem hi))

def nthV (l : List Sp) (n : Int) : Int × Bool := if n < 0 then (0, false) else nthL l n
set_option maxHeartbeats 1000000 in
theorem nth_any (ao : Option Addr) (cap : Nat) (l : List Sp) (n : Int) (w : World) (h0 : rowErr l = 0) (n1 : n ≤ 9223372036854775807) (hs : Sps w ao cap l) :
    Calls Try.prog 35 #[.slice ao l.length cap, .int .i64 n] w fun e w' => e = .returned (.tuple #[.int .i64 (nthV l n).1, .bool (nthV l n).2]) ∧ Below w.heap.size w w' := by
  have hrow := row_any ao cap l w hs
  rw [h0] at hrow
  obtain ⟨R, hR⟩ : ∃ R, R = nthV l n := ⟨_, rfl⟩
  rw [← hR]
  unfold nthV at hR
  by_cases hn : n < 0
  · rw [if_pos hn] at hR
    subst hR
    go_enter Try.func35, Try.ntmps35
    go_wp2_with fail
    refine hrow.mono ?_
    rintro e w1 ⟨rfl, hb1⟩
    go_wp2_with fail
    refine bodyPost_ret (v := .tuple #[.int .i64 0, .bool false]) (by simp [results, Try.results35, go_sem]) rfl ?_
    exact ⟨rfl, hb1⟩
  · rw [if_neg hn] at hR
    obtain ⟨r, c⟩ := R
    have HR := Lib.hid hR
    clear hR
    have hrt := fun i hi => row_right h0 i hi
    obtain ⟨-, hlen⟩ := row_chain h0
    clear h0
    go_enter Try.func35, Try.ntmps35
    go_wp2_with fail
    refine hrow.mono ?_
    rintro e w1 ⟨rfl, hb1⟩
    go_wp2_with fail
    go_loopw [1, 18] (fun v u wr => ∃ (i : Nat) (k : Int), v = .int .i64 k ∧ u = .int .i64 i ∧ i ≤ l.length ∧ 0 ≤ k ∧ k ≤ 9223372036854775807 ∧ Hid ((r, c) = nthL (l.drop i) k) ∧ Below w.heap.size w wr) (fun v u _ => l.length - (intOf u).toNat)
    case atStart => exact ⟨0, n, rfl, rfl, Nat.zero_le _, by omega, n1, HR, hb1⟩
    case round =>
      obtain ⟨i, k, rfl, rfl, hi, hk0, hk1, hri, hb⟩ := hrel
      by_cases hlt : i < l.length
      · have hbd := hrt i hlt
        obtain ⟨b, off, rfl, c0, c1⟩ := (hs.below hb).get i hlt
        have Hst := Lib.hid (nthL_at l i hlt k)
        obtain ⟨s, hsd⟩ : ∃ s, s = l[i] := ⟨_, rfl⟩
        rw [← hsd] at c0 c1 Hst hbd
        clear hsd
        obtain ⟨x, y⟩ := s
        simp only at c0 c1 Hst hbd
        obtain ⟨b1, b2, b3⟩ := hbd
        have e1 : IntKind.i64.wrap (y - x) = y - x := IntWalk.i64_in _ (by omega)
        have e2 : IntKind.i64.wrap (k - (y - x)) = k - (y - x) := IntWalk.i64_in _ (by omega)
        by_cases hlt2 : k < y - x
        · have e3 : IntKind.i64.wrap (x + k) = x + k := IntWalk.i64_in _ (by omega)
          have he := hri.out.trans (Hst.out.trans (if_pos hlt2))
          simp only [Prod.mk.injEq] at he
          obtain ⟨rfl, rfl⟩ := he
          clear Hst hri HR
          go_wp2_with fail
          refine bodyPost_ret (v := .tuple #[.int .i64 (x + k), .bool true]) (by simp [results, Try.results35, go_sem]) rfl ?_
          exact ⟨rfl, hb.alloc hb.size _⟩
        · have He : Hid ((r, c) = nthL (l.drop (i + 1)) (k - (y - x))) := hri.out.trans (Hst.out.trans (if_neg hlt2))
          clear Hst hri HR
          go_wp2_with fail
          go_roundw
          case rel => exact ⟨i + 1, k - (y - x), rfl, by simp, by omega, by omega, by omega, He, hb.alloc hb.size _⟩
          case measure => simp [intOf]; omega
      · have hi' : i = l.length := by omega
        subst hi'
        have he := hri.out
        rw [List.drop_length] at he
        simp only [nthL, Prod.mk.injEq] at he
        obtain ⟨rfl, rfl⟩ := he
        clear hri HR
        go_wp2_with fail
        refine bodyPost_ret (v := .tuple #[.int .i64 0, .bool false]) (by simp [results, Try.results35, go_sem]) rfl ?_
        exact ⟨rfl, hb⟩

theorem join_two : ∀ L, JoinIs [⟨5, 8⟩, ⟨0, 5⟩] L → L = [⟨0, 8⟩] := by
  intro L ⟨_, h⟩
  obtain ⟨l', h1, h2, rfl⟩ := h (by decide)
  have hl : l'.length = 2 := h1.length_eq
  match l', hl with
  | [x, y], _ =>
    have hx : x ∈ [(⟨5, 8⟩ : Sp), ⟨0, 5⟩] := h1.mem_iff.1 (by simp)
    have hy : y ∈ [(⟨5, 8⟩ : Sp), ⟨0, 5⟩] := h1.mem_iff.1 (by simp)
    have hxy : x.a ≤ y.a := by simpa using h2
    have h5 : (⟨5, 8⟩ : Sp) ∈ [x, y] := h1.mem_iff.2 (by simp)
    have h0 : (⟨0, 5⟩ : Sp) ∈ [x, y] := h1.mem_iff.2 (by simp)
    simp only [List.mem_cons, List.not_mem_nil, or_false] at hx hy h5 h0
    rcases hx with rfl | rfl
    · rcases hy with rfl | rfl
      · simp at h0
      · simp at hxy
    · rcases hy with rfl | rfl
      · decide
      · simp at h5

set_option maxRecDepth 10000 in
set_option maxHeartbeats 1000000 in
theorem lives7_any (w : World) : Calls Try.prog 28 #[] w fun e w' => e = .returned (.bool true) ∧ Below w.heap.size w w' := by
  have hrow : rowErr [⟨0, 10⟩, ⟨20, 30⟩] = 0 := by decide
  have hn : nthV [⟨0, 10⟩, ⟨20, 30⟩] 12 = (22, true) := by decide
  have hw : sumL dist (cutL [⟨0, 10⟩, ⟨20, 30⟩] 5 25) 0 = 10 := by decide
  go_enter Try.func28, Try.ntmps28
  go_wp2_with fail
  have hs := Sps.lit (w := w) [⟨0, 10⟩, ⟨20, 30⟩] #[.int .i64 0, .int .i64 10, .int .i64 20, .int .i64 30] 30 rfl (by simp)
  refine (nth_any _ _ [⟨0, 10⟩, ⟨20, 30⟩] 12 _ hrow (by decide) hs).mono ?_
  rintro e w1 ⟨rfl, hb1⟩
  rw [hn]
  go_wp2_with fail
  refine (within_any _ _ [⟨0, 10⟩, ⟨20, 30⟩] 5 25 w1 (by simp) (hs.below hb1)).mono ?_
  rintro e w2 ⟨rfl, hb2⟩
  rw [hw]
  go_wp2_with fail
  have hs3 := Sps.lit (w := w2) [⟨5, 8⟩, ⟨0, 5⟩] #[.int .i64 5, .int .i64 8, .int .i64 0, .int .i64 5] 30 rfl (by simp)
  refine (join_any _ _ [⟨5, 8⟩, ⟨0, 5⟩] _ (by simp) hs3).mono ?_
  rintro e w3 ⟨⟨L, ao3, cap3, rfl, hs4, hJ, -⟩, hb3⟩
  obtain rfl := join_two L hJ
  go_wp2_with fail
  have hs5 := Sps.lit (w := w3) [⟨0, 8⟩] #[.int .i64 0, .int .i64 8] 30 rfl (by simp)
  refine (spSame_any ao3 (some ⟨w3.heap.size, 0, none⟩) cap3 1 [⟨0, 8⟩] [⟨0, 8⟩] _ (hs4.below (below_new _ _)) hs5).mono ?_
  rintro e w4 ⟨rfl, hb4⟩
  go_wp2_with fail
  go_ret
  exact ⟨by first | rfl | simp, below_on (below_on (below_on (below_on (below_on (below_on (below_new _ _) hb1 (Nat.le_refl _)) hb2 (Nat.le_refl _)) (below_new _ _) (Nat.le_refl _)) hb3 (Nat.le_refl _)) (below_new _ _) (Nat.le_refl _)) hb4 (Nat.le_refl _)⟩
end Go.Proofs.Ytdiahfebiafodaa
