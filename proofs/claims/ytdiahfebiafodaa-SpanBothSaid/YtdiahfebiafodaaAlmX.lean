/- Contracts of almanac's Lost and of the reference's Lost, Within, Free. No statement of the seat is proved here. -/
import Derived.Test.YtdiahfebiafodaaAlmG
namespace Go.Proofs.Ytdiahfebiafodaa
set_option linter.unusedVariables false
set_option linter.unusedSimpArgs false
set_option linter.unusedSectionVars false
open Go Go.RowKit Go.Shelf

/-- what a function tells of each span, added up -/
def sumL (g : Int → Int → Int) : List Sp → Int → Int
  | [], n => n
  | s :: l, n => sumL g l (IntKind.i64.wrap (n + g s.a s.b))
theorem sumL_at (g : Int → Int → Int) (l : List Sp) (i : Nat) (hi : i < l.length) (n : Int) : sumL g (l.drop i) n = sumL g (l.drop (i + 1)) (IntKind.i64.wrap (n + g l[i].a l[i].b)) := by
  rw [List.drop_eq_getElem_cons hi]; rfl
theorem cut_len (l : List Sp) (f t : Int) : (cutL l f t).length ≤ l.length := by
  unfold cutL
  split
  · unfold parts
    exact Nat.le_trans (List.length_filter_le _ _) (by simp)
  · simp

theorem neql_fn (k : Nat) (caps : Array Value) (w : World) : (binOp .eql 42 (.func (.func k) #[] caps) .nilFunc).run Try.prog w = .ok (.bool false) w := by
  first | rfl | kernel_rfl | (simp [binOp, go_sem]; done)
theorem eql_nilfn (w : World) : (binOp .eql 42 .nilFunc .nilFunc).run Try.prog w = .ok (.bool true) w := by
  first | rfl | kernel_rfl | (simp [binOp, go_sem]; done)

theorem lost_nil (v : Value) (f t : Int) (w : World) :
    Calls Try.prog 21 #[v, .int .i64 f, .int .i64 t, .nilFunc] w fun e w' => e = .returned (.int .i64 0) ∧ Below w.heap.size w w' := by
  have he := eql_nilfn
  go_enter Try.func21, Try.ntmps21
  go_wp2
  go_ret
  exact ⟨rfl, Below.refl _ _⟩

set_option maxHeartbeats 1000000 in
theorem lost_any (k : Nat) (caps : Array Value) (g : Int → Int → Int) (eg : ∀ args w, (callFunc k args).run Try.prog w = .ok (.enter k args) w) (v : Value) (l : List Sp) (f t : Int) (w : World) (hl : l.length ≤ 1000000) (h : Alm w v l)
    (hg : ∀ W x y, Below w.heap.size w W → Calls Try.prog k (#[.int .i64 x, .int .i64 y] ++ caps) W fun e W' => e = .returned (.int .i64 (g x y)) ∧ Below W.heap.size W W') :
    Calls Try.prog 21 #[v, .int .i64 f, .int .i64 t, .func (.func k) #[] caps] w fun e w' => e = .returned (.int .i64 (sumL g (cutL l f t) 0)) ∧ Below w.heap.size w w' := by
  have he := neql_fn
  have hcl := cut_len l f t
  have hcut := fun ao cap w' => cut_any ao cap l f t w'
  obtain ⟨m, hm⟩ : ∃ m, m = cutL l f t := ⟨_, rfl⟩
  rw [← hm] at hcl ⊢
  rw [← hm] at hcut
  clear hm
  obtain ⟨r, hr⟩ : ∃ r, r = sumL g m 0 := ⟨_, rfl⟩
  rw [← hr]
  have Hr := Lib.hid hr
  clear hr
  go_enter Try.func21, Try.ntmps21
  go_wp2_with fail
  refine (all_any v l w h).mono ?_
  rintro e w1 ⟨⟨ao, cap, rfl, hs⟩, rfl⟩
  go_wp2_with fail
  refine (hcut ao cap w1 hs).mono ?_
  rintro e w2 ⟨⟨ao2, cap2, rfl, hs2⟩, hb2⟩
  go_wp2_with fail
  go_loopw [8, 19] (fun v u wr => ∃ (i : Nat) (n : Int), v = .int .i64 n ∧ u = .int .i64 i ∧ i ≤ m.length ∧ Hid (r = sumL g (m.drop i) n) ∧ Below w2.heap.size w2 wr) (fun v u _ => m.length - (intOf u).toNat)
  case atStart => exact ⟨0, 0, rfl, rfl, Nat.zero_le _, Hr, Below.refl _ _⟩
  case round =>
    obtain ⟨i, n, rfl, rfl, hi, hri, hb⟩ := hrel
    by_cases hlt : i < m.length
    · obtain ⟨b, off, rfl, c0, c1⟩ := (hs2.below hb).get i hlt
      have Hst := Lib.hid (sumL_at g m i hlt n)
      obtain ⟨s, hsd⟩ : ∃ s, s = m[i] := ⟨_, rfl⟩
      rw [← hsd] at c0 c1 Hst
      clear hsd
      obtain ⟨x, y⟩ := s
      simp only at c0 c1 Hst
      have hgx := fun W' hb' => hg W' x y hb'
      obtain ⟨z, hz⟩ : ∃ z, z = g x y := ⟨_, rfl⟩
      rw [← hz] at Hst
      simp only [← hz] at hgx
      have hB := below_on hb2 hb (Nat.le_refl _)
      clear hz
      go_wp2_with fail
      refine (hgx _ (hB.alloc hB.size _)).mono ?_
      rintro e w3 ⟨rfl, hb3⟩
      have hb4 : Below w2.heap.size w2 w3 := below_on (hb.alloc hb.size _) hb3 (Nat.le_refl _)
      obtain ⟨q, hq⟩ : ∃ q, IntKind.i64.wrap (n + z) = q := ⟨_, rfl⟩
      go_wp2_with fail
      go_roundw
      case rel => exact ⟨i + 1, q, by first | rfl | rw [hq] | (simp only [← hq, IntWalk.i64_left]), by simp, by omega, (by show r = _; rw [hri.out, Hst.out, hq]), hb4⟩
      case measure => simp [intOf]; omega
    · have hi' : i = m.length := by omega
      subst hi'
      have hrn : r = n := by rw [hri.out, List.drop_length]; rfl
      go_wp2_with fail
      go_ret
      exact ⟨by rw [hrn]; rfl, below_on hb2 hb (Nat.le_refl _)⟩

/-- Lost: the reference's steps -/
def lostK (k c : Int) : List Sp → Int → Int
  | [], n => n
  | s :: l, n => lostK k c l (IntKind.i64.wrap (IntKind.i64.wrap (n + IntKind.i64.wrap (IntKind.i64.wrap (s.b - s.a) * k)) + c))
theorem lostK_at (k c : Int) (l : List Sp) (i : Nat) (hi : i < l.length) (n : Int) : lostK k c (l.drop i) n = lostK k c (l.drop (i + 1)) ((fun (s : Sp) => IntKind.i64.wrap (IntKind.i64.wrap (n + IntKind.i64.wrap (IntKind.i64.wrap (s.b - s.a) * k)) + c)) l[i]) := by
  rw [List.drop_eq_getElem_cons hi]; rfl

set_option maxHeartbeats 1000000 in
theorem refLost_any (ao : Option Addr) (cap : Nat) (l : List Sp) (f t k c : Int) (w : World) (hl : l.length ≤ 1000000) (hs : Sps w ao cap l) :
    Calls Try.prog 24 #[.slice ao l.length cap, .int .i64 f, .int .i64 t, .int .i64 k, .int .i64 c] w fun e w' => e = .returned (.int .i64 (lostK k c (cutL l f t) 0)) ∧ Below w.heap.size w w' := by
  have hcl := cut_len l f t
  have hcut := refCut_any ao cap l f t w hs
  obtain ⟨m, hm⟩ : ∃ m, m = cutL l f t := ⟨_, rfl⟩
  rw [← hm] at hcl ⊢
  rw [← hm] at hcut
  clear hm
  obtain ⟨r, hr⟩ : ∃ r, r = lostK k c m 0 := ⟨_, rfl⟩
  rw [← hr]
  have Hr := Lib.hid hr
  clear hr
  go_enter Try.func24, Try.ntmps24
  go_wp2_with fail
  refine hcut.mono ?_
  rintro e w2 ⟨⟨ao2, cap2, rfl, hs2⟩, hb2⟩
  go_wp2_with fail
  go_loopw [11, 13] (fun v u wr => ∃ (i : Nat) (n : Int), v = .int .i64 n ∧ u = .int .i64 i ∧ i ≤ m.length ∧ Hid (r = lostK k c (m.drop i) n) ∧ Below w2.heap.size w2 wr) (fun v u _ => m.length - (intOf u).toNat)
  case atStart => exact ⟨0, 0, rfl, rfl, Nat.zero_le _, Hr, Below.refl _ _⟩
  case round =>
    obtain ⟨i, n, rfl, rfl, hi, hri, hb⟩ := hrel
    by_cases hlt : i < m.length
    · obtain ⟨b, off, rfl, c0, c1⟩ := (hs2.below hb).get i hlt
      have Hst := Lib.hid (lostK_at k c m i hlt n)
      obtain ⟨s, hsd⟩ : ∃ s, s = m[i] := ⟨_, rfl⟩
      rw [← hsd] at c0 c1 Hst
      clear hsd
      obtain ⟨x, y⟩ := s
      simp only at c0 c1 Hst
      have hB := below_on hb2 hb (Nat.le_refl _)
      go_wp2_with fail
      go_quiet (fail)
      have hbq : Below wr.heap.size wr (wr.drewN nq) := ⟨rfl, rfl, rfl, by simp [World.drewN], fun k hk => rfl⟩
      obtain ⟨q, hq⟩ : ∃ q, IntKind.i64.wrap (IntKind.i64.wrap (n + IntKind.i64.wrap (IntKind.i64.wrap (y - x) * k)) + c) = q := ⟨_, rfl⟩
      rw [hq] at Hst
      try simp only [hq]
      go_wp2_with fail
      go_roundw
      case rel => exact ⟨i + 1, q, by first | rfl | rw [hq] | (simp only [← hq, IntWalk.i64_left]), by simp, by omega, (by show r = _; rw [hri.out, Hst.out]), below_on hb hbq (Nat.le_refl _)⟩
      case measure => simp [intOf]; omega
    · have hi' : i = m.length := by omega
      subst hi'
      have hrn : r = n := by rw [hri.out, List.drop_length]; rfl
      go_wp2_with fail
      go_ret
      exact ⟨by rw [hrn]; rfl, below_on hb2 hb (Nat.le_refl _)⟩

theorem lostK_sum (k c : Int) (l : List Sp) : ∀ n, lostK k c l n = sumL (fun x y => IntKind.i64.wrap (IntKind.i64.wrap (IntKind.i64.wrap (y - x) * k) + c)) l n := by
  induction l with
  | nil => intro n; rfl
  | cons s l ih =>
    intro n
    unfold lostK sumL
    rw [ih]
    congr 1
    generalize IntKind.i64.wrap (IntKind.i64.wrap (s.b - s.a) * k) = A
    rw [IntKind.wrap_i64, IntKind.wrap_i64, IntKind.wrap_i64, IntKind.wrap_i64]
    omega

/-- Within: the reference's steps -/
def withinK : List Sp → Int → Int
  | [], n => n
  | s :: l, n => withinK l (IntKind.i64.wrap (IntKind.i64.wrap (n + s.b) - s.a))
theorem withinK_at (l : List Sp) (i : Nat) (hi : i < l.length) (n : Int) : withinK (l.drop i) n = withinK (l.drop (i + 1)) ((fun (s : Sp) => IntKind.i64.wrap (IntKind.i64.wrap (n + s.b) - s.a)) l[i]) := by
  rw [List.drop_eq_getElem_cons hi]; rfl

set_option maxHeartbeats 1000000 in
theorem refWithin_any (ao : Option Addr) (cap : Nat) (l : List Sp) (f t : Int) (w : World) (hl : l.length ≤ 1000000) (hs : Sps w ao cap l) :
    Calls Try.prog 26 #[.slice ao l.length cap, .int .i64 f, .int .i64 t] w fun e w' => e = .returned (.int .i64 (withinK (cutL l f t) 0)) ∧ Below w.heap.size w w' := by
  have hcl := cut_len l f t
  have hcut := refCut_any ao cap l f t w hs
  obtain ⟨m, hm⟩ : ∃ m, m = cutL l f t := ⟨_, rfl⟩
  rw [← hm] at hcl ⊢
  rw [← hm] at hcut
  clear hm
  obtain ⟨r, hr⟩ : ∃ r, r = withinK m 0 := ⟨_, rfl⟩
  rw [← hr]
  have Hr := Lib.hid hr
  clear hr
  go_enter Try.func26, Try.ntmps26
  go_wp2_with fail
  refine hcut.mono ?_
  rintro e w2 ⟨⟨ao2, cap2, rfl, hs2⟩, hb2⟩
  go_wp2_with fail
  go_loopw [8, 9] (fun v u wr => ∃ (i : Nat) (n : Int), v = .int .i64 n ∧ u = .int .i64 i ∧ i ≤ m.length ∧ Hid (r = withinK (m.drop i) n) ∧ Below w2.heap.size w2 wr) (fun v u _ => m.length - (intOf u).toNat)
  case atStart => exact ⟨0, 0, rfl, rfl, Nat.zero_le _, Hr, Below.refl _ _⟩
  case round =>
    obtain ⟨i, n, rfl, rfl, hi, hri, hb⟩ := hrel
    by_cases hlt : i < m.length
    · obtain ⟨b, off, rfl, c0, c1⟩ := (hs2.below hb).get i hlt
      have Hst := Lib.hid (withinK_at m i hlt n)
      obtain ⟨s, hsd⟩ : ∃ s, s = m[i] := ⟨_, rfl⟩
      rw [← hsd] at c0 c1 Hst
      clear hsd
      obtain ⟨x, y⟩ := s
      simp only at c0 c1 Hst
      have hB := below_on hb2 hb (Nat.le_refl _)
      go_wp2_with fail
      go_quiet (fail)
      have hbq : Below wr.heap.size wr (wr.drewN nq) := ⟨rfl, rfl, rfl, by simp [World.drewN], fun k hk => rfl⟩
      obtain ⟨q, hq⟩ : ∃ q, IntKind.i64.wrap (IntKind.i64.wrap (n + y) - x) = q := ⟨_, rfl⟩
      rw [hq] at Hst
      try simp only [hq]
      go_wp2_with fail
      go_roundw
      case rel => exact ⟨i + 1, q, by first | rfl | rw [hq] | (simp only [← hq, IntWalk.i64_left]), by simp, by omega, (by show r = _; rw [hri.out, Hst.out]), below_on hb hbq (Nat.le_refl _)⟩
      case measure => simp [intOf]; omega
    · have hi' : i = m.length := by omega
      subst hi'
      have hrn : r = n := by rw [hri.out, List.drop_length]; rfl
      go_wp2_with fail
      go_ret
      exact ⟨by rw [hrn]; rfl, below_on hb2 hb (Nat.le_refl _)⟩
end Go.Proofs.Ytdiahfebiafodaa
