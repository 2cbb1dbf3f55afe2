/- slots: Sort, a copy, none, Len, Used, New, Look. No statement of the seat is proved here. -/
import Derived.Test.YtadghaiengonoaaTb
namespace Go.Proofs.Ytadghaiengonoaa
set_option linter.unusedVariables false
set_option linter.unusedSimpArgs false
set_option linter.unusedSectionVars false
open Go Go.RowKit Go.Maps

abbrev FOrd : Value := .func (.func 30) #[] #[]
theorem insert_nil (W : World) : Calls Try.prog 57 #[.slice none 0 0, .int .i64 0, .int .i64 0, FOrd] W fun e W' => e = .returned (.tuple #[]) ∧ W' = W := by
  go_enter Try.func57, Try.ntmps57
  go_wp2_with fail
  go_loopw [8] (fun u wr => u = .int .i64 1 ∧ wr = W) (fun _ _ => 0)
  case atStart => exact ⟨rfl, rfl⟩
  case round =>
    obtain ⟨rfl, rfl⟩ := hrel
    go_wp2_with fail
    exact bodyPost_end (results_none rfl _ _ _) rfl ⟨rfl, rfl⟩
theorem stable_nil (W : World) : Calls Try.prog 47 #[.slice none 0 0, .int .i64 0, FOrd] W fun e W' => e = .returned (.tuple #[]) ∧ W' = W := by
  go_enter Try.func47, Try.ntmps47
  go_wp2_with fail
  go_loopw [7, 8] (fun u v wr => u = .int .i64 0 ∧ v = .int .i64 20 ∧ wr = W) (fun _ _ _ => 0)
  case atStart => exact ⟨rfl, rfl, rfl⟩
  case round =>
    obtain ⟨rfl, rfl, rfl⟩ := hrel
    go_wp2_with fail
    refine (insert_nil _).mono ?_
    rintro e W2 ⟨rfl, rfl⟩
    go_wp2_with fail
    go_loopw [6] (fun u wr => u = .int .i64 20 ∧ wr = W2) (fun _ _ => 0)
    case atStart => exact ⟨rfl, rfl⟩
    case round =>
      obtain ⟨rfl, rfl⟩ := hrel
      go_wp2_with fail
      exact bodyPost_end (results_none rfl _ _ _) rfl ⟨rfl, rfl⟩
theorem sortStable_any (W : World) (F : Nat → Prop) (v : Value) (l : List Th) (h : TR W F v l) (hl : l.length ≤ 1000000) :
    Calls Try.prog 29 #[v, FOrd] W fun e W' => e = .returned (.tuple #[]) ∧ TR W' F v (Sta.srt thLe l) ∧ W.grownBy W' v.ownBlock := by
  rcases h.own.2 with ⟨rfl, h0⟩ | ⟨g, cap, cur, rfl, _⟩
  · have h1 : l = [] := List.eq_nil_of_length_eq_zero h0
    subst h1
    go_enter Try.func29, Try.ntmps29
    go_wp2_with fail
    refine (stable_nil _).mono ?_
    rintro e W2 ⟨rfl, rfl⟩
    go_wp2_with fail
    exact bodyPost_end (results_none rfl _ _ _) rfl ⟨rfl, TR.nil _ _, World.grownBy.refl _ _⟩
  · have hs : SR thT W W 0 g l.length cap l := ⟨h.own, World.grownBy.refl _ _, rfl⟩
    have hst := stable_any l W W 0 g l.length cap hl hs
    have hf := h.foot
    have Hst := Lib.hid hst
    clear hst hs h
    go_enter Try.func29, Try.ntmps29
    go_wp2_with fail
    refine Hst.out.mono ?_
    rintro e W2 ⟨rfl, hr⟩
    go_wp2_with fail
    refine bodyPost_end (results_none rfl _ _ _) rfl ⟨rfl, ⟨?_, hf⟩, hr.gr⟩
    rw [Sta.srt_len]; exact hr.own
theorem sort_any (W : World) (F : Nat → Prop) (v : Value) (l : List Th) (h : TR W F v l) (hl : l.length ≤ 1000000) :
    Calls Try.prog 12 #[v] W fun e W' => e = .returned (.tuple #[]) ∧ TR W' F v (Sta.srt thLe l) ∧ W.grownBy W' v.ownBlock := by
  have hst := sortStable_any W F v l h hl
  have Hst := Lib.hid hst
  obtain ⟨ao, cap, rfl⟩ := own_slice h.own
  clear hst h
  go_enter Try.func12, Try.ntmps12
  go_wp2_with fail
  refine Hst.out.mono ?_
  rintro e W2 ⟨rfl, hr⟩
  go_wp2_with fail
  exact bodyPost_end (results_none rfl _ _ _) rfl ⟨rfl, hr⟩
/-- a copy -/
theorem cloneTh_any (W : World) (F : Nat → Prop) (v : Value) (l : List Th) (h : TR W F v l) (hl : l.length ≤ 1000000) :
    Calls Try.prog 52 #[v] W fun e W' => (∃ v', e = .returned v' ∧ W'.ownsRow W.heap.size thT 3 v' l.length (thFlat l)) ∧ Below W.heap.size W W' := by
  have q22 : ∀ (w : World) (a : Option Addr) (n c n' c' : Nat), (binOp .eql 32 (.slice a n c) (.slice none n' c')).run Try.prog w = .ok (.bool a.isNone) w := fun w a n c n' c' => Lib.run_eql_slice_nil w _ _ a n c n' c' Try.underlying32
  rcases h.own.2 with ⟨rfl, h0⟩ | ⟨g, cap, cur, rfl, _⟩
  · have h1 : l = [] := List.eq_nil_of_length_eq_zero h0
    subst h1
    go_enter Try.func52, Try.ntmps52
    go_wp2
    go_ret
    exact ⟨⟨_, rfl, World.ownsRow_nil _ _ _ _⟩, Below.refl _ _⟩
  · have hs : Sl W 3 (some ⟨g, 0, none⟩) l.length cap (thFlat l) := Sl.of_own h.own
    go_enter Try.func52, Try.ntmps52
    go_wp2_with (at_builtin; refine wpl_append rfl (.tmp 5) (.tmp 6) 32 rfl W.heap.size 30 infoTh Try.underlying32 rfl (by decide) _ 0 [] rfl (own_empty W W.heap.size _ 3 (Nat.le_refl _)) _ _ _ _ rfl (hs.below (below_new _ _)) (ths_one l) ?_ ?_ ?_ ?_; (unfold maxLen; omega); omega; exact (below_new _ _).size; intro ao' cap' w' hown' hg')
    go_ret
    refine ⟨⟨_, rfl, ?_⟩, below_app (below_new _ _) hg' (own_empty W W.heap.size _ 3 (Nat.le_refl _)) (Nat.le_refl _) (below_new _ _).size⟩
    rw [Nat.zero_add] at hown'
    exact hown'
/-- a ring that a call made -/
theorem none_no (W : World) (r mb : Nat) (hc : W.cell? ⟨r, 65, none⟩ = some (.map (some mb))) (hr : r < W.heap.size) :
    Calls Try.prog 51 #[.pointer (some ⟨r, 0, none⟩)] W fun e W' => e = .returned (.bool false) ∧ W' = W := by
  have q1 : (binOp .eql 94 (.map (some mb)) (.map none)).run Try.prog W = .ok (.bool false) W := by kernel_rfl
  go_enter Try.func51, Try.ntmps51
  go_wp2_with fail
  go_ret
  exact ⟨rfl, rfl⟩
theorem none_nil (W : World) :
    Calls Try.prog 51 #[.pointer none] W fun e W' => e = .returned (.bool true) ∧ W' = W := by
  go_enter Try.func51, Try.ntmps51
  go_wp2_with fail
  go_ret
  exact ⟨rfl, rfl⟩
theorem none_zero (W : World) (r : Nat) (hc : W.cell? ⟨r, 65, none⟩ = some (.map none)) (hr : r < W.heap.size) :
    Calls Try.prog 51 #[.pointer (some ⟨r, 0, none⟩)] W fun e W' => e = .returned (.bool true) ∧ W' = W := by
  have q1 : (binOp .eql 94 (.map none) (.map none)).run Try.prog W = .ok (.bool true) W := by kernel_rfl
  go_enter Try.func51, Try.ntmps51
  go_wp2_with fail
  go_ret
  exact ⟨rfl, rfl⟩
set_option maxRecDepth 100000 in
theorem len_ring (W : World) (F : Nat → Prop) (r n : Nat) (L : RLs) (h : Rng W F r n L) :
    Calls Try.prog 33 #[.pointer (some ⟨r, 0, none⟩)] W fun e W' => e = .returned (.int .i64 (L.length : Nat)) ∧ W' = W := by
  obtain ⟨mb, sv, u, hm, hu⟩ := h.mem
  have hc := hm.cellM
  have hr := hm.lt.1
  have Hno := Lib.hid (none_no W r mb hc hr)
  obtain ⟨D, hD, hE⟩ := hm.map
  have hsz : Maps.size D = L.length := by rw [hE.size]; simp [pairs]
  have Hsz := Lib.hid hsz
  have HD := Lib.hid hD
  clear hsz hm hu h hD hE
  go_enter Try.func33, Try.ntmps33
  go_wp2_with fail
  refine Hno.out.mono ?_
  rintro e W2 ⟨rfl, rfl⟩
  have hlen := HD.out.len Try.underlying94 3
  rw [Hsz.out] at hlen
  go_wp2_with fail
  go_ret
  exact ⟨rfl, rfl⟩
theorem used_ring (W : World) (r mb u : Nat) (hc : W.cell? ⟨r, 65, none⟩ = some (.map (some mb))) (hu : W.cell? ⟨r, 64, none⟩ = some (.int .u64 (u : Nat))) (hr : r < W.heap.size) :
    Calls Try.prog 31 #[.pointer (some ⟨r, 0, none⟩)] W fun e W' => e = .returned (.int .u64 (u : Nat)) ∧ W' = W := by
  have Hno := Lib.hid (none_no W r mb hc hr)
  go_enter Try.func31, Try.ntmps31
  go_wp2_with fail
  refine Hno.out.mono ?_
  rintro e W2 ⟨rfl, rfl⟩
  go_wp2_with fail
  go_ret
  exact ⟨rfl, rfl⟩
end Go.Proofs.Ytadghaiengonoaa
