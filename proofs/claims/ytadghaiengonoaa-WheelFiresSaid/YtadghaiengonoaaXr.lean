/- wheel: the example that the laws end with; a wheel that the law made. No statement of the seat is proved here. -/
import Derived.Test.YtadghaiengonoaaXq
namespace Go.Proofs.Ytadghaiengonoaa
set_option linter.unusedVariables false
set_option linter.unusedSimpArgs false
set_option linter.unusedSectionVars false
open Go Go.RowKit Go.Maps

/-- a wheel that the call made -/
structure Wo (W wr : World) (F : Nat → Prop) (w : Nat) (now : Int) (X : List Th) : Prop where
  whl : Whl wr F w now X
  up : ∀ i, F i → W.heap.size ≤ i
  bel : Below W.heap.size W wr
/-- behind a call that wrote it -/
def Wnx (W wr : World) (F : Nat → Prop) (w : Nat) (now : Int) (X : List Th) (W' : World) : Prop := ∃ F', Wo W W' F' w now X ∧ Gr F wr W' ∧ ∀ i, F' i → F i ∨ wr.heap.size ≤ i
section
variable {W wr wr' : World} {F : Nat → Prop} {w : Nat} {now : Int} {X : List Th}
theorem Wo.below (h : Wo W wr F w now X) (hb : Below wr.heap.size wr wr') : Wo W wr' F w now X := ⟨h.whl.below hb, h.up, below_on h.bel hb (Nat.le_refl _)⟩
theorem Wo.bd (h : Wo W wr F w now X) : ∀ i, F i → i < wr.heap.size := h.whl.bd
theorem Wo.st (h : Wo W wr F w now X) {now' : Int} {X' : List Th} (hs : Wst wr F w now' X' wr') : Wnx W wr F w now' X' wr' := by
  obtain ⟨F', h1, h2, h3⟩ := hs
  exact ⟨F', ⟨h1, fun i hi => (h3 i hi).elim (h.up i) (fun x => Nat.le_trans h.bel.size x), h.bel.trans (h2.above h.bel.size h.up)⟩, h2, h3⟩
theorem Wo.okX (h : Wo W wr F w now X) : Inst now ∧ Asc X ∧ Ids X ∧ (∀ t ∈ X, Inst t.due ∧ IdOk t.id) ∧ X.length ≤ 256 := by
  obtain ⟨G, rs, pf, mf, R, far, h1, h2, h3⟩ := h.whl
  exact ⟨h2, h3.asc, h3.ids, h3.ok, h3.len⟩
/-- what another one's call wrote -/
theorem Wo.beside {H : Nat → Prop} (h : Wo W wr F w now X) (hg : Gr H wr wr') (hd : ∀ i, F i → ¬ H i) (hH : ∀ i, H i → W.heap.size ≤ i) : Wo W wr' F w now X := ⟨h.whl.beside hg hd, h.up, h.bel.trans (hg.above h.bel.size hH)⟩
theorem arm_o (h : Wo W wr F w now X) (t : Th) (hw : IdOk t.id) :
    Calls Try.prog 10 #[.pointer (some ⟨w, 0, none⟩), thVal t] wr fun e W' => e = .returned (.int .i64 (armE X t)) ∧ Wnx W wr F w now (armX X t) W' := by
  refine (arm_any wr F w now X t h.whl hw).mono ?_
  rintro e W' ⟨rfl, hs⟩
  exact ⟨rfl, h.st hs⟩
theorem cancel_o (h : Wo W wr F w now X) (id : Int) (hw : IdOk id) :
    Calls Try.prog 16 #[.pointer (some ⟨w, 0, none⟩), .int .u64 id] wr fun e W' => CancelIs X id e ∧ Wnx W wr F w now (lessId X id) W' := by
  refine (cancel_any wr F w now X id h.whl hw).mono ?_
  rintro e W' ⟨he, hs⟩
  exact ⟨he, h.st hs⟩
theorem get_o (h : Wo W wr F w now X) (id : Int) (hw : IdOk id) :
    Calls Try.prog 22 #[.pointer (some ⟨w, 0, none⟩), .int .u64 id] wr fun e W' => CancelIs X id e ∧ Below wr.heap.size wr W' := by
  obtain ⟨G, rs, pf, mf, R, far, hm, hn, hi⟩ := h.whl
  refine (wget_any wr F G w now rs pf mf 256 R far id hm hw (by decide)).mono ?_
  rintro e W' ⟨hor, hb⟩
  refine ⟨?_, hb⟩
  rcases hor with ⟨t, ht, e1, e2⟩ | ⟨h4, e2⟩
  · exact .inl ⟨t, hi.perm.mem_iff.2 ht, e1, e2⟩
  · exact .inr ⟨fun u hu => h4 u (hi.perm.mem_iff.1 hu), e2⟩
theorem adv_o (h : Wo W wr F w now X) (tb : Int) :
    Calls Try.prog 11 #[.pointer (some ⟨w, 0, none⟩), .int .i64 tb] wr fun e W' => ∃ ao cap, e = .returned (.tuple #[.slice ao (advL now tb X).length cap, .int .i64 (advE now tb)]) ∧ Wnx W wr F w (advN now tb) (advX now tb X) W' ∧ Tt W' ao cap (advL now tb X) := by
  refine (adv_any wr F w now tb X h.whl).mono ?_
  rintro e W' ⟨ao, cap, rfl, hs, hrow⟩
  exact ⟨ao, cap, rfl, h.st hs, Tt.of_own hrow⟩
theorem fi_eq {a b : Nat → Nat} (h : ∀ k, k < 5 → a k = b k) : fiVal a = fiVal b := by
  unfold fiVal
  rw [h 0 (by decide), h 1 (by decide), h 2 (by decide), h 3 (by decide), h 4 (by decide)]
theorem spread_o (h : Wo W wr F w now X) :
    Calls Try.prog 14 #[.pointer (some ⟨w, 0, none⟩)] wr fun e W' => e = .returned (fiVal (cntR now X)) ∧ Below wr.heap.size wr W' := by
  obtain ⟨G, rs, pf, mf, R, far, hm, hn, hi⟩ := h.whl
  refine (spread_any wr F G w now rs pf mf 256 R far hm).mono ?_
  rintro e W' ⟨rfl, hb⟩
  exact ⟨by rw [fi_eq fun k hk => hi.cnt k hk], hb⟩
theorem len_o (h : Wo W wr F w now X) :
    Calls Try.prog 15 #[.pointer (some ⟨w, 0, none⟩)] wr fun e W' => e = .returned (.int .i64 (X.length : Nat)) ∧ Below wr.heap.size wr W' := by
  obtain ⟨G, rs, pf, mf, R, far, hm, hn, hi⟩ := h.whl
  have hl := hi.lenT
  refine (wlen_any wr F G w now rs pf mf 256 R far hm (by omega)).mono ?_
  rintro e W' ⟨rfl, hb⟩
  exact ⟨by rw [hi.perm.length_eq], hb⟩
theorem now_o (h : Wo W wr F w now X) :
    Calls Try.prog 18 #[.pointer (some ⟨w, 0, none⟩)] wr fun e W' => e = .returned (.int .i64 now) ∧ W' = wr := by
  obtain ⟨G, rs, pf, mf, R, far, hm, hn, hi⟩ := h.whl
  exact wnow_any wr F G w now rs pf mf 256 R far hm
theorem all_o (h : Wo W wr F w now X) :
    Calls Try.prog 13 #[.pointer (some ⟨w, 0, none⟩)] wr fun e W' => ∃ ao cap, e = .returned (.slice ao X.length cap) ∧ Tt W' ao cap X ∧ Below wr.heap.size wr W' := by
  refine (all_any wr F w now X h.whl).mono ?_
  rintro e W' ⟨ao, cap, rfl, hrow, hb⟩
  exact ⟨ao, cap, rfl, Tt.of_own hrow, hb⟩
end
theorem new_o (W wr : World) (now : Int) (h : Inst now) (hb : Below W.heap.size W wr) : Calls Try.prog 9 #[.int .i64 now] wr fun e W' => ∃ w F, e = .returned (.pointer (some ⟨w, 0, none⟩)) ∧ Wo W W' F w now [] ∧ Below wr.heap.size wr W' ∧ ∀ i, F i → wr.heap.size ≤ i := by
  refine (wnew_any wr now h).mono ?_
  rintro e W' ⟨w, F, rfl, h1, h2, h3⟩
  exact ⟨w, F, rfl, ⟨h1, fun i hi => Nat.le_trans hb.size (h2 i hi), below_on hb h3 (Nat.le_refl _)⟩, h3, h2⟩
theorem arm_is {X m : List Th} {t : Th} (hd : Inst t.due) (hn : ∀ u ∈ X, u.id ≠ t.id) (hl : X.length < 256) (hm : Asc m) (hi : Ids m) (hp : (X ++ [t]).Perm m) : armX X t = m ∧ armE X t = 0 := by
  have hne : ¬ ∃ u ∈ X, u.id = t.id := fun ⟨u, hu, e⟩ => hn u hu e
  constructor
  · unfold armX
    rw [if_pos hd, if_neg hne, if_neg (by omega)]
    exact srt_is hm hi hp
  · unfold armE
    rw [if_pos hd, if_neg hne, if_neg (by omega)]
set_option maxRecDepth 100000 in
set_option maxHeartbeats 2000000 in
theorem lives_wheel (W : World) : Calls Try.prog 8 #[] W fun e W' => e = .returned (.bool true) ∧ Below W.heap.size W W' := by
  have v1 : fiVal (cntR 0 [(⟨2, 0, 63⟩ : Th), ⟨1, 0, 100⟩]) = .agg #[.int .i64 1, .int .i64 1, .int .i64 0, .int .i64 0, .int .i64 0] := by kernel_rfl
  have v2 : fiVal (cntR 70 [(⟨1, 0, 100⟩ : Th)]) = .agg #[.int .i64 1, .int .i64 0, .int .i64 0, .int .i64 0, .int .i64 0] := by kernel_rfl
  have q1 : ∀ V, (binOp .eql fiT (.agg #[.int .i64 1, .int .i64 1, .int .i64 0, .int .i64 0, .int .i64 0]) (.agg #[.int .i64 1, .int .i64 1, .int .i64 0, .int .i64 0, .int .i64 0])).run Try.prog V = .ok (.bool true) V := fun V => by kernel_rfl
  have q2 : ∀ V, (binOp .eql fiT (.agg #[.int .i64 1, .int .i64 0, .int .i64 0, .int .i64 0, .int .i64 0]) (.agg #[.int .i64 1, .int .i64 0, .int .i64 0, .int .i64 0, .int .i64 0])).run Try.prog V = .ok (.bool true) V := fun V => by kernel_rfl
  go_enter Try.func8, Try.ntmps8
  go_wp2_with fail
  refine (new_o W W 0 (by decide) (Below.refl _ _)).mono ?_
  rintro e W1 ⟨w, F1, rfl, hu1, -, -⟩
  have a1 := Lib.hid (arm_o hu1 ⟨1, 0, 100⟩ ⟨by decide, by decide⟩)
  clear hu1
  go_wp2_with fail
  refine (show Calls _ _ _ _ _ from a1.out).mono ?_
  rintro e W2 ⟨rfl, F2, hu2, -, -⟩
  obtain ⟨x1, x2⟩ := arm_is (X := []) (m := [(⟨1, 0, 100⟩ : Th)]) (t := ⟨1, 0, 100⟩) (by decide) (by decide) (by decide) (List.pairwise_singleton _ _) (List.pairwise_singleton _ _) (List.Perm.refl _)
  rw [x2]
  rw [x1] at hu2
  clear x1 x2
  have a2 := Lib.hid (arm_o hu2 ⟨2, 0, 63⟩ ⟨by decide, by decide⟩)
  clear hu2
  go_wp2_with fail
  refine (show Calls _ _ _ _ _ from a2.out).mono ?_
  rintro e W3 ⟨rfl, F3, hu3, -, -⟩
  obtain ⟨x1, x2⟩ := arm_is (X := [(⟨1, 0, 100⟩ : Th)]) (m := [(⟨2, 0, 63⟩ : Th), ⟨1, 0, 100⟩]) (t := ⟨2, 0, 63⟩) (by decide) (by decide) (by decide) (List.Pairwise.cons (by decide) (List.pairwise_singleton _ _)) (List.Pairwise.cons (by decide) (List.pairwise_singleton _ _)) (List.Perm.swap _ _ _)
  rw [x2]
  rw [x1] at hu3
  clear x1 x2
  have a3 := spread_o hu3
  rw [v1] at a3
  have A3 := Lib.hid a3
  have Hu3 := Lib.hid hu3
  clear a1 a2 a3 hu3 v1
  go_wp2_with fail
  refine A3.out.mono ?_
  rintro e W4 ⟨rfl, hb4⟩
  obtain ⟨W5, hW5⟩ : ∃ W5, W5 = W4.alloc (.cells #[.int .i64 1, .int .i64 1, .int .i64 0, .int .i64 0, .int .i64 0] fiT) := ⟨_, rfl⟩
  obtain ⟨p, hp⟩ : ∃ p, p = W4.heap.size := ⟨_, rfl⟩
  have ht5 : W5.heap[p]? = some (.cells #[.int .i64 1, .int .i64 1, .int .i64 0, .int .i64 0, .int .i64 0] fiT (0, 0)) := by rw [hW5, hp]; exact heap_alloc_new _ _
  have hu4 := Hu3.out.below hb4
  have hu5 : Wo W W5 F3 w 0 [(⟨2, 0, 63⟩ : Th), ⟨1, 0, 100⟩] := hu4.below (by rw [hW5]; exact below_new _ _)
  have hpF : ¬ F3 p := fun e => by have := hu4.bd p e; omega
  have hbl := (Array.getElem?_eq_some_iff.1 ht5).1
  have a5 := adv_o hu5 70
  rw [show advL 0 70 [(⟨2, 0, 63⟩ : Th), ⟨1, 0, 100⟩] = [⟨2, 0, 63⟩] from by decide, show advE 0 70 = 0 from by decide, show advN 0 70 = 70 from by decide, show advX 0 70 [(⟨2, 0, 63⟩ : Th), ⟨1, 0, 100⟩] = [⟨1, 0, 100⟩] from by decide] at a5
  have A5 := Lib.hid a5
  have HpF := Lib.hid hpF
  have Ht5 := Lib.hid ht5
  clear a5 hu4 hu5 hpF ht5 hb4
  go_upto_region 5 with fail
  rw [← hW5, ← hp]
  clear hW5 hp
  go_wp2_with fail
  refine A5.out.mono ?_
  rintro e W6 ⟨ao, cap, rfl, ⟨F6, hu6, hg6, -⟩, htt⟩
  have ht6 := (hg6.block p hbl HpF.out).trans Ht5.out
  have e0 := block_cell ht6 0
  have e1 := block_cell ht6 1
  have e2 := block_cell ht6 2
  have e3 := block_cell ht6 3
  have e4 := block_cell ht6 4
  simp at e0 e1 e2 e3 e4
  have hp6 := (Array.getElem?_eq_some_iff.1 ht6).1
  obtain ⟨bx, fx, rfl, hbx, c0, c1, c2⟩ := htt.cells 0 (by decide)
  simp at c0 c1 c2
  have a6 := spread_o hu6
  rw [v2] at a6
  have A6 := Lib.hid a6
  have Hu6 := Lib.hid hu6
  clear a6 hu6 hg6 htt ht6 v2 hbl
  simp only [List.length_cons, List.length_nil]
  go_wp2_with fail
  refine A6.out.mono ?_
  rintro e W7 ⟨rfl, hb7⟩
  have HB7 := Lib.hid hb7
  clear hb7
  go_wp2_with fail
  go_ret
  exact ⟨rfl, below_on Hu6.out.bel HB7.out (Nat.le_refl _)⟩
end Go.Proofs.Ytadghaiengonoaa
