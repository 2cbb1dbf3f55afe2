/- Lemmas for DeadlineBytes (Da). No statement of the seat is proved here. -/
import Derived.Test.YtedlplkomfiahaaT18
namespace Go.Proofs.Ytedlplkomfiahaa
set_option linter.unusedVariables false
set_option linter.unusedSimpArgs false
set_option linter.unusedSectionVars false
open Go Go.RowKit Go.Maps Go.Deep
abbrev bkT : TypeId := 61
/-- a book that the call made: its box, its wheel -/
def Bk (W wr : World) (G : Nat → Prop) (b : Nat) (now last : Int) (X : List Th) : Prop :=
  ∃ w F, Wo W wr F w now X ∧ wr.heap[b]? = some (.cells #[.pointer (some ⟨w, 0, none⟩), .int .u64 last] bkT (0, 0)) ∧ ¬ F b ∧ (∀ i, G i ↔ (F i ∨ i = b)) ∧ W.heap.size ≤ b ∧ 0 ≤ last ∧ last ≤ 1152921504606846976
/-- behind a call that wrote it -/
def Bnx (W wr : World) (G : Nat → Prop) (b : Nat) (now last : Int) (X : List Th) (W' : World) : Prop := ∃ G', Bk W W' G' b now last X ∧ Gr G wr W' ∧ ∀ i, G' i → G i ∨ wr.heap.size ≤ i
section
variable {W wr wr' : World} {G : Nat → Prop} {b : Nat} {now last : Int} {X : List Th}
theorem Bk.below (h : Bk W wr G b now last X) (hb : Below wr.heap.size wr wr') : Bk W wr' G b now last X := by
  obtain ⟨w, F, h1, h2, h3, h4, h5, h6⟩ := h
  exact ⟨w, F, h1.below hb, bx_below hb h2, h3, h4, h5, h6⟩
theorem Bk.bd (h : Bk W wr G b now last X) : ∀ i, G i → i < wr.heap.size := by
  obtain ⟨w, F, h1, h2, h3, h4, h5, h6⟩ := h
  intro i hi
  rcases (h4 i).1 hi with h7 | rfl
  · exact h1.bd i h7
  · exact (Array.getElem?_eq_some_iff.1 h2).1
theorem Bk.up (h : Bk W wr G b now last X) : ∀ i, G i → W.heap.size ≤ i := by
  obtain ⟨w, F, h1, h2, h3, h4, h5, h6⟩ := h
  intro i hi
  rcases (h4 i).1 hi with h7 | rfl
  · exact h1.up i h7
  · exact h5
theorem Bk.bel (h : Bk W wr G b now last X) : Below W.heap.size W wr := by
  obtain ⟨w, F, h1, -⟩ := h
  exact h1.bel
theorem Bk.okX (h : Bk W wr G b now last X) : Inst now ∧ Asc X ∧ Ids X ∧ (∀ t ∈ X, Inst t.due ∧ IdOk t.id) ∧ X.length ≤ 256 := by
  obtain ⟨w, F, h1, -⟩ := h
  exact h1.okX
theorem Bk.num (h : Bk W wr G b now last X) : 0 ≤ last ∧ last ≤ 1152921504606846976 := by
  obtain ⟨w, F, h1, h2, h3, h4, h5, h6⟩ := h
  exact h6
theorem Bk.beside {H : Nat → Prop} (h : Bk W wr G b now last X) (hg : Gr H wr wr') (hd : ∀ i, G i → ¬ H i) (hH : ∀ i, H i → W.heap.size ≤ i) : Bk W wr' G b now last X := by
  obtain ⟨w, F, h1, h2, h3, h4, h5, h6⟩ := h
  exact ⟨w, F, h1.beside hg (fun i hi => hd i ((h4 i).2 (.inl hi))) hH, (hg.block b (Array.getElem?_eq_some_iff.1 h2).1 (hd b ((h4 b).2 (.inr rfl)))).trans h2, h3, h4, h5, h6⟩
theorem Bnx.of_below (h : Bk W wr G b now last X) (hb : Below wr.heap.size wr wr') : Bnx W wr G b now last X wr' := ⟨G, h.below hb, Gr.below hb, fun i hi => .inl hi⟩
theorem Bnx.below {W' W'' : World} (h : Bnx W wr G b now last X W') (hb : Below W'.heap.size W' W'') : Bnx W wr G b now last X W'' := by
  obtain ⟨G', h1, h2, h3⟩ := h
  exact ⟨G', h1.below hb, h2.trans (Gr.below hb), h3⟩
/-- a write beside it -/
theorem Bnx.beside {W' W'' : World} {H : Nat → Prop} (h : Bnx W wr G b now last X W') (hg : Gr H W' W'') (hd : ∀ i, H i → ¬ G i ∧ i < wr.heap.size) (hH : ∀ i, H i → W.heap.size ≤ i) : ∃ G', Bk W W'' G' b now last X ∧ Gr (fun i => G i ∨ H i) wr W'' ∧ ∀ i, G' i → G i ∨ wr.heap.size ≤ i := by
  obtain ⟨G', h1, h2, h3⟩ := h
  refine ⟨G', h1.beside hg (fun i hi hi2 => ?_) hH, (h2.mono fun i hi => .inl hi).then hg (fun i hi => .inl (.inr hi)), h3⟩
  have := hd i hi2
  rcases h3 i hi with h4 | h4
  · exact this.1 h4
  · omega
theorem bk_wn {w : Nat} {F : Nat → Prop} (h1 : Wo W wr F w now X) (h2 : wr.heap[b]? = some (.cells #[.pointer (some ⟨w, 0, none⟩), .int .u64 last] bkT (0, 0))) (h3 : ¬ F b) (h4 : ∀ i, G i ↔ (F i ∨ i = b)) (h5 : W.heap.size ≤ b) (h6 : 0 ≤ last ∧ last ≤ 1152921504606846976)
    {now' : Int} {X' : List Th} (hn : Wnx W wr F w now' X' wr') : Bnx W wr G b now' last X' wr' := by
  obtain ⟨F', g1, g2, g3⟩ := hn
  have hl := (Array.getElem?_eq_some_iff.1 h2).1
  refine ⟨fun i => F' i ∨ i = b, ⟨w, F', g1, (g2.block b hl h3).trans h2, fun e => ?_, fun i => Iff.rfl, h5, h6⟩, g2.mono fun i hi => (h4 i).2 (.inl hi), fun i hi => ?_⟩
  · rcases g3 b e with h | h
    · exact h3 h
    · omega
  · rcases hi with hi | rfl
    · exact (g3 i hi).elim (fun h => .inl ((h4 i).2 (.inl h))) .inr
    · exact .inl ((h4 i).2 (.inr rfl))
end
theorem bnone_no (W : World) (b w : Nat) (hc : W.cell? ⟨b, 0, none⟩ = some (.pointer (some ⟨w, 0, none⟩))) (hl : b < W.heap.size) : Calls Try.prog 33 #[.pointer (some ⟨b, 0, none⟩)] W fun e W' => e = .returned (.bool false) ∧ W' = W := by
  go_enter Try.func33, Try.ntmps33
  go_wp2_with fail
  go_ret
  exact ⟨rfl, rfl⟩
def BNone (W : World) (q : Option Addr) : Prop := ∀ W', Below W.heap.size W W' → Calls Try.prog 33 #[.pointer q] W' fun e W'' => e = .returned (.bool true) ∧ W'' = W'
theorem BNone.nil (W : World) : BNone W none := fun W' _ => by
  go_enter Try.func33, Try.ntmps33
  go_wp2_with fail
  go_ret
  exact ⟨rfl, rfl⟩
theorem BNone.zero {W : World} {b : Nat} (hc : W.cell? ⟨b, 0, none⟩ = some (.pointer none)) : BNone W (some ⟨b, 0, none⟩) := fun W' hb => by
  have hl := cell?_lt hc
  have hc2 : W'.cell? ⟨b, 0, none⟩ = some (.pointer none) := (hb.cell (p := ⟨b, 0, none⟩) hl).trans hc
  have hl2 : b < W'.heap.size := Nat.lt_of_lt_of_le hl hb.size
  go_enter Try.func33, Try.ntmps33
  go_wp2_with fail
  go_ret
  exact ⟨rfl, rfl⟩
theorem BNone.below {W W' : World} {q : Option Addr} (h : BNone W q) (hb : Below W.heap.size W W') : BNone W' q := fun W2 h2 => h W2 (below_on hb h2 (Nat.le_refl _))
theorem dinst_yes (t : Int) (h : Inst t) (W : World) : Calls Try.prog 36 #[.int .i64 t] W fun e W' => e = .returned (.bool true) ∧ W' = W := by
  have Ha := Lib.hid (add_yes t h W)
  go_enter Try.func36, Try.ntmps36
  go_wp2_with fail
  refine Ha.out.mono ?_
  rintro e W2 ⟨rfl, rfl⟩
  go_wp2_with fail
  go_ret
  exact ⟨rfl, rfl⟩
theorem dinst_no (t : Int) (h : ¬ Inst t) (W : World) : Calls Try.prog 36 #[.int .i64 t] W fun e W' => e = .returned (.bool false) ∧ W' = W := by
  have Ha := Lib.hid (add_no t h W)
  go_enter Try.func36, Try.ntmps36
  go_wp2_with fail
  refine Ha.out.mono ?_
  rintro e W2 ⟨rfl, rfl⟩
  go_wp2_with fail
  go_ret
  exact ⟨rfl, rfl⟩
/-- three stores into a box of one's own -/
theorem gr_set3 (V : World) (p : Nat) (v0 v1 v2 : Value) : Gr (fun i => i = p) V (((V.setCell ⟨p, 0, none⟩ v0).setCell ⟨p, 1, none⟩ v1).setCell ⟨p, 2, none⟩ v2) :=
  ((Gr.one (grown_set V p 0 v0) (fun b e => (Option.some.inj e).symm)).trans (Gr.one (grown_set _ p 1 v1) (fun b e => (Option.some.inj e).symm))).trans (Gr.one (grown_set _ p 2 v2) (fun b e => (Option.some.inj e).symm))
theorem bx_set3 {V : World} {p : Nat} {T : TypeId} {x0 x1 x2 : Value} (h : V.heap[p]? = some (.cells #[x0, x1, x2] T (0, 0))) (v0 v1 v2 : Value) : (((V.setCell ⟨p, 0, none⟩ v0).setCell ⟨p, 1, none⟩ v1).setCell ⟨p, 2, none⟩ v2).heap[p]? = some (.cells #[v0, v1, v2] T (0, 0)) := by
  have := block_set (block_set (block_set h 0 v0) 1 v1) 2 v2
  simpa only [List.setIfInBounds_toArray, List.set_cons_zero, List.set_cons_succ] using this
set_option maxRecDepth 100000 in
set_option maxHeartbeats 4000000 in
theorem bget_o {W wr : World} {G : Nat → Prop} {b : Nat} {now last : Int} {X : List Th} (h : Bk W wr G b now last X) (id : Int) (hw : IdOk id) :
    Calls Try.prog 21 #[.pointer (some ⟨b, 0, none⟩), .int .u64 id] wr fun e W' => e = .returned (.tuple #[thVal (canT X id), .bool (canB X id)]) ∧ Below wr.heap.size wr W' := by
  obtain ⟨w, F, h1, h2, h3, h4, h5, h6⟩ := h
  obtain ⟨W1, hW1⟩ : ∃ W1, W1 = wr.alloc (.cells #[.int .u64 0, .int .u64 0, .int .i64 0] thT) := ⟨_, rfl⟩
  obtain ⟨p, hp⟩ : ∃ p, p = wr.heap.size := ⟨_, rfl⟩
  have hB1 : Below wr.heap.size wr W1 := by rw [hW1]; exact below_new _ _
  have hx1 : W1.heap[p]? = some (.cells #[.int .u64 0, .int .u64 0, .int .i64 0] thT (0, 0)) := by rw [hW1, hp]; exact heap_alloc_new _ _
  have hb2 := bx_below hB1 h2
  have e0 := block_cell hb2 0
  have el := (Array.getElem?_eq_some_iff.1 hb2).1
  simp at e0
  have hp1 : wr.heap.size ≤ p := by omega
  have Hno := Lib.hid (bnone_no W1 b w e0 el)
  have Hgt := Lib.hid (get_f (h1.below hB1) id hw)
  have HB1 := Lib.hid hB1
  have X1 := Lib.hid hx1
  have Hp1 := Lib.hid hp1
  clear h1 h2 h3 h4 h5 h6 hB1 hx1 hb2 hp1
  go_enter Try.func21, Try.ntmps21
  go_wp2_with fail
  rw [← hW1, ← hp]
  clear hW1 hp
  refine Hno.out.mono ?_
  rintro e V1 ⟨rfl, hv⟩
  subst hv
  go_wp2_with fail
  refine (show Calls _ _ _ _ _ from Hgt.out).mono ?_
  rintro e V2 ⟨rfl, hb⟩
  obtain ⟨⟨yi, yg, yd⟩, hy⟩ : ∃ y, y = canT X id := ⟨_, rfl⟩
  rw [← hy]
  unfold thVal
  have x2 := bx_below hb X1.out
  have y0 := block_cell x2 0
  have y1 := block_cell x2 1
  have y2 := block_cell x2 2
  have f0 := block_free x2 0
  have f1 := block_free x2 1
  have f2 := block_free x2 2
  have l3 := (Array.getElem?_eq_some_iff.1 x2).1
  simp at y0 y1 y2 f0 f1 f2
  have X2 := Lib.hid x2
  have HB2 := Lib.hid (below_on HB1.out hb (Nat.le_refl _))
  have Hy := Lib.hid hy
  clear x2 hb hy
  go_wp2_with fail
  have u3 := bx_set3 X2.out (.int .u64 yi) (.int .u64 yg) (.int .i64 yd)
  obtain ⟨U, hU⟩ : ∃ U, U = ((V2.setCell ⟨p, 0, none⟩ (.int .u64 yi)).setCell ⟨p, 1, none⟩ (.int .u64 yg)).setCell ⟨p, 2, none⟩ (.int .i64 yd) := ⟨_, rfl⟩
  rw [← hU] at u3 ⊢
  have u0 := block_cell u3 0
  have u1 := block_cell u3 1
  have u2 := block_cell u3 2
  have ul := (Array.getElem?_eq_some_iff.1 u3).1
  simp at u0 u1 u2
  have hbU : Below wr.heap.size wr U := by rw [hU]; exact sets_up (sets_up (sets_up HB2.out Hp1.out 0 _) Hp1.out 1 _) Hp1.out 2 _
  clear u3 hU
  refine bodyPost_ret (v := .tuple #[.agg #[.int .u64 yi, .int .u64 yg, .int .i64 yd], .bool (canB X id)]) ?_ rfl ⟨by rw [← Hy.out]; rfl, hbU⟩
  simp [results, Try.results21, go_sem, u0, u1, u2, ul]
set_option maxRecDepth 100000 in
set_option maxHeartbeats 4000000 in
theorem badv_o {W wr : World} {G : Nat → Prop} {b : Nat} {now last : Int} {X : List Th} (h : Bk W wr G b now last X) (tb : Int) :
    Calls Try.prog 11 #[.pointer (some ⟨b, 0, none⟩), .int .i64 tb] wr fun e W' => ∃ ao cap, e = .returned (.tuple #[.slice ao (advL now tb X).length cap, .int .i64 (advE now tb)]) ∧ Bnx W wr G b (advN now tb) last (advX now tb X) W' ∧ W'.ownsRow wr.heap.size thT 3 (.slice ao (advL now tb X).length cap) (advL now tb X).length (thFlat (advL now tb X)) := by
  obtain ⟨w, F, h1, h2, h3, h4, h5, h6⟩ := h
  have e0 := block_cell h2 0
  have el := (Array.getElem?_eq_some_iff.1 h2).1
  simp at e0
  have Hno := Lib.hid (bnone_no wr b w e0 el)
  have had : Calls Try.prog 35 #[.pointer (some ⟨w, 0, none⟩), .int .i64 tb] wr fun e W' => ∃ ao cap, e = .returned (.tuple #[.slice ao (advL now tb X).length cap, .int .i64 (advE now tb)]) ∧ Bnx W wr G b (advN now tb) last (advX now tb X) W' ∧ W'.ownsRow wr.heap.size thT 3 (.slice ao (advL now tb X).length cap) (advL now tb X).length (thFlat (advL now tb X)) :=
    (adv_r h1 tb).mono (fun e W' hp => by
      obtain ⟨ao, cap, he, hn, ho⟩ := hp
      exact ⟨ao, cap, he, bk_wn h1 h2 h3 h4 h5 h6 hn, ho⟩)
  have Had := Lib.hid had
  clear had
  clear h1 h2 h3 h4 h5 h6
  go_enter Try.func11, Try.ntmps11
  go_wp2_with fail
  refine Hno.out.mono ?_
  rintro e V1 ⟨rfl, hv⟩
  subst hv
  go_wp2_with fail
  refine (show Calls _ _ _ _ _ from Had.out).mono ?_
  rintro e V2 ⟨ao, cap, rfl, hbn, ho⟩
  go_wp2_with fail
  go_ret2
  exact ⟨ao, cap, rfl, hbn, ho⟩
end Go.Proofs.Ytedlplkomfiahaa
