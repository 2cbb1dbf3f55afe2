/- Lemmas for DeadlineBytes (Db). No statement of the seat is proved here. -/
import Derived.Test.YtedlplkomfiahaaT19
namespace Go.Proofs.Ytedlplkomfiahaa
set_option linter.unusedVariables false
set_option linter.unusedSimpArgs false
set_option linter.unusedSectionVars false
open Go Go.RowKit Go.Maps Go.Deep
theorem u64_one (last : Int) (h : 0 ≤ last ∧ last < 1152921504606846976) : IntKind.u64.wrap (last + 1) = last + 1 := by simp [IntKind.wrap, IntKind.signed, IntKind.bits]; omega
theorem less_no (X : List Th) (id : Int) : ∀ u ∈ lessId X id, u.id ≠ id := fun u hu => by
  have := (List.mem_filter.1 hu).2
  simpa using this
/-- whether a deadline is taken -/
def SetOk (last : Int) (X : List Th) (id due : Int) : Prop := Inst due ∧ last < 1152921504606846976 ∧ (canB X id = true ∨ X.length < 256)
noncomputable instance (last : Int) (X : List Th) (id due : Int) : Decidable (SetOk last X id due) := Classical.propDecidable _
noncomputable def setE (last : Int) (X : List Th) (id due : Int) : Int := if Inst due then (if 1152921504606846976 ≤ last then 10 else if canB X id = false ∧ 256 ≤ X.length then 30 else 0) else 2
noncomputable def setN (last : Int) (X : List Th) (id due : Int) : Int := if SetOk last X id due then last + 1 else 0
noncomputable def setL (last : Int) (X : List Th) (id due : Int) : Int := if SetOk last X id due then last + 1 else last
noncomputable def setX (last : Int) (X : List Th) (id due : Int) : List Th := if SetOk last X id due then insT (lessId X id) ⟨id, last + 1, due⟩ else X
theorem set_in (last : Int) (X : List Th) (id due : Int) (hd : Inst due) (h : last < 1152921504606846976 ∧ (canB X id = true ∨ X.length < 256)) : setN last X id due = last + 1 ∧ setE last X id due = 0 ∧ setL last X id due = last + 1 ∧ setX last X id due = insT (lessId X id) ⟨id, last + 1, due⟩ := by
  have h0 : SetOk last X id due := ⟨hd, h⟩
  refine ⟨if_pos h0, ?_, if_pos h0, if_pos h0⟩
  unfold setE
  rw [if_pos hd, if_neg (by omega), if_neg]
  rintro ⟨h1, h2⟩
  rcases h.2 with h3 | h3
  · rw [h1] at h3; cases h3
  · omega
theorem set_out (last : Int) (X : List Th) (id due : Int) (h : ¬ SetOk last X id due) : setN last X id due = 0 ∧ setL last X id due = last ∧ setX last X id due = X := ⟨if_neg h, if_neg h, if_neg h⟩
theorem can_len {X : List Th} {id : Int} (h : Ids X) (hl : X.length ≤ 256) (hc : canB X id = true ∨ X.length < 256) : (lessId X id).length < 256 := by
  have h1 : (lessId X id).length ≤ X.length := List.length_filter_le _ _
  rcases hc with hc | hc
  · unfold canB at hc
    obtain ⟨u, hu⟩ := Option.isSome_iff_exists.1 hc
    have hm := List.mem_of_find?_eq_some hu
    have he := List.find?_some hu
    simp only [decide_eq_true_eq] at he
    have := ids_less h hm
    rw [he] at this
    omega
  · omega
theorem bset_end {W wr V V2 : World} {G F F2 : Nat → Prop} {b w : Nat} {now last : Int} {M : List Th} (hB : Below wr.heap.size wr V) (h2 : V.heap[b]? = some (.cells #[.pointer (some ⟨w, 0, none⟩), .int .u64 last] bkT (0, 0))) (h3 : ¬ F b) (h4 : ∀ i, G i ↔ (F i ∨ i = b)) (h5 : W.heap.size ≤ b) (hb : b < wr.heap.size)
    (g1 : Wo W V2 F2 w now M) (g2 : Gr F V V2) (g3 : ∀ i, F2 i → F i ∨ V.heap.size ≤ i) (l' : Int) (hl : 0 ≤ l' ∧ l' ≤ 1152921504606846976) :
    ∃ U, U = V2.setCell ⟨b, 1, none⟩ (.int .u64 l') ∧ U.heap[b]? = some (.cells #[.pointer (some ⟨w, 0, none⟩), .int .u64 l'] bkT (0, 0)) ∧ Wo W U F2 w now M ∧ ¬ F2 b ∧ ∀ V3 Y, Wnx W U.drew F2 w now Y V3 → Bnx W wr G b now l' Y V3 := by
  have hbV := (Array.getElem?_eq_some_iff.1 h2).1
  have hn : ¬ F2 b := fun e => by rcases g3 b e with h | h; exact h3 h; omega
  have x2 := (g2.block b hbV h3).trans h2
  have xU := block_set x2 1 (.int .u64 l')
  simp only [List.setIfInBounds_toArray, List.set_cons_zero, List.set_cons_succ] at xU
  have hgU : Gr (fun i => i = b) V2 (V2.setCell ⟨b, 1, none⟩ (.int .u64 l')) := Gr.one (grown_set V2 b 1 _) (fun b e => (Option.some.inj e).symm)
  have hwU := g1.beside hgU (fun i hi e => by subst e; exact hn hi) (fun i e => by subst e; exact h5)
  refine ⟨_, rfl, xU, hwU, hn, fun V3 Y hw => ?_⟩
  obtain ⟨F3, k1, k2, k3⟩ := hw
  have hlU := (Array.getElem?_eq_some_iff.1 xU).1
  have hVU : V.heap.size ≤ (V2.setCell ⟨b, 1, none⟩ (.int .u64 l')).heap.size := Nat.le_trans g2.size hgU.size
  have hF2 : ∀ i, F2 i → F i ∨ wr.heap.size ≤ i := fun i hi => (g3 i hi).elim .inl (fun h => .inr (Nat.le_trans hB.size h))
  have hF3 : ∀ i, F3 i → F i ∨ wr.heap.size ≤ i := fun i hi => (k3 i hi).elim (hF2 i) (fun h => .inr (Nat.le_trans (Nat.le_trans hB.size hVU) h))
  refine ⟨fun i => F3 i ∨ i = b, ⟨w, F3, k1, (k2.block b hlU hn).trans xU, fun e => ?_, fun i => Iff.rfl, h5, hl⟩, ?_, fun i hi => ?_⟩
  · rcases hF3 b e with h | h
    · exact h3 h
    · omega
  · refine ((((Gr.below hB).then g2 (fun i hi => .inl ((h4 i).2 (.inl hi)))).then hgU (fun i e => .inl ((h4 i).2 (.inr e)))).then (Gr.below (Below.refl _ _).drew : Gr F2 _ _) (fun i hi => ?_)).then k2 (fun i hi => ?_)
    · rcases hF2 i hi with h | h
      · exact .inl ((h4 i).2 (.inl h))
      · exact .inr h
    · rcases hF2 i hi with h | h
      · exact .inl ((h4 i).2 (.inl h))
      · exact .inr h
  · rcases hi with hi | hi
    · exact (hF3 i hi).elim (fun h => .inl ((h4 i).2 (.inl h))) .inr
    · exact .inl ((h4 i).2 (.inr hi))
set_option maxRecDepth 100000 in
set_option maxHeartbeats 8000000 in
theorem bset_o {W wr : World} {G : Nat → Prop} {b : Nat} {now last : Int} {X : List Th} (h : Bk W wr G b now last X) (id due : Int) (hw : IdOk id) :
    Calls Try.prog 12 #[.pointer (some ⟨b, 0, none⟩), .int .u64 id, .int .i64 due] wr fun e W' => e = .returned (.tuple #[.int .u64 (setN last X id due), .int .i64 (setE last X id due)]) ∧ Bnx W wr G b now (setL last X id due) (setX last X id due) W' := by
  have hgt := bget_o h id hw
  have hok := h.okX
  have HBk := Lib.hid h
  obtain ⟨w, F, h1, h2, h3, h4, h5, h6⟩ := h
  have e0 := block_cell h2 0
  have e1 := block_cell h2 1
  have el := (Array.getElem?_eq_some_iff.1 h2).1
  simp at e0 e1
  have Hno := Lib.hid (bnone_no wr b w e0 el)
  by_cases hd : Inst due
  · have Hin := Lib.hid (dinst_yes due hd wr)
    have Hd := Lib.hid hd
    by_cases hl : last < 1152921504606846976
    · have x1 : ¬ last ≥ 1152921504606846976 := by omega
      have Hnum : Hid (0 ≤ last ∧ last < 1152921504606846976) := (⟨h6.1, hl⟩ : 0 ≤ last ∧ last < 1152921504606846976)
      have Hgt := Lib.hid hgt
      have Hok := Lib.hid hok
      have H1 := Lib.hid h1
      have H2 := Lib.hid h2
      have HF := Lib.hid (And.intro h3 (And.intro h4 h5))
      have Hid2 := Lib.hid hw
      have Hbr := Lib.hid el
      clear hd hl hgt hok h1 h2 h3 h4 h5 h6 hw
      go_enter Try.func12, Try.ntmps12
      go_wp2_with fail
      refine Hno.out.mono ?_
      rintro e V1 ⟨rfl, hv⟩
      subst V1
      go_wp2_with fail
      refine Hin.out.mono ?_
      rintro e V1 ⟨rfl, hv⟩
      subst V1
      go_wp2_with fail
      refine (show Calls _ _ _ _ _ from Hgt.out).mono ?_
      rintro e V1 ⟨rfl, hb⟩
      obtain ⟨⟨yi, yg, yd⟩, hy⟩ : ∃ y, y = canT X id := ⟨_, rfl⟩
      rw [← hy]
      unfold thVal
      clear hy
      obtain ⟨V, hV⟩ : ∃ V, V = V1.alloc (.cells #[.int .u64 yi, .int .u64 yg, .int .i64 yd] thT) := ⟨_, rfl⟩
      have hBV : Below wr.heap.size wr V := by rw [hV]; exact below_on hb (below_new _ _) (Nat.le_refl _)
      have g0 := block_cell (bx_below hb H2.out) 0
      have gl := (Array.getElem?_eq_some_iff.1 (bx_below hb H2.out)).1
      have ga := block_cell (bx_below hBV H2.out) 0
      have gla := (Array.getElem?_eq_some_iff.1 (bx_below hBV H2.out)).1
      simp at g0 ga
      have HBV0 := Lib.hid hBV
      clear hb hBV e0 e1 el
      cases hc : canB X id with
      | false =>
        have Hc := Lib.hid hc
        have Hln := Lib.hid (len_o (H1.out.below HBV0.out))
        clear hc
        by_cases hf : 256 ≤ X.length
        · have x2 : (X.length : Int) ≥ 256 := by omega
          have hso : ¬ SetOk last X id due := fun h => by rcases h.2.2 with h1 | h1; (rw [Hc.out] at h1; cases h1); omega
          have Hso := Lib.hid hso
          have hse : setE last X id due = 30 := by unfold setE; rw [if_pos Hd.out, if_neg (by have := Hnum.out; omega), if_pos ⟨Hc.out, hf⟩]
          have Hse := Lib.hid hse
          clear hf hso hse
          go_wp2_with fail
          rw [← hV]
          clear hV
          refine (show Calls _ _ _ _ _ from Hln.out).mono ?_
          rintro e V3 ⟨rfl, hb3⟩
          have HB3 := Lib.hid (below_on HBV0.out hb3 (Nat.le_refl _))
          clear hb3
          go_wp2_with fail
          go_ret2
          obtain ⟨k1, k2, k3⟩ := set_out last X id due Hso.out
          exact ⟨by rw [k1, Hse.out]; rfl, by rw [k2, k3]; exact Bnx.of_below HBk.out HB3.out⟩
        · have x2 : ¬ (X.length : Int) ≥ 256 := by omega
          have Hf : Hid (X.length < 256) := (by omega : X.length < 256)
          clear hf
          go_wp2_with fail
          rw [← hV]
          clear hV
          refine (show Calls _ _ _ _ _ from Hln.out).mono ?_
          rintro e V3 ⟨rfl, hb3⟩
          have HB3 := Lib.hid (below_on HBV0.out hb3 (Nat.le_refl _))
          clear hb3 ga gla g0 gl
          have hwV := (H1.out.below HB3.out)
          have HwV := Lib.hid hwV
          have Hcn := Lib.hid (canc_f hwV id Hid2.out)
          have hbV := (bx_below HB3.out H2.out)
          have e0 := block_cell hbV 0
          have el := (Array.getElem?_eq_some_iff.1 hbV).1
          simp at e0
          have HbV := Lib.hid hbV
          have HBV := Lib.hid HB3.out
          clear hwV hbV
          go_wp2_with fail
          refine (show Calls _ _ _ _ _ from Hcn.out).mono ?_
          rintro e V2 ⟨rfl, F2, g1, g2, g3⟩
          have hb2 := (g2.block b (Array.getElem?_eq_some_iff.1 HbV.out).1 HF.out.1).trans HbV.out
          have y1 := block_cell hb2 1
          have f1 := block_free hb2 1
          have l2 := (Array.getElem?_eq_some_iff.1 hb2).1
          simp at y1 f1
          obtain ⟨U, hU, hbU, hwU, hnF, hend⟩ := bset_end HBV.out HbV.out HF.out.1 HF.out.2.1 HF.out.2.2 Hbr.out g1 g2 g3 (last + 1) ⟨by have := Hnum.out; omega, by have := Hnum.out; omega⟩
          have HU := Lib.hid hU
          have HbU := Lib.hid hbU
          have HwU := Lib.hid hwU
          have Hend := Lib.hid hend
          have HnF := Lib.hid hnF
          have w1 : IntKind.u64.wrap (last + 1) = last + 1 := u64_one last Hnum.out
          clear hU hbU hwU hend hnF g1 g2 g3 hb2 e0 el
          go_upto_region 12 with fail
          rw [← HU.out]
          clear y1 f1 l2 w1
          have hld : ∀ W', W'.heap[b]? = U.heap[b]? → (Instr.loadAt 28 (.pointer (some ⟨b, 1, none⟩))).run Try.prog W' = .ok (.int .u64 (last + 1)) W' ∧ (Instr.loadAt 59 (.pointer (some ⟨b, 0, none⟩))).run Try.prog W' = .ok (.pointer (some ⟨w, 0, none⟩)) W' := fun W' hw => by
            have p0 := block_cell (hw.trans HbU.out) 0
            have p1 := block_cell (hw.trans HbU.out) 1
            simp at p0 p1
            exact ⟨by go_simp, by go_simp⟩
          have Hld := Lib.hid hld
          have Hlb := Lib.hid (Array.getElem?_eq_some_iff.1 HbU.out).1
          obtain ⟨ax1, ax2⟩ := armX_in (X := lessId X id) (t := ⟨id, last + 1, due⟩) Hd.out (less_no X id) (can_len Hok.out.2.2.1 Hok.out.2.2.2.2 (.inr Hf.out))
          have har := arm_o (HwU.out.below (Below.refl _ U).drew) ⟨id, last + 1, due⟩ Hid2.out
          rw [ax1, ax2] at har
          have Har := Lib.hid har
          clear hld ax1 ax2 har
          refine wp_region_held_drew (S := fun W' => W'.heap[b]? = U.heap[b]?) (by kernel_rfl) rfl (fun hHeld => ?_)
          refine wpAnyH_take (i := 0) (v := ?_) rfl (by kernel_rfl) (by kernel_rfl) (by kernel_rfl) (fun _ _ _ h => h) (Or.inl ⟨by rfl, ?_⟩) (by assumption) ?_
          rotate_left
          · intro w8 hSw; clear hSw; go_simp; (try with_reducible rfl)
          simp only [Act.put, List.getElem_toArray, List.getElem_cons_zero, List.getElem_cons_succ, List.setIfInBounds_toArray, List.set_cons_zero, List.set_cons_succ]
          refine wpAnyH_take (i := 1) (v := ?_) rfl (by kernel_rfl) (by kernel_rfl) (by kernel_rfl) (fun _ _ _ h => h) (Or.inl ⟨by rfl, ?_⟩) (by assumption) ?_
          rotate_left
          · intro w8 hSw; clear hSw; go_simp; (try with_reducible rfl)
          simp only [Act.put, List.getElem_toArray, List.getElem_cons_zero, List.getElem_cons_succ, List.setIfInBounds_toArray, List.set_cons_zero, List.set_cons_succ]
          refine wpAnyH_take (i := 2) (v := ?_) rfl (by kernel_rfl) (by kernel_rfl) (by kernel_rfl) (fun _ _ _ h => h) (Or.inl ⟨by rfl, ?_⟩) (by assumption) ?_
          rotate_left
          · intro w8 hSw; clear hSw; go_simp; (try with_reducible rfl)
          simp only [Act.put, List.getElem_toArray, List.getElem_cons_zero, List.getElem_cons_succ, List.setIfInBounds_toArray, List.set_cons_zero, List.set_cons_succ]
          refine wpAnyH_take (i := 3) (v := .int .u64 (last + 1)) rfl (by kernel_rfl) (by kernel_rfl) (by kernel_rfl) (fun _ _ _ h => h) (Or.inl ⟨by rfl, ?_⟩) (by assumption) ?_
          · intro w8 hSw; exact ld_takeT rfl (Hld.out w8 hSw).1 rfl
          simp only [Act.put, List.getElem_toArray, List.getElem_cons_zero, List.getElem_cons_succ, List.setIfInBounds_toArray, List.set_cons_zero, List.set_cons_succ]
          refine wpAnyH_take (i := 4) (v := ?_) rfl (by kernel_rfl) (by kernel_rfl) (by kernel_rfl) (fun _ _ _ h => h) (Or.inl ⟨by rfl, ?_⟩) (by assumption) ?_
          rotate_left
          · intro w8 hSw; clear hSw; go_simp; (try with_reducible rfl)
          simp only [Act.put, List.getElem_toArray, List.getElem_cons_zero, List.getElem_cons_succ, List.setIfInBounds_toArray, List.set_cons_zero, List.set_cons_succ]
          refine wpAnyH_take (i := 5) (v := ?_) rfl (by kernel_rfl) (by kernel_rfl) (by kernel_rfl) (fun _ _ _ h => h) (Or.inl ⟨by rfl, ?_⟩) (by assumption) ?_
          rotate_left
          · intro w8 hSw; clear hSw; go_simp; (try with_reducible rfl)
          simp only [Act.put, List.getElem_toArray, List.getElem_cons_zero, List.getElem_cons_succ, List.setIfInBounds_toArray, List.set_cons_zero, List.set_cons_succ]
          refine wpAnyH_take (i := 6) (v := ?_) rfl (by kernel_rfl) (by kernel_rfl) (by kernel_rfl) (fun _ _ _ h => h) (Or.inl ⟨by rfl, ?_⟩) (by assumption) ?_
          rotate_left
          · intro w8 hSw; clear hSw; go_simp; (try with_reducible rfl)
          simp only [Act.put, List.getElem_toArray, List.getElem_cons_zero, List.getElem_cons_succ, List.setIfInBounds_toArray, List.set_cons_zero, List.set_cons_succ]
          refine wpAnyH_take (i := 7) (v := .pointer (some ⟨w, 0, none⟩)) rfl (by kernel_rfl) (by kernel_rfl) (by kernel_rfl) (fun _ _ _ h => h) (Or.inl ⟨by rfl, ?_⟩) (by assumption) ?_
          · intro w8 hSw; exact ld_takeT rfl (Hld.out w8 hSw).2 rfl
          simp only [Act.put, List.getElem_toArray, List.getElem_cons_zero, List.getElem_cons_succ, List.setIfInBounds_toArray, List.set_cons_zero, List.set_cons_succ]
          refine wpAnyH_take (i := 8) (v := ?_) rfl (by kernel_rfl) (by kernel_rfl) (by kernel_rfl) (fun _ _ _ h => h) (Or.inl ⟨by rfl, ?_⟩) (by assumption) ?_
          rotate_left
          · intro w8 hSw; clear hSw; go_simp; (try with_reducible rfl)
          simp only [Act.put, List.getElem_toArray, List.getElem_cons_zero, List.getElem_cons_succ, List.setIfInBounds_toArray, List.set_cons_zero, List.set_cons_succ]
          refine wpAnyH_take (i := 9) (v := ?_) rfl (by kernel_rfl) (by kernel_rfl) (by kernel_rfl) (fun _ _ _ h => h) (Or.inl ⟨by rfl, ?_⟩) (by assumption) ?_
          rotate_left
          · intro w8 hSw; clear hSw; go_simp; (try with_reducible rfl)
          simp only [Act.put, List.getElem_toArray, List.getElem_cons_zero, List.getElem_cons_succ, List.setIfInBounds_toArray, List.set_cons_zero, List.set_cons_succ]
          refine wpAnyH_take (i := 10) (v := ?_) rfl (by kernel_rfl) (by kernel_rfl) (by kernel_rfl) (fun _ _ _ h => h) (Or.inl ⟨by rfl, ?_⟩) (by assumption) ?_
          rotate_left
          · intro w8 hSw; clear hSw; go_simp; (try with_reducible rfl)
          simp only [Act.put, List.getElem_toArray, List.getElem_cons_zero, List.getElem_cons_succ, List.setIfInBounds_toArray, List.set_cons_zero, List.set_cons_succ]
          refine wpAnyH_take (i := 11) (v := ?_) rfl (by kernel_rfl) (by kernel_rfl) (by kernel_rfl) (fun _ _ _ h => h) (Or.inl ⟨by rfl, ?_⟩) (by assumption) ?_
          rotate_left
          · intro w8 hSw; clear hSw; go_simp; (try with_reducible rfl)
          simp only [Act.put, List.getElem_toArray, List.getElem_cons_zero, List.getElem_cons_succ, List.setIfInBounds_toArray, List.set_cons_zero, List.set_cons_succ]
          refine wpAnyH_take (i := 12) (v := .int .u64 (last + 1)) rfl (by kernel_rfl) (by kernel_rfl) (by kernel_rfl) (fun _ _ _ h => h) (Or.inl ⟨by rfl, ?_⟩) (by assumption) ?_
          · intro w8 hSw; exact ld_takeT rfl (Hld.out w8 hSw).1 rfl
          simp only [Act.put, List.getElem_toArray, List.getElem_cons_zero, List.getElem_cons_succ, List.setIfInBounds_toArray, List.set_cons_zero, List.set_cons_succ]
          refine wpAnyH_take (i := 13) (v := ?_) rfl (by kernel_rfl) (by kernel_rfl) (by kernel_rfl) (fun _ _ _ h => h) (Or.inl ⟨by rfl, ?_⟩) (by assumption) ?_
          rotate_left
          · intro w8 hSw; clear hSw; go_simp; (try with_reducible rfl)
          simp only [Act.put, List.getElem_toArray, List.getElem_cons_zero, List.getElem_cons_succ, List.setIfInBounds_toArray, List.set_cons_zero, List.set_cons_succ]
          refine wpAnyH_take (i := 14) (v := ?_) rfl (by kernel_rfl) (by kernel_rfl) (by kernel_rfl) (fun _ _ _ h => h) (Or.inl ⟨by rfl, ?_⟩) (by assumption) ?_
          rotate_left
          · intro w8 hSw; clear hSw; go_simp; (try with_reducible rfl)
          simp only [Act.put, List.getElem_toArray, List.getElem_cons_zero, List.getElem_cons_succ, List.setIfInBounds_toArray, List.set_cons_zero, List.set_cons_succ]
          refine wpAnyH_ready (rs := [15]) (by kernel_rfl) (by simp) ?_
          refine AllReadyH.cons rfl (fun K hK => ?_) AllReadyH.nil
          go_simp
          go_at_call 38
          refine (Har.out).mono ?_
          rintro e V3 ⟨rfl, hwn⟩; have hgb : V3.heap[b]? = U.heap[b]? := (by obtain ⟨F3, k1, k2, k3⟩ := hwn; exact k2.block b Hlb.out HnF.out)
          refine hK.out _ _ hgb (fun hHeld => ?_)
          clear hK K
          try simp only [Act.put, List.getElem_toArray, List.getElem_cons_zero, List.getElem_cons_succ, List.setIfInBounds_toArray, List.set_cons_zero, List.set_cons_succ]
          refine wpAnyH_take (i := 16) (v := ?_) rfl (by kernel_rfl) (by kernel_rfl) (by kernel_rfl) (fun _ _ _ h => h) (Or.inl ⟨by rfl, ?_⟩) (by assumption) ?_
          rotate_left
          · intro w8 hSw; clear hSw; go_simp; (try with_reducible rfl)
          simp only [Act.put, List.getElem_toArray, List.getElem_cons_zero, List.getElem_cons_succ, List.setIfInBounds_toArray, List.set_cons_zero, List.set_cons_succ]
          refine wpAnyH_take (i := 17) (v := ?_) rfl (by kernel_rfl) (by kernel_rfl) (by kernel_rfl) (fun _ _ _ h => h) (Or.inl ⟨by rfl, ?_⟩) (by assumption) ?_
          rotate_left
          · intro w8 hSw; clear hSw; go_simp; (try with_reducible rfl)
          simp only [Act.put, List.getElem_toArray, List.getElem_cons_zero, List.getElem_cons_succ, List.setIfInBounds_toArray, List.set_cons_zero, List.set_cons_succ]
          refine wpAnyH_done (by kernel_rfl) ?_ _
          have HR := Lib.hid (Hend.out V3 _ hwn)
          clear hwn hgb
          go_wp2_with fail
          go_ret2
          exact ⟨by rw [(set_in last X id due Hd.out ⟨Hnum.out.2, .inr Hf.out⟩).1, (set_in last X id due Hd.out ⟨Hnum.out.2, .inr Hf.out⟩).2.1]; rfl, by rw [(set_in last X id due Hd.out ⟨Hnum.out.2, .inr Hf.out⟩).2.2.1, (set_in last X id due Hd.out ⟨Hnum.out.2, .inr Hf.out⟩).2.2.2]; exact HR.out⟩
      | true =>
        have Hc := Lib.hid hc
        clear hc ga gla
        have hwV := (H1.out.below HBV0.out)
        have HwV := Lib.hid hwV
        have Hcn := Lib.hid (canc_f hwV id Hid2.out)
        have hbV := (bx_below HBV0.out H2.out)
        have e0 := block_cell hbV 0
        have el := (Array.getElem?_eq_some_iff.1 hbV).1
        simp at e0
        have HbV := Lib.hid hbV
        have HBV := Lib.hid HBV0.out
        clear hwV hbV
        go_wp2_with fail
        rw [← hV]
        clear hV g0 gl
        refine (show Calls _ _ _ _ _ from Hcn.out).mono ?_
        rintro e V2 ⟨rfl, F2, g1, g2, g3⟩
        have hb2 := (g2.block b (Array.getElem?_eq_some_iff.1 HbV.out).1 HF.out.1).trans HbV.out
        have y1 := block_cell hb2 1
        have f1 := block_free hb2 1
        have l2 := (Array.getElem?_eq_some_iff.1 hb2).1
        simp at y1 f1
        obtain ⟨U, hU, hbU, hwU, hnF, hend⟩ := bset_end HBV.out HbV.out HF.out.1 HF.out.2.1 HF.out.2.2 Hbr.out g1 g2 g3 (last + 1) ⟨by have := Hnum.out; omega, by have := Hnum.out; omega⟩
        have HU := Lib.hid hU
        have HbU := Lib.hid hbU
        have HwU := Lib.hid hwU
        have Hend := Lib.hid hend
        have HnF := Lib.hid hnF
        have w1 : IntKind.u64.wrap (last + 1) = last + 1 := u64_one last Hnum.out
        clear hU hbU hwU hend hnF g1 g2 g3 hb2 e0 el
        go_upto_region 12 with fail
        rw [← HU.out]
        clear y1 f1 l2 w1
        have hld : ∀ W', W'.heap[b]? = U.heap[b]? → (Instr.loadAt 28 (.pointer (some ⟨b, 1, none⟩))).run Try.prog W' = .ok (.int .u64 (last + 1)) W' ∧ (Instr.loadAt 59 (.pointer (some ⟨b, 0, none⟩))).run Try.prog W' = .ok (.pointer (some ⟨w, 0, none⟩)) W' := fun W' hw => by
          have p0 := block_cell (hw.trans HbU.out) 0
          have p1 := block_cell (hw.trans HbU.out) 1
          simp at p0 p1
          exact ⟨by go_simp, by go_simp⟩
        have Hld := Lib.hid hld
        have Hlb := Lib.hid (Array.getElem?_eq_some_iff.1 HbU.out).1
        obtain ⟨ax1, ax2⟩ := armX_in (X := lessId X id) (t := ⟨id, last + 1, due⟩) Hd.out (less_no X id) (can_len Hok.out.2.2.1 Hok.out.2.2.2.2 (.inl Hc.out))
        have har := arm_o (HwU.out.below (Below.refl _ U).drew) ⟨id, last + 1, due⟩ Hid2.out
        rw [ax1, ax2] at har
        have Har := Lib.hid har
        clear hld ax1 ax2 har
        refine wp_region_held_drew (S := fun W' => W'.heap[b]? = U.heap[b]?) (by kernel_rfl) rfl (fun hHeld => ?_)
        refine wpAnyH_take (i := 0) (v := ?_) rfl (by kernel_rfl) (by kernel_rfl) (by kernel_rfl) (fun _ _ _ h => h) (Or.inl ⟨by rfl, ?_⟩) (by assumption) ?_
        rotate_left
        · intro w8 hSw; clear hSw; go_simp; (try with_reducible rfl)
        simp only [Act.put, List.getElem_toArray, List.getElem_cons_zero, List.getElem_cons_succ, List.setIfInBounds_toArray, List.set_cons_zero, List.set_cons_succ]
        refine wpAnyH_take (i := 1) (v := ?_) rfl (by kernel_rfl) (by kernel_rfl) (by kernel_rfl) (fun _ _ _ h => h) (Or.inl ⟨by rfl, ?_⟩) (by assumption) ?_
        rotate_left
        · intro w8 hSw; clear hSw; go_simp; (try with_reducible rfl)
        simp only [Act.put, List.getElem_toArray, List.getElem_cons_zero, List.getElem_cons_succ, List.setIfInBounds_toArray, List.set_cons_zero, List.set_cons_succ]
        refine wpAnyH_take (i := 2) (v := ?_) rfl (by kernel_rfl) (by kernel_rfl) (by kernel_rfl) (fun _ _ _ h => h) (Or.inl ⟨by rfl, ?_⟩) (by assumption) ?_
        rotate_left
        · intro w8 hSw; clear hSw; go_simp; (try with_reducible rfl)
        simp only [Act.put, List.getElem_toArray, List.getElem_cons_zero, List.getElem_cons_succ, List.setIfInBounds_toArray, List.set_cons_zero, List.set_cons_succ]
        refine wpAnyH_take (i := 3) (v := .int .u64 (last + 1)) rfl (by kernel_rfl) (by kernel_rfl) (by kernel_rfl) (fun _ _ _ h => h) (Or.inl ⟨by rfl, ?_⟩) (by assumption) ?_
        · intro w8 hSw; exact ld_takeT rfl (Hld.out w8 hSw).1 rfl
        simp only [Act.put, List.getElem_toArray, List.getElem_cons_zero, List.getElem_cons_succ, List.setIfInBounds_toArray, List.set_cons_zero, List.set_cons_succ]
        refine wpAnyH_take (i := 4) (v := ?_) rfl (by kernel_rfl) (by kernel_rfl) (by kernel_rfl) (fun _ _ _ h => h) (Or.inl ⟨by rfl, ?_⟩) (by assumption) ?_
        rotate_left
        · intro w8 hSw; clear hSw; go_simp; (try with_reducible rfl)
        simp only [Act.put, List.getElem_toArray, List.getElem_cons_zero, List.getElem_cons_succ, List.setIfInBounds_toArray, List.set_cons_zero, List.set_cons_succ]
        refine wpAnyH_take (i := 5) (v := ?_) rfl (by kernel_rfl) (by kernel_rfl) (by kernel_rfl) (fun _ _ _ h => h) (Or.inl ⟨by rfl, ?_⟩) (by assumption) ?_
        rotate_left
        · intro w8 hSw; clear hSw; go_simp; (try with_reducible rfl)
        simp only [Act.put, List.getElem_toArray, List.getElem_cons_zero, List.getElem_cons_succ, List.setIfInBounds_toArray, List.set_cons_zero, List.set_cons_succ]
        refine wpAnyH_take (i := 6) (v := ?_) rfl (by kernel_rfl) (by kernel_rfl) (by kernel_rfl) (fun _ _ _ h => h) (Or.inl ⟨by rfl, ?_⟩) (by assumption) ?_
        rotate_left
        · intro w8 hSw; clear hSw; go_simp; (try with_reducible rfl)
        simp only [Act.put, List.getElem_toArray, List.getElem_cons_zero, List.getElem_cons_succ, List.setIfInBounds_toArray, List.set_cons_zero, List.set_cons_succ]
        refine wpAnyH_take (i := 7) (v := .pointer (some ⟨w, 0, none⟩)) rfl (by kernel_rfl) (by kernel_rfl) (by kernel_rfl) (fun _ _ _ h => h) (Or.inl ⟨by rfl, ?_⟩) (by assumption) ?_
        · intro w8 hSw; exact ld_takeT rfl (Hld.out w8 hSw).2 rfl
        simp only [Act.put, List.getElem_toArray, List.getElem_cons_zero, List.getElem_cons_succ, List.setIfInBounds_toArray, List.set_cons_zero, List.set_cons_succ]
        refine wpAnyH_take (i := 8) (v := ?_) rfl (by kernel_rfl) (by kernel_rfl) (by kernel_rfl) (fun _ _ _ h => h) (Or.inl ⟨by rfl, ?_⟩) (by assumption) ?_
        rotate_left
        · intro w8 hSw; clear hSw; go_simp; (try with_reducible rfl)
        simp only [Act.put, List.getElem_toArray, List.getElem_cons_zero, List.getElem_cons_succ, List.setIfInBounds_toArray, List.set_cons_zero, List.set_cons_succ]
        refine wpAnyH_take (i := 9) (v := ?_) rfl (by kernel_rfl) (by kernel_rfl) (by kernel_rfl) (fun _ _ _ h => h) (Or.inl ⟨by rfl, ?_⟩) (by assumption) ?_
        rotate_left
        · intro w8 hSw; clear hSw; go_simp; (try with_reducible rfl)
        simp only [Act.put, List.getElem_toArray, List.getElem_cons_zero, List.getElem_cons_succ, List.setIfInBounds_toArray, List.set_cons_zero, List.set_cons_succ]
        refine wpAnyH_take (i := 10) (v := ?_) rfl (by kernel_rfl) (by kernel_rfl) (by kernel_rfl) (fun _ _ _ h => h) (Or.inl ⟨by rfl, ?_⟩) (by assumption) ?_
        rotate_left
        · intro w8 hSw; clear hSw; go_simp; (try with_reducible rfl)
        simp only [Act.put, List.getElem_toArray, List.getElem_cons_zero, List.getElem_cons_succ, List.setIfInBounds_toArray, List.set_cons_zero, List.set_cons_succ]
        refine wpAnyH_take (i := 11) (v := ?_) rfl (by kernel_rfl) (by kernel_rfl) (by kernel_rfl) (fun _ _ _ h => h) (Or.inl ⟨by rfl, ?_⟩) (by assumption) ?_
        rotate_left
        · intro w8 hSw; clear hSw; go_simp; (try with_reducible rfl)
        simp only [Act.put, List.getElem_toArray, List.getElem_cons_zero, List.getElem_cons_succ, List.setIfInBounds_toArray, List.set_cons_zero, List.set_cons_succ]
        refine wpAnyH_take (i := 12) (v := .int .u64 (last + 1)) rfl (by kernel_rfl) (by kernel_rfl) (by kernel_rfl) (fun _ _ _ h => h) (Or.inl ⟨by rfl, ?_⟩) (by assumption) ?_
        · intro w8 hSw; exact ld_takeT rfl (Hld.out w8 hSw).1 rfl
        simp only [Act.put, List.getElem_toArray, List.getElem_cons_zero, List.getElem_cons_succ, List.setIfInBounds_toArray, List.set_cons_zero, List.set_cons_succ]
        refine wpAnyH_take (i := 13) (v := ?_) rfl (by kernel_rfl) (by kernel_rfl) (by kernel_rfl) (fun _ _ _ h => h) (Or.inl ⟨by rfl, ?_⟩) (by assumption) ?_
        rotate_left
        · intro w8 hSw; clear hSw; go_simp; (try with_reducible rfl)
        simp only [Act.put, List.getElem_toArray, List.getElem_cons_zero, List.getElem_cons_succ, List.setIfInBounds_toArray, List.set_cons_zero, List.set_cons_succ]
        refine wpAnyH_take (i := 14) (v := ?_) rfl (by kernel_rfl) (by kernel_rfl) (by kernel_rfl) (fun _ _ _ h => h) (Or.inl ⟨by rfl, ?_⟩) (by assumption) ?_
        rotate_left
        · intro w8 hSw; clear hSw; go_simp; (try with_reducible rfl)
        simp only [Act.put, List.getElem_toArray, List.getElem_cons_zero, List.getElem_cons_succ, List.setIfInBounds_toArray, List.set_cons_zero, List.set_cons_succ]
        refine wpAnyH_ready (rs := [15]) (by kernel_rfl) (by simp) ?_
        refine AllReadyH.cons rfl (fun K hK => ?_) AllReadyH.nil
        go_simp
        go_at_call 38
        refine (Har.out).mono ?_
        rintro e V3 ⟨rfl, hwn⟩; have hgb : V3.heap[b]? = U.heap[b]? := (by obtain ⟨F3, k1, k2, k3⟩ := hwn; exact k2.block b Hlb.out HnF.out)
        refine hK.out _ _ hgb (fun hHeld => ?_)
        clear hK K
        try simp only [Act.put, List.getElem_toArray, List.getElem_cons_zero, List.getElem_cons_succ, List.setIfInBounds_toArray, List.set_cons_zero, List.set_cons_succ]
        refine wpAnyH_take (i := 16) (v := ?_) rfl (by kernel_rfl) (by kernel_rfl) (by kernel_rfl) (fun _ _ _ h => h) (Or.inl ⟨by rfl, ?_⟩) (by assumption) ?_
        rotate_left
        · intro w8 hSw; clear hSw; go_simp; (try with_reducible rfl)
        simp only [Act.put, List.getElem_toArray, List.getElem_cons_zero, List.getElem_cons_succ, List.setIfInBounds_toArray, List.set_cons_zero, List.set_cons_succ]
        refine wpAnyH_take (i := 17) (v := ?_) rfl (by kernel_rfl) (by kernel_rfl) (by kernel_rfl) (fun _ _ _ h => h) (Or.inl ⟨by rfl, ?_⟩) (by assumption) ?_
        rotate_left
        · intro w8 hSw; clear hSw; go_simp; (try with_reducible rfl)
        simp only [Act.put, List.getElem_toArray, List.getElem_cons_zero, List.getElem_cons_succ, List.setIfInBounds_toArray, List.set_cons_zero, List.set_cons_succ]
        refine wpAnyH_done (by kernel_rfl) ?_ _
        have HR := Lib.hid (Hend.out V3 _ hwn)
        clear hwn hgb
        go_wp2_with fail
        go_ret2
        exact ⟨by rw [(set_in last X id due Hd.out ⟨Hnum.out.2, .inl Hc.out⟩).1, (set_in last X id due Hd.out ⟨Hnum.out.2, .inl Hc.out⟩).2.1]; rfl, by rw [(set_in last X id due Hd.out ⟨Hnum.out.2, .inl Hc.out⟩).2.2.1, (set_in last X id due Hd.out ⟨Hnum.out.2, .inl Hc.out⟩).2.2.2]; exact HR.out⟩
    · have x1 : last ≥ 1152921504606846976 := by omega
      have hso : ¬ SetOk last X id due := fun h => hl h.2.1
      have Hso := Lib.hid hso
      have hse : setE last X id due = 10 := by unfold setE; rw [if_pos Hd.out, if_pos (by omega)]
      have Hse := Lib.hid hse
      clear hd hl hgt hok h1 h2 h3 h4 h5 h6 hw hso hse
      go_enter Try.func12, Try.ntmps12
      go_wp2_with fail
      refine Hno.out.mono ?_
      rintro e V1 ⟨rfl, hv⟩
      subst V1
      go_wp2_with fail
      refine Hin.out.mono ?_
      rintro e V1 ⟨rfl, hv⟩
      subst V1
      go_wp2_with fail
      go_ret2
      obtain ⟨k1, k2, k3⟩ := set_out last X id due Hso.out
      exact ⟨by rw [k1, Hse.out]; rfl, by rw [k2, k3]; exact Bnx.of_below HBk.out (Below.refl _ _)⟩
  · have Hin := Lib.hid (dinst_no due hd wr)
    have hso : ¬ SetOk last X id due := fun h => hd h.1
    have Hso := Lib.hid hso
    have hse : setE last X id due = 2 := by unfold setE; rw [if_neg hd]
    have Hse := Lib.hid hse
    clear hd hgt hok h1 h2 h3 h4 h5 h6 hw hso hse
    go_enter Try.func12, Try.ntmps12
    go_wp2_with fail
    refine Hno.out.mono ?_
    rintro e V1 ⟨rfl, hv⟩
    subst V1
    go_wp2_with fail
    refine Hin.out.mono ?_
    rintro e V1 ⟨rfl, hv⟩
    subst V1
    go_wp2_with fail
    go_ret2
    obtain ⟨k1, k2, k3⟩ := set_out last X id due Hso.out
    exact ⟨by rw [k1, Hse.out]; rfl, by rw [k2, k3]; exact Bnx.of_below HBk.out (Below.refl _ _)⟩
end Go.Proofs.Ytedlplkomfiahaa
