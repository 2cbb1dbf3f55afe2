/- wheel: put. No statement of the seat is proved here. -/
import Derived.Test.YtadghaiengonoaaXc
namespace Go.Proofs.Ytadghaiengonoaa
set_option linter.unusedVariables false
set_option linter.unusedSimpArgs false
set_option linter.unusedSectionVars false
open Go Go.RowKit Go.Maps

abbrev rpT : TypeId := 61
theorem Whm.cells {W : World} {F : Nat → Prop} {G : Nat → Nat → Prop} {w : Nat} {now : Int} {rs : Nat → Nat} {pf mf n : Nat} {R : Nat → RLs} {far : List Th} (h : Whm W F G w now rs pf mf n R far) :
    W.cell? ⟨w, 0, none⟩ = some (.int .i64 now) ∧ W.cell? ⟨w, 1, none⟩ = some (.pointer (some ⟨rs 0, 0, none⟩)) ∧ W.cell? ⟨w, 2, none⟩ = some (.pointer (some ⟨rs 1, 0, none⟩)) ∧ W.cell? ⟨w, 3, none⟩ = some (.pointer (some ⟨rs 2, 0, none⟩)) ∧ W.cell? ⟨w, 4, none⟩ = some (.pointer (some ⟨rs 3, 0, none⟩)) ∧ W.cell? ⟨w, 5, none⟩ = some (.pointer (some ⟨pf, 0, none⟩)) ∧ W.cell? ⟨pf, 0, none⟩ = some (.map (some mf)) ∧ w < W.heap.size ∧ pf < W.heap.size := by
  have a0 := block_cell h.blk 0
  have a1 := block_cell h.blk 1
  have a2 := block_cell h.blk 2
  have a3 := block_cell h.blk 3
  have a4 := block_cell h.blk 4
  have a5 := block_cell h.blk 5
  have b0 := block_cell h.fblk 0
  simp at a0 a1 a2 a3 a4 a5 b0
  exact ⟨a0, a1, a2, a3, a4, a5, b0, h.bd w h.fw, h.bd pf h.ff⟩
theorem Whm.rcell {W : World} {F : Nat → Prop} {G : Nat → Nat → Prop} {w : Nat} {now : Int} {rs : Nat → Nat} {pf mf n : Nat} {R : Nat → RLs} {far : List Th} (h : Whm W F G w now rs pf mf n R far) (k : Nat) (hk : k < 4) :
    W.cell? ⟨w, 1 + k, none⟩ = some (.pointer (some ⟨rs k, 0, none⟩)) := by
  obtain ⟨a0, a1, a2, a3, a4, -⟩ := h.cells
  rcases (by omega : k = 0 ∨ k = 1 ∨ k = 2 ∨ k = 3) with rfl | rfl | rfl | rfl
  · exact a1
  · exact a2
  · exact a3
  · exact a4
theorem Whm.same {W : World} {F : Nat → Prop} {G : Nat → Nat → Prop} {w : Nat} {now : Int} {rs : Nat → Nat} {pf mf n : Nat} {R R' : Nat → RLs} {far far' : List Th} (h : Whm W F G w now rs pf mf n R far) (hR : ∀ k, k < 4 → R k = R' k) (hf : far = far') : Whm W F G w now rs pf mf n R' far' := by
  subst hf
  exact ⟨h.blk, h.fblk, fun k hk => by rw [← hR k hk]; exact h.ring k hk, h.apart, h.sub, h.out, h.fw, h.ff, h.fm, h.bd, h.map⟩
theorem loadP {W : World} {b o : Nat} {q : Option Addr} (c : W.cell? ⟨b, o, none⟩ = some (.pointer q)) : (Instr.loadAt rpT (.pointer (some ⟨b, o, none⟩))).run Try.prog W = .ok (.pointer q) W := by go_simp
theorem loadTh {W : World} {b o : Nat} {t : Th} (h0 : W.cell? ⟨b, o, none⟩ = some (.int .u64 t.id)) (h1 : W.cell? ⟨b, o + 1, none⟩ = some (.int .u64 t.gen)) (h2 : W.cell? ⟨b, o + 2, none⟩ = some (.int .i64 t.due)) : (Instr.loadAt thT (.pointer (some ⟨b, o, none⟩))).run Try.prog W = .ok (thVal t) W := by
  unfold thVal
  go_simp
theorem fmapset_run {W : World} {b n : Nat} {D : DataW Unit} (h : W.ownsMap Try.prog 28 thElem b n D) (hn : n < 1000000) (t : Th) (hw : IdOk t.id) :
    ∃ W', (Instr.mapUpdate mfT (.map (some b)) (.int .u64 t.id) (thVal t)).run Try.prog W = .ok () W' ∧ W'.ownsMap Try.prog 28 thElem b (n + 1) (D.put (.int .u64 t.id) (thD t)) ∧ W.grownBy W' (some b) :=
  h.update u64law Try.underlying69 (by unfold maxLen; omega) (keyOf_int_mk Try.underlying28 hw.wf) (thElem_mk t)
theorem fpairs_snoc (l : List Th) (t : Th) : fpairs (l ++ [t]) = fpairs l ++ [(t.id, thD t)] := by simp [fpairs]
def putF (far : List Th) (now : Int) (t : Th) : List Th := if ringN now t.due = 4 then far ++ [t] else far
def putR (R : Nat → RLs) (now : Int) (t : Th) : Nat → RLs := fun k => if ringN now t.due = k then R k ++ [(t, slotN k t.due)] else R k
/-- all that waits -/
def Tot (R : Nat → RLs) (far : List Th) : List Th := far ++ ((R 0).map (·.1) ++ ((R 1).map (·.1) ++ ((R 2).map (·.1) ++ (R 3).map (·.1))))
theorem Tot.ring {R : Nat → RLs} {far : List Th} {k : Nat} (hk : k < 4) {p : Th × Nat} (hp : p ∈ R k) : p.1 ∈ Tot R far := by
  unfold Tot
  have hm : p.1 ∈ (R k).map (·.1) := List.mem_map.2 ⟨p, hp, rfl⟩
  simp only [List.mem_append]
  rcases (by omega : k = 0 ∨ k = 1 ∨ k = 2 ∨ k = 3) with rfl | rfl | rfl | rfl
  · exact .inr (.inl hm)
  · exact .inr (.inr (.inl hm))
  · exact .inr (.inr (.inr (.inl hm)))
  · exact .inr (.inr (.inr (.inr hm)))
theorem Tot.far {R : Nat → RLs} {far : List Th} {t : Th} (ht : t ∈ far) : t ∈ Tot R far := by
  unfold Tot
  simp only [List.mem_append]
  exact .inl ht
theorem Tot.mem {R : Nat → RLs} {far : List Th} {t : Th} (h : t ∈ Tot R far) : t ∈ far ∨ ∃ k, k < 4 ∧ ∃ p ∈ R k, p.1 = t := by
  unfold Tot at h
  simp only [List.mem_append, List.mem_map] at h
  rcases h with h | ⟨p, h, e⟩ | ⟨p, h, e⟩ | ⟨p, h, e⟩ | ⟨p, h, e⟩
  · exact .inl h
  · exact .inr ⟨0, by decide, p, h, e⟩
  · exact .inr ⟨1, by decide, p, h, e⟩
  · exact .inr ⟨2, by decide, p, h, e⟩
  · exact .inr ⟨3, by decide, p, h, e⟩
/-- what a call that writes the wheel leaves -/
def Wd (W : World) (F : Nat → Prop) (w : Nat) (now : Int) (rs : Nat → Nat) (pf mf n : Nat) (R : Nat → RLs) (far : List Th) (W' : World) : Prop :=
  ∃ F' G', Whm W' F' G' w now rs pf mf n R far ∧ Gr F W W' ∧ ∀ i, F' i → F i ∨ W.heap.size ≤ i
/-- what put loads -/
def LdS (w k p r : Nat) (t : Th) (W' : World) : Prop := (Instr.loadAt rpT (.pointer (some ⟨w, 1 + k, none⟩))).run Try.prog W' = .ok (.pointer (some ⟨r, 0, none⟩)) W' ∧ (Instr.loadAt thT (.pointer (some ⟨p, 0, none⟩))).run Try.prog W' = .ok (thVal t) W'
set_option maxRecDepth 100000 in
set_option maxHeartbeats 4000000 in
theorem wput_any (W : World) (F : Nat → Prop) (G : Nat → Nat → Prop) (w : Nat) (now : Int) (rs : Nat → Nat) (pf mf n : Nat) (R : Nat → RLs) (far : List Th) (t : Th) (h : Whm W F G w now rs pf mf n R far) (hnow : Inst now) (hd : Inst t.due) (hw : IdOk t.id) (hn : n < 1000000) (hf : ∀ u ∈ Tot R far, u.id ≠ t.id) :
    Calls Try.prog 26 #[.pointer (some ⟨w, 0, none⟩), thVal t] W fun e W' => e = .returned (.tuple #[]) ∧ Wd W F w now rs pf mf (n + 1) (putR R now t) (putF far now t) W' := by
  obtain ⟨ti, tg, td⟩ := t
  obtain ⟨p, hp⟩ : ∃ p, p = W.heap.size := ⟨_, rfl⟩
  obtain ⟨W1, hW1⟩ : ∃ W1, W1 = W.alloc (.cells #[.int .u64 ti, .int .u64 tg, .int .i64 td] thT) := ⟨_, rfl⟩
  have hB1 : Below W.heap.size W W1 := by rw [hW1]; exact below_new _ _
  have ht1 : W1.heap[p]? = some (.cells #[.int .u64 ti, .int .u64 tg, .int .i64 td] thT (0, 0)) := by rw [hW1, hp]; exact heap_alloc_new _ _
  have hcs : ∀ W', Below W1.heap.size W1 W' → W'.cell? ⟨p, 0, none⟩ = some (.int .u64 ti) ∧ W'.cell? ⟨p, 1, none⟩ = some (.int .u64 tg) ∧ W'.cell? ⟨p, 2, none⟩ = some (.int .i64 td) ∧ p < W'.heap.size := fun W' hw => by
    have a := (hw.block _ (Array.getElem?_eq_some_iff.1 ht1).1).trans ht1
    have a0 := block_cell a 0
    have a1 := block_cell a 1
    have a2 := block_cell a 2
    simp at a0 a1 a2
    exact ⟨a0, a1, a2, (Array.getElem?_eq_some_iff.1 a).1⟩
  have h1 := h.below hB1
  obtain ⟨c0, c1, c2, hpl⟩ := hcs W1 (Below.refl _ _)
  have Hpl := Lib.hid (place_any W1 w now td h1.cells.1 hnow hd)
  have HB1 := Lib.hid hB1
  have Hcs := Lib.hid hcs
  have H := Lib.hid h
  have Ht1 := Lib.hid ht1
  have Hp := Lib.hid hp
  obtain ⟨k, hk⟩ : ∃ k, k = ringN now td := ⟨_, rfl⟩
  obtain ⟨s, hs⟩ : ∃ s, s = slotN k td := ⟨_, rfl⟩
  rw [← hk, ← hs] at Hpl
  have hk4 : k ≤ 4 := by rw [hk]; exact ringN_le _ _
  have hs6 : s < 64 := by rw [hs]; exact slotN_lt _ _
  have HK := Lib.hid hk
  have HS := Lib.hid hs
  have Hf := Lib.hid hf
  clear hf hk hs h h1 hB1 ht1 hcs
  unfold thVal
  go_enter Try.func26, Try.ntmps26
  go_wp2_with fail
  rw [← hW1, ← hp]
  clear hW1 hp
  refine Hpl.out.mono ?_
  rintro e W2 ⟨rfl, hB2⟩
  have hB12 := below_on HB1.out hB2 (Nat.le_refl _)
  have h2 := H.out.below hB12
  have HB12 := Lib.hid hB12
  obtain ⟨d0, d1, d2, hpl2⟩ := Hcs.out W2 hB2
  have Hb2 := Lib.hid hB2
  clear Hpl hB2 hB12 c0 c1 c2 hpl
  by_cases e4 : k = 4
  · subst e4
    obtain ⟨a0, a1, a2, a3, a4, a5, b0, hwl, hfl⟩ := h2.cells
    obtain ⟨D, hD, hE⟩ := h2.map
    have hfr : ∀ u ∈ far, u.id ≠ ti := fun u hu => Hf.out u (Tot.far hu)
    obtain ⟨W6, hupd, hD6, hg6⟩ := fmapset_run (W := W2.drew) hD hn ⟨ti, tg, td⟩ hw
    have hE6 : MapL (D.put (.int .u64 ti) (thD ⟨ti, tg, td⟩)) (fpairs (far ++ [(⟨ti, tg, td⟩ : Th)])) := by
      rw [fpairs_snoc]
      exact hE.put ti _ (fun p hp => by
        obtain ⟨q, hq, rfl⟩ := List.mem_map.1 hp
        exact hfr q hq)
    have h2d : Whm W2.drew F G w now rs pf mf n R far := h2.kept (Nat.le_refl _) fun _ _ => rfl
    have hm6 := h2d.turn hg6 hD6 hE6 (Nat.le_succ n)
    have hfin : Wd W F w now rs pf mf (n + 1) (putR R now ⟨ti, tg, td⟩) (putF far now ⟨ti, tg, td⟩) W6 := by
      refine ⟨F, G, hm6.1.same (fun j hj => ?_) ?_, (Gr.below HB12.out).trans ((Gr.refl F W2).drew.trans hm6.2), fun i hi => .inl hi⟩
      · unfold putR
        simp only
        rw [if_neg (by rw [← HK.out]; omega)]
      · unfold putF
        simp only
        rw [if_pos HK.out.symm]
    have Hfin := Lib.hid hfin
    unfold thVal at hupd
    clear hfin hm6 h2d hE6 hfr hD6 hg6 hD hE h2
    go_wp2_with fail
    go_region
    all_goals
      go_wp2_with fail
      exact bodyPost_ret (results_none rfl _ _ _) rfl ⟨rfl, Hfin.out⟩
  · have hk3 : k < 4 := by omega
    have x4 : ((k : Int) == 4) = false := by simp; omega
    have hrc := h2.rcell k hk3
    have hrg := h2.ring k hk3
    have hfr : ∀ p ∈ R k, p.1.id ≠ ti := fun q hq => Hf.out q.1 (Tot.ring hk3 hq)
    have hpw : ¬ F p := fun hF => by have h5 := H.out.bd p hF; have h6 := HB1.out.size; have h7 := Hp.out; omega
    have hcell : ∀ W', W'.cell? ⟨w, 1 + k, none⟩ = some (.pointer (some ⟨rs k, 0, none⟩)) → W'.heap[p]? = W1.heap[p]? → LdS w k p (rs k) ⟨ti, tg, td⟩ W' := fun W' g1 g2 => by
      have a := g2.trans Ht1.out
      have a0 := block_cell a 0
      have a1 := block_cell a 1
      have a2 := block_cell a 2
      simp at a0 a1 a2
      exact ⟨loadP g1, loadTh (t := ⟨ti, tg, td⟩) a0 a1 a2⟩
    have hwl := h2.cells.2.2.2.2.2.2.2.1
    have hblk : ∀ W', Below W2.heap.size W2 W' → W'.heap[p]? = W1.heap[p]? := fun W' hw => (below_on Hb2.out hw (Nat.le_refl _)).block p (Array.getElem?_eq_some_iff.1 Ht1.out).1
    have hld : ∀ W', Below W2.heap.size W2 W' → LdS w k p (rs k) ⟨ti, tg, td⟩ W' := fun W' hw => hcell W' ((hw.cell (p := ⟨w, 1 + k, none⟩) hwl).trans hrc) (hblk W' hw)
    have hpt : ∀ W', Below W2.heap.size W2 W' → Calls Try.prog 44 #[.pointer (some ⟨rs k, 0, none⟩), .int .i64 (s : Nat), .agg #[.int .u64 ti, .int .u64 tg, .int .i64 td]] W' fun e W'' => e = .returned (.int .i64 0) ∧ Wd W F w now rs pf mf (n + 1) (putR R now ⟨ti, tg, td⟩) (putF far now ⟨ti, tg, td⟩) W'' ∧ LdS w k p (rs k) ⟨ti, tg, td⟩ W'' := fun W' hw' => by
      refine (put_ok W' (G k) (rs k) n s (R k) ⟨ti, tg, td⟩ (hrg.below hw') hs6 hfr hw hn).mono ?_
      rintro e W'' ⟨rfl, hR, hG⟩
      have hst := (h2.below hw').step k hk3 _ hR (Nat.le_succ n) hG
      have hB := below_on HB12.out hw' (Nat.le_refl _)
      refine ⟨rfl, ⟨_, _, hst.1.same (fun j hj => ?_) ?_, (Gr.below hB).trans hst.2, fun i hi => hi.imp id (fun x => Nat.le_trans hB.size x.1)⟩, hcell W'' (hst.1.rcell k hk3) ((hst.2.block p (Nat.lt_of_lt_of_le hpl2 hw'.size) hpw).trans (hblk W' hw'))⟩
      · unfold updF putR
        simp only
        rw [← HK.out]
        by_cases e : j = k
        · subst e; simp only [if_true]; rw [← HS.out]
        · rw [if_neg e, if_neg (Ne.symm e)]
      · unfold putF
        simp only
        rw [if_neg (by rw [← HK.out]; omega)]
    have Hld := Lib.hid hld
    have Hpt := Lib.hid hpt
    clear hld hpt hfr hrg hrc h2 hblk hcell hpw
    go_wp2_with fail
    refine wp_region_held_drew (S := fun W' => LdS w k p (rs k) ⟨ti, tg, td⟩ W') (by kernel_rfl) (Hld.out _ (Below.refl _ W2).drew) (fun hHeld => ?_)
    have hB8 : Below W2.heap.size W2 W2.drew := (Below.refl _ W2).drew
    refine wpAnyH_take (i := 0) (v := ?_) rfl (by kernel_rfl) (by kernel_rfl) (by kernel_rfl) (fun _ _ _ h => h) (Or.inl ⟨by rfl, ?_⟩) (by assumption) ?_
    rotate_left
    · intro w8 hSw; clear hSw; go_simp; (try with_reducible rfl)
    simp only [Act.put, List.getElem_toArray, List.getElem_cons_zero, List.getElem_cons_succ, List.setIfInBounds_toArray, List.set_cons_zero, List.set_cons_succ]
    refine wpAnyH_take (i := 1) (v := ?_) rfl (by kernel_rfl) (by kernel_rfl) (by kernel_rfl) (fun _ _ _ h => h) (Or.inl ⟨by rfl, ?_⟩) (by assumption) ?_
    rotate_left
    · intro w8 hSw; clear hSw; go_simp; (try with_reducible rfl)
    simp only [Act.put, List.getElem_toArray, List.getElem_cons_zero, List.getElem_cons_succ, List.setIfInBounds_toArray, List.set_cons_zero, List.set_cons_succ]
    refine wpAnyH_take (i := 2) (v := ?_) rfl (by kernel_rfl) (by kernel_rfl) (by kernel_rfl) (fun _ _ _ h => h) (Or.inl ⟨by rfl, ?_⟩) (by assumption) ?_
    rotate_left
    · intro w8 hSw; clear hSw; go_simp; (try with_reducible rfl)
    simp only [Act.put, List.getElem_toArray, List.getElem_cons_zero, List.getElem_cons_succ, List.setIfInBounds_toArray, List.set_cons_zero, List.set_cons_succ]
    refine wpAnyH_take (i := 3) (v := ?_) rfl (by kernel_rfl) (by kernel_rfl) (by kernel_rfl) (fun _ _ _ h => h) (Or.inl ⟨by rfl, ?_⟩) (by assumption) ?_
    rotate_left
    · intro w8 hSw; clear hSw; go_simp; (try with_reducible rfl)
    simp only [Act.put, List.getElem_toArray, List.getElem_cons_zero, List.getElem_cons_succ, List.setIfInBounds_toArray, List.set_cons_zero, List.set_cons_succ]
    refine wpAnyH_take (i := 4) (v := .pointer (some ⟨w, 1 + k, none⟩)) rfl (by kernel_rfl) (by kernel_rfl) (by kernel_rfl) (fun _ _ _ h => h) (Or.inl ⟨by rfl, ?_⟩) (by assumption) ?_
    · intro w8 hSw; clear hSw; go_simp; intro h4; omega
    simp only [Act.put, List.getElem_toArray, List.getElem_cons_zero, List.getElem_cons_succ, List.setIfInBounds_toArray, List.set_cons_zero, List.set_cons_succ]
    refine wpAnyH_take (i := 5) (v := .pointer (some ⟨rs k, 0, none⟩)) rfl (by kernel_rfl) (by kernel_rfl) (by kernel_rfl) (fun _ _ _ h => h) (Or.inl ⟨by rfl, ?_⟩) (by assumption) ?_
    · intro w8 hSw; exact ld_takeT rfl hSw.1 rfl
    simp only [Act.put, List.getElem_toArray, List.getElem_cons_zero, List.getElem_cons_succ, List.setIfInBounds_toArray, List.set_cons_zero, List.set_cons_succ]
    refine wpAnyH_take (i := 6) (v := ?_) rfl (by kernel_rfl) (by kernel_rfl) (by kernel_rfl) (fun _ _ _ h => h) (Or.inl ⟨by rfl, ?_⟩) (by assumption) ?_
    rotate_left
    · intro w8 hSw; clear hSw; go_simp; (try with_reducible rfl)
    simp only [Act.put, List.getElem_toArray, List.getElem_cons_zero, List.getElem_cons_succ, List.setIfInBounds_toArray, List.set_cons_zero, List.set_cons_succ]
    refine wpAnyH_take (i := 7) (v := thVal ⟨ti, tg, td⟩) rfl (by kernel_rfl) (by kernel_rfl) (by kernel_rfl) (fun _ _ _ h => h) (Or.inl ⟨by rfl, ?_⟩) (by assumption) ?_
    · intro w8 hSw; exact ld_takeT rfl hSw.2 rfl
    simp only [Act.put, List.getElem_toArray, List.getElem_cons_zero, List.getElem_cons_succ, List.setIfInBounds_toArray, List.set_cons_zero, List.set_cons_succ]
    try unfold thVal
    refine wpAnyH_ready (rs := [8]) (by kernel_rfl) (by simp) ?_
    refine AllReadyH.cons rfl (fun K hK => ?_) AllReadyH.nil
    go_simp
    go_at_call 44
    refine (Hpt.out _ hB8).mono ?_
    rintro e V1 ⟨rfl, hfin, hS8⟩
    refine hK.out _ _ hS8 (fun hHeld => ?_)
    clear hK K
    try simp only [Act.put, List.getElem_toArray, List.getElem_cons_zero, List.getElem_cons_succ, List.setIfInBounds_toArray, List.set_cons_zero, List.set_cons_succ]
    refine wpAnyH_done (by kernel_rfl) ?_ _
    go_wp2_with fail
    exact bodyPost_end (results_none rfl _ _ _) rfl ⟨rfl, hfin⟩
end Go.Proofs.Ytadghaiengonoaa
