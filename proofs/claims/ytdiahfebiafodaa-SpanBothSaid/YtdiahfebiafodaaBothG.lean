/- span.Both: contract. No statement of the seat is proved here. -/
import Derived.Test.YtdiahfebiafodaaBothR
import Derived.ScopeJumps
import Derived.WalkMore
namespace Go.Proofs.Ytdiahfebiafodaa
set_option linter.unusedVariables false
set_option linter.unusedSimpArgs false
set_option linter.unusedSectionVars false
open Go Go.RowKit Go.Shelf

/-- a scope with jumps to one label: what a pass shows may be used where the run first comes to the label -/
theorem scope_jumps {P : Program} {a : Act} {w : World} {Q : Exit → Act → World → Prop} {c y : Code} (l : Nat) (J : Act → World → Prop) (μ : Act → World → Nat) (hf : findLabel c l = some (Code.skip.seq y))
    (pass : ∀ a w, J a w → y.wp P (Exit.jump l (fun a' w' => J a' w' ∧ μ a' w' < μ a w) Q) a w)
    (first : (∀ a w, J a w → y.wp P (Exit.jump l J Q) a w) → c.wp P (Exit.jump l J Q) a w) : (Code.scope c).wp P Q a w :=
  wp_scope_jumps l J μ hf (first fun a w hJ => Code.wp_mono (fun e a' w' h => by
    cases e <;> first | exact h | exact ⟨h.1, h.2.1⟩) (pass a w hJ)) (fun a w hJ => wp_seq (wp_skip (pass a w hJ)))

theorem chain_pair (l : List Sp) : ∀ e, chain e l = true → l.Pairwise fun x y => x.b ≤ y.a := by
  induction l with
  | nil => intro e _; exact List.Pairwise.nil
  | cons s l ih =>
    intro e h
    unfold chain at h
    simp only [Bool.and_eq_true, decide_eq_true_eq] at h
    exact List.pairwise_cons.2 ⟨fun x hx => (chain_after l s.b h.2 x hx).1, ih s.b h.2⟩
theorem pairs_none (s : Sp) (b : List Sp) (h : ∀ u ∈ b, s.b ≤ u.a) : pairs s b = [] := by
  induction b with
  | nil => rfl
  | cons u b ih =>
    have h1 := h u (by simp)
    have e : (s.part u.a u.b).full = false := by
      unfold Sp.part Sp.full
      simp only [decide_eq_false_iff_not]
      split <;> split <;> omega
    unfold pairs at ih ⊢
    simp only [List.map_cons, List.filter_cons, e, ih (fun x hx => h x (by simp [hx]))]; rfl
theorem bothR_skip (a : List Sp) (u : Sp) (b : List Sp) (h : ∀ s ∈ a, u.b ≤ s.a) : bothR a (u :: b) = bothR a b := by
  induction a with
  | nil => rfl
  | cons s a ih =>
    have h1 := h s (by simp)
    have e : (s.part u.a u.b).full = false := by
      unfold Sp.part Sp.full
      simp only [decide_eq_false_iff_not]
      split <;> split <;> omega
    unfold bothR
    rw [ih (fun x hx => h x (by simp [hx]))]
    congr 1
    unfold pairs
    simp only [List.map_cons, List.filter_cons, e]; rfl
theorem bothR_nil (a : List Sp) : bothR a [] = [] := by
  induction a with
  | nil => rfl
  | cons s a ih => unfold bothR; rw [ih]; rfl
/-- one step of two fingers -/
theorem bothR_step (a b : List Sp) (ha : a.Pairwise fun x y => x.b ≤ y.a) (hb : b.Pairwise fun x y => x.b ≤ y.a) (i k : Nat) (hi : i < a.length) (hk : k < b.length) :
    bothR (a.drop i) (b.drop k) = (if (a[i].part b[k].a b[k].b).full then [a[i].part b[k].a b[k].b] else []) ++ (if a[i].b ≤ b[k].b then bothR (a.drop (i + 1)) (b.drop k) else bothR (a.drop i) (b.drop (k + 1))) := by
  have ha2 := ha.drop (i := i)
  have hb2 := hb.drop (i := k)
  rw [List.drop_eq_getElem_cons hi] at ha2
  rw [List.drop_eq_getElem_cons hk] at hb2
  have pa := (List.pairwise_cons.1 ha2).1
  have pb := (List.pairwise_cons.1 hb2).1
  by_cases h : a[i].b ≤ b[k].b
  · rw [if_pos h, bothR_at a (b.drop k) i hi, pairs_at a[i] b k hk, pairs_none a[i] (b.drop (k + 1)) (fun u hu => Int.le_trans h (pb u hu)), List.append_nil]
  · rw [if_neg h, bothR_at a (b.drop k) i hi, bothR_at a (b.drop (k + 1)) i hi, pairs_at a[i] b k hk, List.append_assoc]
    congr 2
    rw [List.drop_eq_getElem_cons hk]
    exact bothR_skip _ _ _ (fun s hs => by have := pa s hs; omega)

/-- where the run comes to the label -/
def BothJ (w : World) (ao ao2 : Option Addr) (cap cap2 : Nat) (a b T : List Sp) (a' : Act) (w' : World) : Prop :=
  ∃ (i k : Nat) (out : List Sp) (oa : Option Addr) (oc : Nat) (u7 u8 u9 u10 u11 u12 u13 u14 u15 u16 u17 u18 u19 u20 u21 u22 u23 u24 u25 u26 u27 u28 u29 u30 u31 u32 u33 u34 u35 u36 u37 u38 u39 u40 u41 u42 u43 u44 u45 u46 u47 u48 u49 u50 u51 u52 u53 u54 u55 u56 u57 u58 u59 u60 u61 u62 u63 u64 u65 u66 u67 u68 : Value), a' = { tmps := #[.slice ao a.length cap, .slice ao2 b.length cap2, undef, undef, .slice oa out.length oc, .int .i64 (i : Nat), .int .i64 (k : Nat), u7, u8, u9, u10, u11, u12, u13, u14, u15, u16, u17, u18, u19, u20, u21, u22, u23, u24, u25, u26, u27, u28, u29, u30, u31, u32, u33, u34, u35, u36, u37, u38, u39, u40, u41, u42, u43, u44, u45, u46, u47, u48, u49, u50, u51, u52, u53, u54, u55, u56, u57, u58, u59, u60, u61, u62, u63, u64, u65, u66, u67, u68], defers := [] } ∧
    i ≤ a.length ∧ k ≤ b.length ∧ out.length ≤ i + k ∧ Hid (T = out ++ bothR (a.drop i) (b.drop k)) ∧ w'.ownsRow w.heap.size 30 2 (.slice oa out.length oc) out.length (out.map spCells).flatten ∧ Below w.heap.size w w'

set_option maxRecDepth 100000 in
set_option maxHeartbeats 4000000 in
theorem both_any (ao ao2 : Option Addr) (cap cap2 : Nat) (a b : List Sp) (w : World) (hs : Sps w ao cap a) (hs2 : Sps w ao2 cap2 b) :
    Calls Try.prog 40 #[.slice ao a.length cap, .slice ao2 b.length cap2] w fun e w' => (∃ ao' cap', e = .returned (.slice ao' (bothL a b).length cap') ∧ Sps w' ao' cap' (bothL a b)) ∧ Below w.heap.size w w' := by
  have hra := row_any ao cap a w hs
  have hrb := fun w' (h : Sps w' ao2 cap2 b) => row_any ao2 cap2 b w' h
  obtain ⟨R, hR⟩ : ∃ R, R = bothL a b := ⟨_, rfl⟩
  rw [← hR]
  unfold bothL at hR
  by_cases h0 : rowErr a = 0
  · by_cases h1 : rowErr b = 0
    · rw [h0] at hra
      rw [h1] at hrb
      rw [if_pos ⟨h0, h1⟩] at hR
      obtain ⟨ca, la⟩ := row_chain h0
      obtain ⟨cb, lb⟩ := row_chain h1
      have hpa := chain_pair a 0 ca
      have hpb := chain_pair b 0 cb
      obtain ⟨T, hT⟩ : ∃ T, T = bothR a b := ⟨_, rfl⟩
      rw [← hT] at hR
      have HR := Lib.hid hR
      have HT := Lib.hid hT
      clear hR hT h0 h1 ca cb
      go_enter Try.func40, Try.ntmps40
      go_wp2_with fail
      refine scope_jumps 0 (BothJ w ao ao2 cap cap2 a b T) (fun a' _ => (a.length - (intOf (a'.tmps.getD 5 undef)).toNat) + (b.length - (intOf (a'.tmps.getD 6 undef)).toNat)) rfl ?_ ?_
      · rintro a' wr ⟨i, k, out, oa, oc, u7, u8, u9, u10, u11, u12, u13, u14, u15, u16, u17, u18, u19, u20, u21, u22, u23, u24, u25, u26, u27, u28, u29, u30, u31, u32, u33, u34, u35, u36, u37, u38, u39, u40, u41, u42, u43, u44, u45, u46, u47, u48, u49, u50, u51, u52, u53, u54, u55, u56, u57, u58, u59, u60, u61, u62, u63, u64, u65, u66, u67, u68, rfl, hi, hk, ho, hTk, hown, hb⟩
        by_cases hlt : i < a.length
        · by_cases hkt : k < b.length
          · have Hp := Lib.hid (bothR_step a b hpa hpb i k hlt hkt)
            obtain ⟨ba, offa, rfl, c0, c1⟩ := (hs.below hb).get i hlt
            obtain ⟨bb, offb, rfl, d0, d1⟩ := (hs2.below hb).get k hkt
            obtain ⟨s, hsd⟩ : ∃ s, s = a[i] := ⟨_, rfl⟩
            obtain ⟨u, hud⟩ : ∃ u, u = b[k] := ⟨_, rfl⟩
            rw [← hsd] at c0 c1 Hp
            rw [← hud] at d0 d1 Hp
            obtain ⟨ba', offa', e1, -, c1w⟩ := hs.get i hlt
            obtain ⟨bb', offb', e2, -, d1w⟩ := hs2.get k hkt
            simp only [Option.some.injEq, Addr.mk.injEq] at e1 e2
            obtain ⟨rfl, rfl, -⟩ := e1
            obtain ⟨rfl, rfl, -⟩ := e2
            rw [← hsd] at c1w
            rw [← hud] at d1w
            clear hsd hud hpa hpb
            have hpt := fun W => common_any s u.a u.b W
            obtain ⟨p, hp⟩ : ∃ p, p = s.part u.a u.b := ⟨_, rfl⟩
            rw [← hp] at hpt Hp
            clear hp
            obtain ⟨x, y⟩ := s
            obtain ⟨ux, uy⟩ := u
            obtain ⟨px, py⟩ := p
            unfold spVal at hpt
            simp only at c0 c1 d0 d1 hpt Hp c1w d1w
            have hcell : ∀ W, Below w.heap.size w W → W.cell? ⟨ba, offa + i * 2 + 1, none⟩ = some (.int .i64 y) ∧ W.cell? ⟨bb, offb + k * 2 + 1, none⟩ = some (.int .i64 uy) := fun W h => ⟨(h.cell (cell?_lt c1w)).trans c1w, (h.cell (cell?_lt d1w)).trans d1w⟩
            clear c1w d1w
            go_wp2_with fail
            go_cut [7] (fun v7 wx => ∃ g8, v7 = .pointer (some ⟨g8, 0, none⟩) ∧ wx.heap[g8]? = some (.cells #[.int .i64 px, .int .i64 py] 30 (0, 0)) ∧ Below wr.heap.size wr wx)
            case first =>
              have hcw : ∀ W' : World, Below wr.heap.size wr W' → (W'.cell? ⟨ba, offa + i * 2, none⟩ = some (.int .i64 x) ∧ W'.cell? ⟨ba, offa + i * 2 + 1, none⟩ = some (.int .i64 y) ∧ W'.cell? ⟨bb, offb + k * 2, none⟩ = some (.int .i64 ux) ∧ W'.cell? ⟨bb, offb + k * 2 + 1, none⟩ = some (.int .i64 uy)) :=
                fun W' h => ⟨(h.cell (cell?_lt c0)).trans c0, (h.cell (cell?_lt c1)).trans c1, (h.cell (cell?_lt d0)).trans d0, (h.cell (cell?_lt d1)).trans d1⟩
              go_region_held3 (fun W' => (W'.cell? ⟨ba, offa + i * 2, none⟩ = some (.int .i64 x) ∧ W'.cell? ⟨ba, offa + i * 2 + 1, none⟩ = some (.int .i64 y) ∧ W'.cell? ⟨bb, offb + k * 2, none⟩ = some (.int .i64 ux) ∧ W'.cell? ⟨bb, offb + k * 2 + 1, none⟩ = some (.int .i64 uy)))
                (first | exact hL4 | exact hcw _ ((hBx.setCell (p := ⟨wr.heap.size, 0, none⟩) (Nat.le_refl _) _).setCell (p := ⟨wr.heap.size, 1, none⟩) (Nat.le_refl _) _) | exact hcw _ (hBx.alloc hBx.size _) | exact hcw _ (below_new _ _) | exact hcw _ (below_drew (below_new _ _)) | go_keep)
                (first
                  | (go_at_call 58; refine (hpt wr.drew).mono ?_; rintro e w4 ⟨rfl, hb4⟩; have hBx : Below wr.heap.size wr w4 := below_on (below_drew (Below.refl _ _)) hb4 (Nat.le_refl _); have hL4 := hcw w4 hBx)
                  | (go_at_call 58; refine (hpt (wr.alloc (.cells #[.int .i64 0, .int .i64 0] 30)).drew).mono ?_; rintro e w4 ⟨rfl, hb4⟩; have hBx : Below wr.heap.size wr w4 := below_on (below_drew (below_new _ _)) hb4 (Nat.le_refl _); have hL4 := hcw w4 hBx; have hblk := alloc_after hb4; have hq0 := block_cell hblk 0; have hq1 := block_cell hblk 1; have hf0 := block_free hblk 0; have hf1 := block_free hblk 1; simp at hq0 hq1))
              all_goals
                go_wp2_with fail
                go_meet
                first
                  | exact ⟨_, rfl, heap_new2 _ _, hBx.alloc hBx.size _⟩
                  | exact ⟨_, rfl, two_set hblk _ _, (hBx.setCell (p := ⟨wr.heap.size, 0, none⟩) (Nat.le_refl _) _).setCell (p := ⟨wr.heap.size, 1, none⟩) (Nat.le_refl _) _⟩
            case rest =>
              obtain ⟨g8, rfl, hblk, hBX⟩ := hcut
              have q0 := block_cell hblk 0
              have q1 := block_cell hblk 1
              simp at q0 q1
              have hownX := own_below hown hBX
              have hBW := below_on hb hBX (Nat.le_refl _)
              have hzW := hBW.size
              clear c0 c1 d0 d1 hpt hown hb hra hrb
              by_cases hxy : px < py
              · have hfu : Sp.full ⟨px, py⟩ = true := by simpa [Sp.full] using hxy
                rw [hfu] at Hp
                have hlo5 : (out ++ [(⟨px, py⟩ : Sp)]).length ≤ i + k + 1 := by simp; omega
                by_cases hyu : y ≤ uy
                · have HTn : Hid (T = (out ++ [(⟨px, py⟩ : Sp)]) ++ bothR (a.drop (i + 1)) (b.drop k)) := by show T = _; rw [hTk.out, Hp.out, if_pos hyu]; simp
                  clear Hp hTk
                  go_wp2_with (at_builtin; refine wpl_append_one rfl (.tmp 46) (.tmp 48) 22 rfl w.heap.size 30 infoSp Try.underlying22 rfl (by decide) _ out.length (out.map spCells) rfl (hownX.alloc _) _ 1 (spCells ⟨px, py⟩) rfl rfl (news_at _ rfl) (sp_one _) ?_ ?_ ?_ ?_; omega; (unfold maxLen; omega); (simp; omega); intro g4 c4 w5 hown5 hg5 hlie; have hc5 := (below_app (hBW.alloc hzW _) hg5 (hownX.alloc _) (Nat.le_refl _) (by simp; omega)); obtain ⟨k1, k2⟩ := hcell _ hc5)
                  go_quiet (fail)
                  go_wp2_with fail
                  go_step3
                  rw [show out.length + 1 = (out ++ [(⟨px, py⟩ : Sp)]).length by simp]
                  have hown6 : w5.ownsRow w.heap.size 30 2 (.slice (some ⟨g4, 0, none⟩) (out ++ [(⟨px, py⟩ : Sp)]).length c4) (out ++ [(⟨px, py⟩ : Sp)]).length ((out ++ [(⟨px, py⟩ : Sp)]).map spCells).flatten := by simpa using hown5
                  refine ⟨rfl, ⟨i + 1, k, out ++ [(⟨px, py⟩ : Sp)], _, _, _, _, _, _, _, _, _, _, _, _, _, _, _, _, _, _, _, _, _, _, _, _, _, _, _, _, _, _, _, _, _, _, _, _, _, _, _, _, _, _, _, _, _, _, _, _, _, _, _, _, _, _, _, _, _, _, _, _, _, _, _, _, by first | rfl | (simp; done), by omega, by omega, by omega, HTn, ?_, ?_⟩, ?_⟩
                  · exact own_below hown6 ⟨rfl, rfl, rfl, by simp [World.drewN], fun k hk => rfl⟩
                  · exact below_on hc5 ⟨rfl, rfl, rfl, by simp [World.drewN], fun k hk => rfl⟩ (Nat.le_refl _)
                  · simp [intOf]
                    omega
                · have HTn : Hid (T = (out ++ [(⟨px, py⟩ : Sp)]) ++ bothR (a.drop i) (b.drop (k + 1))) := by show T = _; rw [hTk.out, Hp.out, if_neg hyu]; simp
                  clear Hp hTk
                  go_wp2_with (at_builtin; refine wpl_append_one rfl (.tmp 46) (.tmp 48) 22 rfl w.heap.size 30 infoSp Try.underlying22 rfl (by decide) _ out.length (out.map spCells) rfl (hownX.alloc _) _ 1 (spCells ⟨px, py⟩) rfl rfl (news_at _ rfl) (sp_one _) ?_ ?_ ?_ ?_; omega; (unfold maxLen; omega); (simp; omega); intro g4 c4 w5 hown5 hg5 hlie; have hc5 := (below_app (hBW.alloc hzW _) hg5 (hownX.alloc _) (Nat.le_refl _) (by simp; omega)); obtain ⟨k1, k2⟩ := hcell _ hc5)
                  go_quiet (fail)
                  go_wp2_with fail
                  go_step3
                  rw [show out.length + 1 = (out ++ [(⟨px, py⟩ : Sp)]).length by simp]
                  have hown6 : w5.ownsRow w.heap.size 30 2 (.slice (some ⟨g4, 0, none⟩) (out ++ [(⟨px, py⟩ : Sp)]).length c4) (out ++ [(⟨px, py⟩ : Sp)]).length ((out ++ [(⟨px, py⟩ : Sp)]).map spCells).flatten := by simpa using hown5
                  refine ⟨rfl, ⟨i, k + 1, out ++ [(⟨px, py⟩ : Sp)], _, _, _, _, _, _, _, _, _, _, _, _, _, _, _, _, _, _, _, _, _, _, _, _, _, _, _, _, _, _, _, _, _, _, _, _, _, _, _, _, _, _, _, _, _, _, _, _, _, _, _, _, _, _, _, _, _, _, _, _, _, _, _, _, by first | rfl | (simp; done), by omega, by omega, by omega, HTn, ?_, ?_⟩, ?_⟩
                  · exact own_below hown6 ⟨rfl, rfl, rfl, by simp [World.drewN], fun k hk => rfl⟩
                  · exact below_on hc5 ⟨rfl, rfl, rfl, by simp [World.drewN], fun k hk => rfl⟩ (Nat.le_refl _)
                  · simp [intOf]
                    omega
              · have hfu : Sp.full ⟨px, py⟩ = false := by simpa [Sp.full] using hxy
                rw [hfu] at Hp
                obtain ⟨k1, k2⟩ := hcell _ hBW
                by_cases hyu : y ≤ uy
                · have HTn : Hid (T = out ++ bothR (a.drop (i + 1)) (b.drop k)) := by show T = _; rw [hTk.out, Hp.out, if_pos hyu]; simp
                  clear Hp hTk
                  go_wp2_with fail
                  go_quiet (fail)
                  go_wp2_with fail
                  go_step3
                  refine ⟨rfl, ⟨i + 1, k, out, _, _, _, _, _, _, _, _, _, _, _, _, _, _, _, _, _, _, _, _, _, _, _, _, _, _, _, _, _, _, _, _, _, _, _, _, _, _, _, _, _, _, _, _, _, _, _, _, _, _, _, _, _, _, _, _, _, _, _, _, _, _, _, _, by first | rfl | (simp; done), by omega, by omega, by omega, HTn, ?_, ?_⟩, ?_⟩
                  · exact own_below hownX ⟨rfl, rfl, rfl, by simp [World.drewN], fun k hk => rfl⟩
                  · exact below_on hBW ⟨rfl, rfl, rfl, by simp [World.drewN], fun k hk => rfl⟩ (Nat.le_refl _)
                  · simp [intOf]
                    omega
                · have HTn : Hid (T = out ++ bothR (a.drop i) (b.drop (k + 1))) := by show T = _; rw [hTk.out, Hp.out, if_neg hyu]; simp
                  clear Hp hTk
                  go_wp2_with fail
                  go_quiet (fail)
                  go_wp2_with fail
                  go_step3
                  refine ⟨rfl, ⟨i, k + 1, out, _, _, _, _, _, _, _, _, _, _, _, _, _, _, _, _, _, _, _, _, _, _, _, _, _, _, _, _, _, _, _, _, _, _, _, _, _, _, _, _, _, _, _, _, _, _, _, _, _, _, _, _, _, _, _, _, _, _, _, _, _, _, _, _, by first | rfl | (simp; done), by omega, by omega, by omega, HTn, ?_, ?_⟩, ?_⟩
                  · exact own_below hownX ⟨rfl, rfl, rfl, by simp [World.drewN], fun k hk => rfl⟩
                  · exact below_on hBW ⟨rfl, rfl, rfl, by simp [World.drewN], fun k hk => rfl⟩ (Nat.le_refl _)
                  · simp [intOf]
                    omega
          · have hk' : k = b.length := by omega
            subst hk'
            have hTe : T = out := by rw [hTk.out, List.drop_length, bothR_nil]; simp
            clear hTk
            by_cases h32 : 32 < out.length
            · have he : R = [] := by rw [HR.out, hTe, if_pos h32]
              go_wp2_with fail
              simp only [Exit.jump]
              go_ret
              exact ⟨⟨none, 0, by first | rfl | (rw [he]; rfl), by first | exact Sps.nil _ | (rw [he]; exact Sps.nil _)⟩, hb⟩
            · have he : R = out := by rw [HR.out, hTe, if_neg h32]
              go_wp2_with fail
              simp only [Exit.jump]
              go_ret
              exact ⟨⟨oa, oc, by first | rfl | (rw [he]; rfl), by first | exact Sps.of_own hown | (rw [he]; exact Sps.of_own hown)⟩, hb⟩
        · have hi' : i = a.length := by omega
          subst hi'
          have hTe : T = out := by rw [hTk.out, List.drop_length]; simp [bothR]
          clear hTk
          by_cases h32 : 32 < out.length
          · have he : R = [] := by rw [HR.out, hTe, if_pos h32]
            go_wp2_with fail
            simp only [Exit.jump]
            go_ret
            exact ⟨⟨none, 0, by first | rfl | (rw [he]; rfl), by first | exact Sps.nil _ | (rw [he]; exact Sps.nil _)⟩, hb⟩
          · have he : R = out := by rw [HR.out, hTe, if_neg h32]
            go_wp2_with fail
            simp only [Exit.jump]
            go_ret
            exact ⟨⟨oa, oc, by first | rfl | (rw [he]; rfl), by first | exact Sps.of_own hown | (rw [he]; exact Sps.of_own hown)⟩, hb⟩
      · intro hfirst
        go_wp2_with fail
        refine hra.mono ?_
        rintro e w1 ⟨rfl, hb1⟩
        go_wp2_with fail
        refine (hrb _ (hs2.below hb1)).mono ?_
        rintro e w2 ⟨rfl, hb2⟩
        have B2 := below_on hb1 hb2 (Nat.le_refl _)
        go_wp2_with fail
        refine wp_label ?_
        first
          | (rename_i hKx; refine hKx _ _ ?_; refine hfirst _ _ ⟨0, 0, [], none, 0, _, _, _, _, _, _, _, _, _, _, _, _, _, _, _, _, _, _, _, _, _, _, _, _, _, _, _, _, _, _, _, _, _, _, _, _, _, _, _, _, _, _, _, _, _, _, _, _, _, _, _, _, _, _, _, _, _, _, _, _, _, _, rfl, Nat.zero_le _, Nat.zero_le _, Nat.zero_le _, HT, own_nil _ _ _ _, B2⟩)
          | (rename_i hKx _; refine hKx _ _ ?_; refine hfirst _ _ ⟨0, 0, [], none, 0, _, _, _, _, _, _, _, _, _, _, _, _, _, _, _, _, _, _, _, _, _, _, _, _, _, _, _, _, _, _, _, _, _, _, _, _, _, _, _, _, _, _, _, _, _, _, _, _, _, _, _, _, _, _, _, _, _, _, _, _, _, _, rfl, Nat.zero_le _, Nat.zero_le _, Nat.zero_le _, HT, own_nil _ _ _ _, B2⟩)
          | (rename_i hKx _ _; refine hKx _ _ ?_; refine hfirst _ _ ⟨0, 0, [], none, 0, _, _, _, _, _, _, _, _, _, _, _, _, _, _, _, _, _, _, _, _, _, _, _, _, _, _, _, _, _, _, _, _, _, _, _, _, _, _, _, _, _, _, _, _, _, _, _, _, _, _, _, _, _, _, _, _, _, _, _, _, _, _, rfl, Nat.zero_le _, Nat.zero_le _, Nat.zero_le _, HT, own_nil _ _ _ _, B2⟩)
          | (rename_i hKx _ _ _; refine hKx _ _ ?_; refine hfirst _ _ ⟨0, 0, [], none, 0, _, _, _, _, _, _, _, _, _, _, _, _, _, _, _, _, _, _, _, _, _, _, _, _, _, _, _, _, _, _, _, _, _, _, _, _, _, _, _, _, _, _, _, _, _, _, _, _, _, _, _, _, _, _, _, _, _, _, _, _, _, _, rfl, Nat.zero_le _, Nat.zero_le _, Nat.zero_le _, HT, own_nil _ _ _ _, B2⟩)
          | (rename_i hKx _ _ _ _; refine hKx _ _ ?_; refine hfirst _ _ ⟨0, 0, [], none, 0, _, _, _, _, _, _, _, _, _, _, _, _, _, _, _, _, _, _, _, _, _, _, _, _, _, _, _, _, _, _, _, _, _, _, _, _, _, _, _, _, _, _, _, _, _, _, _, _, _, _, _, _, _, _, _, _, _, _, _, _, _, _, rfl, Nat.zero_le _, Nat.zero_le _, Nat.zero_le _, HT, own_nil _ _ _ _, B2⟩)
    · have he : R = [] := by rw [hR, if_neg (fun h => h1 h.2)]
      obtain ⟨er, her⟩ : ∃ er, er = rowErr b := ⟨_, rfl⟩
      rw [← her] at hrb h1
      rw [h0] at hra
      have hne : (((er : Nat) : Int) != 0) = true := by simp; omega
      clear her hR
      go_enter Try.func40, Try.ntmps40
      go_wp2_with fail
      go_step3
      go_wp2_with fail
      refine hra.mono ?_
      rintro e w1 ⟨rfl, hb1⟩
      go_wp2_with fail
      refine (hrb _ (hs2.below hb1)).mono ?_
      rintro e w2 ⟨rfl, hb2⟩
      go_wp2_with fail
      rw [Exit.noGoto_ret]
      go_ret
      exact ⟨⟨none, 0, by first | rfl | (rw [he]; rfl), by first | exact Sps.nil _ | (rw [he]; exact Sps.nil _)⟩, below_on hb1 hb2 (Nat.le_refl _)⟩
  · have he : R = [] := by rw [hR, if_neg (fun h => h0 h.1)]
    obtain ⟨er, her⟩ : ∃ er, er = rowErr a := ⟨_, rfl⟩
    rw [← her] at hra h0
    have hne : (((er : Nat) : Int) != 0) = true := by simp; omega
    clear her hR
    go_enter Try.func40, Try.ntmps40
    go_wp2_with fail
    go_step3
    go_wp2_with fail
    refine hra.mono ?_
    rintro e w1 ⟨rfl, hb1⟩
    go_wp2_with fail
    rw [Exit.noGoto_ret]
    go_ret
    exact ⟨⟨none, 0, by first | rfl | (rw [he]; rfl), by first | exact Sps.nil _ | (rw [he]; exact Sps.nil _)⟩, hb1⟩
end Go.Proofs.Ytdiahfebiafodaa
