/- Lemmas for BagApart (Bs). No statement of the seat is proved here. -/
import Derived.Test.YtbmkgcoolofmpaaA29
import Derived.Test.YtbmkgcoolofmpaaA30
namespace Go.Proofs.Ytbmkgcoolofmpaa
set_option linter.unusedVariables false
set_option linter.unusedSimpArgs false
set_option linter.unusedSectionVars false
open Go Go.RowKit Go.Maps Go.Shelf
set_option maxRecDepth 100000 in
set_option maxHeartbeats 4000000 in
theorem rmove_no (W : World) (room nA cA lc : Nat) (aA lo : Option Addr) (X : List Mp) (k t : Int) (hX : MgRow W rmT lo lc X) (hk : ¬ ((0 ≤ k ∧ k < (X.length : Nat)) ∧ 0 ≤ t ∧ t < (X.length : Nat))) :
    Calls Try.prog 25 #[rV room aA nA cA lo X.length lc, .int .i64 k, .int .i64 t] W (RPutIs W room aA nA cA X false) := by
  unfold rV
  obtain ⟨W1, hW1⟩ : ∃ W1, W1 = W.alloc (.cells #[.int .i64 (room : Nat), .slice aA nA cA, .slice lo X.length lc] rbT) := ⟨_, rfl⟩
  obtain ⟨W2, hW2⟩ : ∃ W2, W2 = W1.alloc (.cells #[.int .i64 0, .slice none 0 0, .slice none 0 0] rbT) := ⟨_, rfl⟩
  obtain ⟨b1, hb1⟩ : ∃ b, b = W.heap.size := ⟨_, rfl⟩
  obtain ⟨b2, hb2⟩ : ∃ b, b = W.heap.size + 1 := ⟨_, rfl⟩
  have z1 : W1.heap.size = W.heap.size + 1 := by rw [hW1]; simp
  have B1 : Below W.heap.size W W1 := by rw [hW1]; exact below_new _ _
  have B2 : Below W1.heap.size W1 W2 := by rw [hW2]; exact below_new _ _
  have hB2 := below_on B1 B2 (Nat.le_refl _)
  have t1 : W2.heap[b1]? = some (.cells #[.int .i64 (room : Nat), .slice aA nA cA, .slice lo X.length lc] rbT (0, 0)) := by
    rw [B2.block b1 (by omega), hW1, hb1]; exact heap_alloc_new _ _
  have t2 : W2.heap[b2]? = some (.cells #[.int .i64 0, .slice none 0 0, .slice none 0 0] rbT (0, 0)) := by
    rw [hW2, hb2, ← z1]; exact heap_alloc_new _ _
  have Hup : Hid (W.heap.size ≤ b1 ∧ W.heap.size ≤ b2) := ⟨by omega, by omega⟩
  have Hap : Hid (b1 ≠ b2) := (by omega : b1 ≠ b2)
  have HB2 := Lib.hid hB2
  have T1 := Lib.hid t1
  have T2 := Lib.hid t2
  clear z1 B1 B2 hB2 t1 t2
  have p0 := block_cell T1.out 0
  have p1 := block_cell T1.out 1
  have p2 := block_cell T1.out 2
  have l1 := bx_lt T1.out
  have c0 := block_cell T2.out 0
  have c1 := block_cell T2.out 1
  have c2 := block_cell T2.out 2
  have f0 := block_free T2.out 0
  have f1 := block_free T2.out 1
  have f2 := block_free T2.out 2
  have l2 := bx_lt T2.out
  simp at p0 p1 p2 c0 c1 c2 f0 f1 f2
  have u3 := bx_set3 T2.out (.int .i64 (room : Nat)) (.slice aA nA cA) (.slice lo X.length lc)
  have hgU := gr_set3 W2 b2 (.int .i64 (room : Nat)) (.slice aA nA cA) (.slice lo X.length lc)
  obtain ⟨U, hU⟩ : ∃ U, U = ((W2.setCell ⟨b2, 0, none⟩ (.int .i64 (room : Nat))).setCell ⟨b2, 1, none⟩ (.slice aA nA cA)).setCell ⟨b2, 2, none⟩ (.slice lo X.length lc) := ⟨_, rfl⟩
  rw [← hU] at u3 hgU
  have hBU : Below W.heap.size W U := HB2.out.trans (hgU.above HB2.out.size (fun i e => by rw [e]; exact Hup.out.2))
  have HU : Hid (U = ((W2.setCell ⟨b2, 0, none⟩ (.int .i64 (room : Nat))).setCell ⟨b2, 1, none⟩ (.slice aA nA cA)).setCell ⟨b2, 2, none⟩ (.slice lo X.length lc) ∧ U.heap[b2]? = some (.cells #[.int .i64 (room : Nat), .slice aA nA cA, .slice lo X.length lc] rbT (0, 0)) ∧ RPutIs W room aA nA cA X false (.returned (.tuple #[.agg #[.int .i64 (room : Nat), .slice aA nA cA, .slice lo X.length lc], .bool false])) U) := ⟨hU, u3, lo, lc, rfl, hX.below hBU, hBU⟩
  clear hU u3 hgU hBU hX
  by_cases h0 : k < 0
  · clear hk
    go_enter Try.func25, Try.ntmps25
    go_upto_region 1 with fail
    rw [← hW1, ← hW2, ← hb2, ← hb1]
    clear hW1 hW2 hb1 hb2
    go_wp2_with fail
    rw [← HU.out.1]
    exact bodyPost_ret (v := .tuple #[.agg #[.int .i64 (room : Nat), .slice aA nA cA, .slice lo X.length lc], .bool false]) (results_2 Try.results25 rfl rfl (lvRb HU.out.2.1)) rfl HU.out.2.2
  by_cases h1 : k ≥ (X.length : Nat)
  · clear hk
    go_enter Try.func25, Try.ntmps25
    go_upto_region 1 with fail
    rw [← hW1, ← hW2, ← hb2, ← hb1]
    clear hW1 hW2 hb1 hb2
    go_wp2_with fail
    rw [← HU.out.1]
    exact bodyPost_ret (v := .tuple #[.agg #[.int .i64 (room : Nat), .slice aA nA cA, .slice lo X.length lc], .bool false]) (results_2 Try.results25 rfl rfl (lvRb HU.out.2.1)) rfl HU.out.2.2
  by_cases h2 : t < 0
  · clear hk
    go_enter Try.func25, Try.ntmps25
    go_upto_region 1 with fail
    rw [← hW1, ← hW2, ← hb2, ← hb1]
    clear hW1 hW2 hb1 hb2
    go_wp2_with fail
    rw [← HU.out.1]
    exact bodyPost_ret (v := .tuple #[.agg #[.int .i64 (room : Nat), .slice aA nA cA, .slice lo X.length lc], .bool false]) (results_2 Try.results25 rfl rfl (lvRb HU.out.2.1)) rfl HU.out.2.2
  · have h3 : t ≥ (X.length : Nat) := by omega
    clear hk
    go_enter Try.func25, Try.ntmps25
    go_upto_region 1 with fail
    rw [← hW1, ← hW2, ← hb2, ← hb1]
    clear hW1 hW2 hb1 hb2
    go_wp2_with fail
    rw [← HU.out.1]
    exact bodyPost_ret (v := .tuple #[.agg #[.int .i64 (room : Nat), .slice aA nA cA, .slice lo X.length lc], .bool false]) (results_2 Try.results25 rfl rfl (lvRb HU.out.2.1)) rfl HU.out.2.2
theorem len15 {a b : Nat} (h : a * 15 = b * 15) : a = b := by omega
theorem nums_mv2 {t n : Nat} (h : t ≤ n) (h5 : n ≤ 512) : (t + 1) + (n - t) ≤ maxLen ∧ ((t + 1) + (n - t)) * 160 ≤ 140737488355328 ∧ (t + 1) + (n - t) = n + 1 := by
  unfold maxLen; omega
theorem nums_rm {k t n : Nat} (hk : k < n) (ht : t < n) (h5 : n ≤ 512) : (¬ (k : Int) < 0 ∧ ¬ (k : Int) ≥ (n : Nat) ∧ ¬ (t : Int) < 0 ∧ ¬ (t : Int) ≥ (n : Nat)) ∧ t ≤ n - 1 ∧ n - 1 ≤ 512 ∧ t ≤ 512 := by omega
set_option maxRecDepth 100000 in
set_option maxHeartbeats 4000000 in
theorem rmove_yes (W : World) (room nA cA lc : Nat) (aA lo : Option Addr) (X : List Mp) (k t : Nat) (hk : k < X.length) (ht : t < X.length) (h5 : X.length ≤ 512) (hX : MgRow W rmT lo lc X) :
    Calls Try.prog 25 #[rV room aA nA cA lo X.length lc, .int .i64 (k : Nat), .int .i64 (t : Nat)] W (RPutIs W room aA nA cA (moveL X k t hk) true) := by
  have Htk := fun V (hb : Below W.heap.size W V) => rtake_yes V room nA cA lc aA lo X k hk h5 (hX.below hb)
  unfold rV at Htk ⊢
  obtain ⟨⟨n0, n1, n2, n3⟩, tn, hn1, t5⟩ := nums_rm hk ht h5
  obtain ⟨L, hL⟩ : ∃ L, L = moveL X k t hk := ⟨_, rfl⟩
  obtain ⟨x, hx⟩ : ∃ x, x = X[k] := ⟨_, rfl⟩
  obtain ⟨X2, hX2⟩ : ∃ X2, X2 = X.take k ++ X.drop (k + 1) := ⟨_, rfl⟩
  have hL2 : L = X2.take t ++ [x] ++ X2.drop t := by rw [hL, hx, hX2]; rfl
  have hl2 : X2.length = X.length - 1 := by rw [hX2, List.length_append, List.length_take, List.length_drop]; omega
  rw [← hL]
  simp only [← hx, ← hX2] at Htk
  rw [← hl2] at tn hn1
  obtain ⟨W1, hW1⟩ : ∃ W1, W1 = W.alloc (.cells #[.int .i64 (room : Nat), .slice aA nA cA, .slice lo X.length lc] rbT) := ⟨_, rfl⟩
  obtain ⟨W2, hW2⟩ : ∃ W2, W2 = W1.alloc (.cells #[.int .i64 0, .slice none 0 0, .slice none 0 0] rbT) := ⟨_, rfl⟩
  obtain ⟨b1, hb1⟩ : ∃ b, b = W.heap.size := ⟨_, rfl⟩
  obtain ⟨b2, hb2⟩ : ∃ b, b = W.heap.size + 1 := ⟨_, rfl⟩
  have z1 : W1.heap.size = W.heap.size + 1 := by rw [hW1]; simp
  have B1 : Below W.heap.size W W1 := by rw [hW1]; exact below_new _ _
  have B2 : Below W1.heap.size W1 W2 := by rw [hW2]; exact below_new _ _
  have hB2 := below_on B1 B2 (Nat.le_refl _)
  have t1 : W2.heap[b1]? = some (.cells #[.int .i64 (room : Nat), .slice aA nA cA, .slice lo X.length lc] rbT (0, 0)) := by
    rw [B2.block b1 (by omega), hW1, hb1]; exact heap_alloc_new _ _
  have t2 : W2.heap[b2]? = some (.cells #[.int .i64 0, .slice none 0 0, .slice none 0 0] rbT (0, 0)) := by
    rw [hW2, hb2, ← z1]; exact heap_alloc_new _ _
  have Hup : Hid (W.heap.size ≤ b1 ∧ W.heap.size ≤ b2) := ⟨by omega, by omega⟩
  have Hap : Hid (b1 ≠ b2) := (by omega : b1 ≠ b2)
  have HB2 := Lib.hid hB2
  have T1 := Lib.hid t1
  have T2 := Lib.hid t2
  clear z1 B1 B2 hB2 t1 t2
  have p0 := block_cell T1.out 0
  have p1 := block_cell T1.out 1
  have p2 := block_cell T1.out 2
  have l1 := bx_lt T1.out
  simp at p0 p1 p2
  have Htk := Lib.hid (Htk W2 HB2.out)
  have Hn := Lib.hid (And.intro tn (And.intro hn1 t5))
  have HL := Lib.hid hL2
  clear hk ht h5 hX hL hx hX2 hL2 hl2 tn hn1 t5
  go_enter Try.func25, Try.ntmps25
  go_upto_region 1 with fail
  rw [← hW1, ← hW2, ← hb2, ← hb1]
  clear hW1 hW2 hb1 hb2
  go_wp2_with fail
  refine (show Calls _ _ _ _ _ from Htk.out).mono ?_
  rintro e V1 ⟨lo2, lc2, rfl, hr2, hbV1⟩
  unfold rV
  have D1 := Lib.hid (bx_below hbV1 T1.out)
  have D2 := Lib.hid (bx_below hbV1 T2.out)
  have HB1 := Lib.hid (below_on HB2.out hbV1 (Nat.le_refl _))
  have HR2 := Lib.hid hr2
  clear p0 p1 p2 l1 hbV1 hr2
  go_upto_region 4 with (first
    | (refine wpl_alM rfl (.inr rfl) rfl ?_
       intro p8 V2 hp8 hb2a hx8 hz8
       have hd1 := bx_below hb2a D1.out
       have s0 := block_cell hd1 0
       have s1 := block_cell hd1 1
       have s2 := block_cell hd1 2
       have g0 := block_free hd1 0
       have g1 := block_free hd1 1
       have g2 := block_free hd1 2
       have sl := bx_lt hd1
       simp at s0 s1 s2 g0 g1 g2
       have hp8b : p8 ≠ b1 ∧ p8 ≠ b2 := ⟨fun e => Nat.lt_irrefl _ (Nat.lt_of_lt_of_le (bx_lt D1.out) (Nat.le_of_eq (hp8.symm.trans e))), fun e => Nat.lt_irrefl _ (Nat.lt_of_lt_of_le (bx_lt D2.out) (Nat.le_of_eq (hp8.symm.trans e)))⟩
       have hgT := gr_set3 V2 b1 (.int .i64 (room : Nat)) (.slice aA nA cA) (.slice lo2 X2.length lc2)
       have hxT := bx_set3 hd1 (.int .i64 (room : Nat)) (.slice aA nA cA) (.slice lo2 X2.length lc2)
       obtain ⟨U, hU⟩ : ∃ U, U = ((V2.setCell ⟨b1, 0, none⟩ (.int .i64 (room : Nat))).setCell ⟨b1, 1, none⟩ (.slice aA nA cA)).setCell ⟨b1, 2, none⟩ (.slice lo2 X2.length lc2) := ⟨_, rfl⟩
       rw [← hU] at hgT hxT
       have hx8T := (hgT.block p8 (bx_lt hx8) hp8b.1).trans hx8
       have hx2T := (hgT.block b2 (Nat.lt_of_lt_of_le (bx_lt D2.out) hb2a.size) (fun e => Hap.out e.symm)).trans (bx_below hb2a D2.out)
       have HT := Lib.hid (And.intro hxT (And.intro hx2T (And.intro hgT (And.intro hb2a (And.intro hp8b (Nat.le_of_eq hp8.symm))))))
       clear hp8 hb2a hx8 hz8 hd1 hgT hxT hx2T hp8b)
    | (rw [← hU]
       refine wpl_stM rfl (.inr rfl) rfl rfl rfl hx8T rfl ?_
       intro V3 hx3 hg3 hz3
       clear hz3))
  obtain ⟨hxT, hx2T, hgT, hb2a, hp8b, hp8⟩ := HT.out
  have hg3' : Gr (fun i => i = p8) U V3 := Gr.one hg3 (fun i e => (Option.some.inj e).symm)
  have hG13 : Gr (fun i => i = b1) V1 V3 := ((Gr.below hb2a).trans hgT).then hg3' (fun i hi => .inr (by rw [hi]; exact hp8))
  have hd1 := (hg3'.block b1 (bx_lt hxT) (fun e => hp8b.1 e.symm)).trans hxT
  have hd2 := (hg3'.block b2 (bx_lt hx2T) (fun e => hp8b.2 e.symm)).trans hx2T
  have hB3 : Below W.heap.size W V3 := HB1.out.trans (hG13.above HB1.out.size (fun i hi => by rw [hi]; exact Hup.out.1))
  have hr3 : MgRow V3 rmT lo2 lc2 X2 := Rw.gr HR2.out hG13 (fun i hi e => by rw [hi, elem?_of D1.out] at e; exact absurd e (by decide))
  obtain ⟨aL, cL, hrL, hsL⟩ := hr3.hi t Hn.out.1
  obtain ⟨aR, cR, hrR, hsR⟩ := hr3.lo t Hn.out.1
  have Q1 := Lib.hid hd1
  have Q2 := Lib.hid hd2
  have Q3 := Lib.hid hx3
  have HB := Lib.hid hB3
  have HRL := Lib.hid hrL
  have HRR := Lib.hid hrR
  have HS := Lib.hid (And.intro hsL hsR)
  obtain ⟨⟨q1, q2⟩, q3, q4⟩ := nums_put Hn.out.2.2
  have HQ := Lib.hid (And.intro q1 (And.intro q2 (And.intro q3 q4)))
  have Hmv := Lib.hid (nums_mv2 Hn.out.1 Hn.out.2.1)
  clear hxT hx2T hgT hb2a hp8b hp8 hg3' hG13 hd1 hd2 hB3 hr3 hrL hrR hsL hsR q1 q2 q3 q4 hx3 hg3 hU s0 s1 s2 g0 g1 g2 sl hx8T
  obtain ⟨E0, hE0⟩ : ∃ E, E = V3.heap.size := ⟨_, rfl⟩
  have HE0 := Lib.hid hE0
  have Hsk : Hid (∀ U, Below E0 V3 U → U.heap[b1]? = V3.heap[b1]? ∧ U.heap[p8]? = V3.heap[p8]?) := fun U hu => ⟨hu.block b1 (by rw [HE0.out]; exact bx_lt Q1.out), hu.block p8 (by rw [HE0.out]; exact bx_lt Q3.out)⟩
  have HSX : Hid (∀ U, Below E0 V3 U → Sl U 15 aL t cL (mFlat (X2.take t))) := fun U hu => HS.out.1.below (hu.mono (Nat.le_of_eq HE0.out.symm))
  refine wp_region_held_drew (S := fun V => V.heap[b1]? = V3.heap[b1]? ∧ V.heap[p8]? = V3.heap[p8]?) (by kernel_rfl) ⟨rfl, rfl⟩ (fun hHeld => ?_)
  obtain ⟨U0, hU0⟩ : ∃ U0, U0 = V3.drew := ⟨_, rfl⟩
  have hB : Below E0 V3 U0 := by rw [hU0, hE0]; exact (Below.refl _ V3).drew
  have hE : E0 ≤ U0.heap.size := by rw [hU0, hE0]; exact Nat.le_refl _
  rw [← hU0] at hHeld ⊢
  clear hU0 hE0
  refine wpAnyH_take (i := 1) (v := ?_) rfl (by kernel_rfl) (by kernel_rfl) (by kernel_rfl) (fun _ _ _ h => h) (Or.inl ⟨by rfl, ?_⟩) (by assumption) ?_
  rotate_left
  · intro w8 hSw; clear hSw; go_simp; (try with_reducible rfl)
  simp only [Act.put, List.getElem_toArray, List.getElem_cons_zero, List.getElem_cons_succ, List.setIfInBounds_toArray, List.set_cons_zero, List.set_cons_succ]
  refine wpAnyH_take (i := 2) (v := .slice lo2 X2.length lc2) rfl (by kernel_rfl) (by kernel_rfl) (by kernel_rfl) (fun _ _ _ h => h) (Or.inl ⟨by rfl, ?_⟩) (by assumption) ?_
  · intro w8 hSw; exact ld_takeT rfl (ldMs (by rw [World.cell?_of_block (w := V3) hSw.1]; exact block_cell Q1.out 2)) rfl
  simp only [Act.put, List.getElem_toArray, List.getElem_cons_zero, List.getElem_cons_succ, List.setIfInBounds_toArray, List.set_cons_zero, List.set_cons_succ]
  refine wpAnyH_take (i := 3) (v := ?_) rfl (by kernel_rfl) (by kernel_rfl) (by kernel_rfl) (fun _ _ _ h => h) (Or.inl ⟨by rfl, ?_⟩) (by assumption) ?_
  rotate_left
  · intro w8 hSw; clear hSw; go_simp; (try with_reducible rfl)
  simp only [Act.put, List.getElem_toArray, List.getElem_cons_zero, List.getElem_cons_succ, List.setIfInBounds_toArray, List.set_cons_zero, List.set_cons_succ]
  refine wpAnyH_take (i := 4) (v := .slice aL t cL) rfl (by kernel_rfl) (by kernel_rfl) (by kernel_rfl) (fun _ _ _ h => h) (Or.inl ⟨by rfl, ?_⟩) (by assumption) ?_
  · intro w8 hSw; exact sl_hi rfl (HRL.out w8) rfl rfl
  simp only [Act.put, List.getElem_toArray, List.getElem_cons_zero, List.getElem_cons_succ, List.setIfInBounds_toArray, List.set_cons_zero, List.set_cons_succ]
  refine wpAnyH_take (i := 6) (v := .agg (mC x)) rfl (by kernel_rfl) (by kernel_rfl) (by kernel_rfl) (fun _ _ _ h => h) (Or.inl ⟨by rfl, ?_⟩) (by assumption) ?_
  · intro w8 hSw; exact ld_takeT rfl (ld_mbox rmT rmT (.inr rfl) (hSw.2.trans Q3.out)) rfl
  simp only [Act.put, List.getElem_toArray, List.getElem_cons_zero, List.getElem_cons_succ, List.setIfInBounds_toArray, List.set_cons_zero, List.set_cons_succ]
  refine wpAnyH_ready (rs := [0, 7]) (by kernel_rfl) (by simp) ?_
  refine AllReadyH.cons rfl (fun K hK => ?_) (AllReadyH.cons rfl (fun K hK => ?_) AllReadyH.nil)
  · go_simp
    have own0 := own_empty U0 E0 rmT 15 hE
    have hBx := below_on hB (below_new U0 (.cells #[] rmT)) (Nat.le_of_eq HE0.out)
    have hEx : E0 ≤ (U0.alloc (.cells #[] rmT)).heap.size := Nat.le_trans hE (below_new U0 (.cells #[] rmT)).size
    obtain ⟨Z12, hX⟩ : ∃ X, X = U0.alloc (.cells #[] rmT) := ⟨_, rfl⟩
    obtain ⟨g0, hg0⟩ : ∃ g, g = U0.heap.size := ⟨_, rfl⟩
    rw [← hX] at own0 hBx hEx ⊢
    rw [← hg0] at own0 ⊢
    clear hX hg0 hB hE
    have hB := hBx
    have hE := hEx
    clear hBx hEx
    refine hK.out _ _ (Hsk.out _ hB) (fun hHeld => ?_)
    clear hK K
    try simp only [Act.put, List.getElem_toArray, List.getElem_cons_zero, List.getElem_cons_succ, List.setIfInBounds_toArray, List.set_cons_zero, List.set_cons_succ]
    refine wpAnyH_ready (rs := [5, 7]) (by kernel_rfl) (by simp) ?_
    refine AllReadyH.cons rfl (fun K hK => ?_) (AllReadyH.cons rfl (fun K hK => ?_) AllReadyH.nil)
    · refine wpo_append_lie (.tmp 39) (.tmp 43) rmsT rfl E0 rmT infoRm Try.underlying28 rfl (by decide) _ 0 [] rfl own0 _ _ _ _ rfl (HSX.out _ hB) (mRows_one _) HQ.out.1 HQ.out.2.1 hE fun a2 c2 Z13 own2 hgr hat => ?_
      rw [Nat.zero_add, List.nil_append] at own2
      rw [Nat.zero_add]
      have hBx := below_app hB hgr own0 (Nat.le_refl _) hE
      have hEx : E0 ≤ Z13.heap.size := Nat.le_trans hE hgr.size
      clear hgr hat own0 hB hE
      have hB := hBx
      have hE := hEx
      clear hBx hEx
      refine hK.out _ _ (Hsk.out _ hB) (fun hHeld => ?_)
      clear hK K
      try simp only [Act.put, List.getElem_toArray, List.getElem_cons_zero, List.getElem_cons_succ, List.setIfInBounds_toArray, List.set_cons_zero, List.set_cons_succ]
      refine wpAnyH_ready (rs := [7]) (by kernel_rfl) (by simp) ?_
      refine AllReadyH.cons rfl (fun K hK => ?_) AllReadyH.nil
      refine wpo_bsM (.inr rfl) Try.underlying28 rfl rfl ?_
      have own1 := own_msg1 Z13 E0 x hE
      have hBx := below_on hB (below_new Z13 (.cells (mC x) rmT)) (Nat.le_of_eq HE0.out)
      have hEx : E0 ≤ (Z13.alloc (.cells (mC x) rmT)).heap.size := Nat.le_trans hE (below_new Z13 (.cells (mC x) rmT)).size
      have own2n := World.ownsRow.alloc own2 (.cells (mC x) rmT)
      obtain ⟨Z14, hX⟩ : ∃ X, X = Z13.alloc (.cells (mC x) rmT) := ⟨_, rfl⟩
      obtain ⟨g1, hg1⟩ : ∃ g, g = Z13.heap.size := ⟨_, rfl⟩
      rw [← hX] at own1 hBx hEx own2n ⊢
      rw [← hg1] at own1 ⊢
      clear hX hg1 hB hE own2
      have own2 := own2n
      clear own2n
      have hB := hBx
      have hE := hEx
      clear hBx hEx
      refine hK.out _ _ (Hsk.out _ hB) (fun hHeld => ?_)
      clear hK K
      try simp only [Act.put, List.getElem_toArray, List.getElem_cons_zero, List.getElem_cons_succ, List.setIfInBounds_toArray, List.set_cons_zero, List.set_cons_succ]
      refine wpAnyH_ready (rs := [8]) (by kernel_rfl) (by simp) ?_
      refine AllReadyH.cons rfl (fun K hK => ?_) AllReadyH.nil
      refine wpo_append_lie (.tmp 44) (.tmp 46) rmsT rfl E0 rmT infoRm Try.underlying28 rfl (by decide) _ t _ rfl own2 _ 1 1 _ rfl (Sl.of_own own1) (mRows_one _) HQ.out.2.2.1 HQ.out.2.2.2 hE fun a3 c3 Z15 own3 hgr hat => ?_
      rw [← mFlat_two] at own3
      have hBx := below_app hB hgr own2 (Nat.le_refl _) hE
      have hEx : E0 ≤ Z15.heap.size := Nat.le_trans hE hgr.size
      clear hgr hat own1 own2 hB hE
      have hB := hBx
      have hE := hEx
      clear hBx hEx
      refine hK.out _ _ (Hsk.out _ hB) (fun hHeld => ?_)
      clear hK K
      try simp only [Act.put, List.getElem_toArray, List.getElem_cons_zero, List.getElem_cons_succ, List.setIfInBounds_toArray, List.set_cons_zero, List.set_cons_succ]
      refine wpAnyH_take (i := 9) (v := ?_) rfl (by kernel_rfl) (by kernel_rfl) (by kernel_rfl) (fun _ _ _ h => h) (Or.inl ⟨by rfl, ?_⟩) (by assumption) ?_
      rotate_left
      · intro w8 hSw; clear hSw; go_simp; (try with_reducible rfl)
      simp only [Act.put, List.getElem_toArray, List.getElem_cons_zero, List.getElem_cons_succ, List.setIfInBounds_toArray, List.set_cons_zero, List.set_cons_succ]
      refine wpAnyH_done (by kernel_rfl) ?_ _
      have hx1 := hHeld.1.trans Q1.out
      have y0 := block_cell hx1 0
      have y1 := block_cell hx1 1
      have y2 := block_cell hx1 2
      have f2 := block_free hx1 2
      have lx := bx_lt hx1
      simp at y0 y1 y2 f2
      have hrr := HRR.out
      have hslR : Sl Z15 15 aR (X2.length - t) cR (mFlat (X2.drop t)) := HS.out.2.below (hB.mono (Nat.le_of_eq HE0.out.symm))
      go_upto_region 6 with (at_builtin; refine wpl_append_lie rfl (.tmp 48) (.tmp 52) rmsT rfl E0 rmT infoRm Try.underlying28 rfl (by decide) _ (t + 1) _ rfl own3 _ _ _ _ rfl hslR (mRows_one _) Hmv.out.1 Hmv.out.2.1 hE ?_; intro a4 c4 Y1 own4 hgr4 hat4; have hBy := below_app hB hgr4 own3 (Nat.le_refl _) hE; have hx1y := ((Hsk.out _ hBy).1).trans Q1.out; have z0 := block_cell hx1y 0; have z1 := block_cell hx1y 1; have z2 := block_cell hx1y 2; have h2 := block_free hx1y 2; have lz := bx_lt hx1y; simp at z0 z1 z2 h2; rw [← mFlat_two, ← HL.out] at own4; clear y0 y1 y2 f2 lx hx1 hrr hslR hgr4 hat4 own3 hB hE)
      obtain ⟨V5, hV5⟩ : ∃ V, V = Y1.setCell ⟨b1, 2, none⟩ (.slice a4 (t + 1 + (X2.length - t)) c4) := ⟨_, rfl⟩
      have hx5 : V5.heap[b1]? = some (.cells #[.int .i64 (room : Nat), .slice aA nA cA, .slice a4 (t + 1 + (X2.length - t)) c4] rbT (0, 0)) := by rw [hV5]; exact block_set hx1y 2 _
      have hD2 : V5.heap[b2]? = some (.cells #[.int .i64 0, .slice none 0 0, .slice none 0 0] rbT (0, 0)) := by
        rw [hV5]
        exact (heap_setCell_other Y1 ⟨b1, 2, none⟩ b2 _ (fun e => Hap.out e.symm)).trans ((hBy.block b2 (by rw [HE0.out]; exact bx_lt Q2.out)).trans Q2.out)
      have hB5 : Below W.heap.size W V5 := by
        have h1 : Below W.heap.size W Y1 := HB.out.trans (hBy.mono (by rw [HE0.out]; exact HB.out.size))
        rw [hV5]; exact sets_up h1 Hup.out.1 2 _
      have ho5 : V5.ownsRow E0 rmT 15 (.slice a4 (t + 1 + (X2.length - t)) c4) (t + 1 + (X2.length - t)) (mFlat L) := by
        rw [hV5]
        exact own_gr own4 (Gr.one (F := fun i => i = b1) (grown_set Y1 b1 2 _) (fun i e => (Option.some.inj e).symm)) (fun g hg e => by
          subst e
          exact Nat.lt_irrefl _ (Nat.lt_of_lt_of_le (by rw [HE0.out]; exact bx_lt Q1.out) (own4.lt g hg).1))
      rw [← hV5]
      clear hV5 own4 hBy hx1y z0 z1 z2 h2 lz
      have p0 := block_cell hx5 0
      have p1 := block_cell hx5 1
      have p2 := block_cell hx5 2
      have pl1 := bx_lt hx5
      have c0 := block_cell hD2 0
      have c1 := block_cell hD2 1
      have c2' := block_cell hD2 2
      have f0 := block_free hD2 0
      have f1 := block_free hD2 1
      have f2 := block_free hD2 2
      have l2 := bx_lt hD2
      simp at p0 p1 p2 c0 c1 c2' f0 f1 f2
      have u5 := bx_set3 hD2 (.int .i64 (room : Nat)) (.slice aA nA cA) (.slice a4 (t + 1 + (X2.length - t)) c4)
      have hg5 := gr_set3 V5 b2 (.int .i64 (room : Nat)) (.slice aA nA cA) (.slice a4 (t + 1 + (X2.length - t)) c4)
      obtain ⟨U5, hU5⟩ : ∃ U, U = ((V5.setCell ⟨b2, 0, none⟩ (.int .i64 (room : Nat))).setCell ⟨b2, 1, none⟩ (.slice aA nA cA)).setCell ⟨b2, 2, none⟩ (.slice a4 (t + 1 + (X2.length - t)) c4) := ⟨_, rfl⟩
      rw [← hU5] at u5 hg5
      have hfin : RPutIs W room aA nA cA L true (.returned (.tuple #[.agg #[.int .i64 (room : Nat), .slice aA nA cA, .slice a4 (t + 1 + (X2.length - t)) c4], .bool true])) U5 := by
        have hln : L.length = t + 1 + (X2.length - t) := by
          have h := ho5.1
          rw [mFlat_len] at h
          exact len15 h
        have ho6 := own_gr ho5 hg5 (fun g hg e => by
          subst e
          exact Nat.lt_irrefl _ (Nat.lt_of_lt_of_le (by rw [HE0.out]; exact bx_lt Q2.out) (ho5.lt g hg).1))
        exact ⟨a4, c4, by rw [hln]; rfl, MgRow.of_own (base := E0) (by rw [hln]; exact ho6), hB5.trans (hg5.above hB5.size (fun i hi => by rw [hi]; exact Hup.out.2))⟩
      have Hfin := Lib.hid hfin
      have HU5 := Lib.hid u5
      have HU5e := Lib.hid hU5
      clear hfin u5 hg5 hU5 hx5 hD2 hB5 ho5
      go_wp2_with fail
      rw [← HU5e.out]
      exact bodyPost_ret (v := .tuple #[.agg #[.int .i64 (room : Nat), .slice aA nA cA, .slice a4 (t + 1 + (X2.length - t)) c4], .bool true]) (results_2 Try.results25 rfl rfl (lvRb HU5.out)) rfl Hfin.out
    · refine wpo_bsM (.inr rfl) Try.underlying28 rfl rfl ?_
      have own1 := own_msg1 Z12 E0 x hE
      have hBx := below_on hB (below_new Z12 (.cells (mC x) rmT)) (Nat.le_of_eq HE0.out)
      have hEx : E0 ≤ (Z12.alloc (.cells (mC x) rmT)).heap.size := Nat.le_trans hE (below_new Z12 (.cells (mC x) rmT)).size
      have own0n := World.ownsRow.alloc own0 (.cells (mC x) rmT)
      have hap : g0 ≠ Z12.heap.size := fun e => Nat.lt_irrefl _ (Nat.lt_of_lt_of_le (own0.lt g0 rfl).2 (Nat.le_of_eq e.symm))
      obtain ⟨Z16, hX⟩ : ∃ X, X = Z12.alloc (.cells (mC x) rmT) := ⟨_, rfl⟩
      obtain ⟨g1, hg1⟩ : ∃ g, g = Z12.heap.size := ⟨_, rfl⟩
      rw [← hX] at own1 hBx hEx own0n ⊢
      rw [← hg1] at own1 hap ⊢
      clear hX hg1 hB hE own0
      have own0 := own0n
      clear own0n
      have hB := hBx
      have hE := hEx
      clear hBx hEx
      refine hK.out _ _ (Hsk.out _ hB) (fun hHeld => ?_)
      clear hK K
      try simp only [Act.put, List.getElem_toArray, List.getElem_cons_zero, List.getElem_cons_succ, List.setIfInBounds_toArray, List.set_cons_zero, List.set_cons_succ]
      refine wpAnyH_ready (rs := [5]) (by kernel_rfl) (by simp) ?_
      refine AllReadyH.cons rfl (fun K hK => ?_) AllReadyH.nil
      refine wpo_append_lie (.tmp 39) (.tmp 43) rmsT rfl E0 rmT infoRm Try.underlying28 rfl (by decide) _ 0 [] rfl own0 _ _ _ _ rfl (HSX.out _ hB) (mRows_one _) HQ.out.1 HQ.out.2.1 hE fun a2 c2 Z17 own2 hgr hat => ?_
      rw [Nat.zero_add, List.nil_append] at own2
      rw [Nat.zero_add]
      have hBx := below_app hB hgr own0 (Nat.le_refl _) hE
      have hEx : E0 ≤ Z17.heap.size := Nat.le_trans hE hgr.size
      have own1n := own1.kept hgr (.inr (by intro e; exact hap (Option.some.inj e).symm))
      clear hgr hat own0 hB hE own1 hap
      have own1 := own1n
      clear own1n
      have hB := hBx
      have hE := hEx
      clear hBx hEx
      refine hK.out _ _ (Hsk.out _ hB) (fun hHeld => ?_)
      clear hK K
      try simp only [Act.put, List.getElem_toArray, List.getElem_cons_zero, List.getElem_cons_succ, List.setIfInBounds_toArray, List.set_cons_zero, List.set_cons_succ]
      refine wpAnyH_ready (rs := [8]) (by kernel_rfl) (by simp) ?_
      refine AllReadyH.cons rfl (fun K hK => ?_) AllReadyH.nil
      refine wpo_append_lie (.tmp 44) (.tmp 46) rmsT rfl E0 rmT infoRm Try.underlying28 rfl (by decide) _ t _ rfl own2 _ 1 1 _ rfl (Sl.of_own own1) (mRows_one _) HQ.out.2.2.1 HQ.out.2.2.2 hE fun a3 c3 Z18 own3 hgr hat => ?_
      rw [← mFlat_two] at own3
      have hBx := below_app hB hgr own2 (Nat.le_refl _) hE
      have hEx : E0 ≤ Z18.heap.size := Nat.le_trans hE hgr.size
      clear hgr hat own1 own2 hB hE
      have hB := hBx
      have hE := hEx
      clear hBx hEx
      refine hK.out _ _ (Hsk.out _ hB) (fun hHeld => ?_)
      clear hK K
      try simp only [Act.put, List.getElem_toArray, List.getElem_cons_zero, List.getElem_cons_succ, List.setIfInBounds_toArray, List.set_cons_zero, List.set_cons_succ]
      refine wpAnyH_take (i := 9) (v := ?_) rfl (by kernel_rfl) (by kernel_rfl) (by kernel_rfl) (fun _ _ _ h => h) (Or.inl ⟨by rfl, ?_⟩) (by assumption) ?_
      rotate_left
      · intro w8 hSw; clear hSw; go_simp; (try with_reducible rfl)
      simp only [Act.put, List.getElem_toArray, List.getElem_cons_zero, List.getElem_cons_succ, List.setIfInBounds_toArray, List.set_cons_zero, List.set_cons_succ]
      refine wpAnyH_done (by kernel_rfl) ?_ _
      have hx1 := hHeld.1.trans Q1.out
      have y0 := block_cell hx1 0
      have y1 := block_cell hx1 1
      have y2 := block_cell hx1 2
      have f2 := block_free hx1 2
      have lx := bx_lt hx1
      simp at y0 y1 y2 f2
      have hrr := HRR.out
      have hslR : Sl Z18 15 aR (X2.length - t) cR (mFlat (X2.drop t)) := HS.out.2.below (hB.mono (Nat.le_of_eq HE0.out.symm))
      go_upto_region 6 with (at_builtin; refine wpl_append_lie rfl (.tmp 48) (.tmp 52) rmsT rfl E0 rmT infoRm Try.underlying28 rfl (by decide) _ (t + 1) _ rfl own3 _ _ _ _ rfl hslR (mRows_one _) Hmv.out.1 Hmv.out.2.1 hE ?_; intro a4 c4 Y1 own4 hgr4 hat4; have hBy := below_app hB hgr4 own3 (Nat.le_refl _) hE; have hx1y := ((Hsk.out _ hBy).1).trans Q1.out; have z0 := block_cell hx1y 0; have z1 := block_cell hx1y 1; have z2 := block_cell hx1y 2; have h2 := block_free hx1y 2; have lz := bx_lt hx1y; simp at z0 z1 z2 h2; rw [← mFlat_two, ← HL.out] at own4; clear y0 y1 y2 f2 lx hx1 hrr hslR hgr4 hat4 own3 hB hE)
      obtain ⟨V5, hV5⟩ : ∃ V, V = Y1.setCell ⟨b1, 2, none⟩ (.slice a4 (t + 1 + (X2.length - t)) c4) := ⟨_, rfl⟩
      have hx5 : V5.heap[b1]? = some (.cells #[.int .i64 (room : Nat), .slice aA nA cA, .slice a4 (t + 1 + (X2.length - t)) c4] rbT (0, 0)) := by rw [hV5]; exact block_set hx1y 2 _
      have hD2 : V5.heap[b2]? = some (.cells #[.int .i64 0, .slice none 0 0, .slice none 0 0] rbT (0, 0)) := by
        rw [hV5]
        exact (heap_setCell_other Y1 ⟨b1, 2, none⟩ b2 _ (fun e => Hap.out e.symm)).trans ((hBy.block b2 (by rw [HE0.out]; exact bx_lt Q2.out)).trans Q2.out)
      have hB5 : Below W.heap.size W V5 := by
        have h1 : Below W.heap.size W Y1 := HB.out.trans (hBy.mono (by rw [HE0.out]; exact HB.out.size))
        rw [hV5]; exact sets_up h1 Hup.out.1 2 _
      have ho5 : V5.ownsRow E0 rmT 15 (.slice a4 (t + 1 + (X2.length - t)) c4) (t + 1 + (X2.length - t)) (mFlat L) := by
        rw [hV5]
        exact own_gr own4 (Gr.one (F := fun i => i = b1) (grown_set Y1 b1 2 _) (fun i e => (Option.some.inj e).symm)) (fun g hg e => by
          subst e
          exact Nat.lt_irrefl _ (Nat.lt_of_lt_of_le (by rw [HE0.out]; exact bx_lt Q1.out) (own4.lt g hg).1))
      rw [← hV5]
      clear hV5 own4 hBy hx1y z0 z1 z2 h2 lz
      have p0 := block_cell hx5 0
      have p1 := block_cell hx5 1
      have p2 := block_cell hx5 2
      have pl1 := bx_lt hx5
      have c0 := block_cell hD2 0
      have c1 := block_cell hD2 1
      have c2' := block_cell hD2 2
      have f0 := block_free hD2 0
      have f1 := block_free hD2 1
      have f2 := block_free hD2 2
      have l2 := bx_lt hD2
      simp at p0 p1 p2 c0 c1 c2' f0 f1 f2
      have u5 := bx_set3 hD2 (.int .i64 (room : Nat)) (.slice aA nA cA) (.slice a4 (t + 1 + (X2.length - t)) c4)
      have hg5 := gr_set3 V5 b2 (.int .i64 (room : Nat)) (.slice aA nA cA) (.slice a4 (t + 1 + (X2.length - t)) c4)
      obtain ⟨U5, hU5⟩ : ∃ U, U = ((V5.setCell ⟨b2, 0, none⟩ (.int .i64 (room : Nat))).setCell ⟨b2, 1, none⟩ (.slice aA nA cA)).setCell ⟨b2, 2, none⟩ (.slice a4 (t + 1 + (X2.length - t)) c4) := ⟨_, rfl⟩
      rw [← hU5] at u5 hg5
      have hfin : RPutIs W room aA nA cA L true (.returned (.tuple #[.agg #[.int .i64 (room : Nat), .slice aA nA cA, .slice a4 (t + 1 + (X2.length - t)) c4], .bool true])) U5 := by
        have hln : L.length = t + 1 + (X2.length - t) := by
          have h := ho5.1
          rw [mFlat_len] at h
          exact len15 h
        have ho6 := own_gr ho5 hg5 (fun g hg e => by
          subst e
          exact Nat.lt_irrefl _ (Nat.lt_of_lt_of_le (by rw [HE0.out]; exact bx_lt Q2.out) (ho5.lt g hg).1))
        exact ⟨a4, c4, by rw [hln]; rfl, MgRow.of_own (base := E0) (by rw [hln]; exact ho6), hB5.trans (hg5.above hB5.size (fun i hi => by rw [hi]; exact Hup.out.2))⟩
      have Hfin := Lib.hid hfin
      have HU5 := Lib.hid u5
      have HU5e := Lib.hid hU5
      clear hfin u5 hg5 hU5 hx5 hD2 hB5 ho5
      go_wp2_with fail
      rw [← HU5e.out]
      exact bodyPost_ret (v := .tuple #[.agg #[.int .i64 (room : Nat), .slice aA nA cA, .slice a4 (t + 1 + (X2.length - t)) c4], .bool true]) (results_2 Try.results25 rfl rfl (lvRb HU5.out)) rfl Hfin.out
  · refine wpo_bsM (.inr rfl) Try.underlying28 rfl rfl ?_
    have own1 := own_msg1 U0 E0 x hE
    have hBx := below_on hB (below_new U0 (.cells (mC x) rmT)) (Nat.le_of_eq HE0.out)
    have hEx : E0 ≤ (U0.alloc (.cells (mC x) rmT)).heap.size := Nat.le_trans hE (below_new U0 (.cells (mC x) rmT)).size
    obtain ⟨Z19, hX⟩ : ∃ X, X = U0.alloc (.cells (mC x) rmT) := ⟨_, rfl⟩
    obtain ⟨g1, hg1⟩ : ∃ g, g = U0.heap.size := ⟨_, rfl⟩
    rw [← hX] at own1 hBx hEx  ⊢
    rw [← hg1] at own1 ⊢
    clear hX hg1 hB hE 
    have hB := hBx
    have hE := hEx
    clear hBx hEx
    refine hK.out _ _ (Hsk.out _ hB) (fun hHeld => ?_)
    clear hK K
    try simp only [Act.put, List.getElem_toArray, List.getElem_cons_zero, List.getElem_cons_succ, List.setIfInBounds_toArray, List.set_cons_zero, List.set_cons_succ]
    refine wpAnyH_ready (rs := [0]) (by kernel_rfl) (by simp) ?_
    refine AllReadyH.cons rfl (fun K hK => ?_) AllReadyH.nil
    go_simp
    have own0 := own_empty Z19 E0 rmT 15 hE
    have hBx := below_on hB (below_new Z19 (.cells #[] rmT)) (Nat.le_of_eq HE0.out)
    have hEx : E0 ≤ (Z19.alloc (.cells #[] rmT)).heap.size := Nat.le_trans hE (below_new Z19 (.cells #[] rmT)).size
    have own1n := World.ownsRow.alloc own1 (.cells #[] rmT)
    have hap : Z19.heap.size ≠ g1 := fun e => Nat.lt_irrefl _ (Nat.lt_of_lt_of_le (own1.lt g1 rfl).2 (Nat.le_of_eq e))
    obtain ⟨Z20, hX⟩ : ∃ X, X = Z19.alloc (.cells #[] rmT) := ⟨_, rfl⟩
    obtain ⟨g0, hg0⟩ : ∃ g, g = Z19.heap.size := ⟨_, rfl⟩
    rw [← hX] at own0 hBx hEx own1n ⊢
    rw [← hg0] at own0 hap ⊢
    clear hX hg0 hB hE own1
    have own1 := own1n
    clear own1n
    have hB := hBx
    have hE := hEx
    clear hBx hEx
    refine hK.out _ _ (Hsk.out _ hB) (fun hHeld => ?_)
    clear hK K
    try simp only [Act.put, List.getElem_toArray, List.getElem_cons_zero, List.getElem_cons_succ, List.setIfInBounds_toArray, List.set_cons_zero, List.set_cons_succ]
    refine wpAnyH_ready (rs := [5]) (by kernel_rfl) (by simp) ?_
    refine AllReadyH.cons rfl (fun K hK => ?_) AllReadyH.nil
    refine wpo_append_lie (.tmp 39) (.tmp 43) rmsT rfl E0 rmT infoRm Try.underlying28 rfl (by decide) _ 0 [] rfl own0 _ _ _ _ rfl (HSX.out _ hB) (mRows_one _) HQ.out.1 HQ.out.2.1 hE fun a2 c2 Z21 own2 hgr hat => ?_
    rw [Nat.zero_add, List.nil_append] at own2
    rw [Nat.zero_add]
    have hBx := below_app hB hgr own0 (Nat.le_refl _) hE
    have hEx : E0 ≤ Z21.heap.size := Nat.le_trans hE hgr.size
    have own1n := own1.kept hgr (.inr (by intro e; exact hap (Option.some.inj e).symm))
    clear hgr hat own0 hB hE own1 hap
    have own1 := own1n
    clear own1n
    have hB := hBx
    have hE := hEx
    clear hBx hEx
    refine hK.out _ _ (Hsk.out _ hB) (fun hHeld => ?_)
    clear hK K
    try simp only [Act.put, List.getElem_toArray, List.getElem_cons_zero, List.getElem_cons_succ, List.setIfInBounds_toArray, List.set_cons_zero, List.set_cons_succ]
    refine wpAnyH_ready (rs := [8]) (by kernel_rfl) (by simp) ?_
    refine AllReadyH.cons rfl (fun K hK => ?_) AllReadyH.nil
    refine wpo_append_lie (.tmp 44) (.tmp 46) rmsT rfl E0 rmT infoRm Try.underlying28 rfl (by decide) _ t _ rfl own2 _ 1 1 _ rfl (Sl.of_own own1) (mRows_one _) HQ.out.2.2.1 HQ.out.2.2.2 hE fun a3 c3 Z22 own3 hgr hat => ?_
    rw [← mFlat_two] at own3
    have hBx := below_app hB hgr own2 (Nat.le_refl _) hE
    have hEx : E0 ≤ Z22.heap.size := Nat.le_trans hE hgr.size
    clear hgr hat own1 own2 hB hE
    have hB := hBx
    have hE := hEx
    clear hBx hEx
    refine hK.out _ _ (Hsk.out _ hB) (fun hHeld => ?_)
    clear hK K
    try simp only [Act.put, List.getElem_toArray, List.getElem_cons_zero, List.getElem_cons_succ, List.setIfInBounds_toArray, List.set_cons_zero, List.set_cons_succ]
    refine wpAnyH_take (i := 9) (v := ?_) rfl (by kernel_rfl) (by kernel_rfl) (by kernel_rfl) (fun _ _ _ h => h) (Or.inl ⟨by rfl, ?_⟩) (by assumption) ?_
    rotate_left
    · intro w8 hSw; clear hSw; go_simp; (try with_reducible rfl)
    simp only [Act.put, List.getElem_toArray, List.getElem_cons_zero, List.getElem_cons_succ, List.setIfInBounds_toArray, List.set_cons_zero, List.set_cons_succ]
    refine wpAnyH_done (by kernel_rfl) ?_ _
    have hx1 := hHeld.1.trans Q1.out
    have y0 := block_cell hx1 0
    have y1 := block_cell hx1 1
    have y2 := block_cell hx1 2
    have f2 := block_free hx1 2
    have lx := bx_lt hx1
    simp at y0 y1 y2 f2
    have hrr := HRR.out
    have hslR : Sl Z22 15 aR (X2.length - t) cR (mFlat (X2.drop t)) := HS.out.2.below (hB.mono (Nat.le_of_eq HE0.out.symm))
    go_upto_region 6 with (at_builtin; refine wpl_append_lie rfl (.tmp 48) (.tmp 52) rmsT rfl E0 rmT infoRm Try.underlying28 rfl (by decide) _ (t + 1) _ rfl own3 _ _ _ _ rfl hslR (mRows_one _) Hmv.out.1 Hmv.out.2.1 hE ?_; intro a4 c4 Y1 own4 hgr4 hat4; have hBy := below_app hB hgr4 own3 (Nat.le_refl _) hE; have hx1y := ((Hsk.out _ hBy).1).trans Q1.out; have z0 := block_cell hx1y 0; have z1 := block_cell hx1y 1; have z2 := block_cell hx1y 2; have h2 := block_free hx1y 2; have lz := bx_lt hx1y; simp at z0 z1 z2 h2; rw [← mFlat_two, ← HL.out] at own4; clear y0 y1 y2 f2 lx hx1 hrr hslR hgr4 hat4 own3 hB hE)
    obtain ⟨V5, hV5⟩ : ∃ V, V = Y1.setCell ⟨b1, 2, none⟩ (.slice a4 (t + 1 + (X2.length - t)) c4) := ⟨_, rfl⟩
    have hx5 : V5.heap[b1]? = some (.cells #[.int .i64 (room : Nat), .slice aA nA cA, .slice a4 (t + 1 + (X2.length - t)) c4] rbT (0, 0)) := by rw [hV5]; exact block_set hx1y 2 _
    have hD2 : V5.heap[b2]? = some (.cells #[.int .i64 0, .slice none 0 0, .slice none 0 0] rbT (0, 0)) := by
      rw [hV5]
      exact (heap_setCell_other Y1 ⟨b1, 2, none⟩ b2 _ (fun e => Hap.out e.symm)).trans ((hBy.block b2 (by rw [HE0.out]; exact bx_lt Q2.out)).trans Q2.out)
    have hB5 : Below W.heap.size W V5 := by
      have h1 : Below W.heap.size W Y1 := HB.out.trans (hBy.mono (by rw [HE0.out]; exact HB.out.size))
      rw [hV5]; exact sets_up h1 Hup.out.1 2 _
    have ho5 : V5.ownsRow E0 rmT 15 (.slice a4 (t + 1 + (X2.length - t)) c4) (t + 1 + (X2.length - t)) (mFlat L) := by
      rw [hV5]
      exact own_gr own4 (Gr.one (F := fun i => i = b1) (grown_set Y1 b1 2 _) (fun i e => (Option.some.inj e).symm)) (fun g hg e => by
        subst e
        exact Nat.lt_irrefl _ (Nat.lt_of_lt_of_le (by rw [HE0.out]; exact bx_lt Q1.out) (own4.lt g hg).1))
    rw [← hV5]
    clear hV5 own4 hBy hx1y z0 z1 z2 h2 lz
    have p0 := block_cell hx5 0
    have p1 := block_cell hx5 1
    have p2 := block_cell hx5 2
    have pl1 := bx_lt hx5
    have c0 := block_cell hD2 0
    have c1 := block_cell hD2 1
    have c2' := block_cell hD2 2
    have f0 := block_free hD2 0
    have f1 := block_free hD2 1
    have f2 := block_free hD2 2
    have l2 := bx_lt hD2
    simp at p0 p1 p2 c0 c1 c2' f0 f1 f2
    have u5 := bx_set3 hD2 (.int .i64 (room : Nat)) (.slice aA nA cA) (.slice a4 (t + 1 + (X2.length - t)) c4)
    have hg5 := gr_set3 V5 b2 (.int .i64 (room : Nat)) (.slice aA nA cA) (.slice a4 (t + 1 + (X2.length - t)) c4)
    obtain ⟨U5, hU5⟩ : ∃ U, U = ((V5.setCell ⟨b2, 0, none⟩ (.int .i64 (room : Nat))).setCell ⟨b2, 1, none⟩ (.slice aA nA cA)).setCell ⟨b2, 2, none⟩ (.slice a4 (t + 1 + (X2.length - t)) c4) := ⟨_, rfl⟩
    rw [← hU5] at u5 hg5
    have hfin : RPutIs W room aA nA cA L true (.returned (.tuple #[.agg #[.int .i64 (room : Nat), .slice aA nA cA, .slice a4 (t + 1 + (X2.length - t)) c4], .bool true])) U5 := by
      have hln : L.length = t + 1 + (X2.length - t) := by
        have h := ho5.1
        rw [mFlat_len] at h
        exact len15 h
      have ho6 := own_gr ho5 hg5 (fun g hg e => by
        subst e
        exact Nat.lt_irrefl _ (Nat.lt_of_lt_of_le (by rw [HE0.out]; exact bx_lt Q2.out) (ho5.lt g hg).1))
      exact ⟨a4, c4, by rw [hln]; rfl, MgRow.of_own (base := E0) (by rw [hln]; exact ho6), hB5.trans (hg5.above hB5.size (fun i hi => by rw [hi]; exact Hup.out.2))⟩
    have Hfin := Lib.hid hfin
    have HU5 := Lib.hid u5
    have HU5e := Lib.hid hU5
    clear hfin u5 hg5 hU5 hx5 hD2 hB5 ho5
    go_wp2_with fail
    rw [← HU5e.out]
    exact bodyPost_ret (v := .tuple #[.agg #[.int .i64 (room : Nat), .slice aA nA cA, .slice a4 (t + 1 + (X2.length - t)) c4], .bool true]) (results_2 Try.results25 rfl rfl (lvRb HU5.out)) rfl Hfin.out
end Go.Proofs.Ytbmkgcoolofmpaa
