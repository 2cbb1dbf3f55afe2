/- Lemmas for BagApart (Bp). No statement of the seat is proved here. -/
import Derived.Great.Walk
import Derived.Test.YtbmkgcoolofmpaaA20
import Derived.Test.YtbmkgcoolofmpaaA21
import Derived.Test.YtbmkgcoolofmpaaA22
namespace Go.Proofs.Ytbmkgcoolofmpaa
set_option linter.unusedVariables false
set_option linter.unusedSimpArgs false
set_option linter.unusedSectionVars false
open Go Go.RowKit Go.Maps Go.Shelf
abbrev rbT : TypeId := 30
abbrev rmsT : TypeId := 28
abbrev mFlat (X : List Mp) : List Value := (X.map mRow).flatten
theorem mFlat_len (X : List Mp) : (mFlat X).length = X.length * 15 := by
  induction X with
  | nil => rfl
  | cons x X ih => simp only [mFlat, List.map_cons, List.flatten_cons, List.length_append, List.length_cons] at ih ⊢; rw [ih, mRow_len]; omega
theorem mFlat_two (a b : List Mp) : mFlat (a ++ b) = mFlat a ++ mFlat b := by simp [mFlat]
theorem MgRow.of_own {W : World} {base cap : Nat} {ao : Option Addr} {X : List Mp} (h : W.ownsRow base rmT 15 (.slice ao X.length cap) X.length (mFlat X)) : MgRow W rmT ao cap X :=
  Rw.of_own h (by simp) (fun r hr => by obtain ⟨x, _, rfl⟩ := List.mem_map.1 hr; rfl)
theorem MgRow.below {W W' : World} {E : TypeId} {ao : Option Addr} {cap : Nat} {X : List Mp} (h : MgRow W E ao cap X) (hb : Below W.heap.size W W') : MgRow W' E ao cap X := Rw.below h hb
/-- the reference's bag as a value -/
def rV (room : Nat) (aA : Option Addr) (nA cA : Nat) (lo : Option Addr) (n lc : Nat) : Value := .agg #[.int .i64 (room : Nat), .slice aA nA cA, .slice lo n lc]
theorem ldRb {W : World} {b : Nat} {u0 u1 u2 : Value} (h : W.heap[b]? = some (.cells #[u0, u1, u2] rbT (0, 0))) : (Instr.loadAt rbT (.pointer (some ⟨b, 0, none⟩))).run Try.prog W = .ok (.agg #[u0, u1, u2]) W := by
  have p0 := block_cell h 0
  have p1 := block_cell h 1
  have p2 := block_cell h 2
  simp at p0 p1 p2
  go_simp
theorem lvRb {W : World} {b : Nat} {u0 u1 u2 : Value} (h : W.heap[b]? = some (.cells #[u0, u1, u2] rbT (0, 0))) : (loadVar rbT ⟨b, 0, none⟩).run Try.prog W = .ok (.agg #[u0, u1, u2]) W := by
  have := ldRb h
  simpa [Instr.loadAt, Instr.sureAddr] using this
theorem ldIs {W : World} {b o : Nat} {ao : Option Addr} {n cap : Nat} (h : W.cell? ⟨b, o, none⟩ = some (.slice ao n cap)) : (Instr.loadAt 27 (.pointer (some ⟨b, o, none⟩))).run Try.prog W = .ok (.slice ao n cap) W := by go_simp
theorem ldMs {W : World} {b o : Nat} {ao : Option Addr} {n cap : Nat} (h : W.cell? ⟨b, o, none⟩ = some (.slice ao n cap)) : (Instr.loadAt rmsT (.pointer (some ⟨b, o, none⟩))).run Try.prog W = .ok (.slice ao n cap) W := by go_simp
theorem own_msg1 (w : World) (base : Nat) (x : Mp) (hb : base ≤ w.heap.size) : (w.alloc (.cells (mC x) rmT)).ownsRow base rmT 15 (.slice (some ⟨w.heap.size, 0, none⟩) 1 1) 1 (mFlat [x]) :=
  ⟨by simp [mFlat, mRow, mC], .inr ⟨w.heap.size, 1, _, rfl, hb, heap_alloc_new w _, Nat.le_refl _, by unfold maxLen; omega, rfl, by simp [mFlat, mRow, mC]⟩⟩
/-- a row of one message -/
theorem wpo_bsM {E : TypeId} (hE : E = mgT ∨ E = rmT) {W : World} {o : Oper} {a : Act} {K : Act → World → Prop} {Q : Exit → Act → World → Prop} {y : Operand} {x : Mp} {ST : TypeId} (hu : Try.prog.underlying ST = some (.slice E)) (hop : o.op = .buildSlice ST 1 #[(0, y)]) (hy : a.eval y = .agg (mC x))
    (h : K (a.put o.dst (.slice (some ⟨W.heap.size, 0, none⟩) 1 1)) (W.alloc (.cells (mC x) E))) : o.wp Try.prog a W K Q := by
  have e : Try.prog.builtSlice E 1 [(0, .agg (mC x))] = some (mC x) := by
    obtain ⟨x0, x1, x2, x3, x4, x5, x6, x7, x8, x9, x10, x11, x12, x13, x14, x15, x16, x17, x18, x19, x20⟩ := x
    rcases hE with rfl | rfl
    · kernel_rfl
    · kernel_rfl
  unfold Program.builtSlice at e
  cases hie : Try.prog.info? E with
  | none => simp [hie] at e
  | some ie =>
    simp only [hie] at e
    cases hz : ie.zero with
    | none => simp [hz] at e
    | some z =>
      simp only [hz] at e
      by_cases hc : 1 * ie.size > 2 ^ 24 ∨ 1 * ie.size = 0
      · rw [if_pos hc] at e; cases e
      · rw [if_neg hc] at e
        refine wp_buildSlice ST E 1 #[(0, y)] hop (mC x) ie z hu hie hz (fun h' => hc (Or.inl h')) (fun h' => hc (Or.inr h')) ?_ h
        simpa [hy] using e
set_option maxRecDepth 100000 in
theorem rcross_o (W : World) (room : Nat) (A : List Int) (aA : Option Addr) (cA : Nat) (lo : Option Addr) (n lc : Nat) (x : Mp) (h : Iz W .i64 aA cA A) :
    Calls Try.prog 43 #[rV room aA A.length cA lo n lc, .agg (mC x)] W fun e W' => e = .returned (.bool (inL A x.frm != inL A x.dst)) ∧ Below W.heap.size W W' := by
  unfold rV
  obtain ⟨W1, hW1⟩ : ∃ W1, W1 = W.alloc (.cells #[.int .i64 (room : Nat), .slice aA A.length cA, .slice lo n lc] rbT) := ⟨_, rfl⟩
  obtain ⟨W2, hW2⟩ : ∃ W2, W2 = W1.alloc (.cells (mC x) rmT) := ⟨_, rfl⟩
  obtain ⟨b1, hb1⟩ : ∃ b, b = W.heap.size := ⟨_, rfl⟩
  obtain ⟨b2, hb2⟩ : ∃ b, b = W.heap.size + 1 := ⟨_, rfl⟩
  have z1 : W1.heap.size = W.heap.size + 1 := by rw [hW1]; simp
  have B1 : Below W.heap.size W W1 := by rw [hW1]; exact below_new _ _
  have B2 : Below W1.heap.size W1 W2 := by rw [hW2]; exact below_new _ _
  have hB2 := below_on B1 B2 (Nat.le_refl _)
  have t1 : W2.heap[b1]? = some (.cells #[.int .i64 (room : Nat), .slice aA A.length cA, .slice lo n lc] rbT (0, 0)) := by
    rw [B2.block b1 (by omega), hW1, hb1]; exact heap_alloc_new _ _
  have t2 : W2.heap[b2]? = some (.cells (mC x) rmT (0, 0)) := by
    rw [hW2, hb2, ← z1]; exact heap_alloc_new _ _
  have Hup : Hid (W.heap.size ≤ b1 ∧ W.heap.size ≤ b2) := ⟨by omega, by omega⟩
  have Hap : Hid (b1 ≠ b2) := (by omega : b1 ≠ b2)
  have HB2 := Lib.hid hB2
  have T1 := Lib.hid t1
  have T2 := Lib.hid t2
  clear z1 B1 B2 hB2 t1 t2
  have q1 := block_cell T1.out 1
  simp at q1
  have r1 : W2.cell? ⟨b2, 1, none⟩ = some (.int .i64 x.frm) := by rw [block_cell T2.out 1]; rfl
  have r2 : W2.cell? ⟨b2, 2, none⟩ = some (.int .i64 x.dst) := by rw [block_cell T2.out 2]; rfl
  have HL := Lib.hid (And.intro (ldIs (W := W2.drew) q1) (And.intro (ldI (W := W2.drew) r1) (ldI (W := W2.drew) r2)))
  have Hf := Lib.hid (has_o W2.drew aA cA A x.frm (h.below (HB2.out.drew)))
  have Hd := Lib.hid (has_o W2.drew aA cA A x.dst (h.below (HB2.out.drew)))
  clear q1 r1 r2 h
  go_enter Try.func43, Try.ntmps43
  go_upto_region 1 with fail
  rw [← hW1, ← hW2, ← hb2, ← hb1]
  clear hW1 hW2 hb1 hb2
  refine wp_region_held_drew (S := fun V => V = W2.drew) (by kernel_rfl) rfl (fun hHeld => ?_)
  refine wpAnyH_take (i := 0) (v := ?_) rfl (by kernel_rfl) (by kernel_rfl) (by kernel_rfl) (fun _ _ _ h => h) (Or.inl ⟨by rfl, ?_⟩) (by assumption) ?_
  rotate_left
  · intro w8 hSw; clear hSw; go_simp; (try with_reducible rfl)
  simp only [Act.put, List.getElem_toArray, List.getElem_cons_zero, List.getElem_cons_succ, List.setIfInBounds_toArray, List.set_cons_zero, List.set_cons_succ]
  refine wpAnyH_take (i := 1) (v := .slice aA A.length cA) rfl (by kernel_rfl) (by kernel_rfl) (by kernel_rfl) (fun _ _ _ h => h) (Or.inl ⟨by rfl, ?_⟩) (by assumption) ?_
  · intro w8 hSw; exact ld_takeT rfl (by rw [hSw]; exact HL.out.1) rfl
  simp only [Act.put, List.getElem_toArray, List.getElem_cons_zero, List.getElem_cons_succ, List.setIfInBounds_toArray, List.set_cons_zero, List.set_cons_succ]
  refine wpAnyH_take (i := 2) (v := ?_) rfl (by kernel_rfl) (by kernel_rfl) (by kernel_rfl) (fun _ _ _ h => h) (Or.inl ⟨by rfl, ?_⟩) (by assumption) ?_
  rotate_left
  · intro w8 hSw; clear hSw; go_simp; (try with_reducible rfl)
  simp only [Act.put, List.getElem_toArray, List.getElem_cons_zero, List.getElem_cons_succ, List.setIfInBounds_toArray, List.set_cons_zero, List.set_cons_succ]
  refine wpAnyH_take (i := 3) (v := .int .i64 x.frm) rfl (by kernel_rfl) (by kernel_rfl) (by kernel_rfl) (fun _ _ _ h => h) (Or.inl ⟨by rfl, ?_⟩) (by assumption) ?_
  · intro w8 hSw; exact ld_takeT rfl (by rw [hSw]; exact HL.out.2.1) rfl
  simp only [Act.put, List.getElem_toArray, List.getElem_cons_zero, List.getElem_cons_succ, List.setIfInBounds_toArray, List.set_cons_zero, List.set_cons_succ]
  refine wpAnyH_take (i := 5) (v := ?_) rfl (by kernel_rfl) (by kernel_rfl) (by kernel_rfl) (fun _ _ _ h => h) (Or.inl ⟨by rfl, ?_⟩) (by assumption) ?_
  rotate_left
  · intro w8 hSw; clear hSw; go_simp; (try with_reducible rfl)
  simp only [Act.put, List.getElem_toArray, List.getElem_cons_zero, List.getElem_cons_succ, List.setIfInBounds_toArray, List.set_cons_zero, List.set_cons_succ]
  refine wpAnyH_take (i := 6) (v := .slice aA A.length cA) rfl (by kernel_rfl) (by kernel_rfl) (by kernel_rfl) (fun _ _ _ h => h) (Or.inl ⟨by rfl, ?_⟩) (by assumption) ?_
  · intro w8 hSw; exact ld_takeT rfl (by rw [hSw]; exact HL.out.1) rfl
  simp only [Act.put, List.getElem_toArray, List.getElem_cons_zero, List.getElem_cons_succ, List.setIfInBounds_toArray, List.set_cons_zero, List.set_cons_succ]
  refine wpAnyH_take (i := 7) (v := ?_) rfl (by kernel_rfl) (by kernel_rfl) (by kernel_rfl) (fun _ _ _ h => h) (Or.inl ⟨by rfl, ?_⟩) (by assumption) ?_
  rotate_left
  · intro w8 hSw; clear hSw; go_simp; (try with_reducible rfl)
  simp only [Act.put, List.getElem_toArray, List.getElem_cons_zero, List.getElem_cons_succ, List.setIfInBounds_toArray, List.set_cons_zero, List.set_cons_succ]
  refine wpAnyH_take (i := 8) (v := .int .i64 x.dst) rfl (by kernel_rfl) (by kernel_rfl) (by kernel_rfl) (fun _ _ _ h => h) (Or.inl ⟨by rfl, ?_⟩) (by assumption) ?_
  · intro w8 hSw; exact ld_takeT rfl (by rw [hSw]; exact HL.out.2.2) rfl
  simp only [Act.put, List.getElem_toArray, List.getElem_cons_zero, List.getElem_cons_succ, List.setIfInBounds_toArray, List.set_cons_zero, List.set_cons_succ]
  refine wpAnyH_ready (rs := [4]) (by kernel_rfl) (by simp) ?_
  refine AllReadyH.cons rfl (fun K hK => ?_) AllReadyH.nil
  go_simp
  go_at_call 21
  refine (Hf.out).mono ?_
  rintro e V2 ⟨rfl, hv⟩; subst V2
  refine hK.out _ _ rfl (fun hHeld => ?_)
  clear hK K
  try simp only [Act.put, List.getElem_toArray, List.getElem_cons_zero, List.getElem_cons_succ, List.setIfInBounds_toArray, List.set_cons_zero, List.set_cons_succ]
  refine wpAnyH_ready (rs := [9]) (by kernel_rfl) (by simp) ?_
  refine AllReadyH.cons rfl (fun K hK => ?_) AllReadyH.nil
  go_simp
  go_at_call 21
  refine (Hd.out).mono ?_
  rintro e V2 ⟨rfl, hv⟩; subst V2
  refine hK.out _ _ rfl (fun hHeld => ?_)
  clear hK K
  try simp only [Act.put, List.getElem_toArray, List.getElem_cons_zero, List.getElem_cons_succ, List.setIfInBounds_toArray, List.set_cons_zero, List.set_cons_succ]
  refine wpAnyH_take (i := 10) (v := ?_) rfl (by kernel_rfl) (by kernel_rfl) (by kernel_rfl) (fun _ _ _ h => h) (Or.inl ⟨by rfl, ?_⟩) (by assumption) ?_
  rotate_left
  · intro w8 hSw; clear hSw; go_simp; (try with_reducible rfl)
  simp only [Act.put, List.getElem_toArray, List.getElem_cons_zero, List.getElem_cons_succ, List.setIfInBounds_toArray, List.set_cons_zero, List.set_cons_succ]
  refine wpAnyH_take (i := 11) (v := ?_) rfl (by kernel_rfl) (by kernel_rfl) (by kernel_rfl) (fun _ _ _ h => h) (Or.inl ⟨by rfl, ?_⟩) (by assumption) ?_
  rotate_left
  · intro w8 hSw; clear hSw; go_simp; (try with_reducible rfl)
  simp only [Act.put, List.getElem_toArray, List.getElem_cons_zero, List.getElem_cons_succ, List.setIfInBounds_toArray, List.set_cons_zero, List.set_cons_succ]
  refine wpAnyH_done (by kernel_rfl) ?_ _
  go_wp2_with fail
  go_ret
  exact ⟨rfl, HB2.out.drew⟩
theorem nums_rt {k n : Nat} (h : k < n) (h5 : n ≤ 512) : ¬ (k : Int) < 0 ∧ ¬ (k : Int) ≥ (n : Nat) ∧ (0 : Int) ≤ (k : Int) ∧ (k : Int) < (n : Int) ∧ k ≤ 10000 := by omega
/-- a message is stored into its box, in a drawn region -/
theorem wpo_stM {o : Oper} {a : Act} {W : World} {K : Act → World → Prop} {Q : Exit → Act → World → Prop} {T : TypeId} (hT : T = mgT ∨ T = rmT) {x y : Operand} (hop : o.op = .store T x y) {b : Nat} {z : Mp} (hx : a.eval x = .pointer (some ⟨b, 0, none⟩)) (hy : a.eval y = .agg (mC z))
    {old : Array Value} (hb : W.heap[b]? = some (.cells old T (0, 0))) (hold : old.size = 15)
    (h : ∀ W', W'.heap[b]? = some (.cells (mC z) T (0, 0)) → W.grownBy W' (some b) → W'.heap.size = W.heap.size → K (a.put o.dst undef) W') : o.wp Try.prog a W K Q := by
  refine wp_store_row T x y hop b (mC z) hx hy T old hb ?_ (by rw [hold, mC_size]) (mC_one z) (h _ (setRow_heap W b old _ T _ hb) ⟨rfl, rfl, rfl, by simp, fun k _ hk => setRow_other W b k _ (fun e => hk (by simp [e]))⟩ (by simp))
  rw [mC_size]
  rcases hT with rfl | rfl
  · kernel_rfl
  · kernel_rfl
/-- pieces of a row of messages -/
theorem MgRow.hi {W : World} {ao : Option Addr} {cap : Nat} {X : List Mp} (h : MgRow W rmT ao cap X) (k : Nat) (hk : k ≤ X.length) : ∃ aL cL, (∀ V, (Instr.sliceAt rmsT (.slice ao X.length cap) none (some (.int .i64 (k : Nat))) none).run Try.prog V = .ok (.slice aL k cL) V) ∧ Sl W 15 aL k cL (mFlat (X.take k)) := by
  have hsz : (Try.prog.info? rmT).map (·.size) = some 15 := by kernel_rfl
  have hle := h.sl.le
  have hrun := fun V => run_slice_sl (P := Try.prog) (w := V) Try.underlying28 hsz ao X.length cap none (some (.int .i64 (k : Nat))) 0 k (.inr ⟨rfl, rfl⟩) (.inl rfl) (Nat.zero_le _) (Nat.le_trans hk hle)
  have hcut := Sl.cut h.sl 0 k (Nat.zero_le _) hk (by decide)
  have e : ((mFlat X).take (k * 15)).drop (0 * 15) = mFlat (X.take k) := by
    have e1 : mFlat X = mFlat (X.take k) ++ mFlat (X.drop k) := by rw [← mFlat_two, List.take_append_drop]
    rw [Nat.zero_mul, List.drop_zero, e1]
    exact List.take_left' (by rw [mFlat_len, List.length_take, Nat.min_eq_left hk])
  rw [show ((X.map mRow).flatten.take (k * 15)).drop (0 * 15) = mFlat (X.take k) from e] at hcut
  exact ⟨_, _, hrun, hcut⟩
theorem MgRow.lo {W : World} {ao : Option Addr} {cap : Nat} {X : List Mp} (h : MgRow W rmT ao cap X) (k : Nat) (hk : k ≤ X.length) : ∃ aR cR, (∀ V, (Instr.sliceAt rmsT (.slice ao X.length cap) (some (.int .i64 (k : Nat))) none none).run Try.prog V = .ok (.slice aR (X.length - k) cR) V) ∧ Sl W 15 aR (X.length - k) cR (mFlat (X.drop k)) := by
  have hsz : (Try.prog.info? rmT).map (·.size) = some 15 := by kernel_rfl
  have hle := h.sl.le
  have hrun := fun V => run_slice_sl (P := Try.prog) (w := V) Try.underlying28 hsz ao X.length cap (some (.int .i64 (k : Nat))) none k X.length (.inl rfl) (.inr ⟨rfl, rfl⟩) hk hle
  have hcut := Sl.cut h.sl k X.length hk (Nat.le_refl _) (by decide)
  have e : ((mFlat X).take (X.length * 15)).drop (k * 15) = mFlat (X.drop k) := by
    have e1 : mFlat X = mFlat (X.take k) ++ mFlat (X.drop k) := by rw [← mFlat_two, List.take_append_drop]
    rw [List.take_of_length_le (by rw [mFlat_len]; exact Nat.le_refl _), e1]
    exact List.drop_left' (by rw [mFlat_len, List.length_take, Nat.min_eq_left hk])
  rw [show ((X.map mRow).flatten.take (X.length * 15)).drop (k * 15) = mFlat (X.drop k) from e] at hcut
  exact ⟨_, _, hrun, hcut⟩
theorem nums_app {k n m : Nat} (hk : k ≤ 512) (hn : n ≤ 512) : k + n ≤ maxLen ∧ (k + n) * 160 ≤ 140737488355328 := by
  unfold maxLen; omega
/-- what the reference's Take tells -/
def RTakeIs (W : World) (room : Nat) (aA : Option Addr) (nA cA : Nat) (X' : List Mp) (y : Mp) (ok : Bool) (e : Ending) (W' : World) : Prop := ∃ lo' lc', e = .returned (.tuple #[rV room aA nA cA lo' X'.length lc', .agg (mC y), .bool ok]) ∧ MgRow W' rmT lo' lc' X' ∧ Below W.heap.size W W'
set_option maxRecDepth 100000 in
set_option maxHeartbeats 4000000 in
theorem rtake_no (W : World) (room nA cA lc : Nat) (aA lo : Option Addr) (X : List Mp) (k : Int) (hk : ¬ (0 ≤ k ∧ k < (X.length : Nat))) (hX : MgRow W rmT lo lc X) :
    Calls Try.prog 23 #[rV room aA nA cA lo X.length lc, .int .i64 k] W (RTakeIs W room aA nA cA X mp0 false) := by
  unfold rV
  obtain ⟨W1, hW1⟩ : ∃ W1, W1 = W.alloc (.cells #[.int .i64 (room : Nat), .slice aA nA cA, .slice lo X.length lc] rbT) := ⟨_, rfl⟩
  obtain ⟨W2, hW2⟩ : ∃ W2, W2 = W1.alloc (.cells #[.int .i64 0, .slice none 0 0, .slice none 0 0] rbT) := ⟨_, rfl⟩
  obtain ⟨W3, hW3⟩ : ∃ W3, W3 = W2.alloc (.cells (mC mp0) rmT) := ⟨_, rfl⟩
  obtain ⟨b1, hb1⟩ : ∃ b, b = W.heap.size := ⟨_, rfl⟩
  obtain ⟨b2, hb2⟩ : ∃ b, b = W.heap.size + 1 := ⟨_, rfl⟩
  obtain ⟨b3, hb3⟩ : ∃ b, b = W.heap.size + 1 + 1 := ⟨_, rfl⟩
  have z1 : W1.heap.size = W.heap.size + 1 := by rw [hW1]; simp
  have z2 : W2.heap.size = W.heap.size + 1 + 1 := by rw [hW2]; simp [z1]
  have B1 : Below W.heap.size W W1 := by rw [hW1]; exact below_new _ _
  have B2 : Below W1.heap.size W1 W2 := by rw [hW2]; exact below_new _ _
  have B3 : Below W2.heap.size W2 W3 := by rw [hW3]; exact below_new _ _
  have hB3 := below_on (below_on B1 B2 (Nat.le_refl _)) B3 (Nat.le_refl _)
  have t1 : W3.heap[b1]? = some (.cells #[.int .i64 (room : Nat), .slice aA nA cA, .slice lo X.length lc] rbT (0, 0)) := by
    rw [B3.block b1 (by omega), B2.block b1 (by omega), hW1, hb1]; exact heap_alloc_new _ _
  have t2 : W3.heap[b2]? = some (.cells #[.int .i64 0, .slice none 0 0, .slice none 0 0] rbT (0, 0)) := by
    rw [B3.block b2 (by omega), hW2, hb2, ← z1]; exact heap_alloc_new _ _
  have t3 : W3.heap[b3]? = some (.cells (mC mp0) rmT (0, 0)) := by
    rw [hW3, hb3, ← z2]; exact heap_alloc_new _ _
  have Hup : Hid (W.heap.size ≤ b1 ∧ W.heap.size ≤ b2 ∧ W.heap.size ≤ b3) := ⟨by omega, by omega, by omega⟩
  have Hap : Hid (b1 ≠ b2 ∧ b1 ≠ b3 ∧ b2 ≠ b3) := ⟨by omega, by omega, by omega⟩
  have HB3 := Lib.hid hB3
  have T1 := Lib.hid t1
  have T2 := Lib.hid t2
  have T3 := Lib.hid t3
  clear z1 z2 B1 B2 B3 hB3 t1 t2 t3
  have p0 := block_cell T1.out 0
  have p1 := block_cell T1.out 1
  have p2 := block_cell T1.out 2
  have l1 := bx_lt T1.out
  have c0 := block_cell T2.out 0
  have c1 := block_cell T2.out 1
  have c2 := block_cell T2.out 2
  have f0 := block_free T2.out 0
  have f1 := block_free T2.out 1
  have f2 := block_free T2.out 2
  have l2 := bx_lt T2.out
  simp at p0 p1 p2 c0 c1 c2 f0 f1 f2
  have u3 := bx_set3 T2.out (.int .i64 (room : Nat)) (.slice aA nA cA) (.slice lo X.length lc)
  have hgU := gr_set3 W3 b2 (.int .i64 (room : Nat)) (.slice aA nA cA) (.slice lo X.length lc)
  obtain ⟨U, hU⟩ : ∃ U, U = ((W3.setCell ⟨b2, 0, none⟩ (.int .i64 (room : Nat))).setCell ⟨b2, 1, none⟩ (.slice aA nA cA)).setCell ⟨b2, 2, none⟩ (.slice lo X.length lc) := ⟨_, rfl⟩
  rw [← hU] at u3 hgU
  have hx3 : U.heap[b3]? = some (.cells (mC mp0) rmT (0, 0)) := (hgU.block b3 (bx_lt T3.out) (fun e => Hap.out.2.2 e.symm)).trans T3.out
  have hBU : Below W.heap.size W U := HB3.out.trans (hgU.above HB3.out.size (fun i e => by rw [e]; exact Hup.out.2.1))
  have HU := Lib.hid (And.intro u3 hBU)
  have HX := Lib.hid hX
  have Hx3 := Lib.hid hx3
  clear u3 hgU hx3 hBU hX
  by_cases h0 : k < 0
  · clear hk
    go_enter Try.func23, Try.ntmps23
    go_upto_region 1 with fail
    rw [← mC_zero, ← hW1, ← hW2, ← hW3, ← hb3, ← hb2, ← hb1]
    clear hW1 hW2 hW3 hb1 hb2 hb3
    go_wp2_with (first | (refine wpl_buM rfl (.inr rfl) rfl ?_) | (rw [← hU]; refine wpl_stM rfl (.inr rfl) rfl rfl rfl Hx3.out rfl ?_; intro V4 hx4 hg4 hz4; clear hz4))
    obtain ⟨u3, hBU⟩ := HU.out
    have hg4' : Gr (fun i => i = b3) U V4 := Gr.one hg4 (fun i e => (Option.some.inj e).symm)
    have u4 := (hg4.block b2 (bx_lt u3) (fun e => Hap.out.2.2 (Option.some.inj e))).trans u3
    exact bodyPost_ret (v := .tuple #[.agg #[.int .i64 (room : Nat), .slice aA nA cA, .slice lo X.length lc], .agg (mC mp0), .bool false]) (results_3 Try.results23 rfl rfl rfl (lvRb u4) (lv_mbox _ _ (.inr rfl) hx4)) rfl ⟨lo, lc, rfl, HX.out.below (hBU.trans (hg4'.above hBU.size (fun i e => by rw [e]; exact Hup.out.2.2))), hBU.trans (hg4'.above hBU.size (fun i e => by rw [e]; exact Hup.out.2.2))⟩
  · have h1 : k ≥ (X.length : Nat) := by omega
    clear hk
    go_enter Try.func23, Try.ntmps23
    go_upto_region 1 with fail
    rw [← mC_zero, ← hW1, ← hW2, ← hW3, ← hb3, ← hb2, ← hb1]
    clear hW1 hW2 hW3 hb1 hb2 hb3
    go_wp2_with (first | (refine wpl_buM rfl (.inr rfl) rfl ?_) | (rw [← hU]; refine wpl_stM rfl (.inr rfl) rfl rfl rfl Hx3.out rfl ?_; intro V4 hx4 hg4 hz4; clear hz4))
    obtain ⟨u3, hBU⟩ := HU.out
    have hg4' : Gr (fun i => i = b3) U V4 := Gr.one hg4 (fun i e => (Option.some.inj e).symm)
    have u4 := (hg4.block b2 (bx_lt u3) (fun e => Hap.out.2.2 (Option.some.inj e))).trans u3
    exact bodyPost_ret (v := .tuple #[.agg #[.int .i64 (room : Nat), .slice aA nA cA, .slice lo X.length lc], .agg (mC mp0), .bool false]) (results_3 Try.results23 rfl rfl rfl (lvRb u4) (lv_mbox _ _ (.inr rfl) hx4)) rfl ⟨lo, lc, rfl, HX.out.below (hBU.trans (hg4'.above hBU.size (fun i e => by rw [e]; exact Hup.out.2.2))), hBU.trans (hg4'.above hBU.size (fun i e => by rw [e]; exact Hup.out.2.2))⟩
set_option maxRecDepth 100000 in
set_option maxHeartbeats 4000000 in
theorem rtake_yes (W : World) (room nA cA lc : Nat) (aA lo : Option Addr) (X : List Mp) (k : Nat) (hk : k < X.length) (h5 : X.length ≤ 512) (hX : MgRow W rmT lo lc X) :
    Calls Try.prog 23 #[rV room aA nA cA lo X.length lc, .int .i64 (k : Nat)] W (RTakeIs W room aA nA cA (X.take k ++ X.drop (k + 1)) X[k] true) := by
  unfold rV
  obtain ⟨W1, hW1⟩ : ∃ W1, W1 = W.alloc (.cells #[.int .i64 (room : Nat), .slice aA nA cA, .slice lo X.length lc] rbT) := ⟨_, rfl⟩
  obtain ⟨W2, hW2⟩ : ∃ W2, W2 = W1.alloc (.cells #[.int .i64 0, .slice none 0 0, .slice none 0 0] rbT) := ⟨_, rfl⟩
  obtain ⟨W3, hW3⟩ : ∃ W3, W3 = W2.alloc (.cells (mC mp0) rmT) := ⟨_, rfl⟩
  obtain ⟨b1, hb1⟩ : ∃ b, b = W.heap.size := ⟨_, rfl⟩
  obtain ⟨b2, hb2⟩ : ∃ b, b = W.heap.size + 1 := ⟨_, rfl⟩
  obtain ⟨b3, hb3⟩ : ∃ b, b = W.heap.size + 1 + 1 := ⟨_, rfl⟩
  have z1 : W1.heap.size = W.heap.size + 1 := by rw [hW1]; simp
  have z2 : W2.heap.size = W.heap.size + 1 + 1 := by rw [hW2]; simp [z1]
  have B1 : Below W.heap.size W W1 := by rw [hW1]; exact below_new _ _
  have B2 : Below W1.heap.size W1 W2 := by rw [hW2]; exact below_new _ _
  have B3 : Below W2.heap.size W2 W3 := by rw [hW3]; exact below_new _ _
  have hB3 := below_on (below_on B1 B2 (Nat.le_refl _)) B3 (Nat.le_refl _)
  have t1 : W3.heap[b1]? = some (.cells #[.int .i64 (room : Nat), .slice aA nA cA, .slice lo X.length lc] rbT (0, 0)) := by
    rw [B3.block b1 (by omega), B2.block b1 (by omega), hW1, hb1]; exact heap_alloc_new _ _
  have t2 : W3.heap[b2]? = some (.cells #[.int .i64 0, .slice none 0 0, .slice none 0 0] rbT (0, 0)) := by
    rw [B3.block b2 (by omega), hW2, hb2, ← z1]; exact heap_alloc_new _ _
  have t3 : W3.heap[b3]? = some (.cells (mC mp0) rmT (0, 0)) := by
    rw [hW3, hb3, ← z2]; exact heap_alloc_new _ _
  have Hup : Hid (W.heap.size ≤ b1 ∧ W.heap.size ≤ b2 ∧ W.heap.size ≤ b3) := ⟨by omega, by omega, by omega⟩
  have Hap : Hid (b1 ≠ b2 ∧ b1 ≠ b3 ∧ b2 ≠ b3) := ⟨by omega, by omega, by omega⟩
  have HB3 := Lib.hid hB3
  have T1 := Lib.hid t1
  have T2 := Lib.hid t2
  have T3 := Lib.hid t3
  clear z1 z2 B1 B2 B3 hB3 t1 t2 t3
  obtain ⟨n0, n1, n2, n3, n4⟩ := nums_rt hk h5
  obtain ⟨g, o, rfl, hgl, hge, hld⟩ := hX.load k hk rmT (.inr rfl)
  have l22 := hld W3 (HB3.out.block g hgl)
  obtain ⟨x, hx⟩ : ∃ x, x = X[k] := ⟨_, rfl⟩
  rw [← hx] at l22 ⊢
  have p0 := block_cell T1.out 0
  have p1 := block_cell T1.out 1
  have p2 := block_cell T1.out 2
  have l1 := bx_lt T1.out
  simp at p0 p1 p2
  have Hadd := Lib.hid (add_one k n4)
  have HX := Lib.hid hX
  clear hx hld hge hX
  go_enter Try.func23, Try.ntmps23
  go_upto_region 1 with fail
  rw [← mC_zero, ← hW1, ← hW2, ← hW3, ← hb3, ← hb2, ← hb1]
  clear hW1 hW2 hW3 hb1 hb2 hb3
  go_upto_region 4 with (first | ((with_reducible show wpList _ _ _ (⟨_, Op.load _ _, _, _, _, _⟩ :: _) _ _); refine wpl_ldT rfl rfl rfl (by assumption) ?_) | (refine wpl_alM rfl (.inr rfl) rfl ?_; intro p7 V2 hp7 hb2 hx2 hz2; clear hz2; have hp7' := Lib.hid (Nat.le_of_eq hp7.symm); clear hp7) | (refine wpl_stM rfl (.inr rfl) rfl rfl rfl hx2 rfl ?_; intro V3 hx3 hg3 hz3; clear hz3))
  have hV2 := below_on HB3.out hb2 (Nat.le_refl _)
  have hp7 : W3.heap.size ≤ p7 := hp7'.out
  have hB : Below W.heap.size W V3 := below_grown hV2 hg3 (Nat.le_trans HB3.out.size hp7) hV2.size
  have hkeep : ∀ {i : Nat} {ob : Obj}, W3.heap[i]? = some ob → V3.heap[i]? = some ob := fun {i} {ob} h => (hg3.block i (Nat.lt_of_lt_of_le (bx_lt h) hb2.size) (fun e => Nat.lt_irrefl _ (Nat.lt_of_lt_of_le (bx_lt h) (by rw [Option.some.inj e]; exact hp7)))).trans (bx_below hb2 h)
  have D1 := Lib.hid (hkeep T1.out)
  have D2 := Lib.hid (hkeep T2.out)
  have D3 := Lib.hid (hkeep T3.out)
  have D7 := Lib.hid hx3
  have HB := Lib.hid hB
  have Hp7 := Lib.hid (Nat.le_trans HB3.out.size hp7)
  have Hp7n : Hid (p7 ≠ b1 ∧ p7 ≠ b2 ∧ p7 ≠ b3) := ⟨fun e => Nat.lt_irrefl _ (Nat.lt_of_lt_of_le (bx_lt T1.out) (e ▸ hp7)), fun e => Nat.lt_irrefl _ (Nat.lt_of_lt_of_le (bx_lt T2.out) (e ▸ hp7)), fun e => Nat.lt_irrefl _ (Nat.lt_of_lt_of_le (bx_lt T3.out) (e ▸ hp7))⟩
  obtain ⟨aL, cL, hrL, hsL⟩ := HX.out.hi k (Nat.le_of_lt hk)
  obtain ⟨aR, cR, hrR, hsR⟩ := HX.out.lo (k + 1) hk
  obtain ⟨q1, q2⟩ := nums_app (k := k) (n := X.length - (k + 1)) (m := 0) (Nat.le_trans (Nat.le_of_lt hk) h5) (Nat.le_trans (Nat.sub_le _ _) h5)
  obtain ⟨q3, q4⟩ := nums_app (k := 0) (n := k) (m := 0) (Nat.zero_le _) (Nat.le_trans (Nat.le_of_lt hk) h5)
  have HRL := Lib.hid hrL
  have HRR : Hid (∀ V, (Instr.sliceAt rmsT (.slice (some ⟨g, o, none⟩) X.length lc) (some (.int .i64 ((k : Int) + 1))) none none).run Try.prog V = .ok (.slice aR (X.length - (k + 1)) cR) V) := fun V => by have := hrR V; simpa using this
  have HS := Lib.hid (And.intro hsL hsR)
  have HQ := Lib.hid (And.intro q1 (And.intro q2 (And.intro q3 q4)))
  obtain ⟨N, hN⟩ : ∃ N, N = k + (X.length - (k + 1)) := ⟨_, rfl⟩
  have HN := Lib.hid hN
  have Hld1 := Lib.hid (fun (V : World) (hv : V.heap[b1]? = V3.heap[b1]?) => ldMs (W := V) (b := b1) (o := 2) (ao := some ⟨g, o, none⟩) (n := X.length) (cap := lc) (by rw [World.cell?_of_block (w := V3) hv]; exact block_cell D1.out 2))
  clear hV2 hp7 hp7' hB hkeep hx3 hg3 hb2 hx2 hrL hsL hrR hsR q1 q2 q3 q4 hN p0 p1 p2 l1 l22
  obtain ⟨E0, hE0⟩ : ∃ E, E = V3.heap.size := ⟨_, rfl⟩
  refine wp_region_late 13 (S := fun V => V.heap[b1]? = V3.heap[b1]?) (by kernel_rfl) rfl (fun hHeld => ?_)
  obtain ⟨U0, hU0⟩ : ∃ U0, U0 = V3.drew := ⟨_, rfl⟩
  have hB : Below E0 V3 U0 := by rw [hU0, hE0]; exact (Below.refl _ V3).drew
  have hE : E0 ≤ U0.heap.size := by rw [hU0, hE0]; exact Nat.le_refl _
  rw [← hU0] at hHeld ⊢
  have HE0 := Lib.hid hE0
  clear hU0 hE0
  refine wpLate_pure (i := 1) (v := ?_) rfl (by kernel_rfl) (by kernel_rfl) (by kernel_rfl) (by kernel_rfl) (fun _ _ _ h => h) (Or.inl ⟨by rfl, ?_⟩) (fun _ => by assumption) ?_
  rotate_left
  · intro w8 hSw; clear hSw; go_simp; (try with_reducible rfl)
  simp only [Act.put, List.getElem_toArray, List.getElem_cons_zero, List.getElem_cons_succ, List.setIfInBounds_toArray, List.set_cons_zero, List.set_cons_succ]
  refine wpLate_take [4, 5, 11, 13] (i := 2) (v := .slice (some ⟨g, o, none⟩) X.length lc) rfl (by kernel_rfl) (by kernel_rfl) (by kernel_rfl) (by kernel_rfl) (by kernel_rfl) (fun _ _ _ h => h) (Or.inl ⟨by rfl, ?_⟩) (by assumption) ?_
  · intro w8 hSw; exact ld_takeT rfl (Hld1.out w8 hSw) rfl
  simp only [Act.put, List.getElem_toArray, List.getElem_cons_zero, List.getElem_cons_succ, List.setIfInBounds_toArray, List.set_cons_zero, List.set_cons_succ]
  refine wpLate_pure (i := 3) (v := ?_) rfl (by kernel_rfl) (by kernel_rfl) (by kernel_rfl) (by kernel_rfl) (fun _ _ _ h => h) (Or.inl ⟨by rfl, ?_⟩) (fun _ => by assumption) ?_
  rotate_left
  · intro w8 hSw; clear hSw; go_simp; (try with_reducible rfl)
  simp only [Act.put, List.getElem_toArray, List.getElem_cons_zero, List.getElem_cons_succ, List.setIfInBounds_toArray, List.set_cons_zero, List.set_cons_succ]
  refine wpLate_pure (i := 4) (v := .slice aL k cL) rfl (by kernel_rfl) (by kernel_rfl) (by kernel_rfl) (by kernel_rfl) (fun _ _ _ h => h) (Or.inl ⟨by rfl, ?_⟩) (fun _ => by assumption) ?_
  · intro w8 hSw; exact sl_hi rfl (HRL.out w8) rfl rfl
  simp only [Act.put, List.getElem_toArray, List.getElem_cons_zero, List.getElem_cons_succ, List.setIfInBounds_toArray, List.set_cons_zero, List.set_cons_succ]
  refine wpLate_pure (i := 6) (v := ?_) rfl (by kernel_rfl) (by kernel_rfl) (by kernel_rfl) (by kernel_rfl) (fun _ _ _ h => h) (Or.inl ⟨by rfl, ?_⟩) (fun _ => by assumption) ?_
  rotate_left
  · intro w8 hSw; clear hSw; go_simp; (try with_reducible rfl)
  simp only [Act.put, List.getElem_toArray, List.getElem_cons_zero, List.getElem_cons_succ, List.setIfInBounds_toArray, List.set_cons_zero, List.set_cons_succ]
  refine wpLate_take [10, 11, 13] (i := 7) (v := .slice (some ⟨g, o, none⟩) X.length lc) rfl (by kernel_rfl) (by kernel_rfl) (by kernel_rfl) (by kernel_rfl) (by kernel_rfl) (fun _ _ _ h => h) (Or.inl ⟨by rfl, ?_⟩) (by assumption) ?_
  · intro w8 hSw; exact ld_takeT rfl (Hld1.out w8 hSw) rfl
  simp only [Act.put, List.getElem_toArray, List.getElem_cons_zero, List.getElem_cons_succ, List.setIfInBounds_toArray, List.set_cons_zero, List.set_cons_succ]
  refine wpLate_pure (i := 8) (v := ?_) rfl (by kernel_rfl) (by kernel_rfl) (by kernel_rfl) (by kernel_rfl) (fun _ _ _ h => h) (Or.inl ⟨by rfl, ?_⟩) (fun _ => by assumption) ?_
  rotate_left
  · intro w8 hSw; clear hSw; go_simp; (try with_reducible rfl)
  simp only [Act.put, List.getElem_toArray, List.getElem_cons_zero, List.getElem_cons_succ, List.setIfInBounds_toArray, List.set_cons_zero, List.set_cons_succ]
  refine wpLate_pure (i := 9) (v := .int .i64 ((k : Int) + 1)) rfl (by kernel_rfl) (by kernel_rfl) (by kernel_rfl) (by kernel_rfl) (fun _ _ _ h => h) (Or.inl ⟨by rfl, ?_⟩) (fun _ => by assumption) ?_
  · intro w8 hSw; exact bin_take rfl rfl (Hadd.out w8) rfl rfl
  simp only [Act.put, List.getElem_toArray, List.getElem_cons_zero, List.getElem_cons_succ, List.setIfInBounds_toArray, List.set_cons_zero, List.set_cons_succ]
  refine wpLate_pure (i := 10) (v := .slice aR (X.length - (k + 1)) cR) rfl (by kernel_rfl) (by kernel_rfl) (by kernel_rfl) (by kernel_rfl) (fun _ _ _ h => h) (Or.inl ⟨by rfl, ?_⟩) (fun _ => by assumption) ?_
  · intro w8 hSw; exact sl_lo rfl (HRR.out w8) rfl rfl
  simp only [Act.put, List.getElem_toArray, List.getElem_cons_zero, List.getElem_cons_succ, List.setIfInBounds_toArray, List.set_cons_zero, List.set_cons_succ]
  refine wpLate_ready (rs := [0]) (by kernel_rfl) (by simp) ?_
  refine AllLate.cons rfl (fun K hK => ?_) AllLate.nil
  go_simp
  have own0 := own_empty U0 E0 rmT 15 hE
  have hB1 := below_on hB (below_new U0 (.cells #[] rmT)) (Nat.le_of_eq HE0.out)
  have hE1 : E0 ≤ (U0.alloc (.cells #[] rmT)).heap.size := Nat.le_trans hE (below_new U0 (.cells #[] rmT)).size
  obtain ⟨U1, hU1⟩ : ∃ U1, U1 = U0.alloc (.cells #[] rmT) := ⟨_, rfl⟩
  obtain ⟨g0, hg0⟩ : ∃ g, g = U0.heap.size := ⟨_, rfl⟩
  rw [← hU1] at own0 hB1 hE1 ⊢
  rw [← hg0] at own0 ⊢
  clear hU1 hg0
  refine hK.out _ _ (hB1.block b1 (by rw [HE0.out]; exact bx_lt D1.out)) (fun hHeld => ?_)
  clear hK K
  try simp only [Act.put, List.getElem_toArray, List.getElem_cons_zero, List.getElem_cons_succ, List.setIfInBounds_toArray, List.set_cons_zero, List.set_cons_succ]
  refine wpLate_ready (rs := [5]) (by kernel_rfl) (by simp) ?_
  refine AllLate.cons rfl (fun K hK => ?_) AllLate.nil
  rw [if_pos (by rfl)]
  refine wpo_append_lie (.tmp 24) (.tmp 28) rmsT rfl E0 rmT infoRm Try.underlying28 rfl (by decide) _ 0 [] rfl own0 _ _ _ _ rfl (HS.out.1.below (HB.out.trans (hB1.mono (by rw [HE0.out]; exact HB.out.size)))) (mRows_one _) HQ.out.2.2.1 HQ.out.2.2.2 hE1 fun a2 c2 U2 own2 hgr hat => ?_
  rw [Nat.zero_add, List.nil_append] at own2
  rw [Nat.zero_add]
  have hB2 := below_app hB1 hgr own0 (Nat.le_refl _) hE1
  have hE2 : E0 ≤ U2.heap.size := Nat.le_trans hE1 hgr.size
  clear hgr hat own0
  refine hK.out _ _ (hB2.block b1 (by rw [HE0.out]; exact bx_lt D1.out)) (fun hHeld => ?_)
  clear hK K
  try simp only [Act.put, List.getElem_toArray, List.getElem_cons_zero, List.getElem_cons_succ, List.setIfInBounds_toArray, List.set_cons_zero, List.set_cons_succ]
  refine wpLate_ready (rs := [11]) (by kernel_rfl) (by simp) ?_
  refine AllLate.cons rfl (fun K hK => ?_) AllLate.nil
  rw [if_pos (by rfl)]
  refine wpo_append_lie (.tmp 29) (.tmp 34) rmsT rfl E0 rmT infoRm Try.underlying28 rfl (by decide) _ k _ rfl own2 _ _ _ _ rfl (HS.out.2.below (HB.out.trans (hB2.mono (by rw [HE0.out]; exact HB.out.size)))) (mRows_one _) HQ.out.1 HQ.out.2.1 hE2 fun a3 c3 U3 own3 hgr hat => ?_
  rw [← mFlat_two, ← HN.out] at own3
  rw [← HN.out]
  have hB3x := below_app hB2 hgr own2 (Nat.le_refl _) hE2
  clear hgr hat own2
  have hs3 := hB3x.block b1 (by rw [HE0.out]; exact bx_lt D1.out)
  have HB3x := Lib.hid hB3x
  have Hown3 := Lib.hid own3
  clear hB3x own3 hB hB1 hB2 hE hE1 hE2
  refine hK.out _ _ hs3 (fun hHeld => ?_)
  clear hK K
  try simp only [Act.put, List.getElem_toArray, List.getElem_cons_zero, List.getElem_cons_succ, List.setIfInBounds_toArray, List.set_cons_zero, List.set_cons_succ]
  refine wpLate_pure (i := 12) (v := ?_) rfl (by kernel_rfl) (by kernel_rfl) (by kernel_rfl) (by kernel_rfl) (fun _ _ _ h => h) (Or.inl ⟨by rfl, ?_⟩) (fun _ => by assumption) ?_
  rotate_left
  · intro w8 hSw; clear hSw; go_simp; (try with_reducible rfl)
  simp only [Act.put, List.getElem_toArray, List.getElem_cons_zero, List.getElem_cons_succ, List.setIfInBounds_toArray, List.set_cons_zero, List.set_cons_succ]
  have hx1 := hs3.trans D1.out
  have y2 := block_cell hx1 2
  have f2 := block_free hx1 2
  have lx := bx_lt hx1
  simp at y2 f2
  obtain ⟨U4, hU4⟩ : ∃ U4, U4 = U3.setCell ⟨b1, 2, none⟩ (.slice a3 N c3) := ⟨_, rfl⟩
  have hx4 : U4.heap[b1]? = some (.cells #[.int .i64 (room : Nat), .slice aA nA cA, .slice a3 N c3] rbT (0, 0)) := by rw [hU4]; exact block_set hx1 2 _
  have hoth : ∀ i, i ≠ b1 → U4.heap[i]? = U3.heap[i]? := fun i hi => by rw [hU4]; exact heap_setCell_other U3 ⟨b1, 2, none⟩ i _ hi
  have hlt : ∀ i, i < V3.heap.size → i < E0 := fun i hi => by rw [HE0.out]; exact hi
  have hD2 := ((hoth b2 (fun e => Hap.out.1 e.symm)).trans (HB3x.out.block b2 (hlt _ (bx_lt D2.out)))).trans D2.out
  have hD3 := ((hoth b3 (fun e => Hap.out.2.1 e.symm)).trans (HB3x.out.block b3 (hlt _ (bx_lt D3.out)))).trans D3.out
  have hD7 := ((hoth p7 Hp7n.out.1).trans (HB3x.out.block p7 (hlt _ (bx_lt D7.out)))).trans D7.out
  have hB4 : Below W.heap.size W U4 := by
    have h1 : Below W.heap.size W U3 := HB.out.trans (HB3x.out.mono (by rw [HE0.out]; exact HB.out.size))
    rw [hU4]; exact sets_up h1 Hup.out.1 2 _
  have ho4 : U4.ownsRow E0 rmT 15 (.slice a3 N c3) N (mFlat (X.take k ++ X.drop (k + 1))) := by
    rw [hU4]
    exact own_gr Hown3.out (Gr.one (F := fun i => i = b1) (grown_set U3 b1 2 _) (fun i e => (Option.some.inj e).symm)) (fun g hg e => by
      subst e
      exact Nat.lt_irrefl _ (Nat.lt_of_lt_of_le (hlt _ (bx_lt D1.out)) (Hown3.out.lt g hg).1))
  have HU4 := Lib.hid hU4
  have X4 := Lib.hid hx4
  have HD2 := Lib.hid hD2
  have HD3 := Lib.hid hD3
  have HD7 := Lib.hid hD7
  have HB4 := Lib.hid hB4
  have HO4 := Lib.hid ho4
  have HEW : Hid (W.heap.size ≤ E0) := (by rw [HE0.out]; exact HB.out.size : W.heap.size ≤ E0)
  clear hx1 hU4 hx4 hoth hlt hD2 hD3 hD7 hB4 ho4 hs3
  refine wpLate_ready (rs := [13]) (by kernel_rfl) (by simp) ?_
  refine AllLate.store rfl (fun K hK => ?_)
  go_simp
  rw [← HU4.out]
  refine hK.out _ _ ?_
  clear hK K y2 f2 lx
  try simp only [Act.put, List.getElem_toArray, List.getElem_cons_zero, List.getElem_cons_succ, List.setIfInBounds_toArray, List.set_cons_zero, List.set_cons_succ]
  refine wpLate_done (by kernel_rfl) ?_ _
  go_upto_region 5 with fail
  refine wp_region_held_drew (S := fun V => V.heap[b1]? = U4.heap[b1]? ∧ V.heap[p7]? = U4.heap[p7]?) (by kernel_rfl) ⟨rfl, rfl⟩ (fun hHeld => ?_)
  obtain ⟨Z, hZ⟩ : ∃ Z, Z = U4.drew := ⟨_, rfl⟩
  have hBZ : Below U4.heap.size U4 Z := by rw [hZ]; exact (Below.refl _ U4).drew
  have hZ2 : Z.heap[b2]? = some (.cells #[.int .i64 0, .slice none 0 0, .slice none 0 0] rbT (0, 0)) := bx_below hBZ HD2.out
  have hZ3 := bx_below hBZ HD3.out
  rw [← hZ] at hHeld ⊢
  clear hZ
  refine wpAnyH_take (i := 0) (v := .agg #[.int .i64 (room : Nat), .slice aA nA cA, .slice a3 N c3]) rfl (by kernel_rfl) (by kernel_rfl) (by kernel_rfl) (fun _ _ _ h => h) (Or.inl ⟨by rfl, ?_⟩) (by assumption) ?_
  · intro w8 hSw; exact ld_takeT rfl (ldRb (hSw.1.trans X4.out)) rfl
  simp only [Act.put, List.getElem_toArray, List.getElem_cons_zero, List.getElem_cons_succ, List.setIfInBounds_toArray, List.set_cons_zero, List.set_cons_succ]
  refine wpAnyH_take (i := 1) (v := .agg (mC x)) rfl (by kernel_rfl) (by kernel_rfl) (by kernel_rfl) (fun _ _ _ h => h) (Or.inl ⟨by rfl, ?_⟩) (by assumption) ?_
  · intro w8 hSw; exact ld_takeT rfl (ld_mbox rmT rmT (.inr rfl) (hSw.2.trans HD7.out)) rfl
  simp only [Act.put, List.getElem_toArray, List.getElem_cons_zero, List.getElem_cons_succ, List.setIfInBounds_toArray, List.set_cons_zero, List.set_cons_succ]
  have c0 := block_cell hZ2 0
  have c1 := block_cell hZ2 1
  have c2 := block_cell hZ2 2
  have f0 := block_free hZ2 0
  have f1 := block_free hZ2 1
  have f2 := block_free hZ2 2
  have l2 := bx_lt hZ2
  simp at c0 c1 c2 f0 f1 f2
  have u5 := bx_set3 (V := Z) hZ2 (.int .i64 (room : Nat)) (.slice aA nA cA) (.slice a3 N c3)
  have hg5 := gr_set3 Z b2 (.int .i64 (room : Nat)) (.slice aA nA cA) (.slice a3 N c3)
  obtain ⟨U5, hU5⟩ : ∃ U, U = ((Z.setCell ⟨b2, 0, none⟩ (.int .i64 (room : Nat))).setCell ⟨b2, 1, none⟩ (.slice aA nA cA)).setCell ⟨b2, 2, none⟩ (.slice a3 N c3) := ⟨_, rfl⟩
  rw [← hU5] at u5 hg5
  have HU5 := Lib.hid hU5
  have U5x := Lib.hid u5
  have HG5 := Lib.hid hg5
  clear hU5 u5 hg5
  refine wpAnyH_ready (rs := [2]) (by kernel_rfl) (by simp) ?_
  refine AllReadyH.cons rfl (fun K hK => ?_) AllReadyH.nil
  go_simp
  rw [← HU5.out]
  refine hK.out _ _ ⟨(HG5.out.block b1 (bx_lt (hHeld.1.trans X4.out)) Hap.out.1).trans hHeld.1, (HG5.out.block p7 (bx_lt (hHeld.2.trans HD7.out)) Hp7n.out.2.1).trans hHeld.2⟩ (fun hHeld => ?_)
  clear hK K c0 c1 c2 f0 f1 f2 l2
  try simp only [Act.put, List.getElem_toArray, List.getElem_cons_zero, List.getElem_cons_succ, List.setIfInBounds_toArray, List.set_cons_zero, List.set_cons_succ]
  refine wpAnyH_ready (rs := [3]) (by kernel_rfl) (by simp) ?_
  refine AllReadyH.cons rfl (fun K hK => ?_) AllReadyH.nil
  have hx35 : U5.heap[b3]? = some (.cells (mC mp0) rmT (0, 0)) := (HG5.out.block b3 (bx_lt hZ3) (fun e => Hap.out.2.2 e.symm)).trans hZ3
  refine wpo_stM (.inr rfl) rfl rfl rfl hx35 rfl (fun U6 hx6 hg6 hz6 => ?_)
  have hg6' : Gr (fun i => i = b3) U5 U6 := Gr.one hg6 (fun i e => (Option.some.inj e).symm)
  refine hK.out _ _ ⟨(hg6'.block b1 (bx_lt (hHeld.1.trans X4.out)) Hap.out.2.1).trans hHeld.1, (hg6'.block p7 (bx_lt (hHeld.2.trans HD7.out)) Hp7n.out.2.2).trans hHeld.2⟩ (fun hHeld => ?_)
  clear hK K
  try simp only [Act.put, List.getElem_toArray, List.getElem_cons_zero, List.getElem_cons_succ, List.setIfInBounds_toArray, List.set_cons_zero, List.set_cons_succ]
  refine wpAnyH_take (i := 4) (v := ?_) rfl (by kernel_rfl) (by kernel_rfl) (by kernel_rfl) (fun _ _ _ h => h) (Or.inl ⟨by rfl, ?_⟩) (by assumption) ?_
  rotate_left
  · intro w8 hSw; clear hSw; go_simp; (try with_reducible rfl)
  simp only [Act.put, List.getElem_toArray, List.getElem_cons_zero, List.getElem_cons_succ, List.setIfInBounds_toArray, List.set_cons_zero, List.set_cons_succ]
  refine wpAnyH_done (by kernel_rfl) ?_ _
  have u6 := (hg6'.block b2 (bx_lt U5x.out) Hap.out.2.2).trans U5x.out
  have hG46 : Gr (fun i => i = b2 ∨ i = b3) U4 U6 := ((Gr.below hBZ).trans (HG5.out.mono (fun i hi => .inl hi))).trans (hg6'.mono (fun i hi => .inr hi))
  have hfin : RTakeIs W room aA nA cA (X.take k ++ X.drop (k + 1)) x true (.returned (.tuple #[.agg #[.int .i64 (room : Nat), .slice aA nA cA, .slice a3 N c3], .agg (mC x), .bool true])) U6 := by
    have hln : (X.take k ++ X.drop (k + 1)).length = N := by rw [HN.out, List.length_append, List.length_take, List.length_drop, Nat.min_eq_left (Nat.le_of_lt hk)]
    have ho6 := own_gr HO4.out hG46 (fun g hg e => by
      have h1 := (HO4.out.lt g hg).1
      rcases e with e | e
      · subst e; exact Nat.lt_irrefl _ (Nat.lt_of_lt_of_le (by rw [HE0.out]; exact bx_lt D2.out) h1)
      · subst e; exact Nat.lt_irrefl _ (Nat.lt_of_lt_of_le (by rw [HE0.out]; exact bx_lt D3.out) h1))
    refine ⟨a3, c3, by rw [hln]; rfl, MgRow.of_own (base := E0) (by rw [hln]; exact ho6), HB4.out.trans (hG46.above HB4.out.size (fun i hi => by rcases hi with hi | hi <;> rw [hi]; exact Hup.out.2.1; exact Hup.out.2.2))⟩
  have Hfin := Lib.hid hfin
  clear hfin hG46
  go_wp2_with fail
  exact bodyPost_ret (v := .tuple #[.agg #[.int .i64 (room : Nat), .slice aA nA cA, .slice a3 N c3], .agg (mC x), .bool true]) (results_3 Try.results23 rfl rfl rfl (lvRb u6) (lv_mbox _ _ (.inr rfl) hx6)) rfl Hfin.out
end Go.Proofs.Ytbmkgcoolofmpaa
