/- Lemmas for DeadlineOnce (Dc Rk Dd Df Dh Dn Dp OpenD Dq Dr). No statement of the seat is proved here. -/
import Derived.Deep.RegionHeld
import Derived.Test.YtedlplkomfiahaaR1
import Derived.Test.YtedlplkomfiahaaR16
import Derived.Test.YtedlplkomfiahaaR17
namespace Go.Proofs.Ytedlplkomfiahaa
set_option linter.unusedVariables false
set_option linter.unusedSimpArgs false
set_option linter.unusedSectionVars false
open Go Go.RowKit Go.Maps Go.Deep
abbrev dsT : TypeId := 42
def dsV (now last : Int) (ao : Option Addr) (n cap : Nat) : Value := .agg #[.int .i64 now, .int .u64 last, .slice ao n cap]
def BStIs (W : World) (now last : Int) (X : List Th) (e : Ending) (W' : World) : Prop := ∃ ao cap, e = .returned (dsV now last ao X.length cap) ∧ W'.ownsRow W.heap.size thT 3 (.slice ao X.length cap) X.length (thFlat X) ∧ Below W.heap.size W W'
set_option maxRecDepth 100000 in
set_option maxHeartbeats 8000000 in
theorem bstate_o {W wr : World} {G : Nat → Prop} {b : Nat} {now last : Int} {X : List Th} (h : Bk W wr G b now last X) :
    Calls Try.prog 13 #[.pointer (some ⟨b, 0, none⟩)] wr (BStIs wr now last X) := by
  obtain ⟨w, F, h1, h2, h3, h4, h5, h6⟩ := h
  obtain ⟨W1, hW1⟩ : ∃ W1, W1 = wr.alloc (.cells #[.int .i64 0, .int .u64 0, .slice none 0 0] dsT) := ⟨_, rfl⟩
  obtain ⟨p, hp⟩ : ∃ p, p = wr.heap.size := ⟨_, rfl⟩
  have hB1 : Below wr.heap.size wr W1 := by rw [hW1]; exact below_new _ _
  have hx1 : W1.heap[p]? = some (.cells #[.int .i64 0, .int .u64 0, .slice none 0 0] dsT (0, 0)) := by rw [hW1, hp]; exact heap_alloc_new _ _
  have hb2 := bx_below hB1 h2
  have e0 := block_cell hb2 0
  have el := (Array.getElem?_eq_some_iff.1 hb2).1
  simp at e0
  have hl0 := (Array.getElem?_eq_some_iff.1 h2).1
  have hpl := (Array.getElem?_eq_some_iff.1 hx1).1
  have hnb : b ≠ p := by omega
  have hpw : wr.heap.size ≤ p := by omega
  have Hno := Lib.hid (bnone_no W1 b w e0 el)
  have H1 := Lib.hid (h1.below hB1)
  have HB1 := Lib.hid hB1
  have X1 := Lib.hid hx1
  have Hb2 := Lib.hid hb2
  have HN := Lib.hid (And.intro hnb (And.intro hpw hpl))
  have hld : ∀ W', W'.heap[b]? = W1.heap[b]? → (Instr.loadAt 28 (.pointer (some ⟨b, 1, none⟩))).run Try.prog W' = .ok (.int .u64 last) W' ∧ (Instr.loadAt 59 (.pointer (some ⟨b, 0, none⟩))).run Try.prog W' = .ok (.pointer (some ⟨w, 0, none⟩)) W' := fun W' hw => by
    have p0 := block_cell (hw.trans hb2) 0
    have p1 := block_cell (hw.trans hb2) 1
    simp at p0 p1
    exact ⟨by go_simp, by go_simp⟩
  have Hld := Lib.hid hld
  have Hlb := Lib.hid el
  clear h1 h2 h3 h4 h5 h6 hB1 hx1 hb2 hnb hpw hl0 hld hpl
  go_enter Try.func13, Try.ntmps13
  go_wp2_with fail
  rw [← hW1, ← hp]
  clear hW1 hp
  refine Hno.out.mono ?_
  rintro e V1 ⟨rfl, hv⟩
  subst V1
  go_upto_region 3 with fail
  have Hnw := Lib.hid (now_o (H1.out.below (Below.refl _ W1).drew))
  have Hal := Lib.hid (all_r (H1.out.below (Below.refl _ W1).drew))
  refine wp_region_held_drew (S := fun W' => W'.heap[b]? = W1.heap[b]?) (by kernel_rfl) rfl (fun hHeld => ?_)
  refine wpAnyH_take (i := 0) (v := ?_) rfl (by kernel_rfl) (by kernel_rfl) (by kernel_rfl) (fun _ _ _ h => h) (Or.inl ⟨by rfl, ?_⟩) (by assumption) ?_
  rotate_left
  · intro w8 hSw; clear hSw; go_simp; (try with_reducible rfl)
  simp only [Act.put, List.getElem_toArray, List.getElem_cons_zero, List.getElem_cons_succ, List.setIfInBounds_toArray, List.set_cons_zero, List.set_cons_succ]
  refine wpAnyH_take (i := 1) (v := ?_) rfl (by kernel_rfl) (by kernel_rfl) (by kernel_rfl) (fun _ _ _ h => h) (Or.inl ⟨by rfl, ?_⟩) (by assumption) ?_
  rotate_left
  · intro w8 hSw; clear hSw; go_simp; (try with_reducible rfl)
  simp only [Act.put, List.getElem_toArray, List.getElem_cons_zero, List.getElem_cons_succ, List.setIfInBounds_toArray, List.set_cons_zero, List.set_cons_succ]
  refine wpAnyH_take (i := 2) (v := ?_) rfl (by kernel_rfl) (by kernel_rfl) (by kernel_rfl) (fun _ _ _ h => h) (Or.inl ⟨by rfl, ?_⟩) (by assumption) ?_
  rotate_left
  · intro w8 hSw; clear hSw; go_simp; (try with_reducible rfl)
  simp only [Act.put, List.getElem_toArray, List.getElem_cons_zero, List.getElem_cons_succ, List.setIfInBounds_toArray, List.set_cons_zero, List.set_cons_succ]
  refine wpAnyH_take (i := 3) (v := .pointer (some ⟨w, 0, none⟩)) rfl (by kernel_rfl) (by kernel_rfl) (by kernel_rfl) (fun _ _ _ h => h) (Or.inl ⟨by rfl, ?_⟩) (by assumption) ?_
  · intro w8 hSw; exact ld_takeT rfl (Hld.out w8 hSw).2 rfl
  simp only [Act.put, List.getElem_toArray, List.getElem_cons_zero, List.getElem_cons_succ, List.setIfInBounds_toArray, List.set_cons_zero, List.set_cons_succ]
  refine wpAnyH_take (i := 5) (v := ?_) rfl (by kernel_rfl) (by kernel_rfl) (by kernel_rfl) (fun _ _ _ h => h) (Or.inl ⟨by rfl, ?_⟩) (by assumption) ?_
  rotate_left
  · intro w8 hSw; clear hSw; go_simp; (try with_reducible rfl)
  simp only [Act.put, List.getElem_toArray, List.getElem_cons_zero, List.getElem_cons_succ, List.setIfInBounds_toArray, List.set_cons_zero, List.set_cons_succ]
  refine wpAnyH_take (i := 6) (v := ?_) rfl (by kernel_rfl) (by kernel_rfl) (by kernel_rfl) (fun _ _ _ h => h) (Or.inl ⟨by rfl, ?_⟩) (by assumption) ?_
  rotate_left
  · intro w8 hSw; clear hSw; go_simp; (try with_reducible rfl)
  simp only [Act.put, List.getElem_toArray, List.getElem_cons_zero, List.getElem_cons_succ, List.setIfInBounds_toArray, List.set_cons_zero, List.set_cons_succ]
  refine wpAnyH_take (i := 7) (v := ?_) rfl (by kernel_rfl) (by kernel_rfl) (by kernel_rfl) (fun _ _ _ h => h) (Or.inl ⟨by rfl, ?_⟩) (by assumption) ?_
  rotate_left
  · intro w8 hSw; clear hSw; go_simp; (try with_reducible rfl)
  simp only [Act.put, List.getElem_toArray, List.getElem_cons_zero, List.getElem_cons_succ, List.setIfInBounds_toArray, List.set_cons_zero, List.set_cons_succ]
  refine wpAnyH_take (i := 8) (v := .int .u64 last) rfl (by kernel_rfl) (by kernel_rfl) (by kernel_rfl) (fun _ _ _ h => h) (Or.inl ⟨by rfl, ?_⟩) (by assumption) ?_
  · intro w8 hSw; exact ld_takeT rfl (Hld.out w8 hSw).1 rfl
  simp only [Act.put, List.getElem_toArray, List.getElem_cons_zero, List.getElem_cons_succ, List.setIfInBounds_toArray, List.set_cons_zero, List.set_cons_succ]
  refine wpAnyH_take (i := 9) (v := ?_) rfl (by kernel_rfl) (by kernel_rfl) (by kernel_rfl) (fun _ _ _ h => h) (Or.inl ⟨by rfl, ?_⟩) (by assumption) ?_
  rotate_left
  · intro w8 hSw; clear hSw; go_simp; (try with_reducible rfl)
  simp only [Act.put, List.getElem_toArray, List.getElem_cons_zero, List.getElem_cons_succ, List.setIfInBounds_toArray, List.set_cons_zero, List.set_cons_succ]
  refine wpAnyH_take (i := 10) (v := ?_) rfl (by kernel_rfl) (by kernel_rfl) (by kernel_rfl) (fun _ _ _ h => h) (Or.inl ⟨by rfl, ?_⟩) (by assumption) ?_
  rotate_left
  · intro w8 hSw; clear hSw; go_simp; (try with_reducible rfl)
  simp only [Act.put, List.getElem_toArray, List.getElem_cons_zero, List.getElem_cons_succ, List.setIfInBounds_toArray, List.set_cons_zero, List.set_cons_succ]
  refine wpAnyH_take (i := 11) (v := ?_) rfl (by kernel_rfl) (by kernel_rfl) (by kernel_rfl) (fun _ _ _ h => h) (Or.inl ⟨by rfl, ?_⟩) (by assumption) ?_
  rotate_left
  · intro w8 hSw; clear hSw; go_simp; (try with_reducible rfl)
  simp only [Act.put, List.getElem_toArray, List.getElem_cons_zero, List.getElem_cons_succ, List.setIfInBounds_toArray, List.set_cons_zero, List.set_cons_succ]
  refine wpAnyH_take (i := 12) (v := .pointer (some ⟨w, 0, none⟩)) rfl (by kernel_rfl) (by kernel_rfl) (by kernel_rfl) (fun _ _ _ h => h) (Or.inl ⟨by rfl, ?_⟩) (by assumption) ?_
  · intro w8 hSw; exact ld_takeT rfl (Hld.out w8 hSw).2 rfl
  simp only [Act.put, List.getElem_toArray, List.getElem_cons_zero, List.getElem_cons_succ, List.setIfInBounds_toArray, List.set_cons_zero, List.set_cons_succ]
  refine wpAnyH_ready (rs := [4]) (by kernel_rfl) (by simp) ?_
  refine AllReadyH.cons rfl (fun K hK => ?_) AllReadyH.nil
  go_simp
  go_at_call 39
  refine (Hnw.out).mono ?_
  rintro e V2 ⟨rfl, hw2⟩; subst V2
  refine hK.out _ _ rfl (fun hHeld => ?_)
  clear hK K
  try simp only [Act.put, List.getElem_toArray, List.getElem_cons_zero, List.getElem_cons_succ, List.setIfInBounds_toArray, List.set_cons_zero, List.set_cons_succ]
  refine wpAnyH_ready (rs := [13]) (by kernel_rfl) (by simp) ?_
  refine AllReadyH.cons rfl (fun K hK => ?_) AllReadyH.nil
  go_simp
  go_at_call 40
  refine (Hal.out).mono ?_
  rintro e V3 ⟨ao, cap, rfl, ho, hb3⟩
  refine hK.out _ _ (hb3.block b Hlb.out) (fun hHeld => ?_)
  clear hK K
  try simp only [Act.put, List.getElem_toArray, List.getElem_cons_zero, List.getElem_cons_succ, List.setIfInBounds_toArray, List.set_cons_zero, List.set_cons_succ]
  refine wpAnyH_take (i := 14) (v := ?_) rfl (by kernel_rfl) (by kernel_rfl) (by kernel_rfl) (fun _ _ _ h => h) (Or.inl ⟨by rfl, ?_⟩) (by assumption) ?_
  rotate_left
  · intro w8 hSw; clear hSw; go_simp; (try with_reducible rfl)
  simp only [Act.put, List.getElem_toArray, List.getElem_cons_zero, List.getElem_cons_succ, List.setIfInBounds_toArray, List.set_cons_zero, List.set_cons_succ]
  have hB3 : Below W1.heap.size W1 V3 := below_on (Below.refl _ W1).drew hb3 (Nat.le_refl _)
  have x3 := bx_below hB3 X1.out
  have y0 := block_cell x3 0
  have y1 := block_cell x3 1
  have y2 := block_cell x3 2
  have f0 := block_free x3 0
  have f1 := block_free x3 1
  have f2 := block_free x3 2
  have l3 := (Array.getElem?_eq_some_iff.1 x3).1
  simp at y0 y1 y2 f0 f1 f2
  have u3 := bx_set3 x3 (.int .i64 now) (.int .u64 last) (.slice ao X.length cap)
  have hgU := gr_set3 V3 p (.int .i64 now) (.int .u64 last) (.slice ao X.length cap)
  obtain ⟨U, hU⟩ : ∃ U, U = ((V3.setCell ⟨p, 0, none⟩ (.int .i64 now)).setCell ⟨p, 1, none⟩ (.int .u64 last)).setCell ⟨p, 2, none⟩ (.slice ao X.length cap) := ⟨_, rfl⟩
  rw [← hU] at u3 hgU
  have hSU : U.heap[b]? = W1.heap[b]? := (hgU.block b (Nat.lt_of_lt_of_le Hlb.out hB3.size) HN.out.1).trans (hB3.block b Hlb.out)
  have HSU := Lib.hid hSU
  have hR : BStIs wr now last X (.returned (dsV now last ao X.length cap)) U := ⟨ao, cap, rfl, own_base (own_gr ho hgU (fun i e => by subst e; exact HN.out.2.2)) HB1.out.size, (below_on HB1.out hB3 (Nat.le_refl _)).trans (hgU.above (Nat.le_trans HB1.out.size hB3.size) (fun i e => by subst e; exact HN.out.2.1))⟩
  have HR := Lib.hid hR
  have HU := Lib.hid hU
  have U3 := Lib.hid u3
  clear hSU hgU hU u3 x3 hB3 hb3 ho hR
  refine wpAnyH_ready (rs := [15]) (by kernel_rfl) (by simp) ?_
  refine AllReadyH.cons rfl (fun K hK => ?_) AllReadyH.nil
  go_simp
  rw [← HU.out]
  refine hK.out _ _ HSU.out (fun hHeld => ?_)
  clear hK K y0 y1 y2 f0 f1 f2 l3
  try simp only [Act.put, List.getElem_toArray, List.getElem_cons_zero, List.getElem_cons_succ, List.setIfInBounds_toArray, List.set_cons_zero, List.set_cons_succ]
  refine wpAnyH_done (by kernel_rfl) ?_ _
  have u0 := block_cell U3.out 0
  have u1 := block_cell U3.out 1
  have u2 := block_cell U3.out 2
  have ul := (Array.getElem?_eq_some_iff.1 U3.out).1
  simp at u0 u1 u2
  go_wp2_with fail
  refine bodyPost_ret (v := .agg #[.int .i64 now, .int .u64 last, .slice ao X.length cap]) ?_ rfl HR.out
  simp [results, Try.results13, go_sem, u0, u1, u2, ul]
/-- New -/
theorem bnew_no (W : World) (now : Int) (h : ¬ Inst now) : Calls Try.prog 8 #[.int .i64 now] W fun e W' => e = .returned (.pointer none) ∧ W' = W := by
  have Hn := Lib.hid (wnew_no W now h)
  go_enter Try.func8, Try.ntmps8
  go_wp2_with fail
  refine Hn.out.mono ?_
  rintro e V1 ⟨rfl, hv⟩
  subst V1
  go_wp2_with fail
  go_ret
  exact ⟨rfl, rfl⟩
theorem bnew_o (W wr : World) (now : Int) (h : Inst now) (hb : Below W.heap.size W wr) : Calls Try.prog 8 #[.int .i64 now] wr fun e W' => ∃ b G, e = .returned (.pointer (some ⟨b, 0, none⟩)) ∧ Bk W W' G b now 0 [] ∧ Below wr.heap.size wr W' ∧ ∀ i, G i → wr.heap.size ≤ i := by
  have Hn := Lib.hid (new_o W wr now h hb)
  have Hb := Lib.hid hb
  clear hb
  go_enter Try.func8, Try.ntmps8
  go_wp2_with fail
  refine (show Calls _ _ _ _ _ from Hn.out).mono ?_
  rintro e V1 ⟨w, F, rfl, hw, hb1, hF⟩
  obtain ⟨V2, hV2⟩ : ∃ V2, V2 = V1.alloc (.cells #[.pointer (some ⟨w, 0, none⟩), .int .u64 0] bkT) := ⟨_, rfl⟩
  obtain ⟨p, hp⟩ : ∃ p, p = V1.heap.size := ⟨_, rfl⟩
  have hB2 : Below V1.heap.size V1 V2 := by rw [hV2]; exact below_new _ _
  have hx2 : V2.heap[p]? = some (.cells #[.pointer (some ⟨w, 0, none⟩), .int .u64 0] bkT (0, 0)) := by rw [hV2, hp]; exact heap_alloc_new _ _
  have hR : Bk W V2 (fun i => F i ∨ i = p) p now 0 [] := ⟨w, F, hw.below hB2, hx2, fun e => by have := hw.bd p e; omega, fun i => Iff.rfl, by have := hw.bel.size; omega, by omega, by omega⟩
  have HR := Lib.hid hR
  have HB2 := Lib.hid (below_on hb1 hB2 (Nat.le_refl _))
  have HF : Hid (∀ i, F i ∨ i = p → wr.heap.size ≤ i) := (fun i hi => hi.elim (hF i) (fun e => by have := hb1.size; omega) : ∀ i, F i ∨ i = p → wr.heap.size ≤ i)
  clear hw hb1 hF hB2 hx2 hR
  go_wp2_with fail
  rw [← hV2, ← hp]
  go_ret
  exact ⟨p, _, rfl, HR.out, HB2.out, HF.out⟩
end Go.Proofs.Ytedlplkomfiahaa
namespace Go.Proofs.Ytedlplkomfiahaa
set_option linter.unusedVariables false
set_option linter.unusedSimpArgs false
set_option linter.unusedSectionVars false
open Go
section
variable {P : Program} {ops : Array Oper} {Q : Exit → Act → World → Prop} {md : Region.Mode} {S : World → Prop} {k : Nat}
/-- whatever order; S holds till number k has come up -/
def wpLate (P : Program) (md : Region.Mode) (ops : Array Oper) (Q : Exit → Act → World → Prop) (S : World → Prop) (k : Nat) : Nat → Array Bool → Act → World → Prop
  | 0, L, a, w => Region.ready md ops L = [] ∧ Q .normal a w
  | n + 1, L, a, w => (Region.ready md ops L = [] → Q .normal a w) ∧
      ∀ i ∈ Region.ready md ops L, wpOp P ops Q i (fun a' w' => ((L.setIfInBounds i true).getD k true = false → S w') ∧ wpLate P md ops Q S k n (L.setIfInBounds i true) a' w') a w
def AllLate (P : Program) (md : Region.Mode) (ops : Array Oper) (Q : Exit → Act → World → Prop) (S : World → Prop) (k n : Nat) (L : Array Bool) (a : Act) (w : World) (rs : List Nat) : Prop :=
  ∀ i ∈ rs, wpOp P ops Q i (fun a' w' => ((L.setIfInBounds i true).getD k true = false → S w') ∧ wpLate P md ops Q S k n (L.setIfInBounds i true) a' w') a w
theorem AllLate.nil {n : Nat} {L : Array Bool} {a : Act} {w : World} : AllLate P md ops Q S k n L a w [] := fun _ h => by cases h
theorem AllLate.cons {n : Nat} {L : Array Bool} {a : Act} {w : World} {i : Nat} {o : Oper} {rs : List Nat} (ho : ops[i]? = some o)
    (h : ∀ K' : Act → World → Prop, Shut (∀ a w, S w → (S w → wpLate P md ops Q S k n (L.setIfInBounds i true) a w) → K' a w) → if Region.wanted o (yielded ops a.tmps) = true then Oper.wp P o a w K' Q else K' (a.put o.dst undef) w)
    (hs : AllLate P md ops Q S k n L a w rs) : AllLate P md ops Q S k n L a w (i :: rs) := fun j hj => by
  rcases List.mem_cons.1 hj with rfl | hj
  · exact wpOp_step ho (fun K' hK => h K' (fun a w hS hW => hK a w ⟨fun _ => hS, hW hS⟩))
  · exact hs j hj
end
end Go.Proofs.Ytedlplkomfiahaa
namespace Go.Proofs.Ytedlplkomfiahaa
set_option linter.unusedVariables false
set_option linter.unusedSimpArgs false
set_option linter.unusedSectionVars false
open Go Go.RowKit Go.Maps Go.Deep
abbrev rsT : TypeId := 50
/-- a row of things that reads, whatever its block -/
abbrev ThR (W : World) (ao : Option Addr) (cap : Nat) (l : List Th) : Prop := Sl W 3 ao l.length cap (thFlat l)
theorem ThR.cells {W : World} {ao : Option Addr} {cap : Nat} {l : List Th} (h : ThR W ao cap l) (i : Nat) (hi : i < l.length) : ∃ b off, ao = some ⟨b, off, .none⟩ ∧ b < W.heap.size ∧
    W.cell? ⟨b, off + i * 3, none⟩ = some (.int .u64 l[i].id) ∧ W.cell? ⟨b, off + i * 3 + 1, none⟩ = some (.int .u64 l[i].gen) ∧ W.cell? ⟨b, off + i * 3 + 2, none⟩ = some (.int .i64 l[i].due) := by
  have h3 : (thCells l[i]).length = 3 := rfl
  have g := fun j (hj : j < 3) => thFlat_get l i hi j hj
  obtain ⟨b, off, e, c0⟩ := h.cell (i * 3) _ (g 0 (by decide))
  obtain ⟨b1, off1, e1, c1⟩ := h.cell (i * 3 + 1) _ (g 1 (by decide))
  obtain ⟨b2, off2, e2, c2⟩ := h.cell (i * 3 + 2) _ (g 2 (by decide))
  have q1 := e.symm.trans e1
  have q2 := e.symm.trans e2
  simp only [Option.some.injEq, Addr.mk.injEq, and_true] at q1 q2
  obtain ⟨rfl, rfl⟩ := q1
  obtain ⟨rfl, rfl⟩ := q2
  exact ⟨b, off, e, cell?_lt c0, c0, c1, c2⟩
theorem ThR.below {W W' : World} {ao : Option Addr} {cap : Nat} {l : List Th} (h : ThR W ao cap l) (hb : Below W.heap.size W W') : ThR W' ao cap l := Sl.below h hb
end Go.Proofs.Ytedlplkomfiahaa
namespace Go.Proofs.Ytedlplkomfiahaa
set_option linter.unusedVariables false
set_option linter.unusedSimpArgs false
set_option linter.unusedSectionVars false
open Go Go.RowKit Go.Maps Go.Deep
theorem rt_keep {V U : World} {a : Option Addr} {c : Nat} {l : RLs} {H : Nat → Prop} (h : Rt V a c l) (hg : Gr H V U) (hA : ∀ x, a = some x → ¬ H x.block) : Rt U a c l := rt_gr h hg (fun x e => ⟨h.lt x e, hA x e⟩)
/-- a box of another type is not the row's block -/
theorem rt_off {V : World} {p : Nat} {T : TypeId} {cs : Array Value} {a : Option Addr} {c : Nat} {l : RLs} (h : Rt V a c l) (hx : V.heap[p]? = some (.cells cs T (0, 0))) (hT : T ≠ rtT) : ∀ x, a = some x → x.block ≠ p := fun x e e2 => by
  obtain ⟨b, off, s⟩ := x
  have ht := h.typ b off s e
  simp only at e2
  subst e2
  unfold elem? at ht
  rw [hx] at ht
  exact hT (Option.some.inj ht)
end Go.Proofs.Ytedlplkomfiahaa
namespace Go.Proofs.Ytedlplkomfiahaa
set_option linter.unusedVariables false
set_option linter.unusedSimpArgs false
set_option linter.unusedSectionVars false
open Go Go.RowKit Go.Maps Go.Deep
/-- a call of a book -/
structure DOp where
  kind : Int
  id : Int
  at_ : Int
deriving Inhabited
abbrev dopT : TypeId := 30
def dopCells (o : DOp) : List Value := [.int .i64 o.kind, .int .u64 o.id, .int .i64 o.at_]
/-- the call's result is set: its box is neither the book's nor the row's -/
theorem ddone_sets {Wb W Z V : World} {G G9 : Nat → Prop} {b b3 : Nat} {now' last' : Int} {X' : List Th} {a3 : Option Addr} {c3 : Nat} {x0 x1 x2 : Value} (hbb : Wb.heap.size ≤ W.heap.size)
    (hBZ : Below W.heap.size W Z) (hRZ : Rt Z a3 c3 (slot0 X')) (hAZ : RAp Z G a3) (hwo : Bk Wb V G9 b now' last' X') (hg : Gr G Z V) (hF9 : ∀ i, G9 i → G i ∨ Z.heap.size ≤ i)
    (hx : Z.heap[b3]? = some (.cells #[x0, x1, x2] rsT (0, 0))) (hb : W.heap.size ≤ b3) (hF3 : ¬ G b3) (v0 v1 v2 : Value) :
    ∃ U, U = ((V.setCell ⟨b3, 0, none⟩ v0).setCell ⟨b3, 1, none⟩ v1).setCell ⟨b3, 2, none⟩ v2 ∧ (Bk Wb U G9 b now' last' X' ∧ Rt U a3 c3 (slot0 X') ∧ RAp U G9 a3 ∧ Gr G W U ∧ ∀ i, G9 i → G i ∨ W.heap.size ≤ i) ∧ U.heap[b3]? = some (.cells #[v0, v1, v2] rsT (0, 0)) ∧ ∀ i, i ≠ b3 → U.heap[i]? = V.heap[i]? := by
  have hlt := (Array.getElem?_eq_some_iff.1 hx).1
  have xV := (hg.block b3 hlt hF3).trans hx
  have xU := bx_set3 xV v0 v1 v2
  have hgU := gr_set3 V b3 v0 v1 v2
  have hZs := hBZ.size
  have hVs := hg.size
  have hrV := rt_gr hRZ hg hAZ
  refine ⟨_, rfl, ⟨?_, ?_, ?_, ?_, ?_⟩, xU, fun i hi => ((heap_setCell_other _ ⟨b3, 2, none⟩ i v2 hi).trans (heap_setCell_other _ ⟨b3, 1, none⟩ i v1 hi)).trans (heap_setCell_other V ⟨b3, 0, none⟩ i v0 hi)⟩
  · exact hwo.beside hgU (fun i hi e => by subst e; rcases hF9 _ hi with h | h; exact hF3 h; omega) (fun i e => by subst e; omega)
  · exact rt_keep hrV hgU (rt_off hrV xV (by decide))
  · intro a e
    have h1 := hAZ a e
    refine ⟨Nat.lt_of_lt_of_le h1.1 (Nat.le_trans hVs hgU.size), fun h => ?_⟩
    rcases hF9 _ h with h | h
    · exact h1.2 h
    · omega
  · exact ((Gr.below hBZ).trans hg).then hgU (fun i e => by subst e; exact .inr hb)
  · intro i hi
    rcases hF9 i hi with h | h
    · exact .inl h
    · exact .inr (Nat.le_trans hZs h)
end Go.Proofs.Ytedlplkomfiahaa
namespace Go.Proofs.Ytedlplkomfiahaa
set_option linter.unusedVariables false
set_option linter.unusedSimpArgs false
set_option linter.unusedSectionVars false
open Go Go.RowKit Go.Maps Go.Deep
abbrev bmT : TypeId := 27
theorem plainElem_bool_inv13 {P : Program} {e : TypeId} (he : P.underlying e = some .bool) {v : Value} {z : DataW Unit × List MemPlace} (h : plainElem P e v = some z) : ∃ a, v = .bool a ∧ z = (.lit (.bool a), []) := by
  unfold plainElem at h
  rw [he] at h
  cases v <;> simp at h
  exact ⟨_, rfl, h.symm⟩
/-- a map to bool as a function -/
def BSet (D : DataW Unit) (T : Int → Bool) : Prop := Maps.Tidy D ∧ ∀ k : Int, D.atKey (.int .u64 k) (.lit (.bool false)) = .lit (.bool (T k))
theorem BSet.start : BSet (.map []) (fun _ => false) := ⟨tidy_empty, fun _ => rfl⟩
theorem keyU_ne13 {a b : Int} (h : a ≠ b) : (Lit.int .u64 a) ≠ Lit.int .u64 b := fun e => by cases e; exact h rfl
theorem BSet.put {D : DataW Unit} {T : Int → Bool} (h : BSet D T) (k : Int) : BSet (D.put (.int .u64 k) (.lit (.bool true))) (fun j => T j || k == j) := by
  obtain ⟨h1, h2⟩ := h
  have hk : WideAt.IsKeyLit (.int .u64 k) := by trivial
  refine ⟨h1.put hk _, fun j => ?_⟩
  by_cases e : j = k
  · subst e
    rw [atKey_put_same h1.isMap hk]
    simp
  · have e2 : (k == j) = false := by simp; exact fun h => e h.symm
    have h3 : (T j || k == j) = T j := by rw [e2, Bool.or_false]
    simp only [h3]
    rw [atKey_put_other (keyU_ne13 e)]
    exact h2 j
def Bp (w : World) (b n : Nat) (T : Int → Bool) : Prop := ∃ D : DataW Unit, w.ownsMap Try.prog 28 (plainElem Try.prog 4) b n D ∧ BSet D T
theorem Bp.kept {w w' : World} {b n : Nat} {T : Int → Bool} (h : Bp w b n T) (hb : w'.heap[b]? = w.heap[b]?) : Bp w' b n T := by
  obtain ⟨D, ⟨es, clock, h1, h2⟩, h3⟩ := h
  exact ⟨D, ⟨es, clock, hb.trans h1, h2⟩, h3⟩
theorem Bp.lt {w : World} {b n : Nat} {T : Int → Bool} (h : Bp w b n T) : b < w.heap.size := by
  obtain ⟨D, h1, h3⟩ := h
  exact h1.lt
theorem Bp.below {w w' : World} {b n : Nat} {T : Int → Bool} (h : Bp w b n T) (hB : Below w.heap.size w w') : Bp w' b n T := h.kept (hB.block b h.lt)
theorem zeroB13 (w : World) : (zeroValue 4).run Try.prog w = .ok (.bool false) w := by kernel_rfl
theorem Bp.look {w : World} {b n : Nat} {T : Int → Bool} (h : Bp w b n T) (k : Int) (hk : IdOk k) : (Instr.lookup bmT (.map (some b)) (.int .u64 k) false).run Try.prog w = .ok (.bool (T k)) w := by
  obtain ⟨D, h1, h2⟩ := h
  obtain ⟨v, ps, hrun, hat⟩ := h1.lookup u64law Try.underlying27 (zeroB13 w) (plainElem_bool Try.underlying4 false) (keyOf_int_mk Try.underlying28 hk.wf)
  rw [h2.2 k] at hat
  obtain ⟨a, rfl, ha⟩ := plainElem_bool_inv13 Try.underlying4 hat
  simp only [Prod.mk.injEq, DataW.lit.injEq, Lit.bool.injEq] at ha
  rw [← ha.1] at hrun
  exact hrun
theorem Bp.set {w : World} {b n : Nat} {T : Int → Bool} (h : Bp w b n T) (hn : n < 1000000) (k : Int) (hk : IdOk k) : ∃ w', (Instr.mapUpdate bmT (.map (some b)) (.int .u64 k) (.bool true)).run Try.prog w = .ok () w' ∧ Bp w' b (n + 1) (fun j => T j || k == j) ∧ w.grownBy w' (some b) := by
  obtain ⟨D, h1, h2⟩ := h
  obtain ⟨w', hrun, ho, hg⟩ := h1.update u64law Try.underlying27 (by unfold maxLen; omega) (keyOf_int_mk Try.underlying28 hk.wf) (plainElem_bool Try.underlying4 true)
  exact ⟨w', hrun, ⟨_, ho, h2.put k⟩, hg⟩
end Go.Proofs.Ytedlplkomfiahaa
namespace Go.Proofs.Ytedlplkomfiahaa
set_option linter.unusedVariables false
set_option linter.unusedSimpArgs false
set_option linter.unusedSectionVars false
open Go Go.RowKit Go.Maps Go.Deep
section
variable {W : World} {q : Option Addr}
end
theorem insT_one (t : Th) : insT [] t = [t] := srt_is (List.pairwise_singleton _ _) (List.pairwise_singleton _ _) (List.Perm.refl _)
theorem set_empty : setN 0 [] 7 10 = 1 ∧ setE 0 [] 7 10 = 0 ∧ setL 0 [] 7 10 = 1 ∧ setX 0 [] 7 10 = [⟨7, 1, 10⟩] := by
  obtain ⟨h1, h2, h3, h4⟩ := set_in 0 [] 7 10 ⟨by omega, by omega⟩ ⟨by omega, .inr (by simp)⟩
  refine ⟨h1, h2, h3, h4.trans ?_⟩
  rw [show lessId [] 7 = [] from rfl, insT_one]; rfl
theorem set_again : setN 1 [⟨7, 1, 10⟩] 7 20 = 2 ∧ setE 1 [⟨7, 1, 10⟩] 7 20 = 0 ∧ setL 1 [⟨7, 1, 10⟩] 7 20 = 2 ∧ setX 1 [⟨7, 1, 10⟩] 7 20 = [⟨7, 2, 20⟩] := by
  obtain ⟨h1, h2, h3, h4⟩ := set_in 1 [⟨7, 1, 10⟩] 7 20 ⟨by omega, by omega⟩ ⟨by omega, .inr (by simp)⟩
  refine ⟨h1, h2, h3, h4.trans ?_⟩
  rw [show lessId [(⟨7, 1, 10⟩ : Th)] 7 = [] from rfl, insT_one]; rfl
set_option maxRecDepth 100000 in
set_option maxHeartbeats 4000000 in
theorem lives13 (W : World) : Calls Try.prog 9 #[] W fun e W' => e = .returned (.bool true) ∧ Below W.heap.size W W' := by
  have v1 : advL 0 15 [(⟨7, 2, 20⟩ : Th)] = [] ∧ advX 0 15 [(⟨7, 2, 20⟩ : Th)] = [⟨7, 2, 20⟩] ∧ advN 0 15 = 15 ∧ advE 0 15 = 0 := ⟨rfl, rfl, rfl, rfl⟩
  have v2 : advL 15 20 [(⟨7, 2, 20⟩ : Th)] = [⟨7, 2, 20⟩] ∧ advX 15 20 [(⟨7, 2, 20⟩ : Th)] = [] ∧ advN 15 20 = 20 ∧ advE 15 20 = 0 := ⟨rfl, rfl, rfl, rfl⟩
  have V1 := Lib.hid v1
  have V2 := Lib.hid v2
  have Hnew := Lib.hid (bnew_o W W 0 ⟨by omega, by omega⟩ (Below.refl _ _))
  clear v1 v2
  go_enter Try.func9, Try.ntmps9
  go_wp2_with fail
  refine (show Calls _ _ _ _ _ from Hnew.out).mono ?_
  rintro e U1 ⟨b, G, rfl, hb1, -, -⟩
  have hs := bset_o hb1 7 10 ⟨by omega, by omega⟩
  rw [set_empty.1, set_empty.2.1, set_empty.2.2.1, set_empty.2.2.2] at hs
  have Hs := Lib.hid hs
  clear hs hb1
  go_wp2_with fail
  refine (show Calls _ _ _ _ _ from Hs.out).mono ?_
  rintro e U2 ⟨rfl, G2, hb2, -, -⟩
  have hs := bset_o hb2 7 20 ⟨by omega, by omega⟩
  rw [set_again.1, set_again.2.1, set_again.2.2.1, set_again.2.2.2] at hs
  have Hs2 := Lib.hid hs
  clear hs hb2
  go_wp2_with fail
  refine (show Calls _ _ _ _ _ from Hs2.out).mono ?_
  rintro e U3 ⟨rfl, G3, hb3, -, -⟩
  have hs := badv_o hb3 15
  rw [V1.out.1, V1.out.2.1, V1.out.2.2.1, V1.out.2.2.2] at hs
  have Ha1 := Lib.hid hs
  clear hs hb3
  go_wp2_with fail
  refine (show Calls _ _ _ _ _ from Ha1.out).mono ?_
  rintro e U4 ⟨a1, c1, rfl, ⟨G4, hb4, -, -⟩, -⟩
  have hs := badv_o hb4 20
  rw [V2.out.1, V2.out.2.1, V2.out.2.2.1, V2.out.2.2.2] at hs
  have Ha2 := Lib.hid hs
  clear hs hb4
  go_wp2_with fail
  refine (show Calls _ _ _ _ _ from Ha2.out).mono ?_
  rintro e U5 ⟨a2, c2, rfl, ⟨G5, hb5, -, -⟩, ho⟩
  obtain ⟨bx, fx, rfl, hbx, k0, k1, k2⟩ := Tt.cells (Tt.of_own ho) 0 (by simp)
  simp at k0 k1 k2
  have HB := Lib.hid hb5.bel
  have heq := eq_th ⟨7, 2, 20⟩
  unfold thVal at heq
  clear ho hb5
  go_wp2_with fail
  go_ret
  exact ⟨rfl, HB.out⟩
end Go.Proofs.Ytedlplkomfiahaa
namespace Go.Proofs.Ytedlplkomfiahaa
set_option linter.unusedVariables false
set_option linter.unusedSimpArgs false
set_option linter.unusedSectionVars false
open Go Go.ChangeShapes Go.WideShapes Go.ChangeAt Go.RowKit Go.Deep
def DOpOk (o : DOp) : Prop := IdOk o.id ∧ -9223372036854775808 ≤ o.at_ ∧ o.at_ ≤ 9223372036854775807
def DOps (w : World) (ao : Option Addr) (cap : Nat) (l : List DOp) : Prop := Sl w 3 ao l.length cap (l.map dopCells).flatten
theorem wf_u {x : Int} (h : (Lit.int .u64 x).wf = true) : IdOk x := by
  simp [Lit.wf, IntKind.min, IntKind.max, IntKind.signed, IntKind.bits] at h
  exact ⟨h.1, by omega⟩
theorem wf_i {x : Int} (h : (Lit.int .i64 x).wf = true) : -9223372036854775808 ≤ x ∧ x ≤ 9223372036854775807 := by
  simp [Lit.wf, IntKind.min, IntKind.max, IntKind.signed, IntKind.bits] at h
  exact ⟨by omega, by omega⟩
theorem ThOk.gen {t : Th} (h : ThOk t) : IdOk t.gen := wf_u h.2.1
section
variable {H : Type} {enc : TypeId × Value → H} {w : World} {base : Nat} {held : Bool}
set_option maxRecDepth 100000 in
theorem row_dop (n : Nat) (cs : List Value) (y : DataW H × List MemPlace) (hcs : cs.length = 3) (h : DataW.trod enc Try.prog w base (fun _ => true) held n 30 cs = some y) : ∃ a : DOp, cs = dopCells a ∧ DOpOk a := by
  obtain ⟨a, e, w0, w1, w2⟩ := row_ints3 Try.underlying30 (by kernel_rfl) (by kernel_rfl) Try.underlying3 Try.underlying28 Try.underlying2 n cs y hcs h
  exact ⟨⟨a.1, a.2.1, a.2.2⟩, e, wf_u w1, wf_i w2⟩
set_option maxRecDepth 100000 in
theorem open_dops {fuel : Nat} {ao : Option Addr} {len cap : Nat} {x : DataW H × List MemPlace} (h : DataW.trod enc Try.prog w base (fun _ => true) held fuel 22 (Value.slice ao len cap).cells.toList = some x) :
    ∃ l : List DOp, len = l.length ∧ DOps w ao cap l ∧ ∀ a ∈ l, DOpOk a :=
  open_rows dopCells DOpOk (fun _ => rfl) (by decide) Try.underlying22 (by kernel_rfl) (fun n cs y hcs hy => row_dop n cs y hcs hy) h
end
theorem DOps.get {w : World} {ao : Option Addr} {cap : Nat} {l : List DOp} (h : DOps w ao cap l) (i : Nat) (hi : i < l.length) :
    ∃ b off, ao = some ⟨b, off, none⟩ ∧ ∀ j (hj : j < 3), w.cell? ⟨b, off + i * 3 + j, none⟩ = some ((dopCells l[i])[j]'hj) := by
  have key : ∀ j (hj : j < 3), (l.map dopCells).flatten[i * 3 + j]? = some ((dopCells l[i])[j]'hj) := by
    intro j hj
    have := flatten_get (rows := l.map dopCells) (k := 3) (by intro r hr; obtain ⟨x, _, rfl⟩ := List.mem_map.1 hr; rfl) i j (by simpa using hi) (by rw [List.getElem_map]; exact hj)
    rw [this]; simp only [List.getElem_map]; rfl
  obtain ⟨b, off, e, _⟩ := h.cell _ _ (key 0 (by decide))
  refine ⟨b, off, e, fun j hj => ?_⟩
  obtain ⟨b', off', e', hc⟩ := h.cell _ _ (key j hj)
  rw [e] at e'
  simp only [Option.some.injEq, Addr.mk.injEq] at e'
  obtain ⟨rfl, rfl, -⟩ := e'
  rw [Nat.add_assoc]; exact hc
theorem DOps.below {w w' : World} {ao : Option Addr} {cap : Nat} {l : List DOp} (h : DOps w ao cap l) (hb : Below w.heap.size w w') : DOps w' ao cap l := Sl.below h hb
end Go.Proofs.Ytedlplkomfiahaa
namespace Go.Proofs.Ytedlplkomfiahaa
set_option linter.unusedVariables false
set_option linter.unusedSimpArgs false
set_option linter.unusedSectionVars false
open Go Go.RowKit Go.Maps Go.Deep
/-- the reference's state stands in a box -/
structure Pd (W wr : World) (G : Nat → Prop) (b p : Nat) (now last : Int) (X : List Th) (a : Option Addr) (c : Nat) : Prop where
  wo : Bk W wr G b now last X
  rt : Rt wr a c (slot0 X)
  ap : RAp wr G a
  bx : wr.heap[p]? = some (.cells #[.int .i64 now, .int .u64 last, .slice a X.length c] rsT (0, 0))
  out : ¬ G p
  up : W.heap.size ≤ p
theorem Pd.below {W wr wr' : World} {G : Nat → Prop} {b p : Nat} {now last : Int} {X : List Th} {a : Option Addr} {c : Nat} (h : Pd W wr G b p now last X a c) (hb : Below wr.heap.size wr wr') : Pd W wr' G b p now last X a c :=
  ⟨h.wo.below hb, h.rt.below hb, h.ap.up hb.size, bx_below hb h.bx, h.out, h.up⟩
theorem Pd.set {W wr V : World} {G : Nat → Prop} {b p : Nat} {now last : Int} {X : List Th} {a : Option Addr} {c : Nat} (h : Pd W wr G b p now last X a c) {now' last' : Int} {X' : List Th} {G' : Nat → Prop} {a' : Option Addr} {c' : Nat} (hwo : Bk W V G' b now' last' X') (hr : Rt V a' c' (slot0 X')) (hA : RAp V G' a') (hg : Gr G wr V) (hF : ∀ i, G' i → G i ∨ wr.heap.size ≤ i) :
    V.heap[p]? = some (.cells #[.int .i64 now, .int .u64 last, .slice a X.length c] rsT (0, 0)) ∧ ∃ U, U = ((V.setCell ⟨p, 0, none⟩ (.int .i64 now')).setCell ⟨p, 1, none⟩ (.int .u64 last')).setCell ⟨p, 2, none⟩ (.slice a' X'.length c') ∧ Pd W U G' b p now' last' X' a' c' ∧ ∀ i, i ≠ p → U.heap[i]? = V.heap[i]? := by
  have hlt := (Array.getElem?_eq_some_iff.1 h.bx).1
  have xV := (hg.block p hlt h.out).trans h.bx
  have hnF : ¬ G' p := fun e => by rcases hF p e with h1 | h1; exact h.out h1; omega
  obtain ⟨U, e, ⟨h1, h2, h3, -, -⟩, h4, h5⟩ := ddone_sets (G := G') (W := W) (Z := V) (V := V) (Nat.le_refl _) hwo.bel hr hA hwo (Gr.refl _ _) (fun i hi => .inl hi) xV h.up hnF (.int .i64 now') (.int .u64 last') (.slice a' X'.length c')
  exact ⟨xV, U, e, ⟨h1, h2, h3, h4, hnF, h.up⟩, h5⟩
end Go.Proofs.Ytedlplkomfiahaa
namespace Go.Proofs.Ytedlplkomfiahaa
set_option linter.unusedVariables false
set_option linter.unusedSimpArgs false
set_option linter.unusedSectionVars false
open Go Go.RowKit Go.Maps Go.Deep
theorem MapL.perm {D : DataW Unit} {E E' : List (Int × DataW Unit)} (h : MapL D E) (hp : E.Perm E') : MapL D E' := by
  refine ⟨h.tidy, fun k => ?_, fun p hq z => h.at_ p (hp.mem_iff.2 hq) z, h.size.trans hp.length_eq, (hp.pairwise_iff (fun {a b} hab => Ne.symm hab)).1 h.ids⟩
  rw [h.has k]
  constructor
  · rintro ⟨p, hq, e⟩; exact ⟨p, hp.mem_iff.1 hq, e⟩
  · rintro ⟨p, hq, e⟩; exact ⟨p, hp.mem_iff.2 hq, e⟩
theorem MapL.putAny {D : DataW Unit} {E : List (Int × DataW Unit)} (h : MapL D E) (k : Int) (d : DataW Unit) : MapL (D.put (.int .u64 k) d) (E.filter (fun p => decide (p.1 ≠ k)) ++ [(k, d)]) := by
  have hk : WideAt.IsKeyLit (.int .u64 k) := by trivial
  have hne : ∀ p ∈ E.filter (fun p => decide (p.1 ≠ k)), p.1 ≠ k := fun p hp => by have := (List.mem_filter.1 hp).2; simpa using this
  refine ⟨h.tidy.put hk _, fun j => ?_, fun p hp z => ?_, ?_, ?_⟩
  · by_cases e : j = k
    · subst e
      simp [has_put_same h.tidy.isMap hk]
    · rw [has_put_other (idk_ne e), h.has j]
      constructor
      · rintro ⟨p, hp, rfl⟩; exact ⟨p, List.mem_append_left _ (List.mem_filter.2 ⟨hp, by simpa using e⟩), rfl⟩
      · rintro ⟨p, hp, rfl⟩
        rcases List.mem_append.1 hp with hp | hp
        · exact ⟨p, (List.mem_filter.1 hp).1, rfl⟩
        · simp at hp; subst hp; exact absurd rfl e
  · rcases List.mem_append.1 hp with hp | hp
    · rw [atKey_put_other (idk_ne (hne p hp))]; exact h.at_ p (List.mem_filter.1 hp).1 z
    · simp at hp; subst hp
      exact atKey_put_same h.tidy.isMap hk _ _
  · rw [size_put h.tidy]
    by_cases hin : ∃ p ∈ E, p.1 = k
    · rw [if_pos ((h.has k).2 hin)]
      have := pairs_less E h.ids k hin
      rw [h.size, List.length_append]; simpa using this.symm
    · have hf : ∀ p ∈ E, p.1 ≠ k := fun p hp e => hin ⟨p, hp, e⟩
      rw [h.hasnt hf, h.size, List.filter_eq_self.2 fun p hp => by simpa using hf p hp]; simp
  · rw [List.pairwise_append]
    exact ⟨h.ids.filter _, by simp, fun a ha b hb => by simp at hb; subst hb; exact hne a ha⟩
theorem fpairs_perm {X Y : List Th} (h : X.Perm Y) : (fpairs X).Perm (fpairs Y) := h.map _
/-- the map in block m has just these things by their ids -/
def MpX (W : World) (m n : Nat) (A : List Th) : Prop := ∃ D, W.ownsMap Try.prog 28 thElem m n D ∧ MapL D (fpairs A)
theorem MpX.kept {W W' : World} {m n : Nat} {A : List Th} (h : MpX W m n A) (hb : W'.heap[m]? = W.heap[m]?) : MpX W' m n A := by
  obtain ⟨D, ⟨es, clock, h1, h2⟩, h3⟩ := h
  exact ⟨D, ⟨es, clock, hb.trans h1, h2⟩, h3⟩
theorem MpX.lt {W : World} {m n : Nat} {A : List Th} (h : MpX W m n A) : m < W.heap.size := by
  obtain ⟨D, h1, -⟩ := h; exact h1.lt
theorem MpX.below {W W' : World} {m n : Nat} {A : List Th} (h : MpX W m n A) (hb : Below W.heap.size W W') : MpX W' m n A := h.kept (hb.block m h.lt)
theorem MpX.perm {W : World} {m n : Nat} {A B : List Th} (h : MpX W m n A) (hp : A.Perm B) : MpX W m n B := by
  obtain ⟨D, h1, h2⟩ := h; exact ⟨D, h1, h2.perm (fpairs_perm hp)⟩
theorem MpX.mono {W : World} {m n n' : Nat} {A : List Th} (h : MpX W m n A) (hn : n ≤ n') : MpX W m n' A := by
  obtain ⟨D, h1, h2⟩ := h; exact ⟨D, h1.mono hn, h2⟩
theorem MpX.made (W : World) : MpX (W.alloc (.map #[] 0)) W.heap.size 0 [] := ⟨_, World.ownsMap_made _ _ _ _, MapL.nil⟩
theorem MpX.len {W : World} {m n : Nat} {A : List Th} (h : MpX W m n A) (ty : TypeId) : (Builtin.len_ #[mfT] ty #[.map (some m)]).run Try.prog W = .ok (.int .i64 (A.length : Nat)) W := by
  obtain ⟨D, h1, h2⟩ := h
  have := h1.len Try.underlying26 ty
  rw [h2.size] at this
  unfold fpairs at this
  rw [List.length_map] at this
  exact this
theorem MpX.set {W : World} {m n : Nat} {A : List Th} (h : MpX W m n A) (hn : n < 1000000) (t : Th) (hw : IdOk t.id) :
    ∃ W', (Instr.mapUpdate mfT (.map (some m)) (.int .u64 t.id) (thVal t)).run Try.prog W = .ok () W' ∧ MpX W' m (n + 1) (lessId A t.id ++ [t]) ∧ W.grownBy W' (some m) := by
  obtain ⟨D, h1, h2⟩ := h
  obtain ⟨W', hr, ho, hg⟩ := fmapset_run h1 hn t hw
  refine ⟨W', hr, ⟨_, ho, ?_⟩, hg⟩
  have := h2.putAny t.id (thD t)
  rw [← fpairs_less] at this
  have e : fpairs (lessId A t.id ++ [t]) = fpairs (lessId A t.id) ++ [(t.id, thD t)] := by unfold fpairs; rw [List.map_append]; rfl
  rw [e]; exact this
theorem MpX.del {W : World} {m n : Nat} {A : List Th} (h : MpX W m n A) (id : Int) (hw : IdOk id) (ty : TypeId) :
    ∃ W', (Builtin.delete_ #[mfT, 28] ty #[.map (some m), .int .u64 id]).run Try.prog W = .ok (.tuple #[]) W' ∧ MpX W' m n (lessId A id) ∧ W.grownBy W' (some m) := by
  obtain ⟨D, h1, h2⟩ := h
  obtain ⟨W', hr, ho, hg⟩ := fmapdel_run h1 id hw ty
  refine ⟨W', hr, ⟨_, ho, ?_⟩, hg⟩
  have := h2.del id
  rw [← fpairs_less] at this
  exact this
theorem MpX.look {W : World} {m n : Nat} {A : List Th} (h : MpX W m n A) {t : Th} (ht : t ∈ A) (hw : IdOk t.id) : (Instr.lookup mfT (.map (some m)) (.int .u64 t.id) false).run Try.prog W = .ok (thVal t) W := by
  obtain ⟨D, h1, h2⟩ := h
  obtain ⟨v, ps, hrun, hv⟩ := h1.lookup u64law Try.underlying26 (zeroTh W) (thElem_mk _) (keyOf_int_mk Try.underlying28 hw.wf)
  rw [h2.at_ _ (List.mem_map.2 ⟨t, ht, rfl⟩)] at hv
  obtain ⟨c, rfl, hc⟩ := thElem_inv hv
  simp only [Prod.mk.injEq] at hc
  rw [hrun, thD_inj hc.1]
theorem MpX.look_yes {W : World} {m n : Nat} {A : List Th} (h : MpX W m n A) {t : Th} (ht : t ∈ A) (hw : IdOk t.id) : (Instr.lookup mfT (.map (some m)) (.int .u64 t.id) true).run Try.prog W = .ok (.tuple #[thVal t, .bool true]) W := by
  obtain ⟨D, h1, h2⟩ := h
  obtain ⟨v, ps, hrun, hv⟩ := h1.look_ok u64law Try.underlying26 (zeroTh W) (thElem_mk _) (keyOf_int_mk Try.underlying28 hw.wf)
  have hm : (t.id, thD t) ∈ fpairs A := List.mem_map.2 ⟨t, ht, rfl⟩
  rw [(h2.has t.id).2 ⟨_, hm, rfl⟩] at hrun
  rw [h2.at_ _ hm] at hv
  obtain ⟨c, rfl, hc⟩ := thElem_inv hv
  simp only [Prod.mk.injEq] at hc
  rw [hrun, thD_inj hc.1]
theorem MpX.look_no {W : World} {m n : Nat} {A : List Th} (h : MpX W m n A) {id : Int} (hf : ∀ t ∈ A, t.id ≠ id) (hw : IdOk id) : (Instr.lookup mfT (.map (some m)) (.int .u64 id) true).run Try.prog W = .ok (.tuple #[thVal ⟨0, 0, 0⟩, .bool false]) W := by
  obtain ⟨D, h1, h2⟩ := h
  obtain ⟨v, ps, hrun, hv⟩ := h1.look_ok u64law Try.underlying26 (zeroTh W) (thElem_mk _) (keyOf_int_mk Try.underlying28 hw.wf)
  have hm : ∀ q ∈ fpairs A, q.1 ≠ id := fun q hq => by
    obtain ⟨p, hp, rfl⟩ := List.mem_map.1 hq
    exact hf p hp
  rw [h2.hasnt hm] at hrun
  rw [h2.atnt hm] at hv
  obtain ⟨c, rfl, hc⟩ := thElem_inv hv
  simp only [Prod.mk.injEq] at hc
  rw [hrun, thD_inj hc.1]
theorem due_soon (X : List Th) (b : Int) : X.Perm (dueT X b ++ soonT X b) := by
  unfold dueT soonT
  have h : (fun t : Th => decide (b < t.due)) = fun t => !decide (t.due ≤ b) := by
    funext t
    rw [← decide_not]
    exact decide_eq_decide.2 (by omega)
  rw [h]
  exact (List.filter_append_perm _ X).symm
/-- the law's state: the book, what is armed, the numbers that were given -/
structure On (W wr : World) (G : Nat → Prop) (b m1 m2 n : Nat) (now last : Int) (X A : List Th) (T : Int → Bool) : Prop where
  bk : Bk W wr G b now last X
  map : MpX wr m1 n A
  giv : Bp wr m2 n T
  top : ∀ k, T k = true → k ≤ last
  ne : m1 ≠ m2
  o1 : ¬ G m1
  o2 : ¬ G m2
  u1 : W.heap.size ≤ m1
  u2 : W.heap.size ≤ m2
section
variable {W wr V : World} {G : Nat → Prop} {b m1 m2 n : Nat} {now last : Int} {X A : List Th} {T : Int → Bool}
theorem On.below (h : On W wr G b m1 m2 n now last X A T) (hb : Below wr.heap.size wr V) : On W V G b m1 m2 n now last X A T :=
  ⟨h.bk.below hb, h.map.below hb, h.giv.below hb, h.top, h.ne, h.o1, h.o2, h.u1, h.u2⟩
/-- a call of the book -/
theorem On.call (h : On W wr G b m1 m2 n now last X A T) {now' last' : Int} {X' : List Th} (hn : Bnx W wr G b now' last' X' V) (hl : last ≤ last') : ∃ G', On W V G' b m1 m2 n now' last' X' A T := by
  obtain ⟨G', h1, h2, h3⟩ := hn
  have l1 := h.map.lt
  have l2 := h.giv.lt
  refine ⟨G', h1, h.map.kept (h2.block m1 l1 h.o1), h.giv.kept (h2.block m2 l2 h.o2), fun k hk => Int.le_trans (h.top k hk) hl, h.ne, fun e => ?_, fun e => ?_, h.u1, h.u2⟩
  · rcases h3 m1 e with h4 | h4
    · exact h.o1 h4
    · omega
  · rcases h3 m2 e with h4 | h4
    · exact h.o2 h4
    · omega
theorem On.arm (h : On W wr G b m1 m2 n now last X A T) {n' : Nat} {A' : List Th} (hg : wr.grownBy V (some m1)) (hm : MpX V m1 n' A') (hn : n ≤ n') : On W V G b m1 m2 n' now last X A' T := by
  have hG : Gr (fun i => i = m1) wr V := Gr.one hg (fun b e => (Option.some.inj e).symm)
  obtain ⟨D, hD, hB⟩ := h.giv
  exact ⟨h.bk.beside hG (fun i hi e => by subst e; exact h.o1 hi) (fun i e => by subst e; exact h.u1), hm, by
    have := h.giv.kept (hG.block m2 h.giv.lt (fun e => h.ne e.symm))
    obtain ⟨D, h1, h2⟩ := this
    exact ⟨D, h1.mono hn, h2⟩, h.top, h.ne, h.o1, h.o2, h.u1, h.u2⟩
theorem On.give (h : On W wr G b m1 m2 n now last X A T) {T' : Int → Bool} (hg : wr.grownBy V (some m2)) (hm : Bp V m2 (n + 1) T') (ht : ∀ k, T' k = true → k ≤ last) : On W V G b m1 m2 (n + 1) now last X A T' := by
  have hG : Gr (fun i => i = m2) wr V := Gr.one hg (fun b e => (Option.some.inj e).symm)
  exact ⟨h.bk.beside hG (fun i hi e => by subst e; exact h.o2 hi) (fun i e => by subst e; exact h.u2), (h.map.kept (hG.block m1 h.map.lt h.ne)).mono (Nat.le_succ _), hm, ht, h.ne, h.o1, h.o2, h.u1, h.u2⟩
theorem On.bel (h : On W wr G b m1 m2 n now last X A T) : Below W.heap.size W wr := h.bk.bel
end
end Go.Proofs.Ytedlplkomfiahaa
