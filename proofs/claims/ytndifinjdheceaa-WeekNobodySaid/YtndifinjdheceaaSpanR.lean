/- The reference's Row: contract. No statement of the seat is proved here. -/
import Derived.Test.YtndifinjdheceaaSpan
namespace Go.Proofs.Ytndifinjdheceaa
set_option linter.unusedVariables false
set_option linter.unusedSimpArgs false
set_option linter.unusedSectionVars false
open Go Go.RowKit
open Go.Sort (grow)

/-- the walk of a region that only reads, behind a structure: nothing unfolds it by itself (a skipped operation at its head would be run at every look). -/
structure WQ (P : Program) (ops : Array Oper) (C : World → Prop) (Q : Act → Prop) (l : List Oper) (a : Act) : Prop where
  out : wpQuiet P ops C Q l a
theorem WQ.val {P : Program} {ops : Array Oper} {C : World → Prop} {Q : Act → Prop} {o : Oper} {rest : List Oper} {a : Act} (hw : Region.wanted o (yielded ops a.tmps) = true) (v : Value)
    (h : ∀ w, (execOp a.eval o).run P w = .ok (.value v) w) (hk : WQ P ops C Q rest (a.put o.dst v)) : WQ P ops C Q (o :: rest) a := ⟨wpQuiet_val hw v h hk.out⟩
theorem WQ.skip {P : Program} {ops : Array Oper} {C : World → Prop} {Q : Act → Prop} {o : Oper} {rest : List Oper} {a : Act} (hw : Region.wanted o (yielded ops a.tmps) = false)
    (hk : WQ P ops C Q rest (a.put o.dst undef)) : WQ P ops C Q (o :: rest) a := ⟨wpQuiet_skip hw hk.out⟩
theorem WQ.at_ {P : Program} {ops : Array Oper} {C : World → Prop} {Q : Act → Prop} {o : Oper} {rest : List Oper} {a : Act} (hw : Region.wanted o (yielded ops a.tmps) = true) (v : Value)
    (h : ∀ w, C w → o.quietAt P a C w v) (hk : WQ P ops C Q rest (a.put o.dst v)) : WQ P ops C Q (o :: rest) a :=
  ⟨wpQuiet_step fun K hK => by rw [if_pos hw]; exact ⟨v, h, hK _ hk.out⟩⟩
theorem WQ.grown {P : Program} {ops : Array Oper} {w : World} {Q : Act → Prop} {o : Oper} {rest : List Oper} {a : Act} (hw : Region.wanted o (yielded ops a.tmps) = true) (v : Value)
    (h : ∀ d os, o.quietAt P a (fun w' => ∃ p : Regrown, w' = grow (redrawn w p.d) p.os) (grow (redrawn w d) os) v) (hk : WQ P ops (fun w' => ∃ p : Regrown, w' = grow (redrawn w p.d) p.os) Q rest (a.put o.dst v)) :
    WQ P ops (fun w' => ∃ p : Regrown, w' = grow (redrawn w p.d) p.os) Q (o :: rest) a :=
  WQ.at_ hw v (fun w' ⟨p, hp⟩ => hp ▸ h p.d p.os) hk
theorem WQ.nil {P : Program} {ops : Array Oper} {C : World → Prop} {Q : Act → Prop} {a : Act} (h : Q a) : WQ P ops C Q [] a := ⟨h⟩

/-- the end of what stands before number i -/
def before (l : List Sp) : Nat → Int
  | 0 => 0
  | i + 1 => (l.getD i default).b

set_option maxHeartbeats 2000000 in
theorem refRow_any (ao : Option Addr) (cap : Nat) (l : List Sp) (w : World) (hs : Sps w ao cap l) :
    Calls Try.prog 23 #[.slice ao l.length cap] w fun e w' => e = .returned (.int .i64 (rowErr l : Nat)) ∧ Below w.heap.size w w' := by
  by_cases h : 32 < l.length
  · have hr : rowErr l = 21 := by unfold rowErr; rw [if_pos h]
    have Hr := Lib.hid hr
    clear hr
    go_enter Try.func23, Try.ntmps23
    go_wp2
    go_ret
    exact ⟨by rw [Hr.out]; rfl, Below.refl _ _⟩
  · have hr : rowErr l = if chain 0 l then 0 else 2 := by unfold rowErr; rw [if_neg h]
    have Hr := Lib.hid hr
    clear hr
    go_enter Try.func23, Try.ntmps23
    go_wp2_with fail
    go_loopw [3] (fun v wr => ∃ i : Nat, v = .int .i64 i ∧ i ≤ l.length ∧ Hid (chain 0 l = chain (before l i) (l.drop i)) ∧ Below w.heap.size w wr) (fun v _ => l.length - (intOf v).toNat)
    case atStart => exact ⟨0, rfl, Nat.zero_le _, rfl, Below.refl _ _⟩
    case round =>
      obtain ⟨i, rfl, hi, hc, hb⟩ := hrel
      by_cases hlt : i < l.length
      · have hs1 := hs.below hb
        obtain ⟨b, off, rfl, c0, c1⟩ := hs1.get i hlt
        have hcat := Lib.hid (chain_at l i hlt (before l i))
        obtain ⟨s, hsd⟩ : ∃ s, s = l[i] := ⟨_, rfl⟩
        rw [← hsd] at c0 c1 hcat
        obtain ⟨x, y⟩ := s
        simp only at c0 c1
        have hnx : Hid (before l (i + 1) = y) := by show (l.getD i default).b = y; rw [List.getD_eq_getElem?_getD, List.getElem?_eq_getElem hlt, ← hsd]; rfl
        have hrt := refRight_any ⟨x, y⟩
        unfold spVal at hrt
        simp only at hrt
        have Hrt := Lib.hid hrt
        clear hsd hrt
        have finish : ∀ (r o : Bool), Hid (Sp.right ⟨x, y⟩ = r) → Hid (decide (before l i ≤ x) = o) → Hid (chain 0 l = (r && o && chain y (l.drop (i + 1)))) := by
          intro r o h1 h2
          show chain 0 l = _
          rw [hc.out, hcat.out, h1.out, h2.out]
        have k0 := cell_regrown c0
        have k1 := cell_regrown c1
        cases hrr : Sp.right ⟨x, y⟩ with
        | false =>
          rw [hrr] at Hrt
          have hfin := finish false _ hrr rfl
          have cR := fun d os => Calls.regrown_of (Hrt.out (grow (redrawn wr d) os))
          clear finish hcat hc Hrt
          go_wp2_with fail
          refine wp_region_quiet_below (by kernel_rfl) (by kernel_rfl) (WQ.out ?_)
          refine WQ.val (by rfl) (.slice (some ⟨b, off, .none⟩) l.length cap) (fun _ => rfl) ?_
          simp only [Act.put, List.setIfInBounds_toArray, List.set_cons_zero, List.set_cons_succ]
          refine WQ.val (by rfl) (.int .i64 (i : Int)) (fun _ => rfl) ?_
          simp only [Act.put, List.setIfInBounds_toArray, List.set_cons_zero, List.set_cons_succ]
          refine WQ.grown (by kernel_rfl) (.pointer (some ⟨b, off + i * 2, .none⟩)) (fun d os => by go_simp) ?_
          simp only [Act.put, List.setIfInBounds_toArray, List.set_cons_zero, List.set_cons_succ]
          refine WQ.grown (by kernel_rfl) (.agg #[.int .i64 x, .int .i64 y]) (fun d os => by go_simp) ?_
          simp only [Act.put, List.setIfInBounds_toArray, List.set_cons_zero, List.set_cons_succ]
          refine WQ.grown (by kernel_rfl) (.bool false) (fun d os => by go_simp) ?_
          simp only [Act.put, List.setIfInBounds_toArray, List.set_cons_zero, List.set_cons_succ]
          refine WQ.val (by rfl) (.bool true) (fun _ => rfl) ?_
          simp only [Act.put, List.setIfInBounds_toArray, List.set_cons_zero, List.set_cons_succ]
          refine WQ.val (by rfl) (.bool true) (fun _ => rfl) ?_
          simp only [Act.put, List.setIfInBounds_toArray, List.set_cons_zero, List.set_cons_succ]
          refine WQ.skip (by rfl) ?_
          simp only [Act.put, List.setIfInBounds_toArray, List.set_cons_zero, List.set_cons_succ]
          refine WQ.skip (by rfl) ?_
          simp only [Act.put, List.setIfInBounds_toArray, List.set_cons_zero, List.set_cons_succ]
          refine WQ.skip (by rfl) ?_
          simp only [Act.put, List.setIfInBounds_toArray, List.set_cons_zero, List.set_cons_succ]
          refine WQ.skip (by rfl) ?_
          simp only [Act.put, List.setIfInBounds_toArray, List.set_cons_zero, List.set_cons_succ]
          refine WQ.skip (by rfl) ?_
          simp only [Act.put, List.setIfInBounds_toArray, List.set_cons_zero, List.set_cons_succ]
          refine WQ.skip (by rfl) ?_
          simp only [Act.put, List.setIfInBounds_toArray, List.set_cons_zero, List.set_cons_succ]
          refine WQ.skip (by rfl) ?_
          simp only [Act.put, List.setIfInBounds_toArray, List.set_cons_zero, List.set_cons_succ]
          refine WQ.skip (by rfl) ?_
          simp only [Act.put, List.setIfInBounds_toArray, List.set_cons_zero, List.set_cons_succ]
          refine WQ.skip (by rfl) ?_
          simp only [Act.put, List.setIfInBounds_toArray, List.set_cons_zero, List.set_cons_succ]
          refine WQ.skip (by rfl) ?_
          simp only [Act.put, List.setIfInBounds_toArray, List.set_cons_zero, List.set_cons_succ]
          refine WQ.skip (by rfl) ?_
          simp only [Act.put, List.setIfInBounds_toArray, List.set_cons_zero, List.set_cons_succ]
          refine WQ.skip (by rfl) ?_
          simp only [Act.put, List.setIfInBounds_toArray, List.set_cons_zero, List.set_cons_succ]
          refine WQ.skip (by rfl) ?_
          simp only [Act.put, List.setIfInBounds_toArray, List.set_cons_zero, List.set_cons_succ]
          refine WQ.skip (by rfl) ?_
          simp only [Act.put, List.setIfInBounds_toArray, List.set_cons_zero, List.set_cons_succ]
          refine WQ.skip (by rfl) ?_
          simp only [Act.put, List.setIfInBounds_toArray, List.set_cons_zero, List.set_cons_succ]
          refine WQ.skip (by rfl) ?_
          simp only [Act.put, List.setIfInBounds_toArray, List.set_cons_zero, List.set_cons_succ]
          refine WQ.val (by rfl) (.bool true) (fun _ => rfl) ?_
          simp only [Act.put, List.setIfInBounds_toArray, List.set_cons_zero, List.set_cons_succ]
          refine WQ.nil ?_
          intro _ hw'
          obtain ⟨⟨dq, osq⟩, hw''⟩ := hw'
          subst hw''
          go_wp2_with fail
          go_ret
          exact ⟨by rw [Hr.out, hfin.out]; simp, below_on hb (below_regrown wr dq osq) (Nat.le_refl _)⟩
        | true =>
          rw [hrr] at Hrt
          have cR := fun d os => Calls.regrown_of (Hrt.out (grow (redrawn wr d) os))
          clear Hrt
          cases i with
          | zero =>
            have hfin := finish true true hrr (by have := hrr; simp [Sp.right] at this; show decide ((0 : Int) ≤ x) = true; simp; omega)
            clear finish hcat hc
            simp only [Nat.zero_mul, Nat.add_zero] at k0 k1
            go_wp2_with fail
            refine wp_region_quiet_below (by kernel_rfl) (by kernel_rfl) (WQ.out ?_)
            refine WQ.val (by rfl) (.slice (some ⟨b, off, .none⟩) l.length cap) (fun _ => rfl) ?_
            simp only [Act.put, List.setIfInBounds_toArray, List.set_cons_zero, List.set_cons_succ]
            refine WQ.val (by rfl) (.int .i64 ((0 : Nat) : Int)) (fun _ => rfl) ?_
            simp only [Act.put, List.setIfInBounds_toArray, List.set_cons_zero, List.set_cons_succ]
            refine WQ.grown (by kernel_rfl) (.pointer (some ⟨b, off, .none⟩)) (fun d os => by go_simp) ?_
            simp only [Act.put, List.setIfInBounds_toArray, List.set_cons_zero, List.set_cons_succ]
            refine WQ.grown (by kernel_rfl) (.agg #[.int .i64 x, .int .i64 y]) (fun d os => by go_simp) ?_
            simp only [Act.put, List.setIfInBounds_toArray, List.set_cons_zero, List.set_cons_succ]
            refine WQ.grown (by kernel_rfl) (.bool true) (fun d os => by go_simp) ?_
            simp only [Act.put, List.setIfInBounds_toArray, List.set_cons_zero, List.set_cons_succ]
            refine WQ.val (by rfl) (.bool false) (fun _ => rfl) ?_
            simp only [Act.put, List.setIfInBounds_toArray, List.set_cons_zero, List.set_cons_succ]
            refine WQ.val (by rfl) (.bool false) (fun _ => rfl) ?_
            simp only [Act.put, List.setIfInBounds_toArray, List.set_cons_zero, List.set_cons_succ]
            refine WQ.val (by rfl) (.int .i64 ((0 : Nat) : Int)) (fun _ => rfl) ?_
            simp only [Act.put, List.setIfInBounds_toArray, List.set_cons_zero, List.set_cons_succ]
            refine WQ.val (by rfl) (.bool false) (fun _ => rfl) ?_
            simp only [Act.put, List.setIfInBounds_toArray, List.set_cons_zero, List.set_cons_succ]
            refine WQ.val (by rfl) (.bool false) (fun _ => rfl) ?_
            simp only [Act.put, List.setIfInBounds_toArray, List.set_cons_zero, List.set_cons_succ]
            refine WQ.skip (by rfl) ?_
            simp only [Act.put, List.setIfInBounds_toArray, List.set_cons_zero, List.set_cons_succ]
            refine WQ.skip (by rfl) ?_
            simp only [Act.put, List.setIfInBounds_toArray, List.set_cons_zero, List.set_cons_succ]
            refine WQ.skip (by rfl) ?_
            simp only [Act.put, List.setIfInBounds_toArray, List.set_cons_zero, List.set_cons_succ]
            refine WQ.skip (by rfl) ?_
            simp only [Act.put, List.setIfInBounds_toArray, List.set_cons_zero, List.set_cons_succ]
            refine WQ.skip (by rfl) ?_
            simp only [Act.put, List.setIfInBounds_toArray, List.set_cons_zero, List.set_cons_succ]
            refine WQ.skip (by rfl) ?_
            simp only [Act.put, List.setIfInBounds_toArray, List.set_cons_zero, List.set_cons_succ]
            refine WQ.skip (by rfl) ?_
            simp only [Act.put, List.setIfInBounds_toArray, List.set_cons_zero, List.set_cons_succ]
            refine WQ.skip (by rfl) ?_
            simp only [Act.put, List.setIfInBounds_toArray, List.set_cons_zero, List.set_cons_succ]
            refine WQ.skip (by rfl) ?_
            simp only [Act.put, List.setIfInBounds_toArray, List.set_cons_zero, List.set_cons_succ]
            refine WQ.skip (by rfl) ?_
            simp only [Act.put, List.setIfInBounds_toArray, List.set_cons_zero, List.set_cons_succ]
            refine WQ.skip (by rfl) ?_
            simp only [Act.put, List.setIfInBounds_toArray, List.set_cons_zero, List.set_cons_succ]
            refine WQ.skip (by rfl) ?_
            simp only [Act.put, List.setIfInBounds_toArray, List.set_cons_zero, List.set_cons_succ]
            refine WQ.val (by rfl) (.bool false) (fun _ => rfl) ?_
            simp only [Act.put, List.setIfInBounds_toArray, List.set_cons_zero, List.set_cons_succ]
            refine WQ.val (by rfl) (.bool false) (fun _ => rfl) ?_
            simp only [Act.put, List.setIfInBounds_toArray, List.set_cons_zero, List.set_cons_succ]
            refine WQ.nil ?_
            intro _ hw'
            obtain ⟨⟨dq, osq⟩, hw''⟩ := hw'
            subst hw''
            go_wp2_with fail
            go_roundw
            case rel => exact ⟨0 + 1, rfl, hlt, (by show chain 0 l = chain (before l (0 + 1)) (l.drop (0 + 1)); rw [hnx.out, hfin.out]; simp), below_on hb (below_regrown wr dq osq) (Nat.le_refl _)⟩
            case measure => simp [intOf]; omega
          | succ k =>
            have hk : k < l.length := by omega
            obtain ⟨b', off', e, -, q1⟩ := hs1.get k hk
            simp only [Option.some.injEq, Addr.mk.injEq] at e
            obtain ⟨rfl, rfl, -⟩ := e
            obtain ⟨z, hz⟩ : ∃ z, z = l[k].b := ⟨_, rfl⟩
            rw [← hz] at q1
            have hbz : before l (k + 1) = z := by show (l.getD k default).b = z; rw [List.getD_eq_getElem?_getD, List.getElem?_eq_getElem hk, hz]; rfl
            rw [hbz] at finish
            have k2 := cell_regrown q1
            have hkw : IntKind.i64.wrap (k : Int) = (k : Int) := IntWalk.i64_in _ (by omega)
            have hk0 : (0 : Int) ≤ (k : Int) + 1 := by omega
            clear hbz hz hc hcat
            by_cases hxz : x < z
            · have hfin := finish true false hrr (by show decide (z ≤ x) = false; simp; omega)
              have hd : decide (x < z) = true := by simpa using hxz
              clear finish
              go_wp2_with fail
              refine wp_region_quiet_below (by kernel_rfl) (by kernel_rfl) (WQ.out ?_)
              refine WQ.val (by rfl) (.slice (some ⟨b, off, .none⟩) l.length cap) (fun _ => rfl) ?_
              simp only [Act.put, List.setIfInBounds_toArray, List.set_cons_zero, List.set_cons_succ]
              refine WQ.val (by rfl) (.int .i64 ((k + 1 : Nat) : Int)) (fun _ => rfl) ?_
              simp only [Act.put, List.setIfInBounds_toArray, List.set_cons_zero, List.set_cons_succ]
              refine WQ.grown (by kernel_rfl) (.pointer (some ⟨b, off + (k + 1) * 2, .none⟩)) (fun d os => by go_simp) ?_
              simp only [Act.put, List.setIfInBounds_toArray, List.set_cons_zero, List.set_cons_succ]
              refine WQ.grown (by kernel_rfl) (.agg #[.int .i64 x, .int .i64 y]) (fun d os => by go_simp) ?_
              simp only [Act.put, List.setIfInBounds_toArray, List.set_cons_zero, List.set_cons_succ]
              refine WQ.grown (by kernel_rfl) (.bool true) (fun d os => by go_simp) ?_
              simp only [Act.put, List.setIfInBounds_toArray, List.set_cons_zero, List.set_cons_succ]
              refine WQ.val (by rfl) (.bool false) (fun _ => rfl) ?_
              simp only [Act.put, List.setIfInBounds_toArray, List.set_cons_zero, List.set_cons_succ]
              refine WQ.val (by rfl) (.bool false) (fun _ => rfl) ?_
              simp only [Act.put, List.setIfInBounds_toArray, List.set_cons_zero, List.set_cons_succ]
              refine WQ.val (by rfl) (.int .i64 ((k + 1 : Nat) : Int)) (fun _ => rfl) ?_
              simp only [Act.put, List.setIfInBounds_toArray, List.set_cons_zero, List.set_cons_succ]
              refine WQ.grown (by kernel_rfl) (.bool true) (fun d os => by go_simp) ?_
              simp only [Act.put, List.setIfInBounds_toArray, List.set_cons_zero, List.set_cons_succ]
              refine WQ.val (by rfl) (.bool true) (fun _ => rfl) ?_
              simp only [Act.put, List.setIfInBounds_toArray, List.set_cons_zero, List.set_cons_succ]
              refine WQ.val (by rfl) (.slice (some ⟨b, off, .none⟩) l.length cap) (fun _ => rfl) ?_
              simp only [Act.put, List.setIfInBounds_toArray, List.set_cons_zero, List.set_cons_succ]
              refine WQ.val (by rfl) (.int .i64 ((k + 1 : Nat) : Int)) (fun _ => rfl) ?_
              simp only [Act.put, List.setIfInBounds_toArray, List.set_cons_zero, List.set_cons_succ]
              refine WQ.grown (by kernel_rfl) (.pointer (some ⟨b, off + (k + 1) * 2, .none⟩)) (fun d os => by go_simp) ?_
              simp only [Act.put, List.setIfInBounds_toArray, List.set_cons_zero, List.set_cons_succ]
              refine WQ.grown (by kernel_rfl) (.pointer (some ⟨b, off + (k + 1) * 2, .none⟩)) (fun d os => by go_simp) ?_
              simp only [Act.put, List.setIfInBounds_toArray, List.set_cons_zero, List.set_cons_succ]
              refine WQ.grown (by kernel_rfl) (.int .i64 x) (fun d os => by go_simp) ?_
              simp only [Act.put, List.setIfInBounds_toArray, List.set_cons_zero, List.set_cons_succ]
              refine WQ.val (by rfl) (.slice (some ⟨b, off, .none⟩) l.length cap) (fun _ => rfl) ?_
              simp only [Act.put, List.setIfInBounds_toArray, List.set_cons_zero, List.set_cons_succ]
              refine WQ.val (by rfl) (.int .i64 ((k + 1 : Nat) : Int)) (fun _ => rfl) ?_
              simp only [Act.put, List.setIfInBounds_toArray, List.set_cons_zero, List.set_cons_succ]
              refine WQ.grown (by kernel_rfl) (.int .i64 (k : Int)) (fun d os => by go_simp) ?_
              simp only [Act.put, List.setIfInBounds_toArray, List.set_cons_zero, List.set_cons_succ]
              refine WQ.grown (by kernel_rfl) (.pointer (some ⟨b, off + k * 2, .none⟩)) (fun d os => by go_simp) ?_
              simp only [Act.put, List.setIfInBounds_toArray, List.set_cons_zero, List.set_cons_succ]
              refine WQ.grown (by kernel_rfl) (.pointer (some ⟨b, off + k * 2 + 1, .none⟩)) (fun d os => by go_simp) ?_
              simp only [Act.put, List.setIfInBounds_toArray, List.set_cons_zero, List.set_cons_succ]
              refine WQ.grown (by kernel_rfl) (.int .i64 z) (fun d os => by go_simp) ?_
              simp only [Act.put, List.setIfInBounds_toArray, List.set_cons_zero, List.set_cons_succ]
              refine WQ.grown (by kernel_rfl) (.bool true) (fun d os => by go_simp) ?_
              simp only [Act.put, List.setIfInBounds_toArray, List.set_cons_zero, List.set_cons_succ]
              refine WQ.val (by rfl) (.bool true) (fun _ => rfl) ?_
              simp only [Act.put, List.setIfInBounds_toArray, List.set_cons_zero, List.set_cons_succ]
              refine WQ.val (by rfl) (.bool true) (fun _ => rfl) ?_
              simp only [Act.put, List.setIfInBounds_toArray, List.set_cons_zero, List.set_cons_succ]
              refine WQ.nil ?_
              intro _ hw'
              obtain ⟨⟨dq, osq⟩, hw''⟩ := hw'
              subst hw''
              go_wp2_with fail
              go_ret
              exact ⟨by rw [Hr.out, hfin.out]; simp, below_on hb (below_regrown wr dq osq) (Nat.le_refl _)⟩
            · have hfin := finish true true hrr (by show decide (z ≤ x) = true; simp; omega)
              have hd : decide (x < z) = false := by simpa using hxz
              clear finish
              go_wp2_with fail
              refine wp_region_quiet_below (by kernel_rfl) (by kernel_rfl) (WQ.out ?_)
              refine WQ.val (by rfl) (.slice (some ⟨b, off, .none⟩) l.length cap) (fun _ => rfl) ?_
              simp only [Act.put, List.setIfInBounds_toArray, List.set_cons_zero, List.set_cons_succ]
              refine WQ.val (by rfl) (.int .i64 ((k + 1 : Nat) : Int)) (fun _ => rfl) ?_
              simp only [Act.put, List.setIfInBounds_toArray, List.set_cons_zero, List.set_cons_succ]
              refine WQ.grown (by kernel_rfl) (.pointer (some ⟨b, off + (k + 1) * 2, .none⟩)) (fun d os => by go_simp) ?_
              simp only [Act.put, List.setIfInBounds_toArray, List.set_cons_zero, List.set_cons_succ]
              refine WQ.grown (by kernel_rfl) (.agg #[.int .i64 x, .int .i64 y]) (fun d os => by go_simp) ?_
              simp only [Act.put, List.setIfInBounds_toArray, List.set_cons_zero, List.set_cons_succ]
              refine WQ.grown (by kernel_rfl) (.bool true) (fun d os => by go_simp) ?_
              simp only [Act.put, List.setIfInBounds_toArray, List.set_cons_zero, List.set_cons_succ]
              refine WQ.val (by rfl) (.bool false) (fun _ => rfl) ?_
              simp only [Act.put, List.setIfInBounds_toArray, List.set_cons_zero, List.set_cons_succ]
              refine WQ.val (by rfl) (.bool false) (fun _ => rfl) ?_
              simp only [Act.put, List.setIfInBounds_toArray, List.set_cons_zero, List.set_cons_succ]
              refine WQ.val (by rfl) (.int .i64 ((k + 1 : Nat) : Int)) (fun _ => rfl) ?_
              simp only [Act.put, List.setIfInBounds_toArray, List.set_cons_zero, List.set_cons_succ]
              refine WQ.grown (by kernel_rfl) (.bool true) (fun d os => by go_simp) ?_
              simp only [Act.put, List.setIfInBounds_toArray, List.set_cons_zero, List.set_cons_succ]
              refine WQ.val (by rfl) (.bool true) (fun _ => rfl) ?_
              simp only [Act.put, List.setIfInBounds_toArray, List.set_cons_zero, List.set_cons_succ]
              refine WQ.val (by rfl) (.slice (some ⟨b, off, .none⟩) l.length cap) (fun _ => rfl) ?_
              simp only [Act.put, List.setIfInBounds_toArray, List.set_cons_zero, List.set_cons_succ]
              refine WQ.val (by rfl) (.int .i64 ((k + 1 : Nat) : Int)) (fun _ => rfl) ?_
              simp only [Act.put, List.setIfInBounds_toArray, List.set_cons_zero, List.set_cons_succ]
              refine WQ.grown (by kernel_rfl) (.pointer (some ⟨b, off + (k + 1) * 2, .none⟩)) (fun d os => by go_simp) ?_
              simp only [Act.put, List.setIfInBounds_toArray, List.set_cons_zero, List.set_cons_succ]
              refine WQ.grown (by kernel_rfl) (.pointer (some ⟨b, off + (k + 1) * 2, .none⟩)) (fun d os => by go_simp) ?_
              simp only [Act.put, List.setIfInBounds_toArray, List.set_cons_zero, List.set_cons_succ]
              refine WQ.grown (by kernel_rfl) (.int .i64 x) (fun d os => by go_simp) ?_
              simp only [Act.put, List.setIfInBounds_toArray, List.set_cons_zero, List.set_cons_succ]
              refine WQ.val (by rfl) (.slice (some ⟨b, off, .none⟩) l.length cap) (fun _ => rfl) ?_
              simp only [Act.put, List.setIfInBounds_toArray, List.set_cons_zero, List.set_cons_succ]
              refine WQ.val (by rfl) (.int .i64 ((k + 1 : Nat) : Int)) (fun _ => rfl) ?_
              simp only [Act.put, List.setIfInBounds_toArray, List.set_cons_zero, List.set_cons_succ]
              refine WQ.grown (by kernel_rfl) (.int .i64 (k : Int)) (fun d os => by go_simp) ?_
              simp only [Act.put, List.setIfInBounds_toArray, List.set_cons_zero, List.set_cons_succ]
              refine WQ.grown (by kernel_rfl) (.pointer (some ⟨b, off + k * 2, .none⟩)) (fun d os => by go_simp) ?_
              simp only [Act.put, List.setIfInBounds_toArray, List.set_cons_zero, List.set_cons_succ]
              refine WQ.grown (by kernel_rfl) (.pointer (some ⟨b, off + k * 2 + 1, .none⟩)) (fun d os => by go_simp) ?_
              simp only [Act.put, List.setIfInBounds_toArray, List.set_cons_zero, List.set_cons_succ]
              refine WQ.grown (by kernel_rfl) (.int .i64 z) (fun d os => by go_simp) ?_
              simp only [Act.put, List.setIfInBounds_toArray, List.set_cons_zero, List.set_cons_succ]
              refine WQ.grown (by kernel_rfl) (.bool false) (fun d os => by go_simp) ?_
              simp only [Act.put, List.setIfInBounds_toArray, List.set_cons_zero, List.set_cons_succ]
              refine WQ.val (by rfl) (.bool false) (fun _ => rfl) ?_
              simp only [Act.put, List.setIfInBounds_toArray, List.set_cons_zero, List.set_cons_succ]
              refine WQ.val (by rfl) (.bool false) (fun _ => rfl) ?_
              simp only [Act.put, List.setIfInBounds_toArray, List.set_cons_zero, List.set_cons_succ]
              refine WQ.nil ?_
              intro _ hw'
              obtain ⟨⟨dq, osq⟩, hw''⟩ := hw'
              subst hw''
              go_wp2_with fail
              go_roundw
              case rel => exact ⟨k + 1 + 1, by simp, hlt, (by show chain 0 l = chain (before l (k + 1 + 1)) (l.drop (k + 1 + 1)); rw [hnx.out, hfin.out]; simp), below_on hb (below_regrown wr dq osq) (Nat.le_refl _)⟩
              case measure => simp [intOf]; omega
      · have hi' : i = l.length := by omega
        subst hi'
        go_wp2_with fail
        go_ret
        exact ⟨by rw [Hr.out, hc.out, List.drop_length]; simp [chain], hb⟩
end Go.Proofs.Ytndifinjdheceaa
