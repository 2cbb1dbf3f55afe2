/- Spans, as lists; contracts of span.Right, span.Row and the reference's. No statement of the seat is proved here. -/
import Derived.Test.YtndifinjdheceaaAux3
import Derived.WalkLawsBesides
import Derived.BigQuiet
import Derived.Deep.QuietTactic
import Derived.RegionTactic
import Derived.BigRegion
import Derived.Deep.RegionWith
import Derived.Deep.RegionLaw
import Derived.Deep.RegionHeld3
import Derived.Deep.DeepCutAuto
import Derived.IntWalk
import Derived.Lib.QuietBelow
namespace Go.Proofs.Ytndifinjdheceaa
set_option linter.unusedVariables false
set_option linter.unusedSimpArgs false
set_option linter.unusedSectionVars false
open Go Go.RowKit
open Go.Sort (grow)

theorem wpQuiet_val {P : Program} {ops : Array Oper} {C : World → Prop} {Q : Act → Prop} {o : Oper} {rest : List Oper} {a : Act} (hw : Region.wanted o (yielded ops a.tmps) = true) (v : Value)
    (h : ∀ w, (execOp a.eval o).run P w = .ok (.value v) w) (hk : wpQuiet P ops C Q rest (a.put o.dst v)) : wpQuiet P ops C Q (o :: rest) a :=
  wpQuiet_step fun K hK => by
    rw [if_pos hw]
    refine ⟨v, fun w _ => ?_, hK _ hk⟩
    unfold Oper.quietAt
    rw [h w]
    exact ⟨rfl, rfl⟩
theorem wpQuiet_skip {P : Program} {ops : Array Oper} {C : World → Prop} {Q : Act → Prop} {o : Oper} {rest : List Oper} {a : Act} (hw : Region.wanted o (yielded ops a.tmps) = false)
    (hk : wpQuiet P ops C Q rest (a.put o.dst undef)) : wpQuiet P ops C Q (o :: rest) a :=
  wpQuiet_step fun K hK => by
    rw [if_neg (by rw [hw]; decide)]
    exact hK _ hk

/-- a span -/
structure Sp where
  a : Int
  b : Int
deriving DecidableEq, Inhabited
def spCells (s : Sp) : List Value := [.int .i64 s.a, .int .i64 s.b]
def spVal (s : Sp) : Value := .agg #[.int .i64 s.a, .int .i64 s.b]
/-- the slice reads as the spans -/
def Sps (w : World) (ao : Option Addr) (cap : Nat) (l : List Sp) : Prop := Sl w 2 ao l.length cap (l.map spCells).flatten
theorem sp_len (s : Sp) : (spCells s).length = 2 := rfl
theorem sps_each (l : List Sp) : ∀ r ∈ l.map spCells, r.length = 2 := by
  intro r hr; obtain ⟨x, _, rfl⟩ := List.mem_map.1 hr; rfl
theorem Sps.below {w w' : World} {ao : Option Addr} {cap : Nat} {l : List Sp} (h : Sps w ao cap l) (hb : Below w.heap.size w w') : Sps w' ao cap l := Sl.below h hb
theorem Sps.nil (w : World) : Sps w none 0 [] := ⟨by simp, by simp, by decide, fun _ => rfl, fun j u hu => by simp at hu⟩
theorem Sps.of_own {w : World} {base e cap : Nat} {ao : Option Addr} {l : List Sp} (h : w.ownsRow base e 2 (.slice ao l.length cap) l.length (l.map spCells).flatten) : Sps w ao cap l := Sl.of_own h
theorem Sps.get {w : World} {ao : Option Addr} {cap : Nat} {l : List Sp} (h : Sps w ao cap l) (i : Nat) (hi : i < l.length) :
    ∃ b off, ao = some ⟨b, off, .none⟩ ∧ w.cell? ⟨b, off + i * 2, .none⟩ = some (.int .i64 l[i].a) ∧ w.cell? ⟨b, off + i * 2 + 1, .none⟩ = some (.int .i64 l[i].b) := by
  have hg : ∀ j (hj : j < 2), (l.map spCells).flatten[i * 2 + j]? = (spCells l[i])[j]? := by
    intro j hj
    have := flatten_get (sps_each l) i j (by simpa using hi) (by simp only [List.getElem_map, sp_len]; exact hj)
    rw [this]
    simp only [List.getElem_map]
    rw [List.getElem?_eq_getElem (by rw [sp_len]; exact hj)]
  obtain ⟨b, off, e, h0⟩ := h.cell (i * 2 + 0) _ (hg 0 (by decide))
  obtain ⟨b', off', e', h1⟩ := h.cell (i * 2 + 1) _ (hg 1 (by decide))
  rw [e] at e'
  simp only [Option.some.injEq, Addr.mk.injEq] at e'
  obtain ⟨rfl, rfl, -⟩ := e'
  exact ⟨b, off, e, by simpa using h0, by rw [Nat.add_assoc]; exact h1⟩

/-- may it stand in a row? -/
def Sp.right (s : Sp) : Bool := decide (0 ≤ s.a) && decide (s.a < s.b) && decide (s.b ≤ 1125899906842624)
/-- do spans stand in order, from an instant on? -/
def chain : Int → List Sp → Bool
  | _, [] => true
  | e, s :: l => s.right && decide (e ≤ s.a) && chain s.b l
/-- the error's number -/
def rowErr (l : List Sp) : Nat := if 32 < l.length then 21 else if chain 0 l then 0 else 2

set_option maxHeartbeats 1000000 in
theorem right_any (s : Sp) (w : World) : Calls Try.prog 36 #[spVal s] w fun e w' => e = .returned (.bool s.right) ∧ Below w.heap.size w w' := by
  obtain ⟨a, b⟩ := s
  unfold spVal
  have hr : Sp.right ⟨a, b⟩ = (decide (0 ≤ a) && decide (a < b) && decide (b ≤ 1125899906842624)) := rfl
  have Hr := Lib.hid hr
  clear hr
  by_cases h0 : 0 ≤ a
  · by_cases h1 : a < b
    · have e0 : decide (0 ≤ a) = true := by simpa using h0
      have e1 : decide (a < b) = true := by simpa using h1
      rw [e0, e1] at Hr
      go_enter Try.func36, Try.ntmps36
      go_wp2
      go_ret
      exact ⟨by rw [Hr.out]; simp, below_new _ _⟩
    · have e0 : decide (0 ≤ a) = true := by simpa using h0
      have e1 : decide (a < b) = false := by simpa using h1
      rw [e0, e1] at Hr
      go_enter Try.func36, Try.ntmps36
      go_wp2
      go_ret
      exact ⟨by rw [Hr.out]; simp, below_new _ _⟩
  · have e0 : decide (0 ≤ a) = false := by simpa using h0
    rw [e0] at Hr
    go_enter Try.func36, Try.ntmps36
    go_wp2
    go_ret
    exact ⟨by rw [Hr.out]; simp, below_new _ _⟩

theorem chain_at (l : List Sp) (i : Nat) (hi : i < l.length) (e : Int) : chain e (l.drop i) = (l[i].right && decide (e ≤ l[i].a) && chain l[i].b (l.drop (i + 1))) := by
  rw [List.drop_eq_getElem_cons hi]; rfl

set_option maxHeartbeats 1000000 in
theorem row_any (ao : Option Addr) (cap : Nat) (l : List Sp) (w : World) (hs : Sps w ao cap l) :
    Calls Try.prog 24 #[.slice ao l.length cap] w fun e w' => e = .returned (.int .i64 (rowErr l : Nat)) ∧ Below w.heap.size w w' := by
  by_cases h : 32 < l.length
  · have hr : rowErr l = 21 := by unfold rowErr; rw [if_pos h]
    have Hr := Lib.hid hr
    clear hr
    go_enter Try.func24, Try.ntmps24
    go_wp2
    go_ret
    exact ⟨by rw [Hr.out]; rfl, Below.refl _ _⟩
  · have hr : rowErr l = if chain 0 l then 0 else 2 := by unfold rowErr; rw [if_neg h]
    have Hr := Lib.hid hr
    clear hr
    go_enter Try.func24, Try.ntmps24
    go_wp2_with fail
    go_loopw [3, 11] (fun v u wr => ∃ (i : Nat) (e : Int), v = .int .i64 e ∧ u = .int .i64 i ∧ i ≤ l.length ∧ Hid (chain 0 l = chain e (l.drop i)) ∧ Below w.heap.size w wr) (fun v u _ => l.length - (intOf u).toNat)
    case atStart => exact ⟨0, 0, rfl, rfl, Nat.zero_le _, rfl, Below.refl _ _⟩
    case round =>
      obtain ⟨i, e, rfl, rfl, hi, hc, hb⟩ := hrel
      by_cases hlt : i < l.length
      · have hs1 := hs.below hb
        obtain ⟨b, off, rfl, c0, c1⟩ := hs1.get i hlt
        have hcat := Lib.hid (chain_at l i hlt e)
        obtain ⟨s, hsd⟩ : ∃ s, s = l[i] := ⟨_, rfl⟩
        rw [← hsd] at c0 c1 hcat
        obtain ⟨x, y⟩ := s
        simp only at c0 c1
        have hrt := right_any ⟨x, y⟩
        unfold spVal at hrt
        simp only at hrt
        have Hrt := Lib.hid hrt
        clear hsd hrt
        go_wp2_with fail
        refine (Hrt.out _).mono ?_
        rintro e2 w2 ⟨rfl, hb2⟩
        have k0 := (hb2.cell (p := ⟨wr.heap.size, 0, none⟩) (by simp)).trans (cell?_new wr #[.int .i64 x, .int .i64 y] 50 (0, 0) 0)
        have k1 := (hb2.cell (p := ⟨wr.heap.size, 1, none⟩) (by simp)).trans (cell?_new wr #[.int .i64 x, .int .i64 y] 50 (0, 0) 1)
        simp at k0 k1
        have hB := below_on (below_on hb (below_new wr (.cells #[.int .i64 x, .int .i64 y] 50)) (Nat.le_refl _)) hb2 (Nat.le_refl _)
        cases hrr : Sp.right ⟨x, y⟩ with
        | false =>
          rw [hrr] at hcat
          go_wp2_with fail
          go_ret
          exact ⟨by rw [Hr.out, hc.out, hcat.out]; simp, hB⟩
        | true =>
          rw [hrr] at hcat
          by_cases hxe : x < e
          · have e1 : decide (e ≤ x) = false := by simp; omega
            rw [e1] at hcat
            go_wp2_with fail
            go_ret
            exact ⟨by rw [Hr.out, hc.out, hcat.out]; simp, hB⟩
          · have e1 : decide (e ≤ x) = true := by simp; omega
            rw [e1] at hcat
            go_wp2_with fail
            go_roundw
            case rel => exact ⟨i + 1, y, rfl, by simp, by omega, (by show chain 0 l = chain y (l.drop (i + 1)); rw [hc.out, hcat.out]; simp), hB⟩
            case measure => simp [intOf]; omega
      · have hi' : i = l.length := by omega
        subst hi'
        go_wp2_with fail
        go_ret
        exact ⟨by rw [Hr.out, hc.out, List.drop_length]; simp [chain], hb⟩

theorem refRight_any (s : Sp) (w : World) : Calls Try.prog 35 #[spVal s] w fun e w' => e = .returned (.bool s.right) ∧ Below w.heap.size w w' := by
  obtain ⟨a, b⟩ := s
  unfold spVal
  have hr : Sp.right ⟨a, b⟩ = (decide (0 ≤ a) && decide (a < b) && decide (b ≤ 1125899906842624)) := rfl
  have Hr := Lib.hid hr
  clear hr
  by_cases h0 : 0 ≤ a
  · by_cases h1 : a < b
    · have e0 : decide (0 ≤ a) = true := by simpa using h0
      have e1 : decide (a < b) = true := by simpa using h1
      rw [e0, e1] at Hr
      go_enter Try.func35, Try.ntmps35
      go_wp2
      go_ret
      exact ⟨by rw [Hr.out]; simp, below_new _ _⟩
    · have e0 : decide (0 ≤ a) = true := by simpa using h0
      have e1 : decide (a < b) = false := by simpa using h1
      rw [e0, e1] at Hr
      go_enter Try.func35, Try.ntmps35
      go_wp2
      go_ret
      exact ⟨by rw [Hr.out]; simp, below_new _ _⟩
  · have e0 : decide (0 ≤ a) = false := by simpa using h0
    rw [e0] at Hr
    go_enter Try.func35, Try.ntmps35
    go_wp2
    go_ret
    exact ⟨by rw [Hr.out]; simp, below_new _ _⟩
end Go.Proofs.Ytndifinjdheceaa
