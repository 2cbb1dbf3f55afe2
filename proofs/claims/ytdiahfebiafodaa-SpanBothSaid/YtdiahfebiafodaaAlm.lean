/- Contracts of almanac's all, Row, New, Next, Closed and of the reference's Next, Has, Same. No statement of the seat is proved here. -/
import Derived.Test.YtdiahfebiafodaaSpanC
namespace Go.Proofs.Ytdiahfebiafodaa
set_option linter.unusedVariables false
set_option linter.unusedSimpArgs false
set_option linter.unusedSectionVars false
open Go Go.RowKit
open Go.Sort (grow)

/-- an almanac: nil, or a block whose cell is a row -/
def Alm (w : World) (v : Value) (l : List Sp) : Prop :=
  (v = .pointer none ∧ l = []) ∨ ∃ g ao cap, v = .pointer (some ⟨g, 0, .none⟩) ∧ w.cell? ⟨g, 0, .none⟩ = some (.slice ao l.length cap) ∧ Sps w ao cap l
theorem Alm.below {w w' : World} {v : Value} {l : List Sp} (h : Alm w v l) (hb : Below w.heap.size w w') : Alm w' v l := by
  rcases h with h | ⟨g, ao, cap, h1, h2, h3⟩
  · exact .inl h
  · exact .inr ⟨g, ao, cap, h1, (hb.cell (cell?_lt h2)).trans h2, h3.below hb⟩

theorem all_any (v : Value) (l : List Sp) (w : World) (h : Alm w v l) :
    Calls Try.prog 44 #[v] w fun e w' => (∃ ao cap, e = .returned (.slice ao l.length cap) ∧ Sps w' ao cap l) ∧ w' = w := by
  rcases h with ⟨rfl, rfl⟩ | ⟨g, ao, cap, rfl, h2, h3⟩
  · go_enter Try.func44, Try.ntmps44
    go_wp2
    go_ret
    exact ⟨⟨none, 0, rfl, Sps.nil _⟩, rfl⟩
  · go_enter Try.func44, Try.ntmps44
    go_wp2
    go_ret
    exact ⟨⟨ao, cap, rfl, h3⟩, rfl⟩

theorem almRow_any (v : Value) (l : List Sp) (w : World) (hl : l.length ≤ 1000000) (h : Alm w v l) :
    Calls Try.prog 19 #[v] w fun e w' => (∃ ao cap, e = .returned (.slice ao l.length cap) ∧ Sps w' ao cap l) ∧ Below w.heap.size w w' := by
  go_enter Try.func19, Try.ntmps19
  go_wp2_with fail
  refine (all_any v l w h).mono ?_
  rintro e w1 ⟨⟨ao, cap, rfl, hs⟩, rfl⟩
  go_wp2_with fail
  refine (clone_any ao cap l w1 hl hs).mono ?_
  rintro e w2 ⟨⟨ao2, cap2, rfl, hs2⟩, hb2⟩
  go_wp2_with fail
  go_ret
  exact ⟨⟨ao2, cap2, rfl, hs2⟩, hb2⟩

theorem new_any (ao : Option Addr) (cap : Nat) (l : List Sp) (w : World) (hs : Sps w ao cap l) :
    Calls Try.prog 12 #[.slice ao l.length cap] w fun e w' => (∃ v, e = .returned (.tuple #[v, .int .i64 (rowErr l : Nat)]) ∧ (rowErr l = 0 → Alm w' v l ∧ ∃ g, v = .pointer (some ⟨g, 0, .none⟩)) ∧ (rowErr l ≠ 0 → v = .pointer none)) ∧ Below w.heap.size w w' := by
  go_enter Try.func12, Try.ntmps12
  go_wp2_with fail
  refine (row_any ao cap l w hs).mono ?_
  rintro e w1 ⟨rfl, hb1⟩
  by_cases h0 : rowErr l = 0
  · have hlen : l.length ≤ 32 := by
      apply Classical.byContradiction
      intro h
      unfold rowErr at h0
      rw [if_pos (by omega)] at h0
      cases h0
    rw [h0]
    go_wp2_with fail
    refine (clone_any ao cap l w1 (by omega) (hs.below hb1)).mono ?_
    rintro e w2 ⟨⟨ao2, cap2, rfl, hs2⟩, hb2⟩
    go_wp2_with fail
    refine bodyPost_ret (v := .tuple #[.pointer (some ⟨w2.heap.size, 0, .none⟩), .int .i64 0]) (by simp [results, Try.results12, go_sem]) rfl ?_
    refine ⟨⟨_, by rw [h0]; rfl, fun _ => ⟨.inr ⟨w2.heap.size, ao2, cap2, rfl, by simp, hs2.below (below_new _ _)⟩, _, rfl⟩, fun h => absurd h0 h⟩, below_on (below_on hb1 hb2 (Nat.le_refl _)) (below_new _ _) (Nat.le_refl _)⟩
  · have h1 : ((rowErr l : Nat) : Int) ≠ 0 := by omega
    go_wp2_with fail
    refine bodyPost_ret (v := .tuple #[.pointer none, .int .i64 (rowErr l : Nat)]) (by simp [results, Try.results12, go_sem]) rfl ?_
    exact ⟨⟨_, rfl, fun h => absurd h h0, fun _ => rfl⟩, hb1⟩

/-- the place of the first span that fits, or -1 -/
def firstI (l : List Sp) (p : Sp → Bool) : Int := if l.findIdx p < l.length then (l.findIdx p : Int) else -1
set_option maxHeartbeats 1000000 in
/-- the first span that fits -/
theorem index_any (k B : Nat) (p : Sp → Bool) (eg : ∀ args w, (callFunc k args).run Try.prog w = .ok (.enter k args) w) (ao : Option Addr) (cap : Nat) (l : List Sp) (w : World) (hs : Sps w ao cap l)
    (hp : ∀ W s, Below w.heap.size w W → Calls Try.prog k #[spVal s, .pointer (some ⟨B, 0, .none⟩)] W fun e W' => e = .returned (.bool (p s)) ∧ Below W.heap.size W W') :
    Calls Try.prog 45 #[.slice ao l.length cap, .func (.func k) #[] #[.pointer (some ⟨B, 0, .none⟩)]] w fun e w' =>
      e = .returned (.int .i64 (firstI l p)) ∧ Below w.heap.size w w' := by
  obtain ⟨r, hr⟩ : ∃ r, r = l.findIdx p := ⟨_, rfl⟩
  obtain ⟨z, hz⟩ : ∃ z, z = firstI l p := ⟨_, rfl⟩
  rw [← hz]
  have hz2 : z = if r < l.length then (r : Int) else -1 := by rw [hz, hr]; rfl
  have Hz := Lib.hid hz2
  have Hr := Lib.hid hr
  clear hr hz hz2
  have hm := hs.max
  have hle := hs.le
  unfold maxLen at hm
  go_enter Try.func45, Try.ntmps45
  go_wp2_with fail
  go_loopw [8] (fun v wr => ∃ i : Nat, v = .int .i64 i ∧ i ≤ l.length ∧ Hid (r = i + (l.drop i).findIdx p) ∧ Below w.heap.size w wr) (fun v _ => l.length - (intOf v).toNat)
  case atStart => exact ⟨0, rfl, Nat.zero_le _, (by show r = 0 + (l.drop 0).findIdx p; rw [Hr.out]; simp), Below.refl _ _⟩
  case round =>
    obtain ⟨i, rfl, hi, hri, hb⟩ := hrel
    by_cases hlt : i < l.length
    · have hs2 := hs.below hb
      obtain ⟨b, off, rfl, c0, c1⟩ := hs2.get i hlt
      have hst : (l.drop i).findIdx p = if p l[i] then 0 else (l.drop (i + 1)).findIdx p + 1 := by
        rw [List.drop_eq_getElem_cons hlt, List.findIdx_cons]
        cases p l[i] <;> rfl
      have Hst := Lib.hid hst
      clear hst
      obtain ⟨s, hsd⟩ : ∃ s, s = l[i] := ⟨_, rfl⟩
      rw [← hsd] at c0 c1 Hst
      clear hsd
      have hps := hp wr s hb
      obtain ⟨q, hq⟩ : ∃ q, q = p s := ⟨_, rfl⟩
      rw [← hq] at hps Hst
      clear hq
      obtain ⟨x, y⟩ := s
      unfold spVal at hps
      simp only at c0 c1 hps
      go_wp2_with fail
      refine hps.mono ?_
      rintro e w2 ⟨rfl, hb2⟩
      cases q with
      | true =>
        have he : r = i := by rw [hri.out, Hst.out]; simp
        go_wp2_with fail
        go_ret
        refine ⟨?_, below_on hb hb2 (Nat.le_refl _)⟩
        rw [Hz.out, he, if_pos hlt]; rfl
      | false =>
        have he : Hid (r = i + 1 + (l.drop (i + 1)).findIdx p) := by show r = _; rw [hri.out, Hst.out]; simp; omega
        go_wp2_with fail
        go_roundw
        case rel => exact ⟨i + 1, by simp, by omega, he, below_on hb hb2 (Nat.le_refl _)⟩
        case measure => simp [intOf]; omega
    · have hi' : i = l.length := by omega
      subst hi'
      have he : r = l.length := by rw [hri.out]; simp
      go_wp2_with fail
      go_ret
      exact ⟨by rw [Hz.out, he, if_neg (Nat.lt_irrefl _)]; rfl, hb⟩
end Go.Proofs.Ytdiahfebiafodaa
