/- The reference's Take, and the law's helper plain. No statement of the seat is proved here. -/
import Derived.Test.YtiboaafelabpfaaReadsG
namespace Go.Proofs.Ytiboaafelabpfaa
set_option linter.unusedVariables false
set_option linter.unusedSimpArgs false
set_option linter.unusedSectionVars false
open Go Go.RowKit

/-- two slices of the call's own, that lie apart -/
def TwoR (w wr : World) (v1 v2 : Value) (l1 l2 : List Rd) : Prop :=
  wr.ownsRow w.heap.size 59 3 v1 l1.length (l1.map rdCells).flatten ∧ wr.ownsRow w.heap.size 59 3 v2 l2.length (l2.map rdCells).flatten ∧ Apart v1 v2 ∧ Below w.heap.size w wr
theorem TwoR.swap {w wr : World} {v1 v2 : Value} {l1 l2 : List Rd} (h : TwoR w wr v1 v2 l1 l2) : TwoR w wr v2 v1 l2 l1 := ⟨h.2.1, h.1, h.2.2.1.symm, h.2.2.2⟩
theorem TwoR.below {w wr W : World} {v1 v2 : Value} {l1 l2 : List Rd} (h : TwoR w wr v1 v2 l1 l2) (hb : Below wr.heap.size wr W) : TwoR w W v1 v2 l1 l2 :=
  ⟨own_below h.1 hb, own_below h.2.1 hb, h.2.2.1, below_on h.2.2.2 hb (Nat.le_refl _)⟩
theorem TwoR.push {w wr W : World} {v1 v2 : Value} {l1 l2 : List Rd} {r : Rd} {g c : Nat} (h : TwoR w wr v1 v2 l1 l2) (hown : W.ownsRow w.heap.size 59 3 (.slice (some ⟨g, 0, none⟩) (l1.length + 1) c) (l1.length + 1) (l1.map rdCells ++ [rdCells r]).flatten)
    (hg : wr.grownBy W v1.ownBlock) (hl : v1.ownBlock = some g ∨ g = wr.heap.size) : TwoR w W (.slice (some ⟨g, 0, none⟩) (l1.length + 1) c) v2 (l1 ++ [r]) l2 := by
  obtain ⟨h1, h2, h3, h4⟩ := h
  refine ⟨by simpa using hown, h2.kept hg h3.or, ?_, below_app h4 hg h1 (Nat.le_refl _) h4.size⟩
  intro k hk
  simp only [Value.ownBlock, Option.some.injEq] at hk
  subst hk
  rcases hl with hl | rfl
  · exact h3 _ hl
  · intro e
    have := (h2.lt _ e).2
    omega


/-- what the reference's Take answers -/
def RTook (w : World) (begun sure : Int) (l : List Rd) (p : Rd → Bool) (e : Ending) (w' : World) : Prop :=
  ∃ a1 c1 a2 c2, e = .returned (.tuple #[RQ begun sure a2 (l.filter (fun r => !p r)).length c2, .slice a1 (l.filter p).length c1]) ∧ RW w' a1 c1 (l.filter p) ∧ RW w' a2 c2 (l.filter (fun r => !p r)) ∧ Below w.heap.size w w'

theorem grown_sets0 (w : World) (b : Nat) (u0 u1 u2 : Value) : w.grownBy (((w.setCell ⟨b, 0, none⟩ u0).setCell ⟨b, 1, none⟩ u1).setCell ⟨b, 2, none⟩ u2) (some b) :=
  grown_trans (grown_trans (grown_set _ _ _ _) (grown_set _ _ _ _)) (grown_set _ _ _ _)
/-- the walk's end: the two lists, as they lie, after the stores -/
theorem rtook_mk {w W0 wr : World} {begun sure : Int} {l : List Rd} {p : Rd → Bool} {a1 a2 : Option Addr} {c1 c2 : Nat} (hB0 : Below w.heap.size w W0) (hz0 : W0.heap.size = w.heap.size + 2)
    (hq0 : elem? W0 w.heap.size = some 29) (hq1 : elem? W0 (w.heap.size + 1) = some 29)
    (h : TwoR W0 wr (.slice a1 (l.filter p).length c1) (.slice a2 (l.filter (fun r => !p r)).length c2) (l.filter p) (l.filter (fun r => !p r))) (u u0 u1 u2 : Value) :
    RTook w begun sure l p (.returned (.tuple #[RQ begun sure a2 (l.filter (fun r => !p r)).length c2, .slice a1 (l.filter p).length c1])) (((((wr.setCell ⟨w.heap.size, 2, none⟩ u).setCell ⟨w.heap.size + 1, 0, none⟩ u0).setCell ⟨w.heap.size + 1, 1, none⟩ u1).setCell ⟨w.heap.size + 1, 2, none⟩ u2)) := by
  obtain ⟨h1, h2, _, h4⟩ := h
  have e0 : elem? wr w.heap.size = some 29 := by rw [elem?_same (h4.block _ (by omega))]; exact hq0
  have e1 : elem? (wr.setCell ⟨w.heap.size, 2, none⟩ u) (w.heap.size + 1) = some 29 := by
    rw [elem?_same (heap_setCell_other wr ⟨w.heap.size, 2, none⟩ _ _ (by simp)), elem?_same (h4.block _ (by omega))]; exact hq1
  refine ⟨a1, c1, a2, c2, rfl, ?_, ?_, ?_⟩
  · exact Rw.grown (Rw.grown (Rw.of_own h1 (by simp) (rd_each _)) (grown_set _ _ _ _) e0 (by decide)) (grown_sets0 _ _ _ _ _) e1 (by decide)
  · exact Rw.grown (Rw.grown (Rw.of_own h2 (by simp) (rd_each _)) (grown_set _ _ _ _) e0 (by decide)) (grown_sets0 _ _ _ _ _) e1 (by decide)
  · have b0 := below_on hB0 h4 (Nat.le_refl _)
    have b1 := below_grown b0 (grown_set wr w.heap.size 2 u) (Nat.le_refl _) b0.size
    exact below_grown b1 (grown_sets0 _ _ _ _ _) (by omega) b1.size

set_option maxHeartbeats 4000000 in
theorem rtake_at (w : World) (begun sure x : Int) (ao : Option Addr) (cap : Nat) (l : List Rd) (hw : RW w ao cap l) (hn : l.length ≤ 1000) :
    Calls Try.prog 12 #[RQ begun sure ao l.length cap, .int .u64 x] w (RTook w begun sure l (ripe sure x)) := by
  unfold RQ
  obtain ⟨p, hp0⟩ : ∃ p, p = ripe sure x := ⟨_, rfl⟩
  rw [← hp0]
  obtain ⟨W0, hW0⟩ : ∃ W0, W0 = (w.alloc (.cells #[.int .u64 begun, .int .u64 sure, .slice ao l.length cap] 29)).alloc (.cells #[.int .u64 0, .int .u64 0, .slice none 0 0] 29) := ⟨_, rfl⟩
  have hB0 : Below w.heap.size w W0 := by rw [hW0]; exact below_two _ _ _ 0
  have hz0 : W0.heap.size = w.heap.size + 2 := by rw [hW0]; simp
  have hq0 : W0.heap[w.heap.size]? = some (.cells #[.int .u64 begun, .int .u64 sure, .slice ao l.length cap] 29 (0, 0)) := by
    rw [hW0]; exact (heap_alloc_old _ _ (by simp)).trans (heap_alloc_new _ _)
  have hq1 : W0.heap[w.heap.size + 1]? = some (.cells #[.int .u64 0, .int .u64 0, .slice none 0 0] 29 (0, 0)) := by
    have := heap_alloc_new (w.alloc (.cells #[.int .u64 begun, .int .u64 sure, .slice ao l.length cap] 29)) (.cells #[.int .u64 0, .int .u64 0, .slice none 0 0] 29)
    rw [hW0]; simpa using this
  have hw0 : RW W0 ao cap l := Rw.below hw hB0
  have hlt0 : w.heap.size < W0.heap.size := by omega
  have hlt1 : w.heap.size + 1 < W0.heap.size := by omega
  go_enter Try.func12, Try.ntmps12
  go_wp2
  rw [← hW0]
  have Hz0 := Lib.hid hz0
  have Hp0 := Lib.hid hp0
  clear hW0 hz0 hp0
  go_loopw [6, 7, 8] (fun v2 v1 i wr => ∃ k : Nat, k ≤ l.length ∧ i = .int .i64 k ∧ ∃ a1 c1 a2 c2 l1 l2, Hid (l1 = (l.take k).filter p ∧ l2 = (l.take k).filter (fun r => !p r) ∧ l1.length ≤ 1000 ∧ l2.length ≤ 1000) ∧ v1 = .slice a1 l1.length c1 ∧ v2 = .slice a2 l2.length c2 ∧ TwoR W0 wr (.slice a1 l1.length c1) (.slice a2 l2.length c2) l1 l2) (fun _ _ i _ => l.length - (intOf i).toNat)
  case atStart => exact ⟨0, Nat.zero_le _, rfl, none, 0, none, 0, [], [], ⟨by simp, by simp, by simp, by simp⟩, rfl, rfl, World.ownsRow_nil _ _ _ _, World.ownsRow_nil _ _ _ _, apart_nil _ _ _, Below.refl _ _⟩
  case round =>
    obtain ⟨k, hk, rfl, a1, c1, a2, c2, l1, l2, hL, rfl, rfl, hT⟩ := hrel
    obtain ⟨e1, e2, b1, b2⟩ := hL.out
    have hqr := (hT.2.2.2.block _ hlt0).trans hq0
    have q0 := block_cell hqr 0
    have q1 := block_cell hqr 1
    have q2 := block_cell hqr 2
    have q2f := block_free hqr 2
    have qz := cell?_lt q0
    simp at q0 q1 q2
    by_cases hlt : k < l.length
    · obtain ⟨b', off, rfl, d0, d1, d2⟩ := RW.get (Rw.below hw0 hT.2.2.2) k hlt
      have f1 := filter_snoc p l k hlt
      have f2 := filter_snoc (fun r => !p r) l k hlt
      rw [← e1] at f1
      rw [← e2] at f2
      have g1 := List.length_filter_le p (l.take (k + 1))
      have g2 := List.length_filter_le (fun r => !p r) (l.take (k + 1))
      have g3 : (l.take (k + 1)).length ≤ 1000 := by rw [List.length_take]; omega
      obtain ⟨r, hr⟩ : ∃ r, r = l[k] := ⟨_, rfl⟩
      rw [← hr] at d0 d1 d2 f1 f2
      have z1 := cell?_lt d0
      clear hr e1 e2 hL
      have hT3 := hT.below (below_new wr (.cells #[.int .u64 r.id, .int .u64 r.index, .int .u64 r.round] 59))
      have hT4 := hT3.below (below_new _ (.cells #[.int .u64 r.id, .int .u64 r.index, .int .u64 r.round] 59))
      have hT4s := hT4.2.2.2.size
      cases hp : p r
      · rw [hp] at f1 f2
        have F1 := Lib.hid f1
        have F2 := Lib.hid f2
        have G1 := Lib.hid g1
        have G2 := Lib.hid g2
        have G3 := Lib.hid g3
        clear f1 f2 g1 g2 g3
        have hpn : ¬ (r.round ≤ sure ∧ r.index ≤ x) := by rw [Hp0.out] at hp; simpa [ripe] using hp
        have Hpn := Lib.hid hpn
        clear hp hpn
        have hT5 := hT4.swap
        by_cases h1 : r.round ≤ sure
        · have h2 : ¬ r.index ≤ x := fun h => Hpn.out ⟨h1, h⟩
          go_wp2_with (at_builtin; refine wpl_append_one rfl (.tmp 37) (.tmp 39) 27 rfl W0.heap.size 59 infoRR Try.underlying27 rfl (by decide) _ l2.length (l2.map rdCells) rfl hT5.1 _ 1 (rdCells r) rfl rfl ?_ (rd_one _) ?_ ?_ hT4s ?_; (intro j u hu; have := news_at (w := wr.alloc (.cells #[.int .u64 r.id, .int .u64 r.index, .int .u64 r.round] 59)) (T := 59) (rdCells r) rfl j u hu; simpa using this); omega; (unfold maxLen; omega); intro g cap4 W4 hown4 hg4 hlie; have hT6 := (hT5.push hown4 hg4 hlie).swap; clear hown4 hg4 hlie)
          go_roundw
          case rel =>
            refine ⟨k + 1, by omega, by go_num, a1, c1, some ⟨g, 0, none⟩, cap4, l1, l2 ++ [r], ⟨?_, ?_, b1, ?_⟩, rfl, ?_, ?_⟩
            · rw [F1.out]; simp
            · rw [F2.out]; simp
            · have := F2.out; have := G2.out; have := G3.out; simp_all; omega
            · simp
            · simpa using hT6
          case measure => simp [intOf]; omega
        · go_wp2_with (at_builtin; refine wpl_append_one rfl (.tmp 37) (.tmp 39) 27 rfl W0.heap.size 59 infoRR Try.underlying27 rfl (by decide) _ l2.length (l2.map rdCells) rfl hT5.1 _ 1 (rdCells r) rfl rfl ?_ (rd_one _) ?_ ?_ hT4s ?_; (intro j u hu; have := news_at (w := wr.alloc (.cells #[.int .u64 r.id, .int .u64 r.index, .int .u64 r.round] 59)) (T := 59) (rdCells r) rfl j u hu; simpa using this); omega; (unfold maxLen; omega); intro g cap4 W4 hown4 hg4 hlie; have hT6 := (hT5.push hown4 hg4 hlie).swap; clear hown4 hg4 hlie)
          go_roundw
          case rel =>
            refine ⟨k + 1, by omega, by go_num, a1, c1, some ⟨g, 0, none⟩, cap4, l1, l2 ++ [r], ⟨?_, ?_, b1, ?_⟩, rfl, ?_, ?_⟩
            · rw [F1.out]; simp
            · rw [F2.out]; simp
            · have := F2.out; have := G2.out; have := G3.out; simp_all; omega
            · simp
            · simpa using hT6
          case measure => simp [intOf]; omega
      · rw [hp] at f1 f2
        have F1 := Lib.hid f1
        have F2 := Lib.hid f2
        have G1 := Lib.hid g1
        have G2 := Lib.hid g2
        have G3 := Lib.hid g3
        clear f1 f2 g1 g2 g3
        have hpy : r.round ≤ sure ∧ r.index ≤ x := by rw [Hp0.out] at hp; simpa [ripe] using hp
        obtain ⟨h1, h2⟩ := hpy
        clear hp
        go_wp2_with (at_builtin; refine wpl_append_one rfl (.tmp 33) (.tmp 35) 27 rfl W0.heap.size 59 infoRR Try.underlying27 rfl (by decide) _ l1.length (l1.map rdCells) rfl hT4.1 _ 1 (rdCells r) rfl rfl ?_ (rd_one _) ?_ ?_ hT4s ?_; (intro j u hu; have := news_at (w := wr.alloc (.cells #[.int .u64 r.id, .int .u64 r.index, .int .u64 r.round] 59)) (T := 59) (rdCells r) rfl j u hu; simpa using this); omega; (unfold maxLen; omega); intro g cap4 W4 hown4 hg4 hlie; have hT6 := hT4.push hown4 hg4 hlie; clear hown4 hg4 hlie)
        go_roundw
        case rel =>
          refine ⟨k + 1, by omega, by go_num, some ⟨g, 0, none⟩, cap4, a2, c2, l1 ++ [r], l2, ⟨?_, ?_, ?_, b2⟩, ?_, rfl, ?_⟩
          · rw [F1.out]; simp
          · rw [F2.out]; simp
          · have := F1.out; have := G1.out; have := G3.out; simp_all; omega
          · simp
          · simpa using hT6
        case measure => simp [intOf]; omega
    · obtain rfl : k = l.length := by omega
      rw [List.take_length] at e1 e2
      subst e1
      subst e2
      have hqs := (hT.2.2.2.block _ hlt1).trans hq1
      have r0 := block_cell hqs 0
      have r1 := block_cell hqs 1
      have r2 := block_cell hqs 2
      have s0 := block_free hqs 0
      have s1 := block_free hqs 1
      have s2 := block_free hqs 2
      simp at r0 r1 r2
      clear hL
      go_wp2
      refine bodyPost_ret (v := .tuple #[RQ begun sure a2 (l.filter (fun r => !p r)).length c2, .slice a1 (l.filter p).length c1]) ?_ rfl ?_
      · simp [results, Try.results12, go_sem, RQ, r0, r1, r2]
      · exact rtook_mk hB0 Hz0.out (elem?_of hq0) (elem?_of hq1) hT _ _ _ _

set_option maxHeartbeats 4000000 in
theorem plain_at (w : World) (ao : Option Addr) (cap : Nat) (l : List Rd) (hw : Wait w ao cap l) (hn : l.length ≤ 1000) :
    Calls Try.prog 14 #[.slice ao l.length cap] w fun e w' => ∃ a1 c1, e = .returned (.slice a1 l.length c1) ∧ RW w' a1 c1 l ∧ Below w.heap.size w w' := by
  go_enter Try.func14, Try.ntmps14
  go_wp2
  go_loopw [3, 8] (fun v1 i wr => ∃ k : Nat, k ≤ l.length ∧ i = .int .i64 k ∧ ∃ a1 c1 l1, Hid (l1 = l.take k ∧ l1.length ≤ 1000) ∧ v1 = .slice a1 l1.length c1 ∧ TwoR w wr (.slice a1 l1.length c1) (.slice none 0 0) l1 []) (fun _ i _ => l.length - (intOf i).toNat)
  case atStart => exact ⟨0, Nat.zero_le _, rfl, none, 0, [], ⟨by simp, by simp⟩, rfl, World.ownsRow_nil _ _ _ _, World.ownsRow_nil _ _ _ _, apart_nil _ _ _, Below.refl _ _⟩
  case round =>
    obtain ⟨k, hk, rfl, a1, c1, l1, hL, rfl, hT⟩ := hrel
    obtain ⟨e1, b1⟩ := hL.out
    by_cases hlt : k < l.length
    · obtain ⟨b', off, rfl, d0, d1, d2⟩ := Wait.get (Rw.below hw hT.2.2.2) k hlt
      have f1 : l.take (k + 1) = l1 ++ [l[k]] := by rw [List.take_succ_eq_append_getElem hlt, e1]
      have g3 : (l.take (k + 1)).length ≤ 1000 := by rw [List.length_take]; omega
      obtain ⟨r, hr⟩ : ∃ r, r = l[k] := ⟨_, rfl⟩
      rw [← hr] at d0 d1 d2 f1
      have z1 := cell?_lt d0
      clear hr e1 hL
      have F1 := Lib.hid f1
      have G3 := Lib.hid g3
      clear f1 g3
      have hT3 := hT.below (below_new wr (.cells #[.int .u64 r.id, .int .u64 r.index, .int .u64 r.round] 53))
      have hT4 := hT3.below (below_new _ (.cells #[.int .u64 r.id, .int .u64 r.index, .int .u64 r.round] 59))
      have hT4s := hT4.2.2.2.size
      go_wp2_with (at_builtin; refine wpl_append_one rfl (.tmp 12) (.tmp 14) 27 rfl w.heap.size 59 infoRR Try.underlying27 rfl (by decide) _ l1.length (l1.map rdCells) rfl hT4.1 _ 1 (rdCells r) rfl rfl ?_ (rd_one _) ?_ ?_ hT4s ?_; (intro j u hu; have := news_at (w := wr.alloc (.cells #[.int .u64 r.id, .int .u64 r.index, .int .u64 r.round] 53)) (T := 59) (rdCells r) rfl j u hu; simpa using this); omega; (unfold maxLen; omega); intro g cap4 W4 hown4 hg4 hlie; have hT6 := hT4.push hown4 hg4 hlie; clear hown4 hg4 hlie)
      go_roundw
      case rel =>
        refine ⟨k + 1, by omega, by go_num, some ⟨g, 0, none⟩, cap4, l1 ++ [r], ⟨?_, ?_⟩, ?_, ?_⟩
        · rw [F1.out]
        · have := F1.out; have := G3.out; simp_all
        · simp
        · simpa using hT6
      case measure => simp [intOf]; omega
    · obtain rfl : k = l.length := by omega
      rw [List.take_length] at e1
      subst e1
      go_wp2
      go_ret
      exact ⟨_, _, rfl, Rw.of_own hT.1 (by simp) (rd_each _), hT.2.2.2⟩
end Go.Proofs.Ytiboaafelabpfaa
