/- Contract of the reference's Sound. No statement of the seat is proved here. -/
import Derived.Test.YtdcinhnplcipoaaObTk
namespace Go.Proofs.Ytdcinhnplcipoaa
set_option linter.unusedVariables false
set_option linter.unusedSimpArgs false
set_option linter.unusedSectionVars false
open Go Go.RowKit Go.Shelf

set_option maxRecDepth 100000 in
set_option maxHeartbeats 8000000 in
theorem refSound_any (top : Int) (ao : Option Addr) (cap : Nat) (l : List No) (w : World) (hs : Ns w ao cap l) (hl : l.length ≤ 1000000) :
    Calls Try.prog 20 #[.agg #[.int .u64 top, .slice ao l.length cap]] w fun e w' => e = .returned (.bool (soundS top l)) ∧ Below w.heap.size w w' := by
  obtain ⟨c, hc⟩ : ∃ c, c = soundS top l := ⟨_, rfl⟩
  rw [← hc]
  unfold soundS at hc
  by_cases h1 : 1152921504606846976 < top
  · have HcF : Hid (c = false) := by show c = false; rw [hc]; have : ¬ top ≤ 1152921504606846976 := by omega
                                     simp [this]
    clear hc
    go_enter Try.func20, Try.ntmps20
    go_wp2_with fail
    go_ret
    exact ⟨ret_bool HcF.out.symm, below_new _ _⟩
  by_cases h2 : 128 < l.length
  · have HcF : Hid (c = false) := by show c = false; rw [hc]; have : ¬ l.length ≤ 128 := by omega
                                     simp [this]
    have h3 : (128 : Int) < (l.length : Int) := by omega
    clear hc
    go_enter Try.func20, Try.ntmps20
    go_wp2_with fail
    go_ret
    exact ⟨ret_bool HcF.out.symm, below_new _ _⟩
  have hc2 : c = soundF top 0 l := by
    rw [hc]
    have e1 : top ≤ 1152921504606846976 := by omega
    have e2 : l.length ≤ 128 := by omega
    simp [e1, e2]
  have Hc := Lib.hid hc2
  clear hc hc2
  have h3 : ¬ (128 : Int) < (l.length : Int) := by omega
  have hb1 := below_new w (.cells #[.int .u64 top, .slice ao l.length cap] 53)
  have hr1 : (w.alloc (.cells #[.int .u64 top, .slice ao l.length cap] 53)).heap[w.heap.size]? = _ := heap_alloc_new _ _
  have hs1 := hs.below hb1
  obtain ⟨W1, hW1⟩ : ∃ W1, W1 = w.alloc (.cells #[.int .u64 top, .slice ao l.length cap] 53) := ⟨_, rfl⟩
  go_enter Try.func20, Try.ntmps20
  go_wp2_with fail
  rw [← hW1]
  rw [← hW1] at hb1 hr1 hs1
  clear hW1
  go_loopw [3, 4] (fun v u wr => ∃ (i : Nat) (last : Int), v = .int .u64 last ∧ u = .int .i64 i ∧ i ≤ l.length ∧ Hid (c = soundF top last (l.drop i)) ∧ Below W1.heap.size W1 wr) (fun _ u _ => l.length - (intOf u).toNat)
  case atStart => exact ⟨0, 0, rfl, rfl, Nat.zero_le _, Hc, Below.refl _ _⟩
  case round =>
    obtain ⟨i, last, rfl, rfl, hi, hri, hb⟩ := hrel
    have hB := below_on hb1 hb (Nat.le_refl _)
    by_cases hlt : i < l.length
    · obtain ⟨b, off, rfl, c0, c1, c2, c3, c4, c5, c6, c7, c8⟩ := (hs1.below hb).get i hlt
      have Hst := Lib.hid (soundF_at top last l i hlt)
      obtain ⟨s, hsd⟩ : ∃ s, s = l[i] := ⟨_, rfl⟩
      rw [← hsd] at c0 c1 c2 c3 c4 c5 c6 c7 c8 Hst
      clear hsd
      have hfi := fun W => refFits_any s W
      have hin := fun W => refInst_any s.nx W
      obtain ⟨qf, hqf⟩ : ∃ q, q = fitsN s := ⟨_, rfl⟩
      rw [← hqf] at Hst
      simp only [← hqf] at hfi
      clear hqf
      have hsd2 : standsN s = (decide (0 ≤ s.tr) && decide (s.tr ≤ s.rt) && instB s.nx && (s.st == 1 || (s.st == 2 && decide (0 < s.tr)) || (s.st == 3 && s.tr == s.rt))) := rfl
      rw [hsd2] at Hst
      clear hsd2
      obtain ⟨qi, hqi⟩ : ∃ q, q = instB s.nx := ⟨_, rfl⟩
      rw [← hqi] at Hst
      simp only [← hqi] at hin
      clear hqi
      obtain ⟨id, tk, lv, pt, st, tr, rt, wt, nx⟩ := s
      unfold noVal at hfi
      simp only at c0 c1 c2 c3 c4 c5 c6 c7 c8 hfi hin Hst
      have Hfi := Lib.hid hfi
      have Hin := Lib.hid hin
      clear hfi hin
      have i0 : (0 : Int) ≤ (i : Int) := by omega
      have i1 : (i : Int) < (l.length : Int) := by omega
      have hrw := (hb.block w.heap.size (Array.getElem?_eq_some_iff.1 hr1).1).trans hr1
      have p1 := block_cell hrw 1
      simp at p1
      have hwlt := (Array.getElem?_eq_some_iff.1 hrw).1
      go_upto_region 8 with fail
      obtain ⟨W3, hW3⟩ : ∃ W3, W3 = wr.alloc (.cells #[.int .u64 id, .int .u64 tk, .int .i64 lv, .int .i64 pt, .int .i64 st, .int .i64 tr, .int .i64 rt, .int .i64 wt, .int .i64 nx] 24) := ⟨_, rfl⟩
      have B3' : Below wr.heap.size wr W3 := by rw [hW3]; exact below_new _ _
      have jn : W3.heap[wr.heap.size]? = _ := (congrArg (fun z : World => z.heap[wr.heap.size]?) hW3).trans (heap_alloc_new _ _)
      rw [← hW3]
      clear hW3 c0 c1 c2 c3 c4 c5 c6 c7 c8 p1
      have hrw3 := (B3'.block _ hwlt).trans hrw
      have p0 := block_cell hrw3 0
      simp at p0
      have hB3 := below_on hb B3' (Nat.le_refl _)
      have hBw := below_on hB B3' (Nat.le_refl _)
      obtain ⟨d0, d1, d2, d3, d4, d5, d6, d7, d8⟩ := blk9 jn
      have hjl := (Array.getElem?_eq_some_iff.1 jn).1
      by_cases g1 : id ≤ last
      · have HcF : Hid (c = false) := by show c = false; rw [hri.out, Hst.out]; have : ¬ last < id := by omega
                                         simp [this]
        clear hri Hst
        go_wp2_with fail
        go_ret
        exact ⟨ret_bool HcF.out.symm, hBw⟩
      by_cases g2 : top < id
      · have HcF : Hid (c = false) := by show c = false; rw [hri.out, Hst.out]; have : ¬ id ≤ top := by omega
                                         simp [this]
        clear hri Hst
        go_wp2_with fail
        go_ret
        exact ⟨ret_bool HcF.out.symm, hBw⟩
      have Hc3 : Hid (c = (qf && (decide (0 ≤ tr) && decide (tr ≤ rt) && qi && (st == 1 || (st == 2 && decide (0 < tr)) || (st == 3 && tr == rt))) && soundF top id (l.drop (i + 1)))) := by
        show c = _
        rw [hri.out, Hst.out]
        have e1 : last < id := by omega
        have e2 : id ≤ top := by omega
        simp [e1, e2]
      clear hri Hst
      go_wp2_with fail
      refine (Hfi.out _).mono ?_
      rintro e W4 ⟨rfl, hb4⟩
      have jn4 := (hb4.block _ hjl).trans jn
      have hB4 := below_on hB3 hb4 (Nat.le_refl _)
      have hBw4 := below_on hBw hb4 (Nat.le_refl _)
      clear d0 d1 d2 d3 d4 d5 d6 d7 d8 p0
      obtain ⟨d0, d1, d2, d3, d4, d5, d6, d7, d8⟩ := blk9 jn4
      cases qf with
      | false =>
        have HcF : Hid (c = false) := by show c = false; rw [Hc3.out]; rfl
        clear Hc3
        go_wp2_with fail
        go_ret
        exact ⟨ret_bool HcF.out.symm, hBw4⟩
      | true =>
        by_cases g3 : tr < 0
        · have HcF : Hid (c = false) := by show c = false; rw [Hc3.out]; have : ¬ 0 ≤ tr := by omega
                                           simp [this]
          clear Hc3
          go_wp2_with fail
          go_ret
          exact ⟨ret_bool HcF.out.symm, hBw4⟩
        by_cases g4 : rt < tr
        · have HcF : Hid (c = false) := by show c = false; rw [Hc3.out]; have : ¬ tr ≤ rt := by omega
                                           simp [this]
          clear Hc3
          go_wp2_with fail
          go_ret
          exact ⟨ret_bool HcF.out.symm, hBw4⟩
        have Hc4 : Hid (c = (qi && (st == 1 || (st == 2 && decide (0 < tr)) || (st == 3 && tr == rt)) && soundF top id (l.drop (i + 1)))) := by
          show c = _
          rw [Hc3.out]
          have e1 : 0 ≤ tr := by omega
          have e2 : tr ≤ rt := by omega
          simp [e1, e2]
        clear Hc3
        go_wp2_with fail
        refine (Hin.out _).mono ?_
        rintro e W5 ⟨rfl, rfl⟩
        cases qi with
        | false =>
          have HcF : Hid (c = false) := by show c = false; rw [Hc4.out]; rfl
          clear Hc4
          go_wp2_with fail
          go_ret
          exact ⟨ret_bool HcF.out.symm, hBw4⟩
        | true =>
          have hcs : ((st == 1) = true ∧ Hid (c = soundF top id (l.drop (i + 1)))) ∨ ((st == 1) = false ∧ (st == 2) = true ∧ (st == 3) = false ∧ 1 ≤ tr ∧ Hid (c = soundF top id (l.drop (i + 1)))) ∨ ((st == 1) = false ∧ (st == 2) = false ∧ (st == 3) = true ∧ (tr == rt) = true ∧ Hid (c = soundF top id (l.drop (i + 1)))) ∨
              ((st == 1) = false ∧ (st == 2) = true ∧ (st == 3) = false ∧ ¬ 1 ≤ tr ∧ Hid (c = false)) ∨ ((st == 1) = false ∧ (st == 2) = false ∧ (st == 3) = true ∧ (tr == rt) = false ∧ Hid (c = false)) ∨ ((st == 1) = false ∧ (st == 2) = false ∧ (st == 3) = false ∧ Hid (c = false)) := by
            have h := Hc4.out
            cases a1 : (st == 1) with
            | true => rw [a1] at h; exact .inl ⟨rfl, by show c = _; rw [h]; simp⟩
            | false =>
              rw [a1] at h
              cases a2 : (st == 2) with
              | true =>
                have a3 : (st == 3) = false := by have : st = 2 := by simpa using a2
                                                  simp [this]
                rw [a2, a3] at h
                by_cases a4 : 1 ≤ tr
                · have a5 : 0 < tr := by omega
                  exact .inr (.inl ⟨rfl, rfl, a3, a4, by show c = _; rw [h]; simp [a5]⟩)
                · have a5 : ¬ 0 < tr := by omega
                  exact .inr (.inr (.inr (.inl ⟨rfl, rfl, a3, a4, by show c = _; rw [h]; simp [a5]⟩)))
              | false =>
                rw [a2] at h
                cases a3 : (st == 3) with
                | true =>
                  rw [a3] at h
                  cases a4 : (tr == rt) with
                  | true => rw [a4] at h; exact .inr (.inr (.inl ⟨rfl, rfl, rfl, rfl, by show c = _; rw [h]; simp⟩))
                  | false => rw [a4] at h; exact .inr (.inr (.inr (.inr (.inl ⟨rfl, rfl, rfl, rfl, by show c = _; rw [h]; simp⟩))))
                | false => rw [a3] at h; exact .inr (.inr (.inr (.inr (.inr ⟨rfl, rfl, rfl, by show c = _; rw [h]; simp⟩))))
          clear Hc4
          rcases hcs with ⟨a1, Hk⟩ | ⟨a1, a2, a3, a4, Hk⟩ | ⟨a1, a2, a3, a4, Hk⟩ | ⟨a1, a2, a3, a4, Hk⟩ | ⟨a1, a2, a3, a4, Hk⟩ | ⟨a1, a2, a3, Hk⟩
          iterate 3
            · go_wp2_with fail
              go_roundw
              case rel => exact ⟨i + 1, id, rfl, by simp, by omega, Hk, hB4⟩
              case measure => simp [intOf]; omega
          iterate 3
            · go_wp2_with fail
              all_goals first | (exfalso; omega) | (exfalso; rename_i hq; simp at hq; omega) | (go_ret; exact ⟨ret_bool Hk.out.symm, hBw4⟩)
    · have hi' : i = l.length := by omega
      subst hi'
      have HcT : Hid (c = true) := by show c = true; rw [hri.out, List.drop_length]; rfl
      clear hri
      have hrw := (hb.block w.heap.size (Array.getElem?_eq_some_iff.1 hr1).1).trans hr1
      have p1 := block_cell hrw 1
      simp at p1
      go_wp2_with fail
      go_ret
      exact ⟨ret_bool HcT.out.symm, hB⟩
end Go.Proofs.Ytdcinhnplcipoaa
