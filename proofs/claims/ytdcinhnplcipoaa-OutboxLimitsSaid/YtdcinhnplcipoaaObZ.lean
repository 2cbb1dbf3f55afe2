/- Contract of the reference's Due. No statement of the seat is proved here. -/
import Derived.Test.YtdcinhnplcipoaaObY
namespace Go.Proofs.Ytdcinhnplcipoaa
set_option linter.unusedVariables false
set_option linter.unusedSimpArgs false
set_option linter.unusedSectionVars false
open Go Go.RowKit Go.Shelf

set_option maxHeartbeats 8000000 in
theorem refDue_any (last now : Int) (ao : Option Addr) (cap : Nat) (l : List No) (w : World) (hs : Ns w ao cap l) (hl : l.length ≤ 1000000) :
    Calls Try.prog 54 #[.agg #[.int .u64 last, .slice ao l.length cap], .int .i64 now] w (DueOk now l w) := by
  unfold DueOk
  obtain ⟨F, hF⟩ : ∃ F, F = l.filter (dueB now) := ⟨_, rfl⟩
  rw [← hF]
  have HF := Lib.hid hF
  clear hF
  have hb1 := below_new w (.cells #[.int .u64 last, .slice ao l.length cap] 53)
  have hr1 : (w.alloc (.cells #[.int .u64 last, .slice ao l.length cap] 53)).heap[w.heap.size]? = _ := heap_alloc_new _ _
  have hs1 := hs.below hb1
  have hlt1 : w.heap.size < (w.alloc (.cells #[.int .u64 last, .slice ao l.length cap] 53)).heap.size := by simp
  obtain ⟨W1, hW1⟩ : ∃ W1, W1 = w.alloc (.cells #[.int .u64 last, .slice ao l.length cap] 53) := ⟨_, rfl⟩
  go_enter Try.func54, Try.ntmps54
  go_wp2_with fail
  rw [← hW1]
  rw [← hW1] at hb1 hr1 hs1 hlt1
  clear hW1
  go_loopw [5, 6] (fun v u wr => ∃ (i : Nat) (out : List No), u = .int .i64 i ∧ i ≤ l.length ∧ out.length ≤ i ∧ Hid (out = (l.take i).filter (dueB now)) ∧ wr.ownsRow W1.heap.size 24 9 v out.length (out.map noCells).flatten ∧ Below W1.heap.size W1 wr)
    (fun _ u _ => l.length - (intOf u).toNat)
  case atStart => exact ⟨0, [], rfl, Nat.zero_le _, Nat.le_refl _, rfl, World.ownsRow_nil _ _ _ _, Below.refl _ _⟩
  case round =>
    obtain ⟨i, out, rfl, hi, ho, hout, hown, hb⟩ := hrel
    obtain ⟨oa, oc, rfl⟩ := own_slice hown
    have hrr := (hb.block _ hlt1).trans hr1
    have p1 := block_cell hrr 1
    simp at p1
    by_cases hlt : i < l.length
    · obtain ⟨b, off, rfl, c0, c1, c2, c3, c4, c5, c6, c7, c8⟩ := (hs1.below hb).get i hlt
      have Hst := Lib.hid (filter_snocN (dueB now) l i hlt)
      obtain ⟨s, hsd⟩ : ∃ s, s = l[i] := ⟨_, rfl⟩
      rw [← hsd] at c0 c1 c2 c3 c4 c5 c6 c7 c8 Hst
      clear hsd
      obtain ⟨id, tk, lv, pt, st, tr, rt, wt, nx⟩ := s
      simp only at c0 c1 c2 c3 c4 c5 c6 c7 c8
      have hcs : (dueB now ⟨id, tk, lv, pt, st, tr, rt, wt, nx⟩ = false ∧ (st == 1) = false) ∨ (dueB now ⟨id, tk, lv, pt, st, tr, rt, wt, nx⟩ = false ∧ (st == 1) = true ∧ ¬ tr < rt) ∨ (dueB now ⟨id, tk, lv, pt, st, tr, rt, wt, nx⟩ = false ∧ (st == 1) = true ∧ tr < rt ∧ ¬ nx ≤ now) ∨ (dueB now ⟨id, tk, lv, pt, st, tr, rt, wt, nx⟩ = true ∧ (st == 1) = true ∧ tr < rt ∧ nx ≤ now) := by
        unfold dueB waitsB
        simp only
        cases g0 : (st == 1) with
        | false => simp
        | true =>
          by_cases g1 : tr < rt
          · by_cases g2 : nx ≤ now
            · simp [g1, g2]
            · simp [g1, g2]
          · simp [g1]
      obtain ⟨q, hq⟩ : ∃ q, q = dueB now ⟨id, tk, lv, pt, st, tr, rt, wt, nx⟩ := ⟨_, rfl⟩
      rw [← hq] at Hst hcs
      clear hq
      have i0 : (0 : Int) ≤ (i : Int) := by omega
      have i1 : (i : Int) < (l.length : Int) := by omega
      go_upto_region 6 with fail
      obtain ⟨W3, hW3⟩ : ∃ W3, W3 = wr.alloc (.cells #[.int .u64 id, .int .u64 tk, .int .i64 lv, .int .i64 pt, .int .i64 st, .int .i64 tr, .int .i64 rt, .int .i64 wt, .int .i64 nx] 24) := ⟨_, rfl⟩
      have B3' : Below wr.heap.size wr W3 := by rw [hW3]; exact below_new _ _
      have jn : W3.heap[wr.heap.size]? = _ := (congrArg (fun z : World => z.heap[wr.heap.size]?) hW3).trans (heap_alloc_new _ _)
      rw [← hW3]
      clear hW3 c0 c1 c2 c3 c4 c5 c6 c7 c8 p1
      have hown3 := own_below hown B3'
      have hB3 := below_on hb B3' (Nat.le_refl _)
      have hz3 := hB3.size
      obtain ⟨d0, d1, d2, d3, d4, d5, d6, d7, d8⟩ := blk9 jn
      rcases hcs with ⟨rfl, g0⟩ | ⟨rfl, g0, g1⟩ | ⟨rfl, g0, g1, g2⟩ | ⟨rfl, g0, g1, g2⟩
      iterate 3
        · have hout2 : Hid (out = (l.take (i + 1)).filter (dueB now)) := by show _ = _; rw [Hst.out, ← hout.out]; simp
          go_wp2_with fail
          go_roundw
          case rel => exact ⟨i + 1, out, by simp, by omega, by omega, hout2, hown3, hB3⟩
          case measure => simp [intOf]; omega
      · have hout2 : Hid (out ++ [(⟨id, tk, lv, pt, st, tr, rt, wt, nx⟩ : No)] = (l.take (i + 1)).filter (dueB now)) := by show _ = _; rw [Hst.out, ← hout.out]; rfl
        go_wp2_with (at_builtin; refine wpl_append_one rfl (.tmp 36) (.tmp 38) 42 rfl W1.heap.size 24 infoNo Try.underlying42 rfl (by decide) _ out.length (out.map noCells) rfl (hown3.alloc _) _ 1 (noCells ⟨id, tk, lv, pt, st, tr, rt, wt, nx⟩) rfl rfl (news_at _ rfl) (no_one _) ?_ ?_ ?_ ?_; omega; (unfold maxLen; omega); (simp; omega); intro g4 c4 w4 hown4 hg4 hlie)
        have hB4 := below_app (hB3.alloc hz3 _) hg4 (hown3.alloc _) (Nat.le_refl _) (by simp; omega)
        go_roundw
        case rel =>
          exact ⟨i + 1, out ++ [(⟨id, tk, lv, pt, st, tr, rt, wt, nx⟩ : No)], by simp, by omega, by simp; omega, hout2, by simpa using hown4, hB4⟩
        case measure => simp [intOf]; omega
    · have hi' : i = l.length := by omega
      subst hi'
      have he : F = out := by rw [HF.out, hout.out, List.take_length]
      go_wp2_with fail
      go_ret
      exact ⟨oa, oc, by rw [he]; rfl, by rw [he]; exact own_base hown hb1.size, below_on hb1 hb (Nat.le_refl _)⟩
end Go.Proofs.Ytdcinhnplcipoaa
