/- The reference's Both: contract. No statement of the seat is proved here. -/
import Derived.Test.YtdiahfebiafodaaSides
namespace Go.Proofs.Ytdiahfebiafodaa
set_option linter.unusedVariables false
set_option linter.unusedSimpArgs false
set_option linter.unusedSectionVars false
open Go Go.RowKit Go.Shelf

/-- what one span has in common with each of some -/
def pairs (s : Sp) (b : List Sp) : List Sp := (b.map fun u => s.part u.a u.b).filter Sp.full
def bothR : List Sp → List Sp → List Sp
  | [], _ => []
  | s :: a, b => pairs s b ++ bothR a b
def bothL (a b : List Sp) : List Sp := if rowErr a = 0 ∧ rowErr b = 0 then (if 32 < (bothR a b).length then [] else bothR a b) else []
theorem bothR_at (a b : List Sp) (i : Nat) (hi : i < a.length) : bothR (a.drop i) b = pairs a[i] b ++ bothR (a.drop (i + 1)) b := by
  rw [List.drop_eq_getElem_cons hi]; rfl
theorem pairs_at (s : Sp) (b : List Sp) (i : Nat) (hi : i < b.length) : pairs s (b.drop i) = (if (s.part b[i].a b[i].b).full then [s.part b[i].a b[i].b] else []) ++ pairs s (b.drop (i + 1)) := by
  rw [List.drop_eq_getElem_cons hi]
  unfold pairs
  simp only [List.map_cons, List.filter_cons]
  split <;> simp

theorem alloc_after {wr w4 : World} {o : Obj} (hb4 : Below (wr.alloc o).drew.heap.size (wr.alloc o).drew w4) : w4.heap[wr.heap.size]? = some o := by
  rw [hb4.block _ (by show wr.heap.size < (wr.alloc o).heap.size; simp)]
  exact heap_new2 wr o
set_option maxHeartbeats 2000000 in
theorem refBoth_any (ao ao2 : Option Addr) (cap cap2 : Nat) (a b : List Sp) (w : World) (hs : Sps w ao cap a) (hs2 : Sps w ao2 cap2 b) :
    Calls Try.prog 41 #[.slice ao a.length cap, .slice ao2 b.length cap2] w fun e w' => (∃ ao' cap', e = .returned (.slice ao' (bothL a b).length cap') ∧ Sps w' ao' cap' (bothL a b)) ∧ Below w.heap.size w w' := by
  have hra := refRow_any ao cap a w hs
  have hrb := fun w' (h : Sps w' ao2 cap2 b) => refRow_any ao2 cap2 b w' h
  obtain ⟨R, hR⟩ : ∃ R, R = bothL a b := ⟨_, rfl⟩
  rw [← hR]
  unfold bothL at hR
  by_cases h0 : rowErr a = 0
  · by_cases h1 : rowErr b = 0
    · rw [h0] at hra
      rw [h1] at hrb
      rw [if_pos ⟨h0, h1⟩] at hR
      obtain ⟨-, la⟩ := row_chain h0
      obtain ⟨-, lb⟩ := row_chain h1
      obtain ⟨T, hT⟩ : ∃ T, T = bothR a b := ⟨_, rfl⟩
      rw [← hT] at hR
      have HR := Lib.hid hR
      have HT := Lib.hid hT
      clear hR hT h0 h1
      go_enter Try.func41, Try.ntmps41
      go_wp2_with fail
      refine hra.mono ?_
      rintro e w1 ⟨rfl, hb1⟩
      go_wp2_with fail
      refine (hrb _ (hs2.below hb1)).mono ?_
      rintro e w2 ⟨rfl, hb2⟩
      have B2 := below_on hb1 hb2 (Nat.le_refl _)
      go_wp2_with fail
      go_loopw [5, 6] (fun v u wr => ∃ (i : Nat) (out : List Sp), u = .int .i64 i ∧ i ≤ a.length ∧ out.length ≤ i * 32 ∧ Hid (T = out ++ bothR (a.drop i) b) ∧ wr.ownsRow w.heap.size 30 2 v out.length (out.map spCells).flatten ∧ Below w.heap.size w wr)
        (fun v u _ => a.length - (intOf u).toNat)
      case atStart => exact ⟨0, [], rfl, Nat.zero_le _, Nat.zero_le _, HT, own_nil _ _ _ _, B2⟩
      case round =>
        obtain ⟨i, out0, rfl, hi, ho0, hT0, hown0, hb0⟩ := hrel
        obtain ⟨oa0, oc0, rfl⟩ := own_slice hown0
        by_cases hlt : i < a.length
        · have Hst := Lib.hid (bothR_at a b i hlt)
          obtain ⟨ba, offa, rfl, -, -⟩ := hs.get i hlt
          have hsa := fun W (h : Below w.heap.size w W) => (hs.below h).get i hlt
          obtain ⟨s, hsd⟩ : ∃ s, s = a[i] := ⟨_, rfl⟩
          rw [← hsd] at Hst
          simp only [← hsd] at hsa
          clear hsd
          have HT1 : Hid (T = out0 ++ pairs s (b.drop 0) ++ bothR (a.drop (i + 1)) b) := by show T = _; rw [hT0.out, Hst.out]; simp
          clear Hst hT0
          go_wp2_with fail
          go_loopw [5, 7] (fun v u wr => ∃ (k : Nat) (out : List Sp), u = .int .i64 k ∧ k ≤ b.length ∧ out.length ≤ i * 32 + k ∧ Hid (T = out ++ pairs s (b.drop k) ++ bothR (a.drop (i + 1)) b) ∧ wr.ownsRow w.heap.size 30 2 v out.length (out.map spCells).flatten ∧ Below w.heap.size w wr)
            (fun v u _ => b.length - (intOf u).toNat)
          case atStart => exact ⟨0, out0, rfl, Nat.zero_le _, ho0, HT1, hown0, hb0⟩
          case round =>
            obtain ⟨k, out, rfl, hk, ho, hTk, hown, hb⟩ := hrel
            obtain ⟨oa, oc, rfl⟩ := own_slice hown
            by_cases hkt : k < b.length
            · have Hp := Lib.hid (pairs_at s b k hkt)
              obtain ⟨ba', offa', e', c0, c1⟩ := hsa wr hb
              simp only [Option.some.injEq, Addr.mk.injEq] at e'
              obtain ⟨rfl, rfl, -⟩ := e'
              obtain ⟨bb, offb, rfl, d0, d1⟩ := (hs2.below hb).get k hkt
              obtain ⟨u, hud⟩ : ∃ u, u = b[k] := ⟨_, rfl⟩
              rw [← hud] at d0 d1 Hp
              clear hud
              have hpt := fun W => part_any s u.a u.b W
              obtain ⟨f, hf⟩ : ∃ f, f = (s.part u.a u.b).full := ⟨_, rfl⟩
              obtain ⟨p, hp⟩ : ∃ p, p = s.part u.a u.b := ⟨_, rfl⟩
              rw [← hp] at hpt Hp hf
              rw [← hf] at hpt Hp
              clear hp hf
              obtain ⟨x, y⟩ := s
              obtain ⟨ux, uy⟩ := u
              obtain ⟨px, py⟩ := p
              unfold spVal at hpt
              simp only at c0 c1 d0 d1 hpt Hp
              go_wp2_with fail
              go_cut [8, 9] (fun v8 v9 wx => v9 = .bool f ∧ ∃ g8, v8 = .pointer (some ⟨g8, 0, none⟩) ∧ wx.heap[g8]? = some (.cells #[.int .i64 px, .int .i64 py] 30 (0, 0)) ∧ Below wr.heap.size wr wx)
              case first =>
                have hcw : ∀ W' : World, Below wr.heap.size wr W' → (W'.cell? ⟨ba, offa + i * 2, none⟩ = some (.int .i64 x) ∧ W'.cell? ⟨ba, offa + i * 2 + 1, none⟩ = some (.int .i64 y) ∧ W'.cell? ⟨bb, offb + k * 2, none⟩ = some (.int .i64 ux) ∧ W'.cell? ⟨bb, offb + k * 2 + 1, none⟩ = some (.int .i64 uy)) :=
                  fun W' h => ⟨(h.cell (cell?_lt c0)).trans c0, (h.cell (cell?_lt c1)).trans c1, (h.cell (cell?_lt d0)).trans d0, (h.cell (cell?_lt d1)).trans d1⟩
                go_region_held3 (fun W' => (W'.cell? ⟨ba, offa + i * 2, none⟩ = some (.int .i64 x) ∧ W'.cell? ⟨ba, offa + i * 2 + 1, none⟩ = some (.int .i64 y) ∧ W'.cell? ⟨bb, offb + k * 2, none⟩ = some (.int .i64 ux) ∧ W'.cell? ⟨bb, offb + k * 2 + 1, none⟩ = some (.int .i64 uy)))
                  (first | exact hL4 | exact hcw _ ((hBx.setCell (p := ⟨wr.heap.size, 0, none⟩) (Nat.le_refl _) _).setCell (p := ⟨wr.heap.size, 1, none⟩) (Nat.le_refl _) _) | exact hcw _ (hBx.alloc hBx.size _) | exact hcw _ (below_new _ _) | exact hcw _ (below_drew (below_new _ _)) | go_keep)
                  (first
                    | (go_at_call 59; refine (hpt wr.drew).mono ?_; rintro e w4 ⟨rfl, hb4⟩; have hBx : Below wr.heap.size wr w4 := below_on (below_drew (Below.refl _ _)) hb4 (Nat.le_refl _); have hL4 := hcw w4 hBx)
                    | (go_at_call 59; refine (hpt (wr.alloc (.cells #[.int .i64 0, .int .i64 0] 30)).drew).mono ?_; rintro e w4 ⟨rfl, hb4⟩; have hBx : Below wr.heap.size wr w4 := below_on (below_drew (below_new _ _)) hb4 (Nat.le_refl _); have hL4 := hcw w4 hBx; have hblk := alloc_after hb4; have hq0 := block_cell hblk 0; have hq1 := block_cell hblk 1; have hf0 := block_free hblk 0; have hf1 := block_free hblk 1; simp at hq0 hq1))
                all_goals
                  go_wp2_with fail
                  go_meet
                  first
                    | exact ⟨rfl, _, rfl, heap_new2 _ _, hBx.alloc hBx.size _⟩
                    | exact ⟨rfl, _, rfl, two_set hblk _ _, (hBx.setCell (p := ⟨wr.heap.size, 0, none⟩) (Nat.le_refl _) _).setCell (p := ⟨wr.heap.size, 1, none⟩) (Nat.le_refl _) _⟩
              case rest =>
                obtain ⟨rfl, g8, rfl, hblk, hBX⟩ := hcut
                have q0 := block_cell hblk 0
                have q1 := block_cell hblk 1
                simp at q0 q1
                have hownX := own_below hown hBX
                have hBW := below_on hb hBX (Nat.le_refl _)
                have hzW := hBW.size
                clear c0 c1 d0 d1 hpt hown hb
                cases f with
                | true =>
                  have HTn : Hid (T = (out ++ [(⟨px, py⟩ : Sp)]) ++ pairs ⟨x, y⟩ (b.drop (k + 1)) ++ bothR (a.drop (i + 1)) b) := by show T = _; rw [hTk.out, Hp.out]; simp
                  clear Hp hTk
                  go_wp2_with (at_builtin; refine wpl_append_one rfl (.tmp 49) (.tmp 51) 22 rfl w.heap.size 30 infoSp Try.underlying22 rfl (by decide) _ out.length (out.map spCells) rfl (hownX.alloc _) _ 1 (spCells ⟨px, py⟩) rfl rfl (news_at _ rfl) (sp_one _) ?_ ?_ ?_ ?_; omega; (unfold maxLen; omega); (simp; omega); intro g4 c4 w5 hown5 hg5 hlie; have hc5 := (below_app (hBW.alloc hzW _) hg5 (hownX.alloc _) (Nat.le_refl _) (by simp; omega)))
                  go_roundw
                  case rel => exact ⟨k + 1, out ++ [(⟨px, py⟩ : Sp)], by simp, by omega, by simp; omega, HTn, by simpa using hown5, hc5⟩
                  case measure => simp [intOf]; omega
                | false =>
                  have HTn : Hid (T = out ++ pairs ⟨x, y⟩ (b.drop (k + 1)) ++ bothR (a.drop (i + 1)) b) := by show T = _; rw [hTk.out, Hp.out]; simp
                  clear Hp hTk
                  go_wp2_with fail
                  go_roundw
                  case rel => exact ⟨k + 1, out, by simp, by omega, by omega, HTn, hownX, hBW⟩
                  case measure => simp [intOf]; omega
            · have hk' : k = b.length := by omega
              subst hk'
              have HTn : Hid (T = out ++ bothR (a.drop (i + 1)) b) := by show T = _; rw [hTk.out, List.drop_length]; simp [pairs]
              clear hTk
              go_wp2_with fail
              go_roundw
              case rel => exact ⟨i + 1, out, by simp, by omega, by omega, HTn, hown, hb⟩
              case measure => simp [intOf]; omega
        · have hi' : i = a.length := by omega
          subst hi'
          have hTe : T = out0 := by rw [hT0.out, List.drop_length]; simp [bothR]
          by_cases h32 : 32 < out0.length
          · have he : R = [] := by rw [HR.out, hTe, if_pos h32]
            go_wp2_with fail
            go_ret
            exact ⟨⟨none, 0, by first | rfl | (rw [he]; rfl), by first | exact Sps.nil _ | (rw [he]; exact Sps.nil _)⟩, hb0⟩
          · have he : R = out0 := by rw [HR.out, hTe, if_neg h32]
            go_wp2_with fail
            go_ret
            exact ⟨⟨oa0, oc0, by first | rfl | (rw [he]; rfl), by first | exact Sps.of_own hown0 | (rw [he]; exact Sps.of_own hown0)⟩, hb0⟩
    · have he : R = [] := by rw [hR, if_neg (fun h => h1 h.2)]
      obtain ⟨er, her⟩ : ∃ er, er = rowErr b := ⟨_, rfl⟩
      rw [← her] at hrb h1
      rw [h0] at hra
      have hne : (((er : Nat) : Int) != 0) = true := by simp; omega
      clear her hR
      go_enter Try.func41, Try.ntmps41
      go_wp2_with fail
      refine hra.mono ?_
      rintro e w1 ⟨rfl, hb1⟩
      go_wp2_with fail
      refine (hrb _ (hs2.below hb1)).mono ?_
      rintro e w2 ⟨rfl, hb2⟩
      go_wp2_with fail
      go_ret
      exact ⟨⟨none, 0, by first | rfl | (rw [he]; rfl), by first | exact Sps.nil _ | (rw [he]; exact Sps.nil _)⟩, below_on hb1 hb2 (Nat.le_refl _)⟩
  · have he : R = [] := by rw [hR, if_neg (fun h => h0 h.1)]
    obtain ⟨er, her⟩ : ∃ er, er = rowErr a := ⟨_, rfl⟩
    rw [← her] at hra h0
    have hne : (((er : Nat) : Int) != 0) = true := by simp; omega
    clear her hR
    go_enter Try.func41, Try.ntmps41
    go_wp2_with fail
    refine hra.mono ?_
    rintro e w1 ⟨rfl, hb1⟩
    go_wp2_with fail
    go_ret
    exact ⟨⟨none, 0, by first | rfl | (rw [he]; rfl), by first | exact Sps.nil _ | (rw [he]; exact Sps.nil _)⟩, hb1⟩
end Go.Proofs.Ytdiahfebiafodaa
