/- SpanBoth's walk. No statement of the seat is proved here. -/
import Derived.Test.YtdiahfebiafodaaBothG
import Derived.Test.YtdiahfebiafodaaJoinR
import Derived.Test.YtdiahfebiafodaaOpenS
namespace Go.Proofs.Ytdiahfebiafodaa
set_option linter.unusedVariables false
set_option linter.unusedSimpArgs false
set_option linter.unusedSectionVars false
open Go Go.RowKit Go.Shelf

set_option maxRecDepth 10000 in
set_option maxHeartbeats 2000000 in
theorem spanBoth_walk (ao : Option Addr) (cap : Nat) (a : List Sp) (ao2 : Option Addr) (cap2 : Nat) (b : List Sp) (w : World) (hs : Sps w ao cap a) (hok : SpOk a) (hs2 : Sps w ao2 cap2 b) (hok2 : SpOk b) :
    Calls Try.prog 10 #[.slice ao a.length cap, .slice ao2 b.length cap2] w fun e w' => e = .returned (.bool true) ∧ Below w.heap.size w w' := by
  have hm := hs.max
  have hle := hs.le
  unfold maxLen at hm
  by_cases hl : 60 < a.length
  · go_enter Try.func10, Try.ntmps10
    go_wp2_with fail
    refine (lives7_any _).mono ?_
    rintro e w1 ⟨rfl, hb1⟩
    go_wp2_with fail
    go_ret
    exact ⟨rfl, hb1⟩
  by_cases hl2 : 60 < b.length
  · go_enter Try.func10, Try.ntmps10
    go_wp2_with fail
    refine (lives7_any _).mono ?_
    rintro e w1 ⟨rfl, hb1⟩
    go_wp2_with fail
    go_ret
    exact ⟨rfl, hb1⟩
  have hbo := both_any ao ao2 cap cap2 a b w hs hs2
  have hrb := fun w' (h : Sps w' ao cap a) (h2 : Sps w' ao2 cap2 b) => refBoth_any ao ao2 cap cap2 a b w' h h2
  obtain ⟨X, hX⟩ : ∃ X, X = bothL a b := ⟨_, rfl⟩
  rw [← hX] at hbo
  simp only [← hX] at hrb
  have hjo := fun w' (h : Sps w' ao cap a) => join_any ao cap a w' (by omega) h
  have hrj := fun w' (h : Sps w' ao cap a) => refJoin_any ao cap a w' (by omega) h
  clear hX
  go_enter Try.func10, Try.ntmps10
  go_wp2_with fail
  refine hbo.mono ?_
  rintro e w1 ⟨⟨a1, c1, rfl, s1⟩, hb1⟩
  go_wp2_with fail
  refine (hrb _ (hs.below hb1) (hs2.below hb1)).mono ?_
  rintro e w2 ⟨⟨a2, c2, rfl, s2⟩, hb2⟩
  have B2 := below_on hb1 hb2 (Nat.le_refl _)
  go_wp2_with fail
  refine (spSame_any a1 a2 c1 c2 X X w2 (s1.below hb2) s2).mono ?_
  rintro e w3 ⟨rfl, hb3⟩
  rw [show decide (X = X) = true by simp]
  have B3 := below_on B2 hb3 (Nat.le_refl _)
  go_wp2_with fail
  refine (hjo _ (hs.below B3)).mono ?_
  rintro e w4 ⟨⟨L, a4, c4, rfl, s4, hJ, -⟩, hb4⟩
  have B4 := below_on B3 hb4 (Nat.le_refl _)
  go_wp2_with fail
  refine (hrj _ (hs.below B4)).mono ?_
  rintro e w5 ⟨⟨M, a5, c5, rfl, s5, hR⟩, hb5⟩
  obtain rfl := ref_is hR hJ
  have B5 := below_on B4 hb5 (Nat.le_refl _)
  go_wp2_with fail
  refine (spSame_any a4 a5 c4 c5 M M w5 (s4.below hb5) s5).mono ?_
  rintro e w6 ⟨rfl, hb6⟩
  rw [show decide (M = M) = true by simp]
  have B6 := below_on B5 hb6 (Nat.le_refl _)
  go_wp2_with fail
  refine (lives7_any _).mono ?_
  rintro e w7 ⟨rfl, hb7⟩
  go_wp2_with fail
  go_ret
  exact ⟨by first | rfl | simp, below_on B6 hb7 (Nat.le_refl _)⟩
end Go.Proofs.Ytdiahfebiafodaa
