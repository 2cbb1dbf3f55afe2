/- SegmentReads: the walk. No statement of the seat is proved here. -/
import Derived.Test.YtlphpjgiaflfkaaSv
namespace Go.Proofs.Ytlphpjgiaflfkaa
set_option linter.unusedVariables false
set_option linter.unusedSimpArgs false
set_option linter.unusedSectionVars false
open Go Go.RowKit Go.Shelf

theorem segAll_le (rs : List (UInt8 × List UInt8)) : ∀ (s : SegS), (segRun s rs).l.length ≤ s.l.length + rs.length := by
  induction rs with
  | nil => intro s; simp [segRun]
  | cons r rs ih =>
    intro s
    unfold segRun
    cases hs : segStep s r with
    | none => simp only [List.length_cons]; omega
    | some t =>
      have h1 := ih t
      have h2 := (segStep_len hs).1
      simp only [List.length_cons]
      omega
theorem segRead_len (b : List UInt8) : (segRead b).l.length ≤ b.length := by
  have h1 := segAll_le (Fr.all b) seg0
  have h2 := Fr.all_len b
  unfold segRead
  simp only [seg0, List.length_nil] at h1 ⊢
  omega
set_option maxRecDepth 100000 in
set_option maxHeartbeats 2000000 in
theorem segmentReads_walk (ao : Option Addr) (cap : Nat) (b : List UInt8) (w : World) (hb : Bs w ao cap b) :
    Calls Try.prog 3 #[.slice ao b.length cap] w fun e w' => e = .returned (.bool true) ∧ Below w.heap.size w w' := by
  by_cases h : 30000 < b.length
  · have h3 : (30000 : Int) < (b.length : Int) := by omega
    go_enter Try.func3, Try.ntmps3
    go_wp2_with fail
    refine (lives24_any _).mono ?_
    rintro e w1 ⟨rfl, hB1⟩
    go_wp2_with fail
    go_ret
    exact ⟨rfl, hB1⟩
  · have h3 : ¬ (30000 : Int) < (b.length : Int) := by omega
    have hl : b.length ≤ 1000000 := by omega
    have hrl := segRead_len b
    have hr1 := fun W (h : Bs W ao cap b) => segRead_any ao cap b W hl h
    have hr2 := fun W (h : Bs W ao cap b) => segRefRead_any ao cap b W hl h
    unfold ReadIs at hr1 hr2
    obtain ⟨S, hS⟩ : ∃ S, S = segRead b := ⟨_, rfl⟩
    simp only [← hS] at hr1 hr2 hrl
    clear hS
    obtain ⟨f, l, g⟩ := S
    simp only at hr1 hr2 hrl
    have Hr1 := Lib.hid hr1
    have Hr2 := Lib.hid hr2
    clear hr1 hr2
    go_enter Try.func3, Try.ntmps3
    go_wp2_with fail
    refine (Hr1.out w hb).mono ?_
    rintro e w1 ⟨v1, l1, rfl, he1, hl1, hB1⟩
    go_wp2_with fail
    refine (Hr2.out w1 (hb.below hB1)).mono ?_
    rintro e w2 ⟨v2, l2, rfl, he2, hl2, hB2⟩
    obtain ⟨a1, c1, rfl⟩ := own_slice he1.own
    obtain ⟨a2, c2, rfl⟩ := own_slice he2.own
    have hn1 : l1.length ≤ 1000000 := by have := congrArg List.length hl1; simp at this; omega
    have hn2 : l2.length ≤ 1000000 := by have := congrArg List.length hl2; simp at this; omega
    have hsm := segRefSame_any a1 a2 c1 c2 l1 l2 w2 (he1.below hB2).ens he2.ens hn1 hn2
    rw [hl1, hl2] at hsm
    simp only [decide_true] at hsm
    have Hsm := Lib.hid hsm
    have hB := below_on hB1 hB2 (Nat.le_refl _)
    clear hsm hl1 hl2 hrl he1 he2
    go_wp2_with fail
    refine Hsm.out.mono ?_
    rintro e w3 ⟨rfl, hB3⟩
    have hB' := below_on hB hB3 (Nat.le_refl _)
    go_wp2_with fail
    refine (lives24_any _).mono ?_
    rintro e w4 ⟨rfl, hB4⟩
    go_wp2_with fail
    go_ret
    exact ⟨rfl, below_on hB' hB4 (Nat.le_refl _)⟩
end Go.Proofs.Ytlphpjgiaflfkaa
