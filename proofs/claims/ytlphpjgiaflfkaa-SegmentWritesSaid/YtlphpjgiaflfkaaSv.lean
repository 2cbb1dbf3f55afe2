/- The chapter's example of layer 24. No statement of the seat is proved here. -/
import Derived.Test.YtlphpjgiaflfkaaSp
import Derived.Test.YtlphpjgiaflfkaaSn
import Derived.Test.YtlphpjgiaflfkaaSs
namespace Go.Proofs.Ytlphpjgiaflfkaa
set_option linter.unusedVariables false
set_option linter.unusedSimpArgs false
set_option linter.unusedSectionVars false
open Go Go.RowKit Go.Shelf

theorem name300 : nameOf 300 = [76, 48, 48, 48, 48, 48, 48, 48, 48, 48, 48, 48, 48, 49, 50, 99] := by decide +kernel
theorem lives24_seg : segRead (headB 5 ++ lineB 5 1 1 []) = ⟨5, [⟨1, 1, []⟩], (headB 5).length + (lineB 5 1 1 []).length⟩ := by
  rw [seg_head 5 _ (by decide) (by decide)]
  have h := seg_one ⟨5, [], (headB 5).length⟩ 5 1 1 [] [] (by decide) rfl (by decide) (by decide)
  rw [List.append_nil] at h
  rw [h, segRun_nil (.inl rfl)]
  rfl
set_option maxRecDepth 100000 in
set_option maxHeartbeats 2000000 in
theorem lives24_any (w : World) : Calls Try.prog 11 #[] w fun e w' => e = .returned (.bool true) ∧ Below w.heap.size w w' := by
  have hline := fun W => segLine_ok 5 1 1 (by decide) none 0 [] W (Bs.nil W) (by decide)
  have hhead := fun W => segHead_any 5 (by decide) W
  have hname := fun W => segName_any 300 (by decide) W
  rw [name300] at hname
  have hs := lives24_seg
  have hl1 : (headB 5).length ≤ 1000 := by
    have := numB_len 5 (by decide)
    unfold headB
    rw [Fr.wrapped_length]; omega
  have hl2 : (lineB 5 1 1 []).length ≤ 1000 := by
    have := lineN_len 5 1 1 [] (by decide) (by decide) (by decide) (by decide)
    unfold lineB
    rw [Fr.wrapped_length]; simp at this; omega
  have hpos : 8 ≤ (headB 5).length := by unfold headB; rw [Fr.wrapped_length]; omega
  obtain ⟨H, hH⟩ : ∃ H, H = headB 5 := ⟨_, rfl⟩
  obtain ⟨L, hL⟩ : ∃ L, L = lineB 5 1 1 [] := ⟨_, rfl⟩
  simp only [← hH, ← hL] at hline hhead hs hl1 hl2 hpos
  simp only [List.length_nil] at hline
  clear hH hL
  have Hline := Lib.hid hline
  have Hhead := Lib.hid hhead
  have Hname := Lib.hid hname
  have Hs := Lib.hid hs
  clear hline hhead hname hs
  go_enter Try.func11, Try.ntmps11
  go_wp2_with fail
  refine (Hline.out _).mono ?_
  rintro e w1 ⟨a1, c1, rfl, hf1⟩
  have hb1 := Bs.of_own hf1.own
  have hB1 := hf1.bel
  go_wp2_with fail
  refine (Hhead.out _).mono ?_
  rintro e w2 ⟨a2, c2, rfl, hf2⟩
  have hb2 := hb1.below hf2.bel
  have hB2 := below_on hB1 hf2.bel (Nat.le_refl _)
  have hz2 := hf2.bel.size
  have hz1 := hB1.size
  go_wp2_with (at_builtin; refine wpl_append_bs rfl (.tmp 12) (.tmp 13) 22 rfl w1.heap.size 5 infoU8 Try.underlying22 _ _ H rfl hf2.own _ _ L rfl hb2 ?_ ?_ ?_; omega; omega; intro a3 k3 l3 W3 hl3 hown3 hg3; have hl33 : l3.length ≤ 1000000 := (by rw [hl3.out]; simp; omega))
  have hB3 := below_app hB2 hg3 (own_base hf2.own hz1) (Nat.le_refl _) (by omega)
  refine (segRead_any a3 k3 l3 W3 hl33 (Bs.of_own hown3)).mono ?_
  rintro e w4 ⟨v, el, rfl, hens, hel, hB4⟩
  rw [hl3.out, Hs.out] at hel ⊢
  have hlen : el.length = 1 := by have := congrArg List.length hel; simpa using this
  obtain ⟨a4, c4, rfl⟩ := own_slice hens.own
  rw [hlen]
  have hB4' := below_on hB3 hB4 (Nat.le_refl _)
  have hgood : (0 : Int) < ((H.length + L.length : Nat) : Int) := by omega
  have hgb : (0 : Int) < (H.length : Int) + (L.length : Int) := by omega
  clear hlen hel hens
  simp only
  go_wp2_with fail
  refine (Hname.out _).mono ?_
  rintro e w5 ⟨rfl, hB5⟩
  have hB5' := below_on hB4' hB5 (Nat.le_refl _)
  go_wp2_with fail
  go_ret
  exact ⟨ret_bool (by simp; try omega), hB5'⟩
end Go.Proofs.Ytlphpjgiaflfkaa
