/- Contracts of the reference's Seal and Open, and of lives (crc24). No statement of the seat is proved here. -/
import Derived.Test.YtinncchnompmhaaCrcB
import Derived.Deep.RegionWith
namespace Go.Proofs.Ytinncchnompmhaa
set_option linter.unusedVariables false
set_option linter.unusedSimpArgs false
set_option linter.unusedSectionVars false
open Go Go.RowKit

set_option maxHeartbeats 400000 in
theorem refSeal_any (ao : Option Addr) (cap : Nat) (l : List UInt8) (w : World) (hl : l.length ≤ 70000000000000) (hb : Bs w ao cap l) :
    Calls Try.prog 21 #[.slice ao l.length cap] w fun e w' => ∃ ao' cap', e = .returned (.slice ao' (Crc.sealed l).length cap') ∧ Fresh w w' ao' cap' (Crc.sealed l) := by
  have hs1 := Crc.sum_lt l
  obtain ⟨s, hs⟩ : ∃ s, s = Crc.sum l := ⟨_, rfl⟩
  rw [← hs] at hs1
  obtain ⟨b2, hb2⟩ : ∃ b : UInt8, b = UInt8.ofNat (s / 65536) := ⟨_, rfl⟩
  obtain ⟨b1, hb1⟩ : ∃ b : UInt8, b = UInt8.ofNat (s / 256) := ⟨_, rfl⟩
  obtain ⟨b0, hb0⟩ : ∃ b : UInt8, b = UInt8.ofNat s := ⟨_, rfl⟩
  have e2 : (s : Int) / 65536 = (b2.toNat : Int) := by rw [hb2, ofNat_u8]; omega
  have e1 : (s : Int) / 256 % 256 = (b1.toNat : Int) := by rw [hb1, ofNat_u8]; simp
  have e0 : (s : Int) % 256 = (b0.toNat : Int) := by rw [hb0, ofNat_u8]
  have hfin : Crc.sealed l = (l ++ [b2, b1, b0]) := by rw [Crc.sealed, Crc.tail, hb2, hb1, hb0, hs]
  have Hs := Lib.hid hs
  have Hfin := Lib.hid hfin
  clear hfin hb2 hb1 hb0 hs
  have hB1 := below_new w (.cells #[] 5)
  go_enter Try.func21, Try.ntmps21
  go_wp2_with (first
    | (go_at_call 16; refine (refSum_any ao cap l _ (by omega) hb).mono ?_; rintro e w1 ⟨rfl, rfl⟩; rw [← Hs.out])
    | (at_builtin; refine wpl_append_bs rfl (.tmp 6) (.tmp 7) 25 rfl w.heap.size 5 infoU8 Try.underlying25 _ _ [] rfl (own_empty w w.heap.size _ 1 (Nat.le_refl _)) _ _ l rfl (hb.below hB1) (by simp; omega) hB1.size ?_; intro ao3 cap3 l3 w3 hl3 hown3 hg3; have hb3 := below_app hB1 hg3 (own_empty w w.heap.size _ 1 (Nat.le_refl _)) (Nat.le_refl _) hB1.size; have hlen3 : l3.length ≤ 70000000000000 := (by rw [hl3.out]; exact hl))
    | (at_builtin; refine wpl_append_bs rfl (.tmp 8) (.tmp 17) 25 rfl w.heap.size 5 infoU8 Try.underlying25 _ _ l3 rfl (hown3.alloc _) _ _ [b2, b1, b0] rfl (Bs.lit _ _ _ _ rfl rfl (by simp)) (by simp; omega) ((hb3.alloc hb3.size _).size) ?_; intro ao4 cap4 l4 w4 hl4 hown4 hg4; have hb4 := below_app (hb3.alloc hb3.size _) hg4 (hown3.alloc _) (Nat.le_refl _) (hb3.alloc hb3.size _).size))
  have hs : Crc.sealed l = l4 := by rw [Hfin.out, hl4.out, hl3.out]; rfl
  rw [hs]
  go_ret
  exact ⟨_, _, rfl, ⟨hown4, hb4⟩⟩

theorem conv_any {w : World} {ao : Option Addr} {cap : Nat} {l : List UInt8} (hb : Bs w ao cap l) :
    (convert 25 9 (.slice ao l.length cap)).run Try.prog w = .ok (.string ⟨l.toArray⟩) w :=
  run_string_bs _ _ 5 Try.underlying25 Try.underlying5 Try.underlying9 ao cap l hb

/-- what the reference's Open answers -/
def RefOpenIs (w : World) (l : List UInt8) (e : Ending) (w' : World) : Prop :=
  Below w.heap.size w w' ∧ ∃ v b, e = .returned (.tuple #[v, .bool b]) ∧ (Crc.opened l = none → b = false) ∧ (∀ l', Crc.opened l = some l' → b = true ∧ ∃ ao' cap', v = .slice ao' l'.length cap' ∧ Bs w' ao' cap' l')

theorem RefOpenIs.mk {w w' : World} {ao2 : Option Addr} {cap2 : Nat} (l l2 : List UInt8) (h : 3 ≤ l.length) (hl2 : l2 = l.take (l.length - 3)) (hbel : Below w.heap.size w w') (hb : Bs w' ao2 cap2 l2) :
    RefOpenIs w l (.returned (.tuple #[.slice ao2 l2.length cap2, .bool (Crc.sealed l2 == l)])) w' := by
  refine ⟨hbel, _, _, rfl, ?_, ?_⟩
  · intro h'
    unfold Crc.opened at h'
    split at h'
    · cases h'
    · rename_i hn
      have : ¬ Crc.sealed l2 = l := fun e => hn ⟨h, by rw [← hl2]; exact e⟩
      simpa using this
  · intro l' h'
    unfold Crc.opened at h'
    split at h'
    · rename_i hy
      obtain rfl : l2 = l' := by rw [hl2]; simpa using h'
      exact ⟨by rw [hl2]; simpa using hy.2, _, _, rfl, hb⟩
    · cases h'

set_option maxHeartbeats 400000 in
theorem refOpen_short (ao : Option Addr) (cap : Nat) (l : List UInt8) (w : World) (h : l.length < 3) :
    Calls Try.prog 20 #[.slice ao l.length cap] w (RefOpenIs w l) := by
  go_enter Try.func20, Try.ntmps20
  go_wp2
  go_ret2
  exact ⟨Below.refl _ _, _, _, rfl, fun _ => rfl, fun l' h' => by rw [Crc.opened_short l h] at h'; cases h'⟩

set_option maxHeartbeats 400000 in
theorem refOpen_long (ao : Option Addr) (cap : Nat) (l : List UInt8) (w : World) (hl : l.length ≤ 70000000000000) (hb : Bs w ao cap l) (h : 3 ≤ l.length) :
    Calls Try.prog 20 #[.slice ao l.length cap] w (RefOpenIs w l) := by
  have hcv : ∀ W, Below w.heap.size w W → (convert 25 9 (.slice ao l.length cap)).run Try.prog W = .ok (.string ⟨l.toArray⟩) W := fun W hW => conv_any (hb.below hW)
  go_enter Try.func20, Try.ntmps20
  go_wp2_with ((with_reducible show wpList _ _ _ (⟨_, Op.slice _ (.tmp 8) _ _ _, _, _, _, _⟩ :: _) _ _); refine wpl_slice_bs rfl (.tmp 8) none (some (.tmp 11)) 25 5 rfl Try.underlying25 sizeU8 _ _ l rfl hb 0 (l.length - 3) (.inr ⟨rfl, rfl⟩) (.inl ⟨_, rfl, ?_⟩) ?_ ?_ ?_; omega; omega; omega; intro ao2 cap2 l2 hl2 hlen2 hb2; have hle2 : l2.length ≤ 70000000000000 := (by omega); clear hlen2)
  have hcv2 : ∀ W ao cap, Bs W ao cap (Crc.sealed l2) → (convert 25 9 (.slice ao (Crc.sealed l2).length cap)).run Try.prog W = .ok (.string ⟨(Crc.sealed l2).toArray⟩) W := fun W ao cap hW => conv_any hW
  have hb0 := Below.refl w.heap.size w
  have hb1 : Below w.heap.size w w.drew := hb0.drew
  go_region_with (first | (go_at_call 21; refine (refSeal_any ao2 cap2 l2 _ hle2 (hb2.below hb1)).mono ?_; rintro e w3 ⟨ao3, cap3, rfl, hf3⟩; have hbs3 := Bs.of_own hf3.own; have hbel3 := below_on hb1 hf3.bel (Nat.le_refl _)))
  all_goals go_wp2
  all_goals go_ret2
  all_goals exact RefOpenIs.mk l l2 h (hl2.out.trans (by simp)) hbel3 (hb2.below (below_on hb1 hf3.bel (Nat.le_refl _)))

theorem refOpen_any (ao : Option Addr) (cap : Nat) (l : List UInt8) (w : World) (hl : l.length ≤ 70000000000000) (hb : Bs w ao cap l) :
    Calls Try.prog 20 #[.slice ao l.length cap] w (RefOpenIs w l) := by
  by_cases h : l.length < 3
  · exact refOpen_short ao cap l w h
  · exact refOpen_long ao cap l w hl hb (by omega)

theorem bss_nil {w : World} : Bss w none 0 [] := ⟨by simp, by decide, fun _ => rfl, fun k h => by simp at h⟩

def nine : List UInt8 := [49, 50, 51, 52, 53, 54, 55, 56, 57]
theorem nil_sum : Crc.on 11994318 ([] : List (List UInt8)).flatten = 11994318 := rfl
theorem nine_sum : Crc.on 11994318 [nine].flatten = 2215682 := by decide +kernel

set_option maxHeartbeats 400000 in
theorem lives_any (w : World) : Calls Try.prog 12 #[] w fun e w' => e = .returned (.bool true) ∧ Below w.heap.size w w' := by
  have hnine : Bs (w.alloc (.cells #[.int .u8 49, .int .u8 50, .int .u8 51, .int .u8 52, .int .u8 53, .int .u8 54, .int .u8 55, .int .u8 56, .int .u8 57] 5 (9, 10))) (some ⟨w.heap.size, 0, none⟩) 9 nine := Bs.litM nine _ _ 9 rfl rfl (by decide) _
  have h1 := Bss.one hnine 25
  rw [show (w.alloc (.cells #[.int .u8 49, .int .u8 50, .int .u8 51, .int .u8 52, .int .u8 53, .int .u8 54, .int .u8 55, .int .u8 56, .int .u8 57] 5 (9, 10))).heap.size = w.heap.size + 1 from by simp] at h1
  have hN := Lib.hid nine_sum
  have hE := Lib.hid nil_sum
  have kc := fun (w : World) (C : Array Value) (n c : Nat) => Lib.run_convert_bytes_const (P := Try.prog) w 25 5 C n c Try.underlying25 Try.underlying5
  go_enter Try.func12, Try.ntmps12
  go_wp2_with fail
  refine (sum_any _ 1 [nine] _ (by decide) (by decide) h1).mono ?_
  rintro e w1 ⟨rfl, hb1⟩
  have hb1' := below_on (below_on (below_new _ _) (below_new _ _) (Nat.le_refl _)) hb1 (Nat.le_refl _)
  rw [hN.out]
  go_wp2_with fail
  refine (sum_any none 0 [] _ (by decide) (by simp) bss_nil).mono ?_
  rintro e w2 ⟨rfl, hb2⟩
  rw [hE.out]
  go_wp2_with fail
  go_ret
  exact ⟨rfl, below_on hb1' hb2 (Nat.le_refl _)⟩
end Go.Proofs.Ytinncchnompmhaa
