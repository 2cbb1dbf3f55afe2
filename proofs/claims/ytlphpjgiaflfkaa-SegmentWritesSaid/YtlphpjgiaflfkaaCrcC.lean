/- Contracts of the reference's Seal and Open, and of lives (crc24). No statement of the seat is proved here. -/
import Derived.Test.YtlphpjgiaflfkaaCrcB
import Derived.Deep.RegionWith
namespace Go.Proofs.Ytlphpjgiaflfkaa
set_option linter.unusedVariables false
set_option linter.unusedSimpArgs false
set_option linter.unusedSectionVars false
open Go Go.RowKit

set_option maxHeartbeats 400000 in
theorem refSeal_any (ao : Option Addr) (cap : Nat) (l : List UInt8) (w : World) (hl : l.length ≤ 70000000000000) (hb : Bs w ao cap l) :
    Calls Try.prog 87 #[.slice ao l.length cap] w fun e w' => ∃ ao' cap', e = .returned (.slice ao' (Crc.sealed l).length cap') ∧ Fresh w w' ao' cap' (Crc.sealed l) := by
  have hs1 := Crc.sum_lt l
  obtain ⟨s, hs⟩ : ∃ s, s = Crc.sum l := ⟨_, rfl⟩
  rw [← hs] at hs1
  obtain ⟨b2, hb2⟩ : ∃ b : UInt8, b = UInt8.ofNat (s / 65536) := ⟨_, rfl⟩
  obtain ⟨b1, hb1⟩ : ∃ b : UInt8, b = UInt8.ofNat (s / 256) := ⟨_, rfl⟩
  obtain ⟨b0, hb0⟩ : ∃ b : UInt8, b = UInt8.ofNat s := ⟨_, rfl⟩
  have e2 : (s : Int) / 65536 = (b2.toNat : Int) := by rw [hb2, ofNat_u8]; omega
  have e1 : (s : Int) / 256 % 256 = (b1.toNat : Int) := by rw [hb1, ofNat_u8]; simp
  have e0 : (s : Int) % 256 = (b0.toNat : Int) := by rw [hb0, ofNat_u8]
  have hfin : Crc.sealed l = (l ++ [b2, b1, b0]) := by rw [Crc.sealed, Crc.tail, hb2, hb1, hb0, hs]
  have Hs := Lib.hid hs
  have Hfin := Lib.hid hfin
  clear hfin hb2 hb1 hb0 hs
  have hB1 := below_new w (.cells #[] 5)
  go_enter Try.func87, Try.ntmps87
  go_wp2_with (first
    | (go_at_call 109; refine (refSum_any ao cap l _ (by omega) hb).mono ?_; rintro e w1 ⟨rfl, rfl⟩; rw [← Hs.out])
    | (at_builtin; refine wpl_append_bs rfl (.tmp 6) (.tmp 7) 22 rfl w.heap.size 5 infoU8 Try.underlying22 _ _ [] rfl (own_empty w w.heap.size _ 1 (Nat.le_refl _)) _ _ l rfl (hb.below hB1) (by simp; omega) hB1.size ?_; intro ao3 cap3 l3 w3 hl3 hown3 hg3; have hb3 := below_app hB1 hg3 (own_empty w w.heap.size _ 1 (Nat.le_refl _)) (Nat.le_refl _) hB1.size; have hlen3 : l3.length ≤ 70000000000000 := (by rw [hl3.out]; exact hl))
    | (at_builtin; refine wpl_append_bs rfl (.tmp 8) (.tmp 17) 22 rfl w.heap.size 5 infoU8 Try.underlying22 _ _ l3 rfl (hown3.alloc _) _ _ [b2, b1, b0] rfl (Bs.lit _ _ _ _ rfl rfl (by simp)) (by simp; omega) ((hb3.alloc hb3.size _).size) ?_; intro ao4 cap4 l4 w4 hl4 hown4 hg4; have hb4 := below_app (hb3.alloc hb3.size _) hg4 (hown3.alloc _) (Nat.le_refl _) (hb3.alloc hb3.size _).size))
  have hs : Crc.sealed l = l4 := by rw [Hfin.out, hl4.out, hl3.out]; rfl
  rw [hs]
  go_ret
  exact ⟨_, _, rfl, ⟨hown4, hb4⟩⟩

theorem conv_any {w : World} {ao : Option Addr} {cap : Nat} {l : List UInt8} (hb : Bs w ao cap l) :
    (convert 22 9 (.slice ao l.length cap)).run Try.prog w = .ok (.string ⟨l.toArray⟩) w :=
  run_string_bs _ _ 5 Try.underlying22 Try.underlying5 Try.underlying9 ao cap l hb

/-- what the reference's Open answers -/
def RefOpenIs (w : World) (l : List UInt8) (e : Ending) (w' : World) : Prop :=
  Below w.heap.size w w' ∧ ∃ v b, e = .returned (.tuple #[v, .bool b]) ∧ (Crc.opened l = none → b = false) ∧ (∀ l', Crc.opened l = some l' → b = true ∧ ∃ ao' cap', v = .slice ao' l'.length cap' ∧ Bs w' ao' cap' l')

theorem RefOpenIs.mk {w w' : World} {ao2 : Option Addr} {cap2 : Nat} (l l2 : List UInt8) (h : 3 ≤ l.length) (hl2 : l2 = l.take (l.length - 3)) (hbel : Below w.heap.size w w') (hb : Bs w' ao2 cap2 l2) :
    RefOpenIs w l (.returned (.tuple #[.slice ao2 l2.length cap2, .bool (Crc.sealed l2 == l)])) w' := by
  refine ⟨hbel, _, _, rfl, ?_, ?_⟩
  · intro h'
    unfold Crc.opened at h'
    split at h'
    · cases h'
    · rename_i hn
      have : ¬ Crc.sealed l2 = l := fun e => hn ⟨h, by rw [← hl2]; exact e⟩
      simpa using this
  · intro l' h'
    unfold Crc.opened at h'
    split at h'
    · rename_i hy
      obtain rfl : l2 = l' := by rw [hl2]; simpa using h'
      exact ⟨by rw [hl2]; simpa using hy.2, _, _, rfl, hb⟩
    · cases h'

theorem bss_nil {w : World} : Bss w none 0 [] := ⟨by simp, by decide, fun _ => rfl, fun k h => by simp at h⟩

def nine : List UInt8 := [49, 50, 51, 52, 53, 54, 55, 56, 57]
theorem nil_sum : Crc.on 11994318 ([] : List (List UInt8)).flatten = 11994318 := rfl
theorem nine_sum : Crc.on 11994318 [nine].flatten = 2215682 := by decide +kernel

end Go.Proofs.Ytlphpjgiaflfkaa
