/- The walk of the law CrcSums: called with any parts and any sum it returns true and changes nothing that was there. -/
import Derived.Test.YtinncchnompmhaaCrcC
namespace Go.Proofs.Ytinncchnompmhaa
open Go Go.RowKit

theorem beq_self_int (x : Int) : (x == x) = true := by simp

set_option maxHeartbeats 1000000 in
theorem crcSums_walk (ao : Option Addr) (cap : Nat) (ls : List (List UInt8)) (s : Int) (w : World) (hb : Bss w ao cap ls) (h0 : 0 ≤ s) (h1 : s ≤ 4294967295) :
    Calls Try.prog 3 #[.slice ao ls.length cap, .int .u32 s] w fun e w' => e = .returned (.bool true) ∧ Below w.heap.size w w' := by
  by_cases h50 : 50 < ls.length
  · go_enter Try.func3, Try.ntmps3
    go_wp2_with (go_at_call 12; refine (lives_any _).mono ?_; rintro e w1 ⟨rfl, hb1⟩)
    go_ret
    exact ⟨rfl, hb1⟩
  · go_enter Try.func3, Try.ntmps3
    go_wp2
    go_loopw [5, 6, 16] (fun va vo i wr => ∃ k : Nat, k ≤ ls.length ∧ Hid (∀ l ∈ ls.take k, l.length ≤ 1000) ∧ i = .int .i64 k ∧ (∃ m : Int, 0 ≤ m ∧ m ≤ 4294967295 ∧ vo = .int .u32 m) ∧ (∃ aa ca A, Hid (A = (ls.take k).flatten) ∧ A.length ≤ 1000 * k ∧ va = .slice aa A.length ca ∧ wr.ownsRow w.heap.size 5 1 (.slice aa A.length ca) A.length (A.map u8)) ∧ Below w.heap.size w wr) (fun _ _ i _ => ls.length - (intOf i).toNat)
    case atStart => exact ⟨0, Nat.zero_le _, fun l h => by simp at h, rfl, ⟨s, h0, h1, rfl⟩, ⟨none, 0, [], rfl, by simp, rfl, World.ownsRow_nil _ _ _ _⟩, Below.refl _ _⟩
    case round =>
      obtain ⟨k, hk, hl, rfl, ⟨m, hm0, hm1, rfl⟩, ⟨aa, ca, A, hA, hAl, rfl, hown⟩, hbel⟩ := hrel
      have hsz := hbel.size
      by_cases hlt : k < ls.length
      · obtain ⟨b, off, ak, ck, rfl, hcw, hs0⟩ := hb.cell k hlt
        have hc0 := (hbel.cell (p := ⟨b, off + k, none⟩) (cell?_lt hcw)).trans hcw
        clear hcw
        have hA1 : A ++ ls[k] = (ls.take (k + 1)).flatten := by rw [hA.out, List.take_succ_eq_append_getElem hlt, List.flatten_append]; simp
        have HA1 := Lib.hid hA1
        clear hA1
        by_cases hk1 : 1000 < ls[k].length
        · go_wp2_with (go_at_call 12; refine (lives_any _).mono ?_; rintro e w1 ⟨rfl, hb1⟩)
          go_ret
          exact ⟨rfl, below_on hbel hb1 (Nat.le_refl _)⟩
        · have hon := fun W (hW : Below w.heap.size w W) => on_any m hm0 hm1 ak ck ls[k] W (by omega) (hs0.below hW)
          have hro := fun W (hW : Below w.heap.size w W) => refOn_any m hm0 hm1 ak ck ls[k] W (by omega) (hs0.below hW)
          have hrl := Crc.on_lt ls[k] (m.toNat % 16777216) (by omega)
          generalize Crc.on (m.toNat % 16777216) ls[k] = r at hon hro hrl
          have Hon := Lib.hid hon
          have Hro := Lib.hid hro
          clear hon hro
          go_wp2_with (first
            | (at_builtin; refine wpl_append_bs rfl (.tmp 24) (.tmp 25) 25 rfl w.heap.size 5 infoU8 Try.underlying25 _ _ A rfl hown _ _ ls[k] rfl (hs0.below hbel) (by omega) hsz ?_; intro ao3 cap3 l3 w3 hl3 hown3 hg3; have hb3 := below_app hbel hg3 hown (Nat.le_refl _) hsz)
            | fail)
          refine (Hon.out _ hb3).mono ?_
          rintro e w4 ⟨rfl, hb4'⟩
          have hb4 := below_on hb3 hb4' (Nat.le_refl _)
          go_wp2_with fail
          refine (Hro.out _ hb4).mono ?_
          rintro e w5 ⟨rfl, rfl⟩
          go_wp2_with fail
          refine (Hon.out _ hb4).mono ?_
          rintro e w5 ⟨rfl, hb5'⟩
          have hb5 := below_on hb4 hb5' (Nat.le_refl _)
          go_wp2_with fail
          go_roundw
          case rel => exact ⟨k + 1, by omega, fun l h => (by rw [List.take_succ_eq_append_getElem hlt, List.mem_append] at h; rcases h with h | h; exact hl.out l h; simp at h; subst h; omega), by go_num, ⟨r, by omega, by omega, rfl⟩, ⟨_, _, l3, hl3.out.trans HA1.out, by rw [hl3.out]; simp; omega, rfl, own_below (own_below hown3 hb4') hb5'⟩, hb5⟩
          case measure => simp [intOf]; omega
      · obtain rfl : k = ls.length := by omega
        have hA1 : A = ls.flatten := by rw [hA.out, List.take_length]
        have hsm : Crc.on 11994318 ls.flatten = Crc.sum A := by rw [hA1]; rfl
        have Hsm := Lib.hid hsm
        clear hsm hA1
        have hAb : A.length ≤ 140737488355328 := by omega
        have hbA := Bs.of_own hown
        clear hown
        have hx := Crc.sum_lt A
        go_wp2_with fail
        refine (sum_any _ _ ls _ (by omega) (fun l h => by have := hl.out l (by rwa [List.take_length]); omega) (hb.below hbel)).mono ?_
        rintro e w2 ⟨rfl, hb2⟩
        rw [Hsm.out]
        have hB2 := below_on hbel hb2 (Nat.le_refl _)
        have hbA2 := hbA.below hb2
        have hrs := fun W (hW : Below w2.heap.size w2 W) => refSum_any aa ca A W hAb (hbA2.below hW)
        have hft := fun s W (hW : Below w2.heap.size w2 W) => fits_any aa ca A s W hAb (hbA2.below hW)
        generalize Crc.sum A = x at *
        have Hrs := Lib.hid hrs
        have Hft := Lib.hid hft
        clear hrs hft
        have h2 := Below.refl w2.heap.size w2
        go_wp2_with fail
        refine (Hrs.out _ h2).mono ?_
        rintro e w3 ⟨rfl, rfl⟩
        go_wp2_with fail
        refine (Hft.out _ _ h2).mono ?_
        rintro e w3 ⟨rfl, hb3⟩
        go_wp2_with fail
        refine (Hrs.out _ hb3).mono ?_
        rintro e w4 ⟨rfl, rfl⟩
        go_wp2_with fail
        refine (Hrs.out _ hb3).mono ?_
        rintro e w4 ⟨rfl, rfl⟩
        go_wp2_with fail
        refine (Hft.out _ _ hb3).mono ?_
        rintro e w4 ⟨rfl, hb4⟩
        go_wp2_with fail
        refine (lives_any _).mono ?_
        rintro e w5 ⟨rfl, hb5⟩
        go_wp2_with fail
        go_ret
        exact ⟨rfl, below_on (below_on (below_on hB2 hb3 (Nat.le_refl _)) hb4 (Nat.le_refl _)) hb5 (Nat.le_refl _)⟩
end Go.Proofs.Ytinncchnompmhaa
