/- OutboxBytes: the walk, whatever the arguments. No statement of the seat is proved here. -/
import Derived.Test.YtdcinhnplcipoaaObBy
import Derived.Test.YtdcinhnplcipoaaOpenO
namespace Go.Proofs.Ytdcinhnplcipoaa
set_option linter.unusedVariables false
set_option linter.unusedSimpArgs false
set_option linter.unusedSectionVars false
open Go Go.RowKit Go.Shelf

set_option maxRecDepth 100000 in
set_option maxHeartbeats 4000000 in
theorem outboxBytes_walk (la : Int) (aoa : Option Addr) (ca : Nat) (A : List No) (lb : Int) (aob : Option Addr) (cb : Nat) (Bn : List No) (aos : Option Addr) (cs : Nat) (bs : List UInt8) (w : World)
    (hA : Ns w aoa ca A) (ha0 : 0 ≤ la) (hoA : ∀ n ∈ A, NoOk n) (hB : Ns w aob cb Bn) (hb0 : 0 ≤ lb) (hoB : ∀ n ∈ Bn, NoOk n) (hs : Bs w aos cs bs) :
    Calls Try.prog 7 #[.agg #[.int .u64 la, .slice aoa A.length ca], .agg #[.int .u64 lb, .slice aob Bn.length cb], .slice aos bs.length cs] w fun e w' => e = .returned (.bool true) ∧ Below w.heap.size w w' := by
  have hlight1 := fun W => light_any la aoa A.length ca W
  have hlight2 := fun W => light_any lb aob Bn.length cb W
  by_cases hcA : A.length ≤ 200
  · by_cases hcB : Bn.length ≤ 200
    · by_cases hcs : bs.length ≤ 3000
      · obtain ⟨m, rfl⟩ := Int.eq_ofNat_of_zero_le ha0
        exact bytes_main m aoa ca A lb aob cb Bn aos cs bs w hA (fun n hn => bounds_u64 (hoA n hn).2.1) hB hs hcA hcB hcs
      · have hd : decide ((A.length : Int) ≤ 200) = true := by simp; omega
        have hd2 : decide ((Bn.length : Int) ≤ 200) = true := by simp; omega
        rw [hd] at hlight1
        rw [hd2] at hlight2
        have Hli1 := Lib.hid hlight1
        have Hli2 := Lib.hid hlight2
        have hc3 : (3000 : Int) < (bs.length : Int) := by omega
        clear hlight1 hlight2 hd hd2 hcs
        obtain ⟨W1, hW1⟩ : ∃ W1, W1 = (w.alloc (.cells #[.int .u64 la, .slice aoa A.length ca] 44)).alloc (.cells #[.int .u64 lb, .slice aob Bn.length cb] 44) := ⟨_, rfl⟩
        obtain ⟨k0, k1, kz, hB1⟩ := news2 hW1
        go_enter Try.func7, Try.ntmps7
        go_wp2_with fail
        rw [← hW1]
        clear hW1
        refine (Hli1.out _).mono ?_
        rintro e w2 ⟨rfl, hb2⟩
        have k1 := (hb2.block _ (by omega)).trans k1
        have p0 := block_cell k1 0
        have p1 := block_cell k1 1
        simp at p0 p1
        go_wp2_with fail
        refine (Hli2.out _).mono ?_
        rintro e w3 ⟨rfl, hb3⟩
        go_wp2_with fail
        refine (lives17_any _).mono ?_
        rintro e w4 ⟨rfl, hb4⟩
        go_wp2_with fail
        go_ret
        exact ⟨rfl, below_on hB1 (below_on hb2 (below_on hb3 hb4 (Nat.le_refl _)) (Nat.le_refl _)) (Nat.le_refl _)⟩
    · have hd : decide ((A.length : Int) ≤ 200) = true := by simp; omega
      have hd2 : decide ((Bn.length : Int) ≤ 200) = false := by simp; omega
      rw [hd] at hlight1
      rw [hd2] at hlight2
      have Hli1 := Lib.hid hlight1
      have Hli2 := Lib.hid hlight2
      clear hlight1 hlight2 hd hd2
      obtain ⟨W1, hW1⟩ : ∃ W1, W1 = (w.alloc (.cells #[.int .u64 la, .slice aoa A.length ca] 44)).alloc (.cells #[.int .u64 lb, .slice aob Bn.length cb] 44) := ⟨_, rfl⟩
      obtain ⟨k0, k1, kz, hB1⟩ := news2 hW1
      go_enter Try.func7, Try.ntmps7
      go_wp2_with fail
      rw [← hW1]
      clear hW1
      refine (Hli1.out _).mono ?_
      rintro e w2 ⟨rfl, hb2⟩
      have k1 := (hb2.block _ (by omega)).trans k1
      have p0 := block_cell k1 0
      have p1 := block_cell k1 1
      simp at p0 p1
      go_wp2_with fail
      refine (Hli2.out _).mono ?_
      rintro e w3 ⟨rfl, hb3⟩
      go_wp2_with fail
      refine (lives17_any _).mono ?_
      rintro e w4 ⟨rfl, hb4⟩
      go_wp2_with fail
      go_ret
      exact ⟨rfl, below_on hB1 (below_on hb2 (below_on hb3 hb4 (Nat.le_refl _)) (Nat.le_refl _)) (Nat.le_refl _)⟩
  · have hd : decide ((A.length : Int) ≤ 200) = false := by simp; omega
    rw [hd] at hlight1
    have Hli1 := Lib.hid hlight1
    clear hlight1 hlight2 hd
    obtain ⟨W1, hW1⟩ : ∃ W1, W1 = (w.alloc (.cells #[.int .u64 la, .slice aoa A.length ca] 44)).alloc (.cells #[.int .u64 lb, .slice aob Bn.length cb] 44) := ⟨_, rfl⟩
    obtain ⟨k0, k1, kz, hB1⟩ := news2 hW1
    go_enter Try.func7, Try.ntmps7
    go_wp2_with fail
    rw [← hW1]
    clear hW1
    refine (Hli1.out _).mono ?_
    rintro e w2 ⟨rfl, hb2⟩
    go_wp2_with fail
    refine (lives17_any _).mono ?_
    rintro e w4 ⟨rfl, hb4⟩
    go_wp2_with fail
    go_ret
    exact ⟨rfl, below_on hB1 (below_on hb2 hb4 (Nat.le_refl _)) (Nat.le_refl _)⟩
end Go.Proofs.Ytdcinhnplcipoaa
