/- segment: entries; Sound, head. No statement of the seat is proved here. -/
import Derived.Test.YtlphpjgiaflfkaaQt
import Derived.Test.YtlphpjgiaflfkaaFrameB
namespace Go.Proofs.Ytlphpjgiaflfkaa
set_option linter.unusedVariables false
set_option linter.unusedSimpArgs false
set_option linter.unusedSectionVars false
open Go Go.RowKit Go.Shelf

/-- an entry -/
structure En where
  term : Int
  kind : Int
  data : List UInt8
deriving Inhabited
def soundE (e : En) : Bool := decide (1 ≤ e.term) && decide (e.term ≤ 1152921504606846976) && decide (1 ≤ e.kind) && decide (e.kind ≤ 3) && decide (e.data.length ≤ 4096)
theorem soundE_iff {e : En} : soundE e = true ↔ 1 ≤ e.term ∧ e.term ≤ 1152921504606846976 ∧ 1 ≤ e.kind ∧ e.kind ≤ 3 ∧ e.data.length ≤ 4096 := by
  simp only [soundE, Bool.and_eq_true, decide_eq_true_eq, and_assoc]
theorem bool_of {b : Bool} {p : Prop} [Decidable p] (h : b = true ↔ p) : b = decide p := by
  cases b <;> simp_all
set_option maxRecDepth 100000 in
theorem sound_e (x1 x2 : Int) (ad : Option Addr) (n cd : Nat) (d : List UInt8) (hd : n = d.length) (w : World) :
    Calls Try.prog 33 #[.agg #[.int .u64 x1, .int .i64 x2, .slice ad n cd]] w fun e w' => e = .returned (.bool (soundE ⟨x1, x2, d⟩)) ∧ Below w.heap.size w w' := by
  obtain ⟨c, hc⟩ : ∃ c, c = soundE ⟨x1, x2, d⟩ := ⟨_, rfl⟩
  have hiff := soundE_iff (e := ⟨x1, x2, d⟩)
  rw [← hc] at hiff
  simp only [← hd] at hiff
  rw [← hc]
  have Hc := Lib.hid hiff
  clear hiff hc hd
  go_enter Try.func33, Try.ntmps33
  go_wp2_with fail
  all_goals
    go_ret
    refine ⟨ret_bool ?_, below_new _ _⟩
    rw [Bool.eq_iff_iff, Hc.out]
    simp only [decide_eq_true_eq, Bool.false_eq_true, false_iff]
    omega
set_option maxRecDepth 100000 in
theorem refSound_e (x1 x2 : Int) (ad : Option Addr) (n cd : Nat) (d : List UInt8) (hd : n = d.length) (w : World) :
    Calls Try.prog 34 #[.agg #[.int .u64 x1, .int .i64 x2, .slice ad n cd]] w fun e w' => e = .returned (.bool (soundE ⟨x1, x2, d⟩)) ∧ Below w.heap.size w w' := by
  obtain ⟨c, hc⟩ : ∃ c, c = soundE ⟨x1, x2, d⟩ := ⟨_, rfl⟩
  have hiff := soundE_iff (e := ⟨x1, x2, d⟩)
  rw [← hc] at hiff
  simp only [← hd] at hiff
  rw [← hc]
  have Hc := Lib.hid hiff
  clear hiff hc hd
  go_enter Try.func34, Try.ntmps34
  go_wp2_with fail
  all_goals
    go_ret
    refine ⟨ret_bool ?_, below_new _ _⟩
    rw [Bool.eq_iff_iff, Hc.out]
    simp only [decide_eq_true_eq, Bool.false_eq_true, false_iff]
    omega
/-- the first index that a head tells; 0: it is none -/
def headV (k : UInt8) (bd : List UInt8) : Nat :=
  if k = 1 ∧ (readN 1152921504606846976 bd false).2.2 = false ∧ (readN 1152921504606846976 bd false).2.1.length = 0 then (readN 1152921504606846976 bd false).1 else 0
set_option maxRecDepth 100000 in
set_option maxHeartbeats 1000000 in
theorem head_any (k : UInt8) (ao : Option Addr) (cap : Nat) (bd : List UInt8) (w : World) (hb : Bs w ao cap bd) :
    Calls Try.prog 40 #[.int .u8 (k.toNat : Nat), .slice ao bd.length cap] w fun e w' => e = .returned (.int .u64 (headV k bd : Nat)) ∧ Below w.heap.size w w' := by
  obtain ⟨v, hv⟩ : ∃ v, v = headV k bd := ⟨_, rfl⟩
  rw [← hv]
  unfold headV at hv
  have hnum := fun (W : World) (h : Rd 131 W w.heap.size ao cap bd false) => rnum_any 1152921504606846976 (by decide) h
  obtain ⟨r, hr⟩ : ∃ r, r = readN 1152921504606846976 bd false := ⟨_, rfl⟩
  simp only [← hr] at hnum hv
  obtain ⟨x, l1, b1⟩ := r
  simp only at hnum hv
  have Hv := Lib.hid hv
  have Hnum := Lib.hid hnum
  clear hr hv hnum
  go_enter Try.func40, Try.ntmps40
  go_wp2_with fail
  refine (open_rd ao cap bd w hb).mono ?_
  rintro e w1 ⟨rfl, h1, hB1⟩
  go_wp2_with fail
  refine (Hnum.out w1 h1).mono ?_
  rintro e w2 ⟨ao2, cap2, rfl, h2, hg2, -⟩
  have hB2 := below_grown hB1 hg2 (Nat.le_refl _) hB1.size
  simp only at h2
  have hE := end_rd h2
  by_cases hk : k = 1
  · have hk1 : ((k.toNat : Int) != 1) = false := by subst hk; rfl
    by_cases he : b1 = false ∧ l1.length = 0
    · have hr0 : endR l1 b1 = 0 := by unfold endR; rw [if_neg]; simp [he.1, he.2]
      rw [hr0] at hE
      have HE := Lib.hid hE
      clear hE
      go_wp2_with (go_at_call 77; refine HE.out.mono ?_; rintro e w3 ⟨rfl, rfl⟩)
      go_ret
      exact ⟨by rw [Hv.out, if_pos ⟨hk, he⟩]; rfl, hB2⟩
    · have hr0 : endR l1 b1 = 20 := by
        unfold endR
        rw [if_pos]
        by_cases hb : b1 = true
        · exact .inl hb
        · refine .inr ?_
          have : l1.length ≠ 0 := fun h => he ⟨by simpa using hb, h⟩
          omega
      rw [hr0] at hE
      have HE := Lib.hid hE
      clear hE
      go_wp2_with (go_at_call 77; refine HE.out.mono ?_; rintro e w3 ⟨rfl, rfl⟩)
      go_ret
      exact ⟨by rw [Hv.out, if_neg (fun h => he h.2)]; rfl, hB2⟩
  · have hk1 : ((k.toNat : Int) != 1) = true := u8_ne (k := 1) hk
    clear hE
    go_wp2_with fail
    go_ret
    exact ⟨by rw [Hv.out, if_neg (fun h => hk h.1)]; rfl, hB2⟩
end Go.Proofs.Ytlphpjgiaflfkaa
