/- segment.Name and the reference's. No statement of the seat is proved here. -/
import Derived.Test.YtlphpjgiaflfkaaSh
namespace Go.Proofs.Ytlphpjgiaflfkaa
set_option linter.unusedVariables false
set_option linter.unusedSimpArgs false
set_option linter.unusedSectionVars false
open Go Go.RowKit Go.Shelf

/-- a digit of 16 -/
def hexd (r : Nat) : UInt8 := if r < 10 then UInt8.ofNat (48 + r) else UInt8.ofNat (87 + r)
/-- a name under way: the digits behind place i are there -/
def nameL (n i : Nat) : List UInt8 := (List.range 16).map fun j => if j = 0 then 76 else if i < j then hexd (n / 16 ^ (15 - j) % 16) else 0
theorem nameL_len (n i : Nat) : (nameL n i).length = 16 := by simp [nameL]
theorem nameL_set (n i : Nat) (h1 : 0 < i) (h2 : i ≤ 15) : (nameL n i).set i (hexd (n / 16 ^ (15 - i) % 16)) = nameL n (i - 1) := by
  apply List.ext_getElem
  · simp [nameL]
  · intro j hj hj2
    simp only [nameL, List.length_set, List.length_map, List.length_range] at hj
    rw [List.getElem_set]
    simp only [nameL, List.getElem_map, List.getElem_range]
    split
    · rename_i e
      subst e
      rw [if_neg (by omega), if_pos (by omega)]
    · rename_i e
      by_cases h0 : j = 0
      · rw [if_pos h0, if_pos h0]
      · rw [if_neg h0, if_neg h0]
        by_cases h3 : i < j
        · rw [if_pos h3, if_pos (by omega)]
        · rw [if_neg h3, if_neg (by omega)]
theorem nameL_setI (n i : Nat) (h1 : 0 < i) (h2 : i ≤ 15) : ((nameL n i).map u8).set i (u8 (hexd (n / 16 ^ (15 - i) % 16))) = (nameL n (i - 1)).map u8 := by
  rw [← nameL_set n i h1 h2, List.map_set]
theorem nameL_start (n : Nat) : nameL n 15 = [76, 0, 0, 0, 0, 0, 0, 0, 0, 0, 0, 0, 0, 0, 0, 0] := by
  simp [nameL, List.range, List.range.loop]
def nameOf (n : Nat) : List UInt8 := if n < 1 ∨ 1152921504606846976 ≤ n then [] else nameL n 0
theorem div_step (n i : Nat) (h1 : 0 < i) (h2 : i ≤ 15) : n / 16 ^ (15 - i) / 16 = n / 16 ^ (15 - (i - 1)) := by
  rw [Nat.div_div_eq_div_mul, ← Nat.pow_succ]
  congr 2
  omega
theorem hex_at (r : Nat) (h : r < 16) : (#[Value.int .u8 48, .int .u8 49, .int .u8 50, .int .u8 51, .int .u8 52, .int .u8 53, .int .u8 54, .int .u8 55, .int .u8 56, .int .u8 57, .int .u8 97, .int .u8 98, .int .u8 99, .int .u8 100, .int .u8 101, .int .u8 102] : Array Value)[r]? = some (u8 (hexd r)) := by
  match r, h with
  | 0, _ => rfl
  | 1, _ => rfl
  | 2, _ => rfl
  | 3, _ => rfl
  | 4, _ => rfl
  | 5, _ => rfl
  | 6, _ => rfl
  | 7, _ => rfl
  | 8, _ => rfl
  | 9, _ => rfl
  | 10, _ => rfl
  | 11, _ => rfl
  | 12, _ => rfl
  | 13, _ => rfl
  | 14, _ => rfl
  | 15, _ => rfl
  | k + 16, h => omega
theorem run_make16 (w : World) : (Instr.makeSlice 22 (.int .i64 16) (.int .i64 16)).run Try.prog w = .ok (.slice (some ⟨w.heap.size, 0, none⟩) 16 16) (w.alloc (.cells #[.int .u8 0, .int .u8 0, .int .u8 0, .int .u8 0, .int .u8 0, .int .u8 0, .int .u8 0, .int .u8 0, .int .u8 0, .int .u8 0, .int .u8 0, .int .u8 0, .int .u8 0, .int .u8 0, .int .u8 0, .int .u8 0] 5)) := by
  obtain ⟨i, hi, hz, hs, hb⟩ := info_parts infoUB1
  have hr := run_make (P := Try.prog) w 22 5 i (.int .u8 0) Try.underlying22 hi hz .i64 .i64 16 16 (by omega) (by omega) (by rw [hb]; omega) (by omega)
  rw [hs, show madeCells (Value.int .u8 0).cells (Int.toNat 16 * 1) = #[.int .u8 0, .int .u8 0, .int .u8 0, .int .u8 0, .int .u8 0, .int .u8 0, .int .u8 0, .int .u8 0, .int .u8 0, .int .u8 0, .int .u8 0, .int .u8 0, .int .u8 0, .int .u8 0, .int .u8 0, .int .u8 0] from by kernel_rfl] at hr
  exact hr
theorem u8arr (l : List UInt8) (k : Nat) (hk : k < l.length) : (l.map u8).toArray[k]? = some (u8 l[k]) := by simp [hk]
set_option maxRecDepth 100000 in
set_option maxHeartbeats 2000000 in
theorem segName_any (n : Nat) (hn : n < 2 ^ 64) (w : World) :
    Calls Try.prog 21 #[.int .u64 (n : Nat)] w fun e w' => e = .returned (.string ⟨(nameOf n).toArray⟩) ∧ Below w.heap.size w w' := by
  by_cases h1 : n < 1
  · have h1' : (n : Int) < 1 := by omega
    have hno : Hid (nameOf n = []) := by show _ = _; unfold nameOf; rw [if_pos (.inl h1)]
    clear h1
    go_enter Try.func21, Try.ntmps21
    go_wp2_with fail
    go_ret
    exact ⟨by rw [hno.out]; rfl, Below.refl _ _⟩
  · have h1' : ¬ (n : Int) < 1 := by omega
    by_cases h2 : 1152921504606846976 ≤ n
    · have h2' : (1152921504606846976 : Int) ≤ (n : Int) := by omega
      have hno : Hid (nameOf n = []) := by show _ = _; unfold nameOf; rw [if_pos (.inr h2)]
      clear h1 h2
      go_enter Try.func21, Try.ntmps21
      go_wp2_with fail
      go_ret
      exact ⟨by rw [hno.out]; rfl, Below.refl _ _⟩
    · have h2' : ¬ (1152921504606846976 : Int) ≤ (n : Int) := by omega
      have hno : Hid (nameOf n = nameL n 0) := by show _ = _; unfold nameOf; rw [if_neg (by omega)]
      clear h1 h2
      go_enter Try.func21, Try.ntmps21
      have hmk := run_make16
      go_wp2_with fail
      obtain ⟨W1, hW1⟩ : ∃ W1, W1 = ((w.alloc (.cells #[.int .u8 48, .int .u8 49, .int .u8 50, .int .u8 51, .int .u8 52, .int .u8 53, .int .u8 54, .int .u8 55, .int .u8 56, .int .u8 57, .int .u8 97, .int .u8 98, .int .u8 99, .int .u8 100, .int .u8 101, .int .u8 102] 85)).alloc (.cells #[.int .u8 76, .int .u8 0, .int .u8 0, .int .u8 0, .int .u8 0, .int .u8 0, .int .u8 0, .int .u8 0, .int .u8 0, .int .u8 0, .int .u8 0, .int .u8 0, .int .u8 0, .int .u8 0, .int .u8 0, .int .u8 0] 5)) := ⟨_, rfl⟩
      have hB1 : Below w.heap.size w W1 := by rw [hW1]; exact (below_new _ _).alloc (by simp) _
      have kA : W1.heap[w.heap.size]? = some (.cells #[.int .u8 48, .int .u8 49, .int .u8 50, .int .u8 51, .int .u8 52, .int .u8 53, .int .u8 54, .int .u8 55, .int .u8 56, .int .u8 57, .int .u8 97, .int .u8 98, .int .u8 99, .int .u8 100, .int .u8 101, .int .u8 102] 85 (0, 0)) := by rw [hW1]; exact (heap_alloc_old _ _ (by simp)).trans (heap_alloc_new _ _)
      have kG : W1.heap[w.heap.size + 1]? = some (.cells #[.int .u8 76, .int .u8 0, .int .u8 0, .int .u8 0, .int .u8 0, .int .u8 0, .int .u8 0, .int .u8 0, .int .u8 0, .int .u8 0, .int .u8 0, .int .u8 0, .int .u8 0, .int .u8 0, .int .u8 0, .int .u8 0] 5 (0, 0)) := by
        have h := heap_alloc_new (w.alloc (.cells #[.int .u8 48, .int .u8 49, .int .u8 50, .int .u8 51, .int .u8 52, .int .u8 53, .int .u8 54, .int .u8 55, .int .u8 56, .int .u8 57, .int .u8 97, .int .u8 98, .int .u8 99, .int .u8 100, .int .u8 101, .int .u8 102] 85)) (.cells #[.int .u8 76, .int .u8 0, .int .u8 0, .int .u8 0, .int .u8 0, .int .u8 0, .int .u8 0, .int .u8 0, .int .u8 0, .int .u8 0, .int .u8 0, .int .u8 0, .int .u8 0, .int .u8 0, .int .u8 0, .int .u8 0] 5)
        rw [World.size_alloc] at h
        rw [hW1]; exact h
      have zG := (Array.getElem?_eq_some_iff.1 kG).1
      rw [← hW1]
      clear hW1 hmk
      have kG2 : W1.heap[w.heap.size + 1]? = some (.cells ((nameL n 15).map u8).toArray 5 (0, 0)) := by
        rw [nameL_start]; exact kG
      clear kG
      go_loopw [0, 5] (fun f u wr => ∃ k : Nat, f = .int .u64 ((n / 16 ^ (15 - k) : Nat) : Int) ∧ u = .int .i64 (k : Nat) ∧ k ≤ 15 ∧ wr.heap[w.heap.size]? = some (.cells #[.int .u8 48, .int .u8 49, .int .u8 50, .int .u8 51, .int .u8 52, .int .u8 53, .int .u8 54, .int .u8 55, .int .u8 56, .int .u8 57, .int .u8 97, .int .u8 98, .int .u8 99, .int .u8 100, .int .u8 101, .int .u8 102] 85 (0, 0)) ∧ wr.heap[w.heap.size + 1]? = some (.cells ((nameL n k).map u8).toArray 5 (0, 0)) ∧ Below w.heap.size w wr) (fun _ u _ => (intOf u).toNat)
      case atStart => exact ⟨15, by simp, rfl, by omega, kA, kG2, hB1⟩
      case round =>
        clear kA kG2 hB1
        obtain ⟨k, rfl, rfl, hk, kA, kG, hB⟩ := hrel
        by_cases h0 : 0 < k
        · have i0 : (0 : Int) < (k : Int) := by omega
          have i1 : (k : Int) < 16 := by omega
          have hstep := nameL_setI n k h0 hk
          have hdiv := div_step n k h0 hk
          obtain ⟨x, hx⟩ : ∃ x, x = n / 16 ^ (15 - k) := ⟨_, rfl⟩
          rw [← hx] at hstep hdiv ⊢
          have hr : x % 16 < 16 := Nat.mod_lt _ (by decide)
          have cA : wr.cell? ⟨w.heap.size, x % 16, none⟩ = some (u8 (hexd (x % 16))) := (block_cell kA (x % 16)).trans (hex_at _ hr)
          have cG : wr.cell? ⟨w.heap.size + 1, k, none⟩ = some (u8 ((nameL n k)[k]'(by rw [nameL_len]; omega))) := (block_cell kG k).trans (u8arr _ _ _)
          have fG := block_free kG k
          have hx9 : x < 1152921504606846976 := by rw [hx]; exact Nat.lt_of_le_of_lt (Nat.div_le_self _ _) (by omega)
          have kG2 := block_set kG k (u8 (hexd (x % 16)))
          rw [List.setIfInBounds_toArray, hstep] at kG2
          have hg2 := grown_set wr (w.heap.size + 1) k (u8 (hexd (x % 16)))
          have zG2 := (Array.getElem?_eq_some_iff.1 kG).1
          have kA2 := (hg2.block w.heap.size (by omega) (by simp)).trans kA
          have hB2 := below_grown hB hg2 (by omega) hB.size
          have Hdiv := Lib.hid hdiv
          clear kA kG hstep hx hdiv
          go_wp2_with fail
          go_roundw
          case rel => exact ⟨k - 1, by rw [← Hdiv.out]; simp, by congr 1; omega, by omega, kA2, kG2, hB2⟩
          case measure => simp [intOf]; omega
        · have hk0 : k = 0 := by omega
          subst hk0
          have hbs : Bs wr (some ⟨w.heap.size + 1, 0, none⟩) 16 (nameL n 0) := ⟨by simp, by rw [nameL_len]; omega, by unfold maxLen; omega, by simp, fun j u hu => ⟨_, 0, rfl, by
            rw [Nat.zero_add]
            exact (block_cell kG j).trans (by simpa using hu)⟩⟩
          have hcv := conv_any hbs
          rw [nameL_len] at hcv
          clear kA kG hbs
          go_wp2_with fail
          go_ret
          exact ⟨by rw [hno.out]; rfl, hB⟩
set_option maxRecDepth 100000 in
set_option maxHeartbeats 2000000 in
theorem segRefName_any (n : Nat) (hn : n < 2 ^ 64) (w : World) :
    Calls Try.prog 22 #[.int .u64 (n : Nat)] w fun e w' => e = .returned (.string ⟨(nameOf n).toArray⟩) ∧ Below w.heap.size w w' := by
  by_cases h1 : n < 1
  · have h1' : (n : Int) < 1 := by omega
    have hno : Hid (nameOf n = []) := by show _ = _; unfold nameOf; rw [if_pos (.inl h1)]
    clear h1
    go_enter Try.func22, Try.ntmps22
    go_wp2_with fail
    go_ret
    exact ⟨by rw [hno.out]; rfl, Below.refl _ _⟩
  · have h1' : ¬ (n : Int) < 1 := by omega
    by_cases h2 : 1152921504606846976 ≤ n
    · have h2' : (1152921504606846976 : Int) ≤ (n : Int) := by omega
      have hno : Hid (nameOf n = []) := by show _ = _; unfold nameOf; rw [if_pos (.inr h2)]
      clear h1 h2
      go_enter Try.func22, Try.ntmps22
      go_wp2_with fail
      go_ret
      exact ⟨by rw [hno.out]; rfl, Below.refl _ _⟩
    · have h2' : ¬ (1152921504606846976 : Int) ≤ (n : Int) := by omega
      have hno : Hid (nameOf n = nameL n 0) := by show _ = _; unfold nameOf; rw [if_neg (by omega)]
      clear h1 h2
      go_enter Try.func22, Try.ntmps22
      have hmk := run_make16
      go_wp2_with fail
      obtain ⟨W1, hW1⟩ : ∃ W1, W1 = (w.alloc (.cells #[.int .u8 76, .int .u8 0, .int .u8 0, .int .u8 0, .int .u8 0, .int .u8 0, .int .u8 0, .int .u8 0, .int .u8 0, .int .u8 0, .int .u8 0, .int .u8 0, .int .u8 0, .int .u8 0, .int .u8 0, .int .u8 0] 5)) := ⟨_, rfl⟩
      have hB1 : Below w.heap.size w W1 := by rw [hW1]; exact below_new _ _
      have kG : W1.heap[w.heap.size]? = some (.cells #[.int .u8 76, .int .u8 0, .int .u8 0, .int .u8 0, .int .u8 0, .int .u8 0, .int .u8 0, .int .u8 0, .int .u8 0, .int .u8 0, .int .u8 0, .int .u8 0, .int .u8 0, .int .u8 0, .int .u8 0, .int .u8 0] 5 (0, 0)) := by
        have h := heap_alloc_new w (.cells #[.int .u8 76, .int .u8 0, .int .u8 0, .int .u8 0, .int .u8 0, .int .u8 0, .int .u8 0, .int .u8 0, .int .u8 0, .int .u8 0, .int .u8 0, .int .u8 0, .int .u8 0, .int .u8 0, .int .u8 0, .int .u8 0] 5)
        rw [hW1]; exact h
      have zG := (Array.getElem?_eq_some_iff.1 kG).1
      rw [← hW1]
      clear hW1 hmk
      have kG2 : W1.heap[w.heap.size]? = some (.cells ((nameL n 15).map u8).toArray 5 (0, 0)) := by
        rw [nameL_start]; exact kG
      clear kG
      go_loopw [0, 4] (fun f u wr => ∃ k : Nat, f = .int .u64 ((n / 16 ^ (15 - k) : Nat) : Int) ∧ u = .int .i64 (k : Nat) ∧ k ≤ 15 ∧ wr.heap[w.heap.size]? = some (.cells ((nameL n k).map u8).toArray 5 (0, 0)) ∧ Below w.heap.size w wr) (fun _ u _ => (intOf u).toNat)
      case atStart => exact ⟨15, by simp, rfl, by omega, kG2, hB1⟩
      case round =>
        clear kG2 hB1
        obtain ⟨k, rfl, rfl, hk, kG, hB⟩ := hrel
        by_cases h0 : 0 < k
        · have i0 : (0 : Int) < (k : Int) := by omega
          have i1 : (k : Int) < 16 := by omega
          have hstep := nameL_setI n k h0 hk
          have hdiv := div_step n k h0 hk
          obtain ⟨x, hx⟩ : ∃ x, x = n / 16 ^ (15 - k) := ⟨_, rfl⟩
          rw [← hx] at hstep hdiv ⊢
          have hr : x % 16 < 16 := Nat.mod_lt _ (by decide)
          have cG : wr.cell? ⟨w.heap.size, k, none⟩ = some (u8 ((nameL n k)[k]'(by rw [nameL_len]; omega))) := (block_cell kG k).trans (u8arr _ _ _)
          have fG := block_free kG k
          have hx9 : x < 1152921504606846976 := by rw [hx]; exact Nat.lt_of_le_of_lt (Nat.div_le_self _ _) (by omega)
          have kG2 := block_set kG k (u8 (hexd (x % 16)))
          rw [List.setIfInBounds_toArray, hstep] at kG2
          have hg2 := grown_set wr (w.heap.size) k (u8 (hexd (x % 16)))
          have zG2 := (Array.getElem?_eq_some_iff.1 kG).1
          have hB2 := below_grown hB hg2 (Nat.le_refl _) hB.size
          obtain ⟨y, hy⟩ : ∃ y, y = x % 16 := ⟨_, rfl⟩
          have hyI : (x : Int) % 16 = (y : Int) := by omega
          have hq : (x : Int) / 16 = ((x / 16 : Nat) : Int) := by omega
          rw [← hy] at hr kG2 hg2 hB2
          obtain ⟨q, hqd⟩ : ∃ q, q = x / 16 := ⟨_, rfl⟩
          rw [← hqd] at hq hdiv
          have Hdiv := Lib.hid hdiv
          clear kG hstep hx hdiv hy
          have w9 : IntKind.u64.wrap (q : Int) = (q : Int) := IntWalk.u64_in _ (by omega)
          have w1 : IntKind.u8.wrap (y : Int) = (y : Int) := IntWalk.u8_in _ (by omega)
          clear hqd hx9
          by_cases h10 : y < 10
          · have h10' : (y : Int) < 10 := by omega
            have hv : (48 : Int) + (y : Int) = (((hexd y).toNat : Nat) : Int) := by unfold hexd; rw [if_pos h10]; simp; omega
            have ev : Value.int .u8 (48 + (y : Int)) = u8 (hexd y) := by rw [hv]
            rw [← ev] at kG2 hB2
            clear hv ev hr h10
            go_wp2_with fail
            go_roundw
            case rel => exact ⟨k - 1, by rw [← Hdiv.out], by congr 1; omega, by omega, kG2, hB2⟩
            case measure => simp [intOf]; omega
          · have h10' : ¬ (y : Int) < 10 := by omega
            have hv : (97 : Int) + (y : Int) - 10 = (((hexd y).toNat : Nat) : Int) := by unfold hexd; rw [if_neg h10]; simp; omega
            have ev : Value.int .u8 (97 + (y : Int) - 10) = u8 (hexd y) := by rw [hv]
            rw [← ev] at kG2 hB2
            have hr' : (y : Int) < 16 := by omega
            clear hv ev hr h10
            go_wp2_with fail
            go_roundw
            case rel => exact ⟨k - 1, by rw [← Hdiv.out], by congr 1; omega, by omega, kG2, hB2⟩
            case measure => simp [intOf]; omega
        · have hk0 : k = 0 := by omega
          subst hk0
          have hbs : Bs wr (some ⟨w.heap.size, 0, none⟩) 16 (nameL n 0) := ⟨by simp, by rw [nameL_len]; omega, by unfold maxLen; omega, by simp, fun j u hu => ⟨_, 0, rfl, by
            rw [Nat.zero_add]
            exact (block_cell kG j).trans (by simpa using hu)⟩⟩
          have hcv := conv_any hbs
          rw [nameL_len] at hcv
          clear kG hbs
          go_wp2_with fail
          go_ret
          exact ⟨by rw [hno.out]; rfl, hB⟩
end Go.Proofs.Ytlphpjgiaflfkaa
