/- segment.First and the reference's. No statement of the seat is proved here. -/
import Derived.Test.YtlphpjgiaflfkaaSv
import Derived.Test.YtlphpjgiaflfkaaSy
import Derived.Lib.Bytealg
namespace Go.Proofs.Ytlphpjgiaflfkaa
set_option linter.unusedVariables false
set_option linter.unusedSimpArgs false
set_option linter.unusedSectionVars false
open Go Go.RowKit Go.Shelf

set_option maxRecDepth 100000 in
set_option maxHeartbeats 1000000 in
theorem litesIndexByte_any (s : ByteArray) (c : Int) (w : World) : Calls Try.prog 88 #[.string s, .int .u8 c] w fun e w' => e = .returned (.int .i64 (Lib.indexByte s.data.toList c.toNat.toUInt8)) ∧ w = w' := by
  go_enter Try.func88, Try.ntmps88
  go_wp2_with fail
  rw [run_callFunc_extern Try.func110 (by kernel_rfl) (by kernel_rfl) (by kernel_rfl) (e := Extern.BytealgIndexByte.indexByte) (by kernel_rfl), Lib.run_indexByteString]
  simp only [Result.andThen]
  rw [Oper.upon_value]
  go_wp2_with fail
  go_ret
  exact ⟨rfl, rfl⟩
def hexL : List UInt8 := [48, 49, 50, 51, 52, 53, 54, 55, 56, 57, 97, 98, 99, 100, 101, 102]
theorem hex_index : ∀ k < 256, Lib.indexByte hexL (UInt8.ofNat k) = match hexv (UInt8.ofNat k) with | none => -1 | some v => (v : Int) := by decide +kernel
theorem hex_find (c : UInt8) : Lib.indexByte hexL c = match hexv c with | none => -1 | some v => (v : Int) := by
  have h := hex_index c.toNat c.toNat_lt
  rw [UInt8.ofNat_toNat] at h
  exact h
set_option maxRecDepth 100000 in
set_option maxHeartbeats 1000000 in
theorem hexFind_any (c : UInt8) (w : World) : Calls Try.prog 49 #[.string ⟨#[48, 49, 50, 51, 52, 53, 54, 55, 56, 57, 97, 98, 99, 100, 101, 102]⟩, .int .u8 (c.toNat : Nat)] w fun e w' => e = .returned (.int .i64 (match hexv c with | none => -1 | some v => (v : Int))) ∧ w = w' := by
  have h1 := litesIndexByte_any ⟨#[48, 49, 50, 51, 52, 53, 54, 55, 56, 57, 97, 98, 99, 100, 101, 102]⟩ (c.toNat : Nat) w
  have e1 : ((c.toNat : Nat) : Int).toNat.toUInt8 = c := by simp
  rw [e1, show (⟨#[48, 49, 50, 51, 52, 53, 54, 55, 56, 57, 97, 98, 99, 100, 101, 102]⟩ : ByteArray).data.toList = hexL from rfl, hex_find] at h1
  obtain ⟨r, hr⟩ : ∃ r : Int, r = (match hexv c with | none => -1 | some v => (v : Int)) := ⟨_, rfl⟩
  rw [← hr] at h1 ⊢
  have H1 := Lib.hid h1
  clear h1 hr e1
  go_enter Try.func49, Try.ntmps49
  go_wp2_with fail
  refine H1.out.mono ?_
  rintro e w1 ⟨rfl, rfl⟩
  go_wp2_with fail
  go_ret
  exact ⟨rfl, rfl⟩
theorem or_hex (x d : Nat) (hx : x < 1152921504606846976) (hd : d < 16) : bits BinOp.or IntKind.u64 ((x : Int) * 16) (d : Int) = ((x * 16 + d : Nat) : Int) := by
  have h := bits_or_u64_nat (x * 16) d (by omega) (by omega)
  have e1 : ((x * 16 : Nat) : Int) = (x : Int) * 16 := by simp
  rw [e1] at h
  rw [h]
  congr 1
  have := Nat.two_pow_add_eq_or_of_lt (i := 4) (b := d) (by omega) x
  rw [Nat.mul_comm x 16, ← this]
set_option maxRecDepth 100000 in
set_option maxHeartbeats 4000000 in
theorem segFirst_any (l : List UInt8) (w : World) (hl : l.length ≤ 100) :
    Calls Try.prog 19 #[.string ⟨l.toArray⟩] w fun e w' => e = .returned (.tuple #[.int .u64 ((firstOf l).1 : Nat), .bool (firstOf l).2]) ∧ Below w.heap.size w w' := by
  have hsz : (⟨l.toArray⟩ : ByteArray).size = l.length := by simp [ByteArray.size]
  by_cases h16 : l.length = 16
  · cases l with
    | nil => simp at h16
    | cons c r =>
      have hr15 : r.length = 15 := by simpa using h16
      have hc0 : ∀ h, (⟨(c :: r).toArray⟩ : ByteArray)[0]'h = c := fun _ => rfl
      have he : (⟨(c :: r).toArray⟩ : ByteArray).extract 1 16 = ⟨r.toArray⟩ := by
        have h := Lib.extract_data (⟨(c :: r).toArray⟩ : ByteArray) 1 16
        rw [show (⟨(c :: r).toArray⟩ : ByteArray).data.toList = c :: r from rfl, List.drop_one, List.tail_cons, List.take_of_length_le (by omega)] at h
        generalize (⟨(c :: r).toArray⟩ : ByteArray).extract 1 16 = x at h ⊢
        obtain ⟨⟨d⟩⟩ := x
        simp only at h
        subst h
        rfl
      by_cases hc : c = 76
      · have hcb : ((c.toNat : Int) != 76) = false := by subst hc; rfl
        obtain ⟨cd, W1, hcv, hb1, hB1, -⟩ := bytes_of r (by unfold maxLen; omega) w
        rw [hr15] at hcv
        have Hc := Lib.hid hc
        clear hc
        have hno : (∀ n, digsN r 0 = some n → firstOf (c :: r) = (n, decide (0 < n))) ∧ (digsN r 0 = none → firstOf (c :: r) = (0, false)) := by
          constructor
          · intro n h
            unfold firstOf
            simp only
            rw [if_pos ⟨hr15, Hc.out⟩, h]
          · intro h
            unfold firstOf
            simp only
            rw [if_pos ⟨hr15, Hc.out⟩, h]
        have Hno := Lib.hid hno
        have Hr := Lib.hid hr15
        clear hno
        go_enter Try.func19, Try.ntmps19
        go_wp2_with fail
        clear hr15 h16
        go_loopw [2, 19] (fun v u wr => ∃ i n : Nat, v = .int .u64 (n : Nat) ∧ u = .int .i64 (i : Nat) ∧ i ≤ 15 ∧ n < 16 ^ i ∧ Hid (digsN r 0 = digsN (r.drop i) n) ∧ W1 = wr) (fun _ u _ => 15 - (intOf u).toNat)
        case atStart => exact ⟨0, 0, rfl, rfl, by omega, by decide, Lib.hid rfl, rfl⟩
        case round =>
          obtain ⟨i, n, rfl, rfl, hi, hn, Hinv, rfl⟩ := hrel
          by_cases hlt : i < 15
          · have hir : i < r.length := by rw [Hr.out]; exact hlt
            obtain ⟨b, off, e, hcell⟩ := hb1.get i hir
            simp only [Option.some.injEq, Addr.mk.injEq] at e
            obtain ⟨rfl, rfl, -⟩ := e
            rw [Nat.zero_add] at hcell
            have hf := hexFind_any r[i]
            have hdr : r.drop i = r[i] :: r.drop (i + 1) := List.drop_eq_getElem_cons hir
            have hinv := Hinv.out
            rw [hdr, digsN] at hinv
            have i0 : (0 : Int) ≤ (i : Int) := by omega
            have i1 : (i : Int) < 15 := by omega
            obtain ⟨d, hd⟩ : ∃ d, d = r[i] := ⟨_, rfl⟩
            rw [← hd] at hcell hf hinv
            clear hd hdr
            cases hv : hexv d with
            | none =>
              rw [hv] at hf hinv
              have Hf := Lib.hid hf
              have Hfin := Lib.hid (Hno.out.2 hinv)
              clear hv hinv hf
              go_wp2_with fail
              refine (Hf.out _).mono ?_
              rintro e w2 ⟨rfl, rfl⟩
              go_wp2_with fail
              go_ret2
              exact ⟨by rw [Hfin.out]; rfl, hB1⟩
            | some v =>
              rw [hv] at hf hinv
              simp only at hf hinv
              have hv16 := (hexd_hexv d v hv).2
              have hn60 : n < 1152921504606846976 := by
                have : 16 ^ i ≤ 16 ^ 15 := Nat.pow_le_pow_right (by decide) (by omega)
                have h15 : (16 : Nat) ^ 15 = 1152921504606846976 := by decide
                omega
              have hn2 : n * 16 + v < 16 ^ (i + 1) := by rw [Nat.pow_succ]; omega
              have w1 : IntKind.u64.wrap ((n : Int) * 16) = (n : Int) * 16 := IntWalk.u64_in _ (by omega)
              have w2 : IntKind.u64.wrap (v : Int) = (v : Int) := IntWalk.u64_in _ (by omega)
              have w3 := or_hex n v hn60 hv16
              obtain ⟨y, hy⟩ : ∃ y, y = n * 16 + v := ⟨_, rfl⟩
              rw [← hy] at w3 hn2 hinv
              have v0 : ¬ (v : Int) < 0 := by omega
              have Hf := Lib.hid hf
              have Hinv2 := Lib.hid hinv
              clear hv hinv hf hy
              go_wp2_with fail
              refine (Hf.out _).mono ?_
              rintro e w2 ⟨rfl, rfl⟩
              go_wp2_with fail
              go_roundw
              case rel => exact ⟨i + 1, y, rfl, by simp, by omega, hn2, Hinv2, trivial⟩
              case measure => simp [intOf]; omega
          · have hi15 : i = 15 := by omega
            subst hi15
            have hd : digsN r 0 = some n := by rw [Hinv.out, List.drop_eq_nil_of_le (by rw [Hr.out]; omega)]; rfl
            have Hfin := Lib.hid (Hno.out.1 n hd)
            clear hd
            go_wp2_with fail
            go_ret2
            exact ⟨by rw [Hfin.out]; simp, hB1⟩
      · have hcb : ((c.toNat : Int) != 76) = true := u8_ne (k := 76) hc
        have hno : Hid (firstOf (c :: r) = (0, false)) := by
          show _ = _
          unfold firstOf
          simp only
          rw [if_neg (fun h => hc h.2)]
        clear hc he
        go_enter Try.func19, Try.ntmps19
        go_wp2_with fail
        go_ret2
        exact ⟨by rw [hno.out]; rfl, Below.refl _ _⟩
  · have h16b : ((l.length : Int) != 16) = true := by simp; omega
    have hno : Hid (firstOf l = (0, false)) := by
      show _ = _
      unfold firstOf
      cases l with
      | nil => rfl
      | cons c r => simp only; rw [if_neg]; rintro ⟨h, -⟩; simp at h16; omega
    go_enter Try.func19, Try.ntmps19
    go_wp2_with fail
    go_ret2
    exact ⟨by rw [hno.out]; rfl, Below.refl _ _⟩
set_option maxRecDepth 100000 in
set_option maxHeartbeats 4000000 in
theorem segRefFirst_any (l : List UInt8) (w : World) (hl : l.length ≤ 100) :
    Calls Try.prog 20 #[.string ⟨l.toArray⟩] w fun e w' => e = .returned (.tuple #[.int .u64 ((firstOf l).1 : Nat), .bool (firstOf l).2]) ∧ Below w.heap.size w w' := by
  have hsz : (⟨l.toArray⟩ : ByteArray).size = l.length := by simp [ByteArray.size]
  by_cases h16 : l.length = 16
  · cases l with
    | nil => simp at h16
    | cons c r =>
      have hr15 : r.length = 15 := by simpa using h16
      have hc0 : ∀ h, (⟨(c :: r).toArray⟩ : ByteArray)[0]'h = c := fun _ => rfl
      by_cases hc : c = 76
      · have hcb : ((c.toNat : Int) != 76) = false := by subst hc; rfl
        have Hc := Lib.hid hc
        clear hc
        have hno : (∀ n, digsN r 0 = some n → firstOf (c :: r) = (n, decide (0 < n))) ∧ (digsN r 0 = none → firstOf (c :: r) = (0, false)) := by
          constructor
          · intro n h
            unfold firstOf
            simp only
            rw [if_pos ⟨hr15, Hc.out⟩, h]
          · intro h
            unfold firstOf
            simp only
            rw [if_pos ⟨hr15, Hc.out⟩, h]
        have Hno := Lib.hid hno
        have Hr := Lib.hid hr15
        clear hno
        go_enter Try.func20, Try.ntmps20
        go_wp2_with fail
        clear hr15 h16
        go_loopw [4, 5] (fun v u wr => ∃ i n : Nat, v = .int .u64 (n : Nat) ∧ u = .int .i64 ((i + 1 : Nat) : Int) ∧ i ≤ 15 ∧ n < 16 ^ i ∧ Hid (digsN r 0 = digsN (r.drop i) n) ∧ w = wr) (fun _ u _ => 16 - (intOf u).toNat)
        case atStart => exact ⟨0, 0, rfl, rfl, by omega, by decide, Lib.hid rfl, rfl⟩
        case round =>
          obtain ⟨i, n, rfl, rfl, hi, hn, Hinv, rfl⟩ := hrel
          by_cases hlt : i < 15
          · have hir : i < r.length := by rw [Hr.out]; exact hlt
            have hdr : r.drop i = r[i] :: r.drop (i + 1) := List.drop_eq_getElem_cons hir
            have hinv := Hinv.out
            rw [hdr, digsN] at hinv
            have i0 : (0 : Int) ≤ ((i + 1 : Nat) : Int) := by omega
            have i1 : ((i + 1 : Nat) : Int) < 16 := by omega
            have hci : ∀ h, (⟨(c :: r).toArray⟩ : ByteArray)[i + 1]'h = r[i] := fun _ => rfl
            have hsz16 : (⟨(c :: r).toArray⟩ : ByteArray).size = 16 := by rw [hsz]; simp [Hr.out]
            obtain ⟨d, hd⟩ : ∃ d, d = r[i] := ⟨_, rfl⟩
            rw [← hd] at hci hinv
            clear hd hdr
            have hn60 : n < 1152921504606846976 := by
              have : 16 ^ i ≤ 16 ^ 15 := Nat.pow_le_pow_right (by decide) (by omega)
              have h15 : (16 : Nat) ^ 15 = 1152921504606846976 := by decide
              omega
            have w1 : IntKind.u64.wrap ((n : Int) * 16) = (n : Int) * 16 := IntWalk.u64_in _ (by omega)
            have hx256 := d.toNat_lt
            obtain ⟨x, hx⟩ : ∃ x, x = d.toNat := ⟨_, rfl⟩
            unfold hexv at hinv
            rw [← hx] at hinv hx256
            have hcx : ∀ h, ((⟨(c :: r).toArray⟩ : ByteArray)[i + 1]'h).toNat = x := fun h => by rw [hci, hx]
            clear hx hci
            by_cases a1 : x < 48
            · have g1 : ¬ (48 : Int) ≤ (x : Int) := by omega
              have g2 : ¬ (97 : Int) ≤ (x : Int) := by omega
              rw [if_neg (by omega), if_neg (by omega)] at hinv
              have Hfin := Lib.hid (Hno.out.2 hinv)
              clear hinv a1
              go_wp2_with fail
              go_ret2
              exact ⟨by rw [Hfin.out]; rfl, Below.refl _ _⟩
            · have g1 : (48 : Int) ≤ (x : Int) := by omega
              by_cases a2 : x ≤ 57
              · have g2 : (x : Int) ≤ 57 := by omega
                rw [if_pos (by omega)] at hinv
                simp only at hinv
                have hn2 : n * 16 + (x - 48) < 16 ^ (i + 1) := by rw [Nat.pow_succ]; omega
                obtain ⟨y, hy⟩ : ∃ y, y = n * 16 + (x - 48) := ⟨_, rfl⟩
                rw [← hy] at hinv hn2
                have v1 : IntKind.u8.wrap ((x : Int) - 48) = (x : Int) - 48 := IntWalk.u8_in _ (by omega)
                have v2 : IntKind.u64.wrap ((x : Int) - 48) = (x : Int) - 48 := IntWalk.u64_in _ (by omega)
                have v3 : IntKind.u64.wrap ((n : Int) * 16 + ((x : Int) - 48)) = (y : Int) := by rw [IntWalk.u64_in _ (by omega)]; omega
                have Hinv2 := Lib.hid hinv
                clear hinv hy a1 a2
                go_wp2_with fail
                go_roundw
                case rel => exact ⟨i + 1, y, rfl, by simp, by omega, hn2, Hinv2, trivial⟩
                case measure => simp [intOf]; omega
              · have g2 : ¬ (x : Int) ≤ 57 := by omega
                by_cases a3 : x < 97
                · have g3 : ¬ (97 : Int) ≤ (x : Int) := by omega
                  rw [if_neg (by omega), if_neg (by omega)] at hinv
                  have Hfin := Lib.hid (Hno.out.2 hinv)
                  clear hinv a1 a2 a3
                  go_wp2_with fail
                  go_ret2
                  exact ⟨by rw [Hfin.out]; rfl, Below.refl _ _⟩
                · have g3 : (97 : Int) ≤ (x : Int) := by omega
                  by_cases a4 : x ≤ 102
                  · have g4 : (x : Int) ≤ 102 := by omega
                    rw [if_neg (by omega), if_pos (by omega)] at hinv
                    simp only at hinv
                    have hn2 : n * 16 + (x - 87) < 16 ^ (i + 1) := by rw [Nat.pow_succ]; omega
                    obtain ⟨y, hy⟩ : ∃ y, y = n * 16 + (x - 87) := ⟨_, rfl⟩
                    rw [← hy] at hinv hn2
                    have v1 : IntKind.u8.wrap ((x : Int) - 97) = (x : Int) - 97 := IntWalk.u8_in _ (by omega)
                    have v2 : IntKind.u64.wrap ((x : Int) - 97) = (x : Int) - 97 := IntWalk.u64_in _ (by omega)
                    have v3 : IntKind.u64.wrap ((n : Int) * 16 + ((x : Int) - 97)) = (n : Int) * 16 + ((x : Int) - 97) := IntWalk.u64_in _ (by omega)
                    have v4 : IntKind.u64.wrap ((n : Int) * 16 + ((x : Int) - 97) + 10) = (y : Int) := by rw [IntWalk.u64_in _ (by omega)]; omega
                    have Hinv2 := Lib.hid hinv
                    clear hinv hy a1 a2 a3 a4
                    go_wp2_with fail
                    go_roundw
                    case rel => exact ⟨i + 1, y, rfl, by simp, by omega, hn2, Hinv2, trivial⟩
                    case measure => simp [intOf]; omega
                  · have g4 : ¬ (x : Int) ≤ 102 := by omega
                    rw [if_neg (by omega), if_neg (by omega)] at hinv
                    have Hfin := Lib.hid (Hno.out.2 hinv)
                    clear hinv a1 a2 a3 a4
                    go_wp2_with fail
                    go_ret2
                    exact ⟨by rw [Hfin.out]; rfl, Below.refl _ _⟩
          · have hi15 : i = 15 := by omega
            subst hi15
            have hd : digsN r 0 = some n := by rw [Hinv.out, List.drop_eq_nil_of_le (by rw [Hr.out]; omega)]; rfl
            have Hfin := Lib.hid (Hno.out.1 n hd)
            clear hd
            go_wp2_with fail
            go_ret2
            exact ⟨by rw [Hfin.out]; simp, Below.refl _ _⟩
      · have hcb : ((c.toNat : Int) != 76) = true := u8_ne (k := 76) hc
        have hno : Hid (firstOf (c :: r) = (0, false)) := by
          show _ = _
          unfold firstOf
          simp only
          rw [if_neg (fun h => hc h.2)]
        clear hc
        go_enter Try.func20, Try.ntmps20
        go_wp2_with fail
        go_ret2
        exact ⟨by rw [hno.out]; rfl, Below.refl _ _⟩
  · have h16b : ((l.length : Int) != 16) = true := by simp; omega
    have hno : Hid (firstOf l = (0, false)) := by
      show _ = _
      unfold firstOf
      cases l with
      | nil => rfl
      | cons c r => simp only; rw [if_neg]; rintro ⟨h, -⟩; simp at h16; omega
    go_enter Try.func20, Try.ntmps20
    go_wp2_with fail
    go_ret2
    exact ⟨by rw [hno.out]; rfl, Below.refl _ _⟩
end Go.Proofs.Ytlphpjgiaflfkaa
