/- slots: the stable sort. No statement of the seat is proved here. -/
import Derived.Test.YtadghaiengonoaaTm4
namespace Go.Proofs.Ytadghaiengonoaa
set_option linter.unusedVariables false
set_option linter.unusedSimpArgs false
set_option linter.unusedSectionVars false
open Go Go.RowKit
theorem dr_take (L : List Th) (a k : Nat) : (L.drop a).take k ++ (L.drop a).drop k = L.drop a := List.take_append_drop _ _
theorem st_two (a b k k2 n m : Nat) (hb : b = a + k2) (h2 : k2 = 2 * k) (hk : 20 ≤ k) (hn : b ≤ n) (hm : m = a + k) : 0 < k ∧ 2 * k ≤ n - a ∧ b = a + k + k ∧ m ≤ 2000000 + n ∧ (∀ b2, b2 = b + k2 → n ≤ 1000000 → b2 ≤ 4000000) := by
  refine ⟨?_, ?_, ?_, ?_, fun b2 h1 h2 => ?_⟩ <;> omega
theorem st_end (a b k k2 n m : Nat) (hb : b = a + k2) (h2 : k2 = 2 * k) (hk : 20 ≤ k) (hn : ¬ b ≤ n) (ha : a ≤ n) (hkn : k < n) (hn1 : n ≤ 1000000) (hm : m = a + k) : 0 < k ∧ m ≤ 2000000 ∧ n < a + 2 * k ∧ k2 ≤ 2000000 := by
  refine ⟨?_, ?_, ?_, ?_⟩ <;> omega
theorem st_e2 (a k n m : Nat) (hm : m = a + k) (h : m < n) (h3 : n < a + 2 * k) : k < n - a ∧ n - a < 2 * k ∧ k + (n - a - k) ≤ n ∧ 0 < n - a - k ∧ n = a + k + (n - a - k) := by
  refine ⟨?_, ?_, ?_, ?_, ?_⟩ <;> omega
theorem st_e3 (a k n m : Nat) (hm : m = a + k) (h : ¬ m < n) : n - a ≤ k := by omega
theorem st_n1 (a k n : Nat) (hk : k ≤ 1000000) (hn : n ≤ 1000000) (h : a + k ≤ n) : a + k + k ≤ 3000000 := by omega
set_option maxRecDepth 100000 in
set_option maxHeartbeats 16000000 in
theorem stable_any (L : List Th) (W0 W : World) (base g n cap : Nat) (hn : n ≤ 1000000) (h : SR thT W0 W base g n cap L) :
    Calls Try.prog 47 #[.slice (some ⟨g, 0, none⟩) n cap, .int .i64 (n : Nat), .func (.func 30) #[] #[]] W fun e W' => e = .returned (.tuple #[]) ∧ SR thT W0 W' base g n cap (Sta.srt thLe L) := by
  have hlen := h.len
  have Hlen := Lib.hid hlen
  have Hn := Lib.hid hn
  have H := Lib.hid h
  clear hlen hn h
  go_enter Try.func47, Try.ntmps47
  go_wp2_with fail
  go_loopw [7, 8] (fun u v wr => ∃ (a b : Nat) (done : List Th), u = .int .i64 (a : Nat) ∧ v = .int .i64 (b : Nat) ∧ Hid (b = a + 20) ∧ Hid (done.length = a) ∧ Hid (a ≤ n) ∧ Hid (Sta.chop thLe 20 L = done ++ Sta.chop thLe 20 (L.drop a)) ∧ SR thT W0 wr base g n cap (done ++ L.drop a)) (fun _ v _ => n + 20 - (intOf v).toNat)
  case atStart => exact ⟨0, 20, [], rfl, rfl, rfl, rfl, Nat.zero_le _, by show _ = _; simp, by simpa using H.out⟩
  case round =>
    obtain ⟨a, b, done, rfl, rfl, hb, hd, ha, hch, hr⟩ := hrel
    by_cases hlt : b ≤ n
    · have x1 : (b : Int) ≤ (n : Int) := by omega
      have hdl : (L.drop a).length = n - a := by rw [List.length_drop, Hlen.out]
      have k1 : 20 ≤ (L.drop a).length := by rw [hdl]; have := hb.out; omega
      have hst := insert_any done ((L.drop a).take 20) ((L.drop a).drop 20) a b W0 wr base g n cap Hn.out hd.out.symm (by rw [hd.out, List.length_take, Nat.min_eq_left k1]; exact hb.out) (by rw [List.take_append_drop]; exact hr)
      have hch2 : Sta.chop thLe 20 L = (done ++ Sta.srt thLe ((L.drop a).take 20)) ++ Sta.chop thLe 20 (L.drop b) := by
        rw [hch.out, Sta.chop_yes thLe 20 (L.drop a) (by decide) k1, List.drop_drop, hb.out, List.append_assoc]
      have hd2 : (done ++ Sta.srt thLe ((L.drop a).take 20)).length = b := by
        rw [List.length_append, Sta.srt_len, List.length_take, Nat.min_eq_left k1, hd.out, hb.out]
      have hdr : (L.drop a).drop 20 = L.drop b := by rw [List.drop_drop, hb.out]
      rw [hdr] at hst
      have Hst := Lib.hid hst
      have Hch2 := Lib.hid hch2
      have Hd2 := Lib.hid hd2
      have Hbn := Lib.hid hlt
      obtain ⟨b2, hb2⟩ : ∃ b2, b2 = b + 20 := ⟨_, rfl⟩
      have w1 : wrap64 ((b : Int) + 20) = (b2 : Int) := w_add b 20 b2 2000000 hb2 (by have := Hn.out; omega) (by decide)
      have Hb2 := Lib.hid hb2
      clear hst hch2 hd2 hdr k1 hdl hr hb2 hlt
      go_wp2_with fail
      refine Hst.out.mono ?_
      rintro e W2 ⟨rfl, hr2⟩
      go_wp2_with fail
      go_roundw
      case rel => exact ⟨b, b2, _, rfl, by first | rfl | rw [w1], Hb2.out, Hd2.out, Hbn.out, Hch2.out, by rw [List.append_assoc]; exact hr2⟩
      case measure =>
        first | rw [w1] | skip
        simp only [intOf, Int.toNat_natCast]
        have := Hb2.out
        have := Hbn.out
        omega
    · have x1 : ¬ (b : Int) ≤ (n : Int) := by omega
      have hdl : (L.drop a).length = n - a := by rw [List.length_drop, Hlen.out]
      have hst := insert_any done (L.drop a) [] a n W0 wr base g n cap Hn.out hd.out.symm (by rw [hd.out, hdl]; have := ha.out; omega) (by simpa using hr)
      have hch2 : Sta.chop thLe 20 L = done ++ (Sta.srt thLe (L.drop a) ++ []) := by
        rw [hch.out, Sta.chop_no thLe 20 (L.drop a) (by rw [hdl]; have := hb.out; have := ha.out; omega), List.append_nil]
      rw [← hch2] at hst
      have Hst := Lib.hid hst
      clear hst hch2 hdl hr hlt
      go_wp2_with fail
      refine Hst.out.mono ?_
      rintro e W2 ⟨rfl, hr2⟩
      clear x1
      go_wp2_with fail
      go_loopw [6] (fun u ws => ∃ k : Nat, u = .int .i64 (k : Nat) ∧ 20 ≤ k ∧ k ≤ 2000000 ∧ SR thT W0 ws base g n cap (Sta.chop thLe k L)) (fun u _ => 2000000 - (intOf u).toNat)
      case atStart => exact ⟨20, rfl, by decide, by decide, hr2⟩
      case round =>
        obtain ⟨k, rfl, hk1, hk2, hr3⟩ := hrel
        by_cases hlt : k < n
        · have x2 : (k : Int) < (n : Int) := by omega
          obtain ⟨k2, hk2'⟩ : ∃ k2, k2 = 2 * k := ⟨_, rfl⟩
          have w2 : wrap64 (2 * (k : Int)) = (k2 : Int) := by rw [IntWalk.wrap64_in (2 * (k : Int)) (by omega), hk2']; omega
          have w2' : wrap64 ((k : Int) * 2) = (k2 : Int) := by rw [Int.mul_comm]; exact w2
          have Hk2 := Lib.hid hk2'
          have Hk1 := Lib.hid hk1
          have Hkn := Lib.hid hlt
          clear hk2' hlt
          go_wp2_with fail
          go_loopw [7, 8] (fun u v ws => ∃ (a b : Nat) (done : List Th), u = .int .i64 (a : Nat) ∧ v = .int .i64 (b : Nat) ∧ Hid (b = a + k2) ∧ Hid (done.length = a) ∧ Hid (a ≤ n) ∧ Hid (Sta.chop thLe k2 L = done ++ Sta.chop thLe k2 (L.drop a)) ∧ SR thT W0 ws base g n cap (done ++ Sta.chop thLe k (L.drop a))) (fun _ v _ => n + k2 - (intOf v).toNat)
          case atStart => exact ⟨0, k2, [], rfl, by first | rfl | rw [w2] | (rw [Hk2.out]; simp), by show _ = _; omega, rfl, Nat.zero_le _, by show _ = _; simp, by simpa using hr3⟩
          case round =>
            obtain ⟨a, b, done, rfl, rfl, hb, hd, ha, hch, hr⟩ := hrel
            by_cases hlt : b ≤ n
            · have x3 : (b : Int) ≤ (n : Int) := by omega
              have hdl : (L.drop a).length = n - a := by rw [List.length_drop, Hlen.out]
              obtain ⟨m, hm⟩ : ∃ m, m = a + k := ⟨_, rfl⟩
              obtain ⟨f1, f2, f3, f4, f5⟩ := st_two a b k k2 n m hb.out Hk2.out Hk1.out hlt hm
              obtain ⟨A, B, hA, hB, uA, uB, e1, e2⟩ := Sta.chop_two thLe thLe_trans thLe_total k (L.drop a) f1 (by rw [hdl]; exact f2)
              have hdr : (L.drop a).drop (2 * k) = L.drop b := by rw [List.drop_drop, ← Hk2.out, hb.out]
              rw [hdr] at e1 e2
              rw [← Hk2.out] at e2
              rw [e1] at hr
              have hst := symMerge_any (2 * k) done A B (Sta.chop thLe k (L.drop b)) (by rw [hA, hB]; omega) (by rw [hA]; exact f1) (by rw [hB]; exact f1) uA uB a m b W0 wr base g n cap Hn.out hd.out.symm (by rw [hd.out, hA]; exact hm) (by rw [hd.out, hA, hB]; exact f3) (by simpa using hr)
              have hch2 : Sta.chop thLe k2 L = (done ++ Sta.mg thLe A B) ++ Sta.chop thLe k2 (L.drop b) := by rw [hch.out, e2, List.append_assoc]
              have hd2 : (done ++ Sta.mg thLe A B).length = b := by rw [List.length_append, Sta.mg_len, hd.out, hA, hB, f3]; omega
              have Hst := Lib.hid hst
              have Hch2 := Lib.hid hch2
              have Hd2 := Lib.hid hd2
              have Hbn := Lib.hid hlt
              obtain ⟨b2, hb2⟩ : ∃ b2, b2 = b + k2 := ⟨_, rfl⟩
              have w3 := w_add a k m 3000000 hm (Nat.le_trans f4 (by have := Hn.out; omega)) (by decide)
              have w4 := w_add b k2 b2 4000000 hb2 (f5 b2 hb2 Hn.out) (by decide)
              have w4' : wrap64 ((b : Int) + 2 * (k : Int)) = (b2 : Int) := by
                have e : (2 * (k : Int)) = (k2 : Int) := by rw [Hk2.out]; simp
                rw [e]; exact w4
              have W4 := Lib.hid w4
              have W4' := Lib.hid w4'
              clear w4 w4'
              have Hb2 := Lib.hid hb2
              have Hf1 := Lib.hid f1
              clear hst hch2 hd2 hdr hdl hr hb2 hlt e1 e2 hA hB uA uB f1 f2 f3 f4 f5 hm
              go_wp2_with fail
              refine Hst.out.mono ?_
              rintro e W3 ⟨rfl, hr4⟩
              go_wp2_with fail
              go_roundw
              case rel => exact ⟨b, b2, _, rfl, by first | rfl | rw [W4.out] | rw [W4'.out], Hb2.out, Hd2.out, Hbn.out, Hch2.out, by rw [List.append_assoc]; exact hr4⟩
              case measure =>
                first | rw [W4.out] | rw [W4'.out] | skip
                simp only [intOf, Int.toNat_natCast]
                have := Hb2.out
                have := Hbn.out
                have := Hk2.out
                have := Hf1.out
                omega
            · have x3 : ¬ (b : Int) ≤ (n : Int) := by omega
              have hdl : (L.drop a).length = n - a := by rw [List.length_drop, Hlen.out]
              obtain ⟨m, hm⟩ : ∃ m, m = a + k := ⟨_, rfl⟩
              obtain ⟨f1, f2, f3, f4⟩ := st_end a b k k2 n m hb.out Hk2.out Hk1.out hlt ha.out Hkn.out Hn.out hm
              have w3 := w_add a k m 2000000 hm f2 (by decide)
              have Hf4 := Lib.hid f4
              by_cases hmn : m < n
              · have x4 : (m : Int) < (n : Int) := Int.ofNat_lt.2 hmn
                obtain ⟨z1, z2, z3, z4, z5⟩ := st_e2 a k n m hm hmn f3
                obtain ⟨A, B, hA, hB, uA, uB, e1, e2⟩ := Sta.chop_end thLe thLe_trans thLe_total k (L.drop a) f1 (by rw [hdl]; exact z1) (by rw [hdl]; exact z2)
                rw [hdl] at hB
                rw [← Hk2.out] at e2
                rw [e1] at hr
                have hst := symMerge_any n done A B [] (by rw [hA, hB]; exact z3) (by rw [hA]; exact f1) (by rw [hB]; exact z4) uA uB a m n W0 wr base g n cap Hn.out hd.out.symm (by rw [hd.out, hA]; exact hm) (by rw [hd.out, hA, hB]; exact z5) (by simpa using hr)
                have hch2 : Sta.chop thLe k2 L = done ++ (Sta.mg thLe A B ++ []) := by rw [hch.out, e2]; simp
                rw [← hch2] at hst
                have Hst := Lib.hid hst
                clear hst hch2 hdl hr hlt e1 e2 hA hB uA uB f1 f2 f3 f4 hm hmn z1 z2 z3 z4 z5
                go_wp2_with fail
                refine Hst.out.mono ?_
                rintro e W3 ⟨rfl, hr4⟩
                go_wp2_with fail
                go_roundw
                case rel => exact ⟨k2, by first | rfl | rw [w2'] | (rw [Hk2.out]; simp [Int.mul_comm]), by have := Hk2.out; have := Hk1.out; omega, Hf4.out, hr4⟩
                case measure =>
                  first | rw [w2'] | skip
                  simp only [intOf, Int.toNat_natCast]
                  have := Hk2.out
                  have := Hk1.out
                  have := Hf4.out
                  have := Hkn.out
                  have := Hn.out
                  omega
              · have x4 : ¬ (m : Int) < (n : Int) := fun h => hmn (Int.ofNat_lt.1 h)
                have e1 := Sta.chop_rest thLe k (L.drop a) (by rw [hdl]; exact st_e3 a k n m hm hmn)
                rw [← Hk2.out] at e1
                have hr4 := hr
                rw [e1, ← hch.out] at hr4
                have Hr4 := Lib.hid hr4
                clear hr4 hdl hr hlt e1 f1 f2 f3 f4 hm hmn
                go_wp2_with fail
                go_roundw
                case rel => exact ⟨k2, by first | rfl | rw [w2'] | (rw [Hk2.out]; simp [Int.mul_comm]), by have := Hk2.out; have := Hk1.out; omega, Hf4.out, Hr4.out⟩
                case measure =>
                  first | rw [w2'] | skip
                  simp only [intOf, Int.toNat_natCast]
                  have := Hk2.out
                  have := Hk1.out
                  have := Hf4.out
                  have := Hkn.out
                  have := Hn.out
                  omega
        · have x2 : ¬ (k : Int) < (n : Int) := by omega
          rw [Sta.chop_all thLe k L (by rw [Hlen.out]; omega)] at hr3
          clear hlt
          go_wp2_with fail
          refine bodyPost_end (results_none rfl _ _ _) rfl ?_
          exact ⟨rfl, hr3⟩
end Go.Proofs.Ytadghaiengonoaa
