/- slots: a merge in place, the whole. No statement of the seat is proved here. -/
import Derived.Test.YtadghaiengonoaaTm3
namespace Go.Proofs.Ytadghaiengonoaa
set_option linter.unusedVariables false
set_option linter.unusedSimpArgs false
set_option linter.unusedSectionVars false
open Go Go.RowKit
set_option maxRecDepth 1000000 in
set_option maxHeartbeats 32000000 in
theorem symMerge_gen (P A B Q : List Th) (hA2 : 2 ≤ A.length) (hB2 : 2 ≤ B.length) (hA : thUp A) (hB : thUp B)
    (ih : ∀ P' A' B' Q', A'.length + B'.length < A.length + B.length → 0 < A'.length → 0 < B'.length → thUp A' → thUp B' → SymOk P' A' B' Q') : SymOk P A B Q := by
  intro a m b W0 W base g n cap hn ha hm hb h
  have hlen := h.len
  simp only [List.length_append] at hlen
  obtain ⟨la, hla⟩ : ∃ la, la = A.length := ⟨_, rfl⟩
  obtain ⟨lb, hlb⟩ : ∃ lb, lb = B.length := ⟨_, rfl⟩
  rw [← hla, ← hlb] at hlen
  obtain ⟨md, n0, p, s0, r0, hG⟩ := gen_all a m b la lb n P.length Q.length ha (by rw [hla]; exact hm) (by rw [hla, hlb]; exact hb) (by rw [hla]; exact hA2) (by rw [hlb]; exact hB2) hlen hn
  have HG := Lib.hid hG
  have w1 := hG.w1
  have w2 := hG.w2
  have w3 := hG.w3
  have w4 := hG.w4
  have c1 := hG.c1
  have c2 := hG.c2
  have Ha := Lib.hid ha
  have Hm := Lib.hid hm
  have Hb := Lib.hid hb
  have Hla := Lib.hid hla
  have Hlb := Lib.hid hlb
  have Hlen := Lib.hid hlen
  have Hn := Lib.hid hn
  have HA := Lib.hid hA
  have HB := Lib.hid hB
  have H := Lib.hid h
  clear hlen hla hlb ha hm hb hn hA hB h hA2 hB2 hG
  go_enter Try.func58, Try.ntmps58
  go_upto_region 24 with fail
  obtain ⟨-, -, hmid, -, -, bi, bj⟩ := HG.out.mb
  go_cut [18] (fun v wx => v = .int .i64 (md : Nat) ∧ wx = W)
  case first =>
    obtain ⟨ij, m1, m2, m3, m4⟩ := mid_facts a b md bi bj hmid
    clear bi bj hmid
    go_wp2_with fail
    go_meet
    exact ⟨rfl, rfl⟩
  case rest =>
    obtain ⟨rfl, hwc⟩ := hcut
    have hwc2 := hwc.symm
    clear hwc
    subst hwc2
    clear w1 w2 c1 c2 bi bj hmid
    go_upto_if 140 with fail
    go_cut [19, 20, 21] (fun z u v wx => z = .int .i64 (n0 : Nat) ∧ u = .int .i64 (s0 : Nat) ∧ v = .int .i64 (r0 : Nat) ∧ wx = W)
    case first =>
      rcases HG.out.h0 with ⟨x1, x2, x3⟩ | ⟨x1, x2, x3⟩
      · have w5 := HG.out.w5 x1
        have c3 : (md : Int) < (m : Int) := by omega
        subst x3
        clear x1 x2
        go_wp2_with fail
        go_meet
        exact ⟨by first | rfl | rw [w3], by first | rfl | rw [w5], rfl, rfl⟩
      · have c3 : ¬ (md : Int) < (m : Int) := by omega
        subst x2
        subst x3
        clear x1
        go_wp2_with fail
        go_meet
        exact ⟨by first | rfl | rw [w3], rfl, rfl, rfl⟩
    case rest =>
      obtain ⟨rfl, rfl, rfl, hwc⟩ := hcut
      have hwc2 := hwc.symm
      clear hwc
      subst hwc2
      clear w3
      go_upto_region 32 with fail
      go_cut [22] (fun v wx => v = .int .i64 (p : Nat) ∧ wx = W)
      case first =>
        go_wp2_with fail
        go_meet
        exact ⟨by first | rfl | rw [w4], rfl⟩
      case rest =>
        obtain ⟨rfl, hwc⟩ := hcut
        have hwc2 := hwc.symm
        clear hwc
        subst hwc2
        clear w4
        go_wp2_with fail
        go_loopw [20, 21] (fun u v wr => ∃ (st rr : Nat), u = .int .i64 (st : Nat) ∧ v = .int .i64 (rr : Nat) ∧ s0 ≤ st ∧ st ≤ rr ∧ rr ≤ r0 ∧ Hid (∀ c, s0 ≤ c → c < st → thLe (A.getD (c - a) th0) (B.getD (p - c - m) th0) = true) ∧ Hid (∀ c, rr ≤ c → c < r0 → thLe (A.getD (c - a) th0) (B.getD (p - c - m) th0) = false) ∧ SR thT W0 wr base g n cap (P ++ (A ++ (B ++ Q)))) (fun u v _ => (intOf v).toNat - (intOf u).toNat)
        case atStart => exact ⟨s0, r0, rfl, rfl, Nat.le_refl _, HG.out.nums.1, Nat.le_refl _, fun c h1 h2 => by omega, fun c h1 h2 => by omega, H.out⟩
        case round =>
          obtain ⟨st, rr, rfl, rfl, hs1, hs2, hs3, hlo, hhi, hr⟩ := hrel
          by_cases hlt : st < rr
          · obtain ⟨c, hmid⟩ : ∃ c, c = (st + rr) / 2 := ⟨_, rfl⟩
            have bi : st ≤ 1000000 := by have := HG.out.nums.2.1; omega
            have bj : rr ≤ 1000000 := by have := HG.out.nums.2.1; omega
            have hcs : st ≤ c ∧ c < rr := by omega
            have Hcs := Lib.hid hcs
            have x1 : (st : Int) < (rr : Int) := by omega
            obtain ⟨g1, g2, g3, g4, g5, g6, g7⟩ := HG.out.cc c (by omega) (by omega)
            have Hg := Lib.hid (⟨g1, g2, g3, g4, g5, g6, g7⟩ : a ≤ c ∧ c < m ∧ c - a < la ∧ m ≤ p - c ∧ p - c < b ∧ p - c - m < lb ∧ c ≤ p)
            clear hcs hlt g1 g2 g3 g4 g5 g6 g7
            go_upto_region 34 with fail
            go_cut [23] (fun v wx => v = .int .i64 (c : Nat) ∧ wx = wr)
            case first =>
              obtain ⟨ij, m1, m2, m3, m4⟩ := mid_facts st rr c bi bj hmid
              clear bi bj hmid
              go_wp2_with fail
              go_meet
              exact ⟨rfl, rfl⟩
            case rest =>
              obtain ⟨rfl, hwc⟩ := hcut
              have hwc2 := hwc.symm
              clear hwc
              subst hwc2
              clear bi bj hmid
              obtain ⟨g1, g2, g3, g4, g5, g6, g7⟩ := Hg.out
              obtain ⟨pc, hpc⟩ : ∃ pc, pc = p - c := ⟨_, rfl⟩
              have hDn := hr.len
              obtain ⟨D, hD⟩ : ∃ D, D = P ++ (A ++ (B ++ Q)) := ⟨_, rfl⟩
              have hbn := HG.out.nums.2.2.1
              have hC : c < D.length := by rw [hD, hDn]; exact Nat.lt_of_lt_of_le (Nat.lt_trans g2 (Nat.lt_of_le_of_lt g4 g5)) hbn
              have hPC : pc < D.length := by rw [hD, hDn, hpc]; exact Nat.lt_of_lt_of_le g5 hbn
              have atC : D[c] = A.getD (c - a) th0 := by
                rw [getD_of A (c - a) (by rw [← Hla.out]; exact g3)]
                have e1 : c = P.length + (c - a) := by rw [← Ha.out]; exact (Nat.add_sub_cancel' g1).symm
                have e2 : ∀ (i : Nat) (hi : i < D.length), i = P.length + (c - a) → D[i] = A[c - a]'(by rw [← Hla.out]; exact g3) := fun i hi e => by
                  subst e
                  subst hD
                  exact app_A P A (B ++ Q) (c - a) (by rw [← Hla.out]; exact g3) hi
                exact e2 c hC e1
              have atPC : D[pc] = B.getD (p - c - m) th0 := by
                rw [getD_of B (p - c - m) (by rw [← Hlb.out]; exact g6)]
                have e1 : pc = P.length + A.length + (p - c - m) := by rw [← Hm.out, hpc]; exact (Nat.add_sub_cancel' g4).symm
                have e2 : ∀ (i : Nat) (hi : i < D.length), i = P.length + A.length + (p - c - m) → D[i] = B[p - c - m]'(by rw [← Hlb.out]; exact g6) := fun i hi e => by
                  subst e
                  subst hD
                  exact app_B P A B Q (p - c - m) (by rw [← Hlb.out]; exact g6) hi
                exact e2 pc hPC e1
              obtain ⟨e1, e2⟩ := i_lt (n := n) hC (by rw [hD]; exact hDn)
              obtain ⟨e3, e4⟩ := i_lt (n := n) hPC (by rw [hD]; exact hDn)
              have w6 : wrap64 ((p : Int) - (c : Int)) = (pc : Int) := w_sub p c pc 2000000 (by rw [hpc]; exact (Nat.sub_add_cancel g7).symm) (by have := HG.out.nums; omega) (by decide)
              have w6i := wi_of w6
              have hr2 := hr
              rw [← hD] at hr2
              obtain ⟨xa, hxa⟩ : ∃ xa, xa = A.getD (c - a) th0 := ⟨_, rfl⟩
              obtain ⟨yb, hyb⟩ : ∃ yb, yb = B.getD (p - c - m) th0 := ⟨_, rfl⟩
              rw [← hxa] at atC
              rw [← hyb] at atPC
              have hld : ∀ W', Below wr.heap.size wr W' → (Instr.loadAt 30 (.pointer (some ⟨g, pc * 3, none⟩))).run Try.prog W' = .ok (thVal yb) W' ∧ (Instr.loadAt 30 (.pointer (some ⟨g, c * 3, none⟩))).run Try.prog W' = .ok (thVal xa) W' := fun W' hb => by
                have h2 := hr2.below hb
                have a1 := ld_th h2 pc hPC
                have a2 := ld_th h2 c hC
                rw [atPC] at a1
                rw [atC] at a2
                exact ⟨a1, a2⟩
              have Hld := Lib.hid hld
              have Hr := Lib.hid hr
              have Hxa := Lib.hid hxa
              have Hyb := Lib.hid hyb
              have Hw := Lib.hid (w_one c 1000000 (by have := HG.out.nums.2.1; have := Hcs.out; omega) (by decide))
              have Hs1 := Lib.hid hs1
              have Hs2 := Lib.hid hs2
              have Hs3 := Lib.hid hs3
              clear hDn hD hC hPC atC atPC hr2 hr hxa hyb hld x1 g1 g2 g3 g4 g5 g6 g7 hpc hbn hs1 hs2 hs3
              obtain ⟨o, ho⟩ : ∃ o, o = orderN yb xa := ⟨_, rfl⟩
              have hord := fun W => order_any yb xa W
              rw [← ho] at hord
              have Hox := Lib.hid hord
              have Ho := Lib.hid ho
              clear ho hord
              go_upto_region 35 with fail
              go_cut [171] (fun v wx => v = .bool (!decide (o < 0)) ∧ Below wr.heap.size wr wx)
              case first =>
                have hSd := Hld.out wr.drew (Below.refl _ _).drew
                refine wp_region_held_drew (S := fun W' => (Instr.loadAt 30 (.pointer (some ⟨g, pc * 3, none⟩))).run Try.prog W' = .ok (thVal yb) W' ∧ (Instr.loadAt 30 (.pointer (some ⟨g, c * 3, none⟩))).run Try.prog W' = .ok (thVal xa) W') (by kernel_rfl) hSd (fun hHeld => ?_)
                refine wpAnyH_take (i := 0) (v := ?_) rfl (by kernel_rfl) (by kernel_rfl) (by kernel_rfl) (fun _ _ _ h => h) (Or.inl ⟨by rfl, ?_⟩) (by assumption) ?_
                rotate_left
                · intro w8 hSw; clear hSw; go_simp; (try with_reducible rfl)
                simp only [Act.put, List.getElem_toArray, List.getElem_cons_zero, List.getElem_cons_succ, List.setIfInBounds_toArray, List.set_cons_zero, List.set_cons_succ]
                refine wpAnyH_take (i := 1) (v := ?_) rfl (by kernel_rfl) (by kernel_rfl) (by kernel_rfl) (fun _ _ _ h => h) (Or.inl ⟨by rfl, ?_⟩) (by assumption) ?_
                rotate_left
                · intro w8 hSw; clear hSw; go_simp; (try with_reducible rfl)
                simp only [Act.put, List.getElem_toArray, List.getElem_cons_zero, List.getElem_cons_succ, List.setIfInBounds_toArray, List.set_cons_zero, List.set_cons_succ]
                refine wpAnyH_take (i := 2) (v := ?_) rfl (by kernel_rfl) (by kernel_rfl) (by kernel_rfl) (fun _ _ _ h => h) (Or.inl ⟨by rfl, ?_⟩) (by assumption) ?_
                rotate_left
                · intro w8 hSw; clear hSw; go_simp; (try with_reducible rfl)
                simp only [Act.put, List.getElem_toArray, List.getElem_cons_zero, List.getElem_cons_succ, List.setIfInBounds_toArray, List.set_cons_zero, List.set_cons_succ]
                refine wpAnyH_take (i := 3) (v := ?_) rfl (by kernel_rfl) (by kernel_rfl) (by kernel_rfl) (fun _ _ _ h => h) (Or.inl ⟨by rfl, ?_⟩) (by assumption) ?_
                rotate_left
                · intro w8 hSw; clear hSw; go_simp; (try with_reducible rfl)
                simp only [Act.put, List.getElem_toArray, List.getElem_cons_zero, List.getElem_cons_succ, List.setIfInBounds_toArray, List.set_cons_zero, List.set_cons_succ]
                refine wpAnyH_take (i := 4) (v := ?_) rfl (by kernel_rfl) (by kernel_rfl) (by kernel_rfl) (fun _ _ _ h => h) (Or.inl ⟨by rfl, ?_⟩) (by assumption) ?_
                rotate_left
                · intro w8 hSw; clear hSw; go_simp; (try with_reducible rfl)
                simp only [Act.put, List.getElem_toArray, List.getElem_cons_zero, List.getElem_cons_succ, List.setIfInBounds_toArray, List.set_cons_zero, List.set_cons_succ]
                refine wpAnyH_take (i := 5) (v := ?_) rfl (by kernel_rfl) (by kernel_rfl) (by kernel_rfl) (fun _ _ _ h => h) (Or.inl ⟨by rfl, ?_⟩) (by assumption) ?_
                rotate_left
                · intro w8 hSw; clear hSw; go_simp; (try with_reducible rfl)
                simp only [Act.put, List.getElem_toArray, List.getElem_cons_zero, List.getElem_cons_succ, List.setIfInBounds_toArray, List.set_cons_zero, List.set_cons_succ]
                refine wpAnyH_take (i := 6) (v := thVal yb) rfl (by kernel_rfl) (by kernel_rfl) (by kernel_rfl) (fun _ _ _ h => h) (Or.inl ⟨by rfl, ?_⟩) (by assumption) ?_
                · intro w8 hSw; exact ld_takeT rfl hSw.1 rfl
                simp only [Act.put, List.getElem_toArray, List.getElem_cons_zero, List.getElem_cons_succ, List.setIfInBounds_toArray, List.set_cons_zero, List.set_cons_succ]
                refine wpAnyH_take (i := 7) (v := ?_) rfl (by kernel_rfl) (by kernel_rfl) (by kernel_rfl) (fun _ _ _ h => h) (Or.inl ⟨by rfl, ?_⟩) (by assumption) ?_
                rotate_left
                · intro w8 hSw; clear hSw; go_simp; (try with_reducible rfl)
                simp only [Act.put, List.getElem_toArray, List.getElem_cons_zero, List.getElem_cons_succ, List.setIfInBounds_toArray, List.set_cons_zero, List.set_cons_succ]
                refine wpAnyH_take (i := 8) (v := ?_) rfl (by kernel_rfl) (by kernel_rfl) (by kernel_rfl) (fun _ _ _ h => h) (Or.inl ⟨by rfl, ?_⟩) (by assumption) ?_
                rotate_left
                · intro w8 hSw; clear hSw; go_simp; (try with_reducible rfl)
                simp only [Act.put, List.getElem_toArray, List.getElem_cons_zero, List.getElem_cons_succ, List.setIfInBounds_toArray, List.set_cons_zero, List.set_cons_succ]
                refine wpAnyH_take (i := 9) (v := ?_) rfl (by kernel_rfl) (by kernel_rfl) (by kernel_rfl) (fun _ _ _ h => h) (Or.inl ⟨by rfl, ?_⟩) (by assumption) ?_
                rotate_left
                · intro w8 hSw; clear hSw; go_simp; (try with_reducible rfl)
                simp only [Act.put, List.getElem_toArray, List.getElem_cons_zero, List.getElem_cons_succ, List.setIfInBounds_toArray, List.set_cons_zero, List.set_cons_succ]
                refine wpAnyH_take (i := 10) (v := thVal xa) rfl (by kernel_rfl) (by kernel_rfl) (by kernel_rfl) (fun _ _ _ h => h) (Or.inl ⟨by rfl, ?_⟩) (by assumption) ?_
                · intro w8 hSw; exact ld_takeT rfl hSw.2 rfl
                simp only [Act.put, List.getElem_toArray, List.getElem_cons_zero, List.getElem_cons_succ, List.setIfInBounds_toArray, List.set_cons_zero, List.set_cons_succ]
                refine wpAnyH_ready (rs := [11]) (by kernel_rfl) (by simp) ?_
                refine AllReadyH.cons rfl (fun K hK => ?_) AllReadyH.nil
                go_simp
                go_at_call 30
                refine (Hox.out _).mono ?_
                rintro e w5 ⟨rfl, hB5'⟩; have hB5 := below_on ((Below.refl wr.heap.size wr).drew) hB5' (Nat.le_refl _)
                refine hK.out _ _ (Hld.out _ hB5) (fun hHeld => ?_)
                clear hK K
                try simp only [Act.put, List.getElem_toArray, List.getElem_cons_zero, List.getElem_cons_succ, List.setIfInBounds_toArray, List.set_cons_zero, List.set_cons_succ]
                refine wpAnyH_take (i := 12) (v := ?_) rfl (by kernel_rfl) (by kernel_rfl) (by kernel_rfl) (fun _ _ _ h => h) (Or.inl ⟨by rfl, ?_⟩) (by assumption) ?_
                rotate_left
                · intro w8 hSw; clear hSw; go_simp; (try with_reducible rfl)
                simp only [Act.put, List.getElem_toArray, List.getElem_cons_zero, List.getElem_cons_succ, List.setIfInBounds_toArray, List.set_cons_zero, List.set_cons_succ]
                refine wpAnyH_take (i := 13) (v := ?_) rfl (by kernel_rfl) (by kernel_rfl) (by kernel_rfl) (fun _ _ _ h => h) (Or.inl ⟨by rfl, ?_⟩) (by assumption) ?_
                rotate_left
                · intro w8 hSw; clear hSw; go_simp; (try with_reducible rfl)
                simp only [Act.put, List.getElem_toArray, List.getElem_cons_zero, List.getElem_cons_succ, List.setIfInBounds_toArray, List.set_cons_zero, List.set_cons_succ]
                refine wpAnyH_done (by kernel_rfl) ?_ _
                go_wp2_with fail
                go_meet
                exact ⟨rfl, hB5⟩
              case rest =>
                obtain ⟨rfl, hB5⟩ := hcut
                clear Hox Hld
                by_cases hcmp : thLt yb xa = true
                · have hc := (orderN_lt yb xa).2 hcmp
                  rw [← Ho.out] at hc
                  have hv : (!decide (o < 0)) = false := by simp [hc]
                  rw [hv]
                  have hle := (thLe_no xa yb).2 hcmp
                  have Hle := Lib.hid hle
                  clear hcmp hle hv hc
                  go_wp2_with fail
                  go_roundw
                  case rel => exact ⟨st, c, rfl, rfl, Hs1.out, Hcs.out.1, by have := Hcs.out; have := Hs3.out; omega, hlo, (fun c' h1 h2 => by
                    by_cases hcc : rr ≤ c'
                    · exact hhi.out c' hcc h2
                    · have k1 := HG.out.cc c (by have := Hs1.out; have := Hcs.out; omega) (by have := Hs3.out; have := Hcs.out; omega)
                      have k2 := HG.out.cc c' (by have := Hs1.out; have := Hcs.out; omega) h2
                      cases hx : thLe (A.getD (c' - a) th0) (B.getD (p - c' - m) th0) with
                      | false => rfl
                      | true =>
                        have hy := gen_mono A B HA.out HB.out (c - a) (c' - a) (p - c - m) (p - c' - m) (by omega) (by rw [← Hla.out]; omega) (by omega) (by rw [← Hlb.out]; omega) hx
                        rw [← Hxa.out, ← Hyb.out, Hle.out] at hy
                        cases hy), Hr.out.below hB5⟩
                  case measure =>
                    simp only [intOf, Int.toNat_natCast]
                    have := Hcs.out
                    omega
                · have hc : ¬ orderN yb xa < 0 := fun h => hcmp ((orderN_lt yb xa).1 h)
                  rw [← Ho.out] at hc
                  have hv : (!decide (o < 0)) = true := by simp [hc]
                  rw [hv]
                  have hle : thLe xa yb = true := by
                    cases h : thLe xa yb with
                    | true => rfl
                    | false => exact absurd ((thLe_no _ _).1 h) hcmp
                  have Hle := Lib.hid hle
                  clear hcmp hle hv hc
                  go_wp2_with fail
                  go_roundw
                  case rel => exact ⟨c + 1, rr, by first | rfl | rw [Hw.out], rfl, by have := Hs1.out; have := Hcs.out; omega, Hcs.out.2, Hs3.out, (fun c' h1 h2 => by
                    by_cases hcc : c' < st
                    · exact hlo.out c' h1 hcc
                    · have k1 := HG.out.cc c (by have := Hs1.out; have := Hcs.out; omega) (by have := Hs3.out; have := Hcs.out; omega)
                      have k2 := HG.out.cc c' h1 (by have := Hs3.out; have := Hcs.out; omega)
                      refine gen_mono A B HA.out HB.out (c' - a) (c - a) (p - c' - m) (p - c - m) (by omega) (by rw [← Hla.out]; omega) (by omega) (by rw [← Hlb.out]; omega) ?_
                      rw [← Hxa.out, ← Hyb.out]; exact Hle.out), hhi, Hr.out.below hB5⟩
                  case measure =>
                    first | rw [Hw.out] | skip
                    simp only [intOf, Int.toNat_natCast]
                    have := Hcs.out
                    omega
          · obtain rfl : st = rr := by omega
            have x1 : ¬ (st : Int) < (st : Int) := by omega
            rename_i K0 hK0
            have HK := Lib.hid hK0
            clear hK0
            go_wp2_with fail
            refine HK.out _ _ ?_
            exact symMerge_tail P A B Q ih a m b W0 W base g n cap la lb md n0 p s0 r0 HG Ha Hm Hb Hla Hlb Hlen Hn HA HB wr st hs1 hlo hr hs3 hhi _ _ _ _ _ _ _ _ _ _ _ _ _ _ _ _ _ _ _ _ _ _ _ _ _ _ _ _ _ _ _ _ _ _ _ _ _ _ _ _ _ _ _ _ _ _ _ _ _ _ _ _ _ _ _ _ _ _ _ _ _ _ _ _ _ _ _ _ _ _ _ _ _ _ _ _ _ _ _ _ _ _ _ _ _ _ _ _ _ _ _ _ _ _ _ _ _ _ _ _ _ _ _ _ _ _ _ _ _ _ _ _ _ _ _ _ _ _ _ _ _ _ _ _ _ _ _ _ _ _ _ _ _ _ _ _ _ _ _ _ _ _ _ _ _ _ _ _ _ _ _ _ _ _ _ _ _ _ _ _ _ _ _ _ _ _ _ _ _ _ _ _ _ _ _ _ _ _ _ _ _ _ _ _ _ _ _ _ _ _ _ _ _ _ _ _ _ _ _ _ _ _ _ _ _ _ _ _ _ _
theorem symMerge_any : ∀ (k : Nat) (P A B Q : List Th), A.length + B.length ≤ k → 0 < A.length → 0 < B.length → thUp A → thUp B → SymOk P A B Q := by
  intro k
  induction k with
  | zero => intro P A B Q h1 h2; omega
  | succ k ih =>
    intro P A B Q h1 hA0 hB0 hA hB
    by_cases h2 : A.length = 1
    · obtain ⟨x, rfl⟩ := List.length_eq_one_iff.1 h2
      intro a m b W0 W base g n cap hn ha hm hb h
      exact symMerge_one x P B Q a m b W0 W base g n cap hn ha hm hb hB h
    by_cases h3 : B.length = 1
    · obtain ⟨y, rfl⟩ := List.length_eq_one_iff.1 h3
      intro a m b W0 W base g n cap hn ha hm hb h
      exact symMerge_last y P A Q a m b W0 W base g n cap hn ha hm hb (by omega) hA h
    exact symMerge_gen P A B Q (by omega) (by omega) hA hB (fun P' A' B' Q' hl h4 h5 h6 h7 => ih P' A' B' Q' (by omega) h4 h5 h6 h7)
end Go.Proofs.Ytadghaiengonoaa
