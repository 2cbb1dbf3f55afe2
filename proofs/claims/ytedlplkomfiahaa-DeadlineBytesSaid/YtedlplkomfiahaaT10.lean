/- Lemmas for DeadlineBytes (Tm4 Tst Ta Tb Tc Td). No statement of the seat is proved here. -/
import Derived.Maps.OwnSet
import Derived.Maps.OwnOps
import Derived.Carry
import Derived.Test.YtedlplkomfiahaaT9
namespace Go.Proofs.Ytedlplkomfiahaa
set_option linter.unusedVariables false
set_option linter.unusedSimpArgs false
set_option linter.unusedSectionVars false
open Go Go.RowKit
set_option maxRecDepth 1000000 in
set_option maxHeartbeats 32000000 in
theorem symMerge_gen (P A B Q : List Th) (hA2 : 2 ≤ A.length) (hB2 : 2 ≤ B.length) (hA : thUp A) (hB : thUp B)
    (ih : ∀ P' A' B' Q', A'.length + B'.length < A.length + B.length → 0 < A'.length → 0 < B'.length → thUp A' → thUp B' → SymOk P' A' B' Q') : SymOk P A B Q := by
  intro a m b W0 W base g n cap hn ha hm hb h
  have hlen := h.len
  simp only [List.length_append] at hlen
  obtain ⟨la, hla⟩ : ∃ la, la = A.length := ⟨_, rfl⟩
  obtain ⟨lb, hlb⟩ : ∃ lb, lb = B.length := ⟨_, rfl⟩
  rw [← hla, ← hlb] at hlen
  obtain ⟨md, n0, p, s0, r0, hG⟩ := gen_all a m b la lb n P.length Q.length ha (by rw [hla]; exact hm) (by rw [hla, hlb]; exact hb) (by rw [hla]; exact hA2) (by rw [hlb]; exact hB2) hlen hn
  have HG := Lib.hid hG
  have w1 := hG.w1
  have w2 := hG.w2
  have w3 := hG.w3
  have w4 := hG.w4
  have c1 := hG.c1
  have c2 := hG.c2
  have Ha := Lib.hid ha
  have Hm := Lib.hid hm
  have Hb := Lib.hid hb
  have Hla := Lib.hid hla
  have Hlb := Lib.hid hlb
  have Hlen := Lib.hid hlen
  have Hn := Lib.hid hn
  have HA := Lib.hid hA
  have HB := Lib.hid hB
  have H := Lib.hid h
  clear hlen hla hlb ha hm hb hn hA hB h hA2 hB2 hG
  go_enter Try.func105, Try.ntmps105
  go_upto_region 24 with fail
  obtain ⟨-, -, hmid, -, -, bi, bj⟩ := HG.out.mb
  go_cut [18] (fun v wx => v = .int .i64 (md : Nat) ∧ wx = W)
  case first =>
    obtain ⟨ij, m1, m2, m3, m4⟩ := mid_facts a b md bi bj hmid
    clear bi bj hmid
    go_wp2_with fail
    go_meet
    exact ⟨rfl, rfl⟩
  case rest =>
    obtain ⟨rfl, hwc⟩ := hcut
    have hwc2 := hwc.symm
    clear hwc
    subst hwc2
    clear w1 w2 c1 c2 bi bj hmid
    go_upto_if 140 with fail
    go_cut [19, 20, 21] (fun z u v wx => z = .int .i64 (n0 : Nat) ∧ u = .int .i64 (s0 : Nat) ∧ v = .int .i64 (r0 : Nat) ∧ wx = W)
    case first =>
      rcases HG.out.h0 with ⟨x1, x2, x3⟩ | ⟨x1, x2, x3⟩
      · have w5 := HG.out.w5 x1
        have c3 : (md : Int) < (m : Int) := by omega
        subst x3
        clear x1 x2
        go_wp2_with fail
        go_meet
        exact ⟨by first | rfl | rw [w3], by first | rfl | rw [w5], rfl, rfl⟩
      · have c3 : ¬ (md : Int) < (m : Int) := by omega
        subst x2
        subst x3
        clear x1
        go_wp2_with fail
        go_meet
        exact ⟨by first | rfl | rw [w3], rfl, rfl, rfl⟩
    case rest =>
      obtain ⟨rfl, rfl, rfl, hwc⟩ := hcut
      have hwc2 := hwc.symm
      clear hwc
      subst hwc2
      clear w3
      go_upto_region 32 with fail
      go_cut [22] (fun v wx => v = .int .i64 (p : Nat) ∧ wx = W)
      case first =>
        go_wp2_with fail
        go_meet
        exact ⟨by first | rfl | rw [w4], rfl⟩
      case rest =>
        obtain ⟨rfl, hwc⟩ := hcut
        have hwc2 := hwc.symm
        clear hwc
        subst hwc2
        clear w4
        go_wp2_with fail
        go_loopw [20, 21] (fun u v wr => ∃ (st rr : Nat), u = .int .i64 (st : Nat) ∧ v = .int .i64 (rr : Nat) ∧ s0 ≤ st ∧ st ≤ rr ∧ rr ≤ r0 ∧ Hid (∀ c, s0 ≤ c → c < st → thLe (A.getD (c - a) th0) (B.getD (p - c - m) th0) = true) ∧ Hid (∀ c, rr ≤ c → c < r0 → thLe (A.getD (c - a) th0) (B.getD (p - c - m) th0) = false) ∧ SR thT W0 wr base g n cap (P ++ (A ++ (B ++ Q)))) (fun u v _ => (intOf v).toNat - (intOf u).toNat)
        case atStart => exact ⟨s0, r0, rfl, rfl, Nat.le_refl _, HG.out.nums.1, Nat.le_refl _, fun c h1 h2 => by omega, fun c h1 h2 => by omega, H.out⟩
        case round =>
          obtain ⟨st, rr, rfl, rfl, hs1, hs2, hs3, hlo, hhi, hr⟩ := hrel
          by_cases hlt : st < rr
          · obtain ⟨c, hmid⟩ : ∃ c, c = (st + rr) / 2 := ⟨_, rfl⟩
            have bi : st ≤ 1000000 := by have := HG.out.nums.2.1; omega
            have bj : rr ≤ 1000000 := by have := HG.out.nums.2.1; omega
            have hcs : st ≤ c ∧ c < rr := by omega
            have Hcs := Lib.hid hcs
            have x1 : (st : Int) < (rr : Int) := by omega
            obtain ⟨g1, g2, g3, g4, g5, g6, g7⟩ := HG.out.cc c (by omega) (by omega)
            have Hg := Lib.hid (⟨g1, g2, g3, g4, g5, g6, g7⟩ : a ≤ c ∧ c < m ∧ c - a < la ∧ m ≤ p - c ∧ p - c < b ∧ p - c - m < lb ∧ c ≤ p)
            clear hcs hlt g1 g2 g3 g4 g5 g6 g7
            go_upto_region 34 with fail
            go_cut [23] (fun v wx => v = .int .i64 (c : Nat) ∧ wx = wr)
            case first =>
              obtain ⟨ij, m1, m2, m3, m4⟩ := mid_facts st rr c bi bj hmid
              clear bi bj hmid
              go_wp2_with fail
              go_meet
              exact ⟨rfl, rfl⟩
            case rest =>
              obtain ⟨rfl, hwc⟩ := hcut
              have hwc2 := hwc.symm
              clear hwc
              subst hwc2
              clear bi bj hmid
              obtain ⟨g1, g2, g3, g4, g5, g6, g7⟩ := Hg.out
              obtain ⟨pc, hpc⟩ : ∃ pc, pc = p - c := ⟨_, rfl⟩
              have hDn := hr.len
              obtain ⟨D, hD⟩ : ∃ D, D = P ++ (A ++ (B ++ Q)) := ⟨_, rfl⟩
              have hbn := HG.out.nums.2.2.1
              have hC : c < D.length := by rw [hD, hDn]; exact Nat.lt_of_lt_of_le (Nat.lt_trans g2 (Nat.lt_of_le_of_lt g4 g5)) hbn
              have hPC : pc < D.length := by rw [hD, hDn, hpc]; exact Nat.lt_of_lt_of_le g5 hbn
              have atC : D[c] = A.getD (c - a) th0 := by
                rw [getD_of A (c - a) (by rw [← Hla.out]; exact g3)]
                have e1 : c = P.length + (c - a) := by rw [← Ha.out]; exact (Nat.add_sub_cancel' g1).symm
                have e2 : ∀ (i : Nat) (hi : i < D.length), i = P.length + (c - a) → D[i] = A[c - a]'(by rw [← Hla.out]; exact g3) := fun i hi e => by
                  subst e
                  subst hD
                  exact app_A P A (B ++ Q) (c - a) (by rw [← Hla.out]; exact g3) hi
                exact e2 c hC e1
              have atPC : D[pc] = B.getD (p - c - m) th0 := by
                rw [getD_of B (p - c - m) (by rw [← Hlb.out]; exact g6)]
                have e1 : pc = P.length + A.length + (p - c - m) := by rw [← Hm.out, hpc]; exact (Nat.add_sub_cancel' g4).symm
                have e2 : ∀ (i : Nat) (hi : i < D.length), i = P.length + A.length + (p - c - m) → D[i] = B[p - c - m]'(by rw [← Hlb.out]; exact g6) := fun i hi e => by
                  subst e
                  subst hD
                  exact app_B P A B Q (p - c - m) (by rw [← Hlb.out]; exact g6) hi
                exact e2 pc hPC e1
              obtain ⟨e1, e2⟩ := i_lt (n := n) hC (by rw [hD]; exact hDn)
              obtain ⟨e3, e4⟩ := i_lt (n := n) hPC (by rw [hD]; exact hDn)
              have w6 : wrap64 ((p : Int) - (c : Int)) = (pc : Int) := w_sub p c pc 2000000 (by rw [hpc]; exact (Nat.sub_add_cancel g7).symm) (by have := HG.out.nums; omega) (by decide)
              have w6i := wi_of w6
              have hr2 := hr
              rw [← hD] at hr2
              obtain ⟨xa, hxa⟩ : ∃ xa, xa = A.getD (c - a) th0 := ⟨_, rfl⟩
              obtain ⟨yb, hyb⟩ : ∃ yb, yb = B.getD (p - c - m) th0 := ⟨_, rfl⟩
              rw [← hxa] at atC
              rw [← hyb] at atPC
              have hld : ∀ W', Below wr.heap.size wr W' → (Instr.loadAt 32 (.pointer (some ⟨g, pc * 3, none⟩))).run Try.prog W' = .ok (thVal yb) W' ∧ (Instr.loadAt 32 (.pointer (some ⟨g, c * 3, none⟩))).run Try.prog W' = .ok (thVal xa) W' := fun W' hb => by
                have h2 := hr2.below hb
                have a1 := ld_th h2 pc hPC
                have a2 := ld_th h2 c hC
                rw [atPC] at a1
                rw [atC] at a2
                exact ⟨a1, a2⟩
              have Hld := Lib.hid hld
              have Hr := Lib.hid hr
              have Hxa := Lib.hid hxa
              have Hyb := Lib.hid hyb
              have Hw := Lib.hid (w_one c 1000000 (by have := HG.out.nums.2.1; have := Hcs.out; omega) (by decide))
              have Hs1 := Lib.hid hs1
              have Hs2 := Lib.hid hs2
              have Hs3 := Lib.hid hs3
              clear hDn hD hC hPC atC atPC hr2 hr hxa hyb hld x1 g1 g2 g3 g4 g5 g6 g7 hpc hbn hs1 hs2 hs3
              obtain ⟨o, ho⟩ : ∃ o, o = orderN yb xa := ⟨_, rfl⟩
              have hord := fun W => order_any yb xa W
              rw [← ho] at hord
              have Hox := Lib.hid hord
              have Ho := Lib.hid ho
              clear ho hord
              go_upto_region 35 with fail
              go_cut [171] (fun v wx => v = .bool (!decide (o < 0)) ∧ Below wr.heap.size wr wx)
              case first =>
                have hSd := Hld.out wr.drew (Below.refl _ _).drew
                refine wp_region_held_drew (S := fun W' => (Instr.loadAt 32 (.pointer (some ⟨g, pc * 3, none⟩))).run Try.prog W' = .ok (thVal yb) W' ∧ (Instr.loadAt 32 (.pointer (some ⟨g, c * 3, none⟩))).run Try.prog W' = .ok (thVal xa) W') (by kernel_rfl) hSd (fun hHeld => ?_)
                refine wpAnyH_take (i := 0) (v := ?_) rfl (by kernel_rfl) (by kernel_rfl) (by kernel_rfl) (fun _ _ _ h => h) (Or.inl ⟨by rfl, ?_⟩) (by assumption) ?_
                rotate_left
                · intro w8 hSw; clear hSw; go_simp; (try with_reducible rfl)
                simp only [Act.put, List.getElem_toArray, List.getElem_cons_zero, List.getElem_cons_succ, List.setIfInBounds_toArray, List.set_cons_zero, List.set_cons_succ]
                refine wpAnyH_take (i := 1) (v := ?_) rfl (by kernel_rfl) (by kernel_rfl) (by kernel_rfl) (fun _ _ _ h => h) (Or.inl ⟨by rfl, ?_⟩) (by assumption) ?_
                rotate_left
                · intro w8 hSw; clear hSw; go_simp; (try with_reducible rfl)
                simp only [Act.put, List.getElem_toArray, List.getElem_cons_zero, List.getElem_cons_succ, List.setIfInBounds_toArray, List.set_cons_zero, List.set_cons_succ]
                refine wpAnyH_take (i := 2) (v := ?_) rfl (by kernel_rfl) (by kernel_rfl) (by kernel_rfl) (fun _ _ _ h => h) (Or.inl ⟨by rfl, ?_⟩) (by assumption) ?_
                rotate_left
                · intro w8 hSw; clear hSw; go_simp; (try with_reducible rfl)
                simp only [Act.put, List.getElem_toArray, List.getElem_cons_zero, List.getElem_cons_succ, List.setIfInBounds_toArray, List.set_cons_zero, List.set_cons_succ]
                refine wpAnyH_take (i := 3) (v := ?_) rfl (by kernel_rfl) (by kernel_rfl) (by kernel_rfl) (fun _ _ _ h => h) (Or.inl ⟨by rfl, ?_⟩) (by assumption) ?_
                rotate_left
                · intro w8 hSw; clear hSw; go_simp; (try with_reducible rfl)
                simp only [Act.put, List.getElem_toArray, List.getElem_cons_zero, List.getElem_cons_succ, List.setIfInBounds_toArray, List.set_cons_zero, List.set_cons_succ]
                refine wpAnyH_take (i := 4) (v := ?_) rfl (by kernel_rfl) (by kernel_rfl) (by kernel_rfl) (fun _ _ _ h => h) (Or.inl ⟨by rfl, ?_⟩) (by assumption) ?_
                rotate_left
                · intro w8 hSw; clear hSw; go_simp; (try with_reducible rfl)
                simp only [Act.put, List.getElem_toArray, List.getElem_cons_zero, List.getElem_cons_succ, List.setIfInBounds_toArray, List.set_cons_zero, List.set_cons_succ]
                refine wpAnyH_take (i := 5) (v := ?_) rfl (by kernel_rfl) (by kernel_rfl) (by kernel_rfl) (fun _ _ _ h => h) (Or.inl ⟨by rfl, ?_⟩) (by assumption) ?_
                rotate_left
                · intro w8 hSw; clear hSw; go_simp; (try with_reducible rfl)
                simp only [Act.put, List.getElem_toArray, List.getElem_cons_zero, List.getElem_cons_succ, List.setIfInBounds_toArray, List.set_cons_zero, List.set_cons_succ]
                refine wpAnyH_take (i := 6) (v := thVal yb) rfl (by kernel_rfl) (by kernel_rfl) (by kernel_rfl) (fun _ _ _ h => h) (Or.inl ⟨by rfl, ?_⟩) (by assumption) ?_
                · intro w8 hSw; exact ld_takeT rfl hSw.1 rfl
                simp only [Act.put, List.getElem_toArray, List.getElem_cons_zero, List.getElem_cons_succ, List.setIfInBounds_toArray, List.set_cons_zero, List.set_cons_succ]
                refine wpAnyH_take (i := 7) (v := ?_) rfl (by kernel_rfl) (by kernel_rfl) (by kernel_rfl) (fun _ _ _ h => h) (Or.inl ⟨by rfl, ?_⟩) (by assumption) ?_
                rotate_left
                · intro w8 hSw; clear hSw; go_simp; (try with_reducible rfl)
                simp only [Act.put, List.getElem_toArray, List.getElem_cons_zero, List.getElem_cons_succ, List.setIfInBounds_toArray, List.set_cons_zero, List.set_cons_succ]
                refine wpAnyH_take (i := 8) (v := ?_) rfl (by kernel_rfl) (by kernel_rfl) (by kernel_rfl) (fun _ _ _ h => h) (Or.inl ⟨by rfl, ?_⟩) (by assumption) ?_
                rotate_left
                · intro w8 hSw; clear hSw; go_simp; (try with_reducible rfl)
                simp only [Act.put, List.getElem_toArray, List.getElem_cons_zero, List.getElem_cons_succ, List.setIfInBounds_toArray, List.set_cons_zero, List.set_cons_succ]
                refine wpAnyH_take (i := 9) (v := ?_) rfl (by kernel_rfl) (by kernel_rfl) (by kernel_rfl) (fun _ _ _ h => h) (Or.inl ⟨by rfl, ?_⟩) (by assumption) ?_
                rotate_left
                · intro w8 hSw; clear hSw; go_simp; (try with_reducible rfl)
                simp only [Act.put, List.getElem_toArray, List.getElem_cons_zero, List.getElem_cons_succ, List.setIfInBounds_toArray, List.set_cons_zero, List.set_cons_succ]
                refine wpAnyH_take (i := 10) (v := thVal xa) rfl (by kernel_rfl) (by kernel_rfl) (by kernel_rfl) (fun _ _ _ h => h) (Or.inl ⟨by rfl, ?_⟩) (by assumption) ?_
                · intro w8 hSw; exact ld_takeT rfl hSw.2 rfl
                simp only [Act.put, List.getElem_toArray, List.getElem_cons_zero, List.getElem_cons_succ, List.setIfInBounds_toArray, List.set_cons_zero, List.set_cons_succ]
                refine wpAnyH_ready (rs := [11]) (by kernel_rfl) (by simp) ?_
                refine AllReadyH.cons rfl (fun K hK => ?_) AllReadyH.nil
                go_simp
                go_at_call 80
                refine (Hox.out _).mono ?_
                rintro e w5 ⟨rfl, hB5'⟩; have hB5 := below_on ((Below.refl wr.heap.size wr).drew) hB5' (Nat.le_refl _)
                refine hK.out _ _ (Hld.out _ hB5) (fun hHeld => ?_)
                clear hK K
                try simp only [Act.put, List.getElem_toArray, List.getElem_cons_zero, List.getElem_cons_succ, List.setIfInBounds_toArray, List.set_cons_zero, List.set_cons_succ]
                refine wpAnyH_take (i := 12) (v := ?_) rfl (by kernel_rfl) (by kernel_rfl) (by kernel_rfl) (fun _ _ _ h => h) (Or.inl ⟨by rfl, ?_⟩) (by assumption) ?_
                rotate_left
                · intro w8 hSw; clear hSw; go_simp; (try with_reducible rfl)
                simp only [Act.put, List.getElem_toArray, List.getElem_cons_zero, List.getElem_cons_succ, List.setIfInBounds_toArray, List.set_cons_zero, List.set_cons_succ]
                refine wpAnyH_take (i := 13) (v := ?_) rfl (by kernel_rfl) (by kernel_rfl) (by kernel_rfl) (fun _ _ _ h => h) (Or.inl ⟨by rfl, ?_⟩) (by assumption) ?_
                rotate_left
                · intro w8 hSw; clear hSw; go_simp; (try with_reducible rfl)
                simp only [Act.put, List.getElem_toArray, List.getElem_cons_zero, List.getElem_cons_succ, List.setIfInBounds_toArray, List.set_cons_zero, List.set_cons_succ]
                refine wpAnyH_done (by kernel_rfl) ?_ _
                go_wp2_with fail
                go_meet
                exact ⟨rfl, hB5⟩
              case rest =>
                obtain ⟨rfl, hB5⟩ := hcut
                clear Hox Hld
                by_cases hcmp : thLt yb xa = true
                · have hc := (orderN_lt yb xa).2 hcmp
                  rw [← Ho.out] at hc
                  have hv : (!decide (o < 0)) = false := by simp [hc]
                  rw [hv]
                  have hle := (thLe_no xa yb).2 hcmp
                  have Hle := Lib.hid hle
                  clear hcmp hle hv hc
                  go_wp2_with fail
                  go_roundw
                  case rel => exact ⟨st, c, rfl, rfl, Hs1.out, Hcs.out.1, by have := Hcs.out; have := Hs3.out; omega, hlo, (fun c' h1 h2 => by
                    by_cases hcc : rr ≤ c'
                    · exact hhi.out c' hcc h2
                    · have k1 := HG.out.cc c (by have := Hs1.out; have := Hcs.out; omega) (by have := Hs3.out; have := Hcs.out; omega)
                      have k2 := HG.out.cc c' (by have := Hs1.out; have := Hcs.out; omega) h2
                      cases hx : thLe (A.getD (c' - a) th0) (B.getD (p - c' - m) th0) with
                      | false => rfl
                      | true =>
                        have hy := gen_mono A B HA.out HB.out (c - a) (c' - a) (p - c - m) (p - c' - m) (by omega) (by rw [← Hla.out]; omega) (by omega) (by rw [← Hlb.out]; omega) hx
                        rw [← Hxa.out, ← Hyb.out, Hle.out] at hy
                        cases hy), Hr.out.below hB5⟩
                  case measure =>
                    simp only [intOf, Int.toNat_natCast]
                    have := Hcs.out
                    omega
                · have hc : ¬ orderN yb xa < 0 := fun h => hcmp ((orderN_lt yb xa).1 h)
                  rw [← Ho.out] at hc
                  have hv : (!decide (o < 0)) = true := by simp [hc]
                  rw [hv]
                  have hle : thLe xa yb = true := by
                    cases h : thLe xa yb with
                    | true => rfl
                    | false => exact absurd ((thLe_no _ _).1 h) hcmp
                  have Hle := Lib.hid hle
                  clear hcmp hle hv hc
                  go_wp2_with fail
                  go_roundw
                  case rel => exact ⟨c + 1, rr, by first | rfl | rw [Hw.out], rfl, by have := Hs1.out; have := Hcs.out; omega, Hcs.out.2, Hs3.out, (fun c' h1 h2 => by
                    by_cases hcc : c' < st
                    · exact hlo.out c' h1 hcc
                    · have k1 := HG.out.cc c (by have := Hs1.out; have := Hcs.out; omega) (by have := Hs3.out; have := Hcs.out; omega)
                      have k2 := HG.out.cc c' h1 (by have := Hs3.out; have := Hcs.out; omega)
                      refine gen_mono A B HA.out HB.out (c' - a) (c - a) (p - c' - m) (p - c - m) (by omega) (by rw [← Hla.out]; omega) (by omega) (by rw [← Hlb.out]; omega) ?_
                      rw [← Hxa.out, ← Hyb.out]; exact Hle.out), hhi, Hr.out.below hB5⟩
                  case measure =>
                    first | rw [Hw.out] | skip
                    simp only [intOf, Int.toNat_natCast]
                    have := Hcs.out
                    omega
          · obtain rfl : st = rr := by omega
            have x1 : ¬ (st : Int) < (st : Int) := by omega
            rename_i K0 hK0
            have HK := Lib.hid hK0
            clear hK0
            go_wp2_with fail
            refine HK.out _ _ ?_
            exact symMerge_tail P A B Q ih a m b W0 W base g n cap la lb md n0 p s0 r0 HG Ha Hm Hb Hla Hlb Hlen Hn HA HB wr st hs1 hlo hr hs3 hhi _ _ _ _ _ _ _ _ _ _ _ _ _ _ _ _ _ _ _ _ _ _ _ _ _ _ _ _ _ _ _ _ _ _ _ _ _ _ _ _ _ _ _ _ _ _ _ _ _ _ _ _ _ _ _ _ _ _ _ _ _ _ _ _ _ _ _ _ _ _ _ _ _ _ _ _ _ _ _ _ _ _ _ _ _ _ _ _ _ _ _ _ _ _ _ _ _ _ _ _ _ _ _ _ _ _ _ _ _ _ _ _ _ _ _ _ _ _ _ _ _ _ _ _ _ _ _ _ _ _ _ _ _ _ _ _ _ _ _ _ _ _ _ _ _ _ _ _ _ _ _ _ _ _ _ _ _ _ _ _ _ _ _ _ _ _ _ _ _ _ _ _ _ _ _ _ _ _ _ _ _ _ _ _ _ _ _ _ _ _ _ _ _ _ _ _ _ _ _ _ _ _ _ _ _ _ _ _ _ _
theorem symMerge_any : ∀ (k : Nat) (P A B Q : List Th), A.length + B.length ≤ k → 0 < A.length → 0 < B.length → thUp A → thUp B → SymOk P A B Q := by
  intro k
  induction k with
  | zero => intro P A B Q h1 h2; omega
  | succ k ih =>
    intro P A B Q h1 hA0 hB0 hA hB
    by_cases h2 : A.length = 1
    · obtain ⟨x, rfl⟩ := List.length_eq_one_iff.1 h2
      intro a m b W0 W base g n cap hn ha hm hb h
      exact symMerge_one x P B Q a m b W0 W base g n cap hn ha hm hb hB h
    by_cases h3 : B.length = 1
    · obtain ⟨y, rfl⟩ := List.length_eq_one_iff.1 h3
      intro a m b W0 W base g n cap hn ha hm hb h
      exact symMerge_last y P A Q a m b W0 W base g n cap hn ha hm hb (by omega) hA h
    exact symMerge_gen P A B Q (by omega) (by omega) hA hB (fun P' A' B' Q' hl h4 h5 h6 h7 => ih P' A' B' Q' (by omega) h4 h5 h6 h7)
end Go.Proofs.Ytedlplkomfiahaa
namespace Go.Proofs.Ytedlplkomfiahaa
set_option linter.unusedVariables false
set_option linter.unusedSimpArgs false
set_option linter.unusedSectionVars false
open Go Go.RowKit
theorem st_two (a b k k2 n m : Nat) (hb : b = a + k2) (h2 : k2 = 2 * k) (hk : 20 ≤ k) (hn : b ≤ n) (hm : m = a + k) : 0 < k ∧ 2 * k ≤ n - a ∧ b = a + k + k ∧ m ≤ 2000000 + n ∧ (∀ b2, b2 = b + k2 → n ≤ 1000000 → b2 ≤ 4000000) := by
  refine ⟨?_, ?_, ?_, ?_, fun b2 h1 h2 => ?_⟩ <;> omega
theorem st_end (a b k k2 n m : Nat) (hb : b = a + k2) (h2 : k2 = 2 * k) (hk : 20 ≤ k) (hn : ¬ b ≤ n) (ha : a ≤ n) (hkn : k < n) (hn1 : n ≤ 1000000) (hm : m = a + k) : 0 < k ∧ m ≤ 2000000 ∧ n < a + 2 * k ∧ k2 ≤ 2000000 := by
  refine ⟨?_, ?_, ?_, ?_⟩ <;> omega
theorem st_e2 (a k n m : Nat) (hm : m = a + k) (h : m < n) (h3 : n < a + 2 * k) : k < n - a ∧ n - a < 2 * k ∧ k + (n - a - k) ≤ n ∧ 0 < n - a - k ∧ n = a + k + (n - a - k) := by
  refine ⟨?_, ?_, ?_, ?_, ?_⟩ <;> omega
theorem st_e3 (a k n m : Nat) (hm : m = a + k) (h : ¬ m < n) : n - a ≤ k := by omega
set_option maxRecDepth 100000 in
set_option maxHeartbeats 16000000 in
theorem stable_any (L : List Th) (W0 W : World) (base g n cap : Nat) (hn : n ≤ 1000000) (h : SR thT W0 W base g n cap L) :
    Calls Try.prog 101 #[.slice (some ⟨g, 0, none⟩) n cap, .int .i64 (n : Nat), .func (.func 80) #[] #[]] W fun e W' => e = .returned (.tuple #[]) ∧ SR thT W0 W' base g n cap (Sta.srt thLe L) := by
  have hlen := h.len
  have Hlen := Lib.hid hlen
  have Hn := Lib.hid hn
  have H := Lib.hid h
  clear hlen hn h
  go_enter Try.func101, Try.ntmps101
  go_wp2_with fail
  go_loopw [7, 8] (fun u v wr => ∃ (a b : Nat) (done : List Th), u = .int .i64 (a : Nat) ∧ v = .int .i64 (b : Nat) ∧ Hid (b = a + 20) ∧ Hid (done.length = a) ∧ Hid (a ≤ n) ∧ Hid (Sta.chop thLe 20 L = done ++ Sta.chop thLe 20 (L.drop a)) ∧ SR thT W0 wr base g n cap (done ++ L.drop a)) (fun _ v _ => n + 20 - (intOf v).toNat)
  case atStart => exact ⟨0, 20, [], rfl, rfl, rfl, rfl, Nat.zero_le _, by show _ = _; simp, by simpa using H.out⟩
  case round =>
    obtain ⟨a, b, done, rfl, rfl, hb, hd, ha, hch, hr⟩ := hrel
    by_cases hlt : b ≤ n
    · have x1 : (b : Int) ≤ (n : Int) := by omega
      have hdl : (L.drop a).length = n - a := by rw [List.length_drop, Hlen.out]
      have k1 : 20 ≤ (L.drop a).length := by rw [hdl]; have := hb.out; omega
      have hst := insert_any done ((L.drop a).take 20) ((L.drop a).drop 20) a b W0 wr base g n cap Hn.out hd.out.symm (by rw [hd.out, List.length_take, Nat.min_eq_left k1]; exact hb.out) (by rw [List.take_append_drop]; exact hr)
      have hch2 : Sta.chop thLe 20 L = (done ++ Sta.srt thLe ((L.drop a).take 20)) ++ Sta.chop thLe 20 (L.drop b) := by
        rw [hch.out, Sta.chop_yes thLe 20 (L.drop a) (by decide) k1, List.drop_drop, hb.out, List.append_assoc]
      have hd2 : (done ++ Sta.srt thLe ((L.drop a).take 20)).length = b := by
        rw [List.length_append, Sta.srt_len, List.length_take, Nat.min_eq_left k1, hd.out, hb.out]
      have hdr : (L.drop a).drop 20 = L.drop b := by rw [List.drop_drop, hb.out]
      rw [hdr] at hst
      have Hst := Lib.hid hst
      have Hch2 := Lib.hid hch2
      have Hd2 := Lib.hid hd2
      have Hbn := Lib.hid hlt
      obtain ⟨b2, hb2⟩ : ∃ b2, b2 = b + 20 := ⟨_, rfl⟩
      have w1 : wrap64 ((b : Int) + 20) = (b2 : Int) := w_add b 20 b2 2000000 hb2 (by have := Hn.out; omega) (by decide)
      have Hb2 := Lib.hid hb2
      clear hst hch2 hd2 hdr k1 hdl hr hb2 hlt
      go_wp2_with fail
      refine Hst.out.mono ?_
      rintro e W2 ⟨rfl, hr2⟩
      go_wp2_with fail
      go_roundw
      case rel => exact ⟨b, b2, _, rfl, by first | rfl | rw [w1], Hb2.out, Hd2.out, Hbn.out, Hch2.out, by rw [List.append_assoc]; exact hr2⟩
      case measure =>
        first | rw [w1] | skip
        simp only [intOf, Int.toNat_natCast]
        have := Hb2.out
        have := Hbn.out
        omega
    · have x1 : ¬ (b : Int) ≤ (n : Int) := by omega
      have hdl : (L.drop a).length = n - a := by rw [List.length_drop, Hlen.out]
      have hst := insert_any done (L.drop a) [] a n W0 wr base g n cap Hn.out hd.out.symm (by rw [hd.out, hdl]; have := ha.out; omega) (by simpa using hr)
      have hch2 : Sta.chop thLe 20 L = done ++ (Sta.srt thLe (L.drop a) ++ []) := by
        rw [hch.out, Sta.chop_no thLe 20 (L.drop a) (by rw [hdl]; have := hb.out; have := ha.out; omega), List.append_nil]
      rw [← hch2] at hst
      have Hst := Lib.hid hst
      clear hst hch2 hdl hr hlt
      go_wp2_with fail
      refine Hst.out.mono ?_
      rintro e W2 ⟨rfl, hr2⟩
      clear x1
      go_wp2_with fail
      go_loopw [6] (fun u ws => ∃ k : Nat, u = .int .i64 (k : Nat) ∧ 20 ≤ k ∧ k ≤ 2000000 ∧ SR thT W0 ws base g n cap (Sta.chop thLe k L)) (fun u _ => 2000000 - (intOf u).toNat)
      case atStart => exact ⟨20, rfl, by decide, by decide, hr2⟩
      case round =>
        obtain ⟨k, rfl, hk1, hk2, hr3⟩ := hrel
        by_cases hlt : k < n
        · have x2 : (k : Int) < (n : Int) := by omega
          obtain ⟨k2, hk2'⟩ : ∃ k2, k2 = 2 * k := ⟨_, rfl⟩
          have w2 : wrap64 (2 * (k : Int)) = (k2 : Int) := by rw [IntWalk.wrap64_in (2 * (k : Int)) (by omega), hk2']; omega
          have w2' : wrap64 ((k : Int) * 2) = (k2 : Int) := by rw [Int.mul_comm]; exact w2
          have Hk2 := Lib.hid hk2'
          have Hk1 := Lib.hid hk1
          have Hkn := Lib.hid hlt
          clear hk2' hlt
          go_wp2_with fail
          go_loopw [7, 8] (fun u v ws => ∃ (a b : Nat) (done : List Th), u = .int .i64 (a : Nat) ∧ v = .int .i64 (b : Nat) ∧ Hid (b = a + k2) ∧ Hid (done.length = a) ∧ Hid (a ≤ n) ∧ Hid (Sta.chop thLe k2 L = done ++ Sta.chop thLe k2 (L.drop a)) ∧ SR thT W0 ws base g n cap (done ++ Sta.chop thLe k (L.drop a))) (fun _ v _ => n + k2 - (intOf v).toNat)
          case atStart => exact ⟨0, k2, [], rfl, by first | rfl | rw [w2] | (rw [Hk2.out]; simp), by show _ = _; omega, rfl, Nat.zero_le _, by show _ = _; simp, by simpa using hr3⟩
          case round =>
            obtain ⟨a, b, done, rfl, rfl, hb, hd, ha, hch, hr⟩ := hrel
            by_cases hlt : b ≤ n
            · have x3 : (b : Int) ≤ (n : Int) := by omega
              have hdl : (L.drop a).length = n - a := by rw [List.length_drop, Hlen.out]
              obtain ⟨m, hm⟩ : ∃ m, m = a + k := ⟨_, rfl⟩
              obtain ⟨f1, f2, f3, f4, f5⟩ := st_two a b k k2 n m hb.out Hk2.out Hk1.out hlt hm
              obtain ⟨A, B, hA, hB, uA, uB, e1, e2⟩ := Sta.chop_two thLe thLe_trans thLe_total k (L.drop a) f1 (by rw [hdl]; exact f2)
              have hdr : (L.drop a).drop (2 * k) = L.drop b := by rw [List.drop_drop, ← Hk2.out, hb.out]
              rw [hdr] at e1 e2
              rw [← Hk2.out] at e2
              rw [e1] at hr
              have hst := symMerge_any (2 * k) done A B (Sta.chop thLe k (L.drop b)) (by rw [hA, hB]; omega) (by rw [hA]; exact f1) (by rw [hB]; exact f1) uA uB a m b W0 wr base g n cap Hn.out hd.out.symm (by rw [hd.out, hA]; exact hm) (by rw [hd.out, hA, hB]; exact f3) (by simpa using hr)
              have hch2 : Sta.chop thLe k2 L = (done ++ Sta.mg thLe A B) ++ Sta.chop thLe k2 (L.drop b) := by rw [hch.out, e2, List.append_assoc]
              have hd2 : (done ++ Sta.mg thLe A B).length = b := by rw [List.length_append, Sta.mg_len, hd.out, hA, hB, f3]; omega
              have Hst := Lib.hid hst
              have Hch2 := Lib.hid hch2
              have Hd2 := Lib.hid hd2
              have Hbn := Lib.hid hlt
              obtain ⟨b2, hb2⟩ : ∃ b2, b2 = b + k2 := ⟨_, rfl⟩
              have w3 := w_add a k m 3000000 hm (Nat.le_trans f4 (by have := Hn.out; omega)) (by decide)
              have w4 := w_add b k2 b2 4000000 hb2 (f5 b2 hb2 Hn.out) (by decide)
              have w4' : wrap64 ((b : Int) + 2 * (k : Int)) = (b2 : Int) := by
                have e : (2 * (k : Int)) = (k2 : Int) := by rw [Hk2.out]; simp
                rw [e]; exact w4
              have W4 := Lib.hid w4
              have W4' := Lib.hid w4'
              clear w4 w4'
              have Hb2 := Lib.hid hb2
              have Hf1 := Lib.hid f1
              clear hst hch2 hd2 hdr hdl hr hb2 hlt e1 e2 hA hB uA uB f1 f2 f3 f4 f5 hm
              go_wp2_with fail
              refine Hst.out.mono ?_
              rintro e W3 ⟨rfl, hr4⟩
              go_wp2_with fail
              go_roundw
              case rel => exact ⟨b, b2, _, rfl, by first | rfl | rw [W4.out] | rw [W4'.out], Hb2.out, Hd2.out, Hbn.out, Hch2.out, by rw [List.append_assoc]; exact hr4⟩
              case measure =>
                first | rw [W4.out] | rw [W4'.out] | skip
                simp only [intOf, Int.toNat_natCast]
                have := Hb2.out
                have := Hbn.out
                have := Hk2.out
                have := Hf1.out
                omega
            · have x3 : ¬ (b : Int) ≤ (n : Int) := by omega
              have hdl : (L.drop a).length = n - a := by rw [List.length_drop, Hlen.out]
              obtain ⟨m, hm⟩ : ∃ m, m = a + k := ⟨_, rfl⟩
              obtain ⟨f1, f2, f3, f4⟩ := st_end a b k k2 n m hb.out Hk2.out Hk1.out hlt ha.out Hkn.out Hn.out hm
              have w3 := w_add a k m 2000000 hm f2 (by decide)
              have Hf4 := Lib.hid f4
              by_cases hmn : m < n
              · have x4 : (m : Int) < (n : Int) := Int.ofNat_lt.2 hmn
                obtain ⟨z1, z2, z3, z4, z5⟩ := st_e2 a k n m hm hmn f3
                obtain ⟨A, B, hA, hB, uA, uB, e1, e2⟩ := Sta.chop_end thLe thLe_trans thLe_total k (L.drop a) f1 (by rw [hdl]; exact z1) (by rw [hdl]; exact z2)
                rw [hdl] at hB
                rw [← Hk2.out] at e2
                rw [e1] at hr
                have hst := symMerge_any n done A B [] (by rw [hA, hB]; exact z3) (by rw [hA]; exact f1) (by rw [hB]; exact z4) uA uB a m n W0 wr base g n cap Hn.out hd.out.symm (by rw [hd.out, hA]; exact hm) (by rw [hd.out, hA, hB]; exact z5) (by simpa using hr)
                have hch2 : Sta.chop thLe k2 L = done ++ (Sta.mg thLe A B ++ []) := by rw [hch.out, e2]; simp
                rw [← hch2] at hst
                have Hst := Lib.hid hst
                clear hst hch2 hdl hr hlt e1 e2 hA hB uA uB f1 f2 f3 f4 hm hmn z1 z2 z3 z4 z5
                go_wp2_with fail
                refine Hst.out.mono ?_
                rintro e W3 ⟨rfl, hr4⟩
                go_wp2_with fail
                go_roundw
                case rel => exact ⟨k2, by first | rfl | rw [w2'] | (rw [Hk2.out]; simp [Int.mul_comm]), by have := Hk2.out; have := Hk1.out; omega, Hf4.out, hr4⟩
                case measure =>
                  first | rw [w2'] | skip
                  simp only [intOf, Int.toNat_natCast]
                  have := Hk2.out
                  have := Hk1.out
                  have := Hf4.out
                  have := Hkn.out
                  have := Hn.out
                  omega
              · have x4 : ¬ (m : Int) < (n : Int) := fun h => hmn (Int.ofNat_lt.1 h)
                have e1 := Sta.chop_rest thLe k (L.drop a) (by rw [hdl]; exact st_e3 a k n m hm hmn)
                rw [← Hk2.out] at e1
                have hr4 := hr
                rw [e1, ← hch.out] at hr4
                have Hr4 := Lib.hid hr4
                clear hr4 hdl hr hlt e1 f1 f2 f3 f4 hm hmn
                go_wp2_with fail
                go_roundw
                case rel => exact ⟨k2, by first | rfl | rw [w2'] | (rw [Hk2.out]; simp [Int.mul_comm]), by have := Hk2.out; have := Hk1.out; omega, Hf4.out, Hr4.out⟩
                case measure =>
                  first | rw [w2'] | skip
                  simp only [intOf, Int.toNat_natCast]
                  have := Hk2.out
                  have := Hk1.out
                  have := Hf4.out
                  have := Hkn.out
                  have := Hn.out
                  omega
        · have x2 : ¬ (k : Int) < (n : Int) := by omega
          rw [Sta.chop_all thLe k L (by rw [Hlen.out]; omega)] at hr3
          clear hlt
          go_wp2_with fail
          refine bodyPost_end (results_none rfl _ _ _) rfl ?_
          exact ⟨rfl, hr3⟩
end Go.Proofs.Ytedlplkomfiahaa
namespace Go.Proofs.Ytedlplkomfiahaa
set_option linter.unusedVariables false
set_option linter.unusedSimpArgs false
set_option linter.unusedSectionVars false
open Go Go.RowKit Go.Maps
/-- the map D, of ids, has just these pairs -/
structure MapL (D : DataW Unit) (E : List (Int × DataW Unit)) : Prop where
  tidy : Maps.Tidy D
  has : ∀ k : Int, Maps.has D (.int .u64 k) = true ↔ ∃ p ∈ E, p.1 = k
  at_ : ∀ p ∈ E, ∀ z, D.atKey (.int .u64 p.1) z = p.2
  size : Maps.size D = E.length
  ids : E.Pairwise (fun a b => a.1 ≠ b.1)
theorem MapL.nil : MapL (.map []) [] := ⟨tidy_empty, fun k => by simp [has_eq], by simp, rfl, List.Pairwise.nil⟩
theorem idk_ne {a b : Int} (h : a ≠ b) : (Lit.int .u64 a) ≠ Lit.int .u64 b := fun e => by cases e; exact h rfl
theorem MapL.hasnt {D : DataW Unit} {E : List (Int × DataW Unit)} (h : MapL D E) {k : Int} (hf : ∀ p ∈ E, p.1 ≠ k) : Maps.has D (.int .u64 k) = false := by
  cases hh : Maps.has D (.int .u64 k) with
  | false => rfl
  | true => obtain ⟨p, hp, e⟩ := (h.has k).1 hh; exact absurd e (hf p hp)
theorem MapL.put {D : DataW Unit} {E : List (Int × DataW Unit)} (h : MapL D E) (k : Int) (d : DataW Unit) (hf : ∀ p ∈ E, p.1 ≠ k) : MapL (D.put (.int .u64 k) d) (E ++ [(k, d)]) := by
  have hk : WideAt.IsKeyLit (.int .u64 k) := by trivial
  have hno := h.hasnt hf
  refine ⟨h.tidy.put hk _, fun j => ?_, fun p hp z => ?_, ?_, ?_⟩
  · by_cases e : j = k
    · subst e
      simp [has_put_same h.tidy.isMap hk]
    · rw [has_put_other (idk_ne e), h.has j]
      simp [Ne.symm e]
  · rcases List.mem_append.1 hp with hp | hp
    · rw [atKey_put_other (idk_ne (hf p hp))]; exact h.at_ p hp z
    · simp at hp; subst hp
      exact atKey_put_same h.tidy.isMap hk _ _
  · rw [size_put h.tidy, hno]; simp [h.size]
  · rw [List.pairwise_append]
    exact ⟨h.ids, by simp, fun a ha b hb => by simp at hb; subst hb; exact hf a ha⟩
theorem pairs_less (E : List (Int × DataW Unit)) (h : E.Pairwise (fun a b => a.1 ≠ b.1)) (k : Int) (hk : ∃ p ∈ E, p.1 = k) : (E.filter (fun p => decide (p.1 ≠ k))).length + 1 = E.length := by
  induction E with
  | nil => obtain ⟨p, hp, _⟩ := hk; cases hp
  | cons q E ih =>
    rw [List.pairwise_cons] at h
    by_cases hq : q.1 = k
    · have e : E.filter (fun p => decide (p.1 ≠ k)) = E := List.filter_eq_self.2 fun p hp => by simp only [decide_eq_true_eq]; rw [← hq]; exact Ne.symm (h.1 p hp)
      rw [List.filter_cons_of_neg (by simp [hq]), e, List.length_cons]
    · rw [List.filter_cons_of_pos (by simp [hq]), List.length_cons, List.length_cons, ih h.2]
      obtain ⟨p, hp, e⟩ := hk
      rcases List.mem_cons.1 hp with rfl | hp
      · exact absurd e hq
      · exact ⟨p, hp, e⟩
theorem MapL.del {D : DataW Unit} {E : List (Int × DataW Unit)} (h : MapL D E) (k : Int) : MapL (D.del (.int .u64 k)) (E.filter (fun p => decide (p.1 ≠ k))) := by
  refine ⟨h.tidy.del _, fun j => ?_, fun p hp z => ?_, ?_, h.ids.filter _⟩
  · by_cases e : j = k
    · subst e
      rw [has_del_same]
      constructor
      · intro h; cases h
      · rintro ⟨q, hq, e⟩; have := (List.mem_filter.1 hq).2; simp only [decide_eq_true_eq] at this; exact absurd e this
    · rw [has_del_other (idk_ne e), h.has j]
      constructor
      · rintro ⟨q, hq, rfl⟩; exact ⟨q, List.mem_filter.2 ⟨hq, by simpa using e⟩, rfl⟩
      · rintro ⟨q, hq, rfl⟩; exact ⟨q, (List.mem_filter.1 hq).1, rfl⟩
  · have hp2 := List.mem_filter.1 hp
    simp only [decide_eq_true_eq] at hp2
    rw [atKey_del_other (idk_ne hp2.2)]
    exact h.at_ p hp2.1 z
  · by_cases hk : ∃ p ∈ E, p.1 = k
    · have := size_del (k := .int .u64 k) h.tidy
      rw [(h.has k).2 hk] at this
      have h2 := pairs_less E h.ids k hk
      have h3 := h.size
      simp at this
      omega
    · have hf : ∀ p ∈ E, p.1 ≠ k := fun p hp e => hk ⟨p, hp, e⟩
      rw [del_of_not_has (h.hasnt hf), h.size, List.filter_eq_self.2 fun p hp => by simpa using hf p hp]
theorem MapL.atnt {D : DataW Unit} {E : List (Int × DataW Unit)} (h : MapL D E) {k : Int} (hf : ∀ p ∈ E, p.1 ≠ k) (z : DataW Unit) : D.atKey (.int .u64 k) z = z := atKey_of_not_has (h.hasnt hf) z
/-- what waits: a thing and its slot, in the order of Put -/
abbrev RLs := List (Th × Nat)
def rowOf (L : RLs) (k : Nat) : List Th := (L.filter (fun p => decide (p.2 = k))).map (·.1)
def gone (L : RLs) (id : Int) : RLs := L.filter (fun p => decide (p.1.id ≠ id))
def left (L : RLs) (k : Nat) : RLs := L.filter (fun p => decide (p.2 ≠ k))
def IdOk (i : Int) : Prop := 0 ≤ i ∧ i < 18446744073709551616
theorem IdOk.wf {i : Int} (h : IdOk i) : (Lit.int .u64 i).wf = true := by
  obtain ⟨h1, h2⟩ := h
  simp [Lit.wf, IntKind.min, IntKind.max, IntKind.signed, IntKind.bits]; omega
structure RLok (L : RLs) : Prop where
  slot : ∀ p ∈ L, p.2 < 64
  ids : L.Pairwise (fun a b => a.1.id ≠ b.1.id)
  wf : ∀ p ∈ L, IdOk p.1.id
theorem RLok.nil : RLok [] := ⟨by simp, List.Pairwise.nil, by simp⟩
theorem RLok.snoc {L : RLs} (h : RLok L) (t : Th) (k : Nat) (hk : k < 64) (hf : ∀ p ∈ L, p.1.id ≠ t.id) (hw : IdOk t.id) : RLok (L ++ [(t, k)]) := by
  refine ⟨fun p hp => ?_, ?_, fun p hp => ?_⟩
  · rcases List.mem_append.1 hp with hp | hp
    · exact h.slot p hp
    · simp at hp; subst hp; exact hk
  · rw [List.pairwise_append]
    exact ⟨h.ids, by simp, fun a ha b hb => by simp at hb; subst hb; exact hf a ha⟩
  · rcases List.mem_append.1 hp with hp | hp
    · exact h.wf p hp
    · simp at hp; subst hp; exact hw
theorem RLok.filter {L : RLs} (h : RLok L) (q : Th × Nat → Bool) : RLok (L.filter q) := ⟨fun p hp => h.slot p (List.mem_filter.1 hp).1, h.ids.filter _, fun p hp => h.wf p (List.mem_filter.1 hp).1⟩
theorem rowOf_snoc (L : RLs) (t : Th) (s k : Nat) : rowOf (L ++ [(t, s)]) k = if s = k then rowOf L k ++ [t] else rowOf L k := by
  unfold rowOf
  rw [List.filter_append, List.map_append]
  by_cases h : s = k <;> simp [h]
theorem rowOf_left (L : RLs) (s k : Nat) : rowOf (left L s) k = if s = k then [] else rowOf L k := by
  unfold rowOf left
  rw [List.filter_filter]
  by_cases h : s = k
  · subst h
    rw [if_pos rfl]
    simp
  · rw [if_neg h]
    congr 1
    apply List.filter_congr
    intro p _
    by_cases hp : p.2 = k
    · have : p.2 ≠ s := fun e => h (e.symm.trans hp)
      simp [hp, Ne.symm h]
    · simp [hp]
theorem rowOf_gone (L : RLs) (id : Int) (k : Nat) : rowOf (gone L id) k = (rowOf L k).filter (fun t => decide (t.id ≠ id)) := by
  unfold rowOf gone
  rw [List.filter_filter, List.filter_map, List.filter_filter]
  congr 1
  apply List.filter_congr
  intro p _
  simp [Bool.and_comm]
theorem mem_rowOf {L : RLs} {k : Nat} {t : Th} : t ∈ rowOf L k ↔ (t, k) ∈ L := by
  unfold rowOf
  rw [List.mem_map]
  constructor
  · rintro ⟨⟨a, b⟩, hp, rfl⟩
    have := List.mem_filter.1 hp
    simp only [decide_eq_true_eq] at this
    rw [← this.2]; exact this.1
  · intro h; exact ⟨(t, k), List.mem_filter.2 ⟨h, by simp⟩, rfl⟩
theorem rowOf_len (L : RLs) (k : Nat) : (rowOf L k).length ≤ L.length := by
  unfold rowOf; rw [List.length_map]; exact List.length_filter_le _ _
theorem rowOf_ids {L : RLs} (h : RLok L) (k : Nat) : (rowOf L k).Pairwise (fun a b => a.id ≠ b.id) := by
  unfold rowOf
  rw [List.pairwise_map]
  exact h.ids.filter _
/-- the first of an id in a row -/
theorem first_of (l : List Th) (h : l.Pairwise (fun a b => a.id ≠ b.id)) (t : Th) (ht : t ∈ l) : ∃ i, ∃ hi : i < l.length, l[i] = t ∧ (∀ j (hj : j < i), l[j].id ≠ t.id) ∧ l.filter (fun x => decide (x.id ≠ t.id)) = l.take i ++ l.drop (i + 1) := by
  induction l with
  | nil => cases ht
  | cons q l ih =>
    rw [List.pairwise_cons] at h
    by_cases hq : q.id = t.id
    · have hqt : q = t := by
        rcases List.mem_cons.1 ht with e | e
        · exact e.symm
        · exact absurd hq (h.1 t e)
      refine ⟨0, by simp, hqt, fun j hj => by omega, ?_⟩
      rw [List.filter_cons_of_neg (by simp [hq])]
      simp
      intro x hx
      rw [← hq]; exact Ne.symm (h.1 x hx)
    · have ht' : t ∈ l := by
        rcases List.mem_cons.1 ht with e | e
        · exact absurd (by rw [e]) hq
        · exact e
      obtain ⟨i, hi, e1, e2, e3⟩ := ih h.2 ht'
      refine ⟨i + 1, by simpa using hi, by simpa using e1, fun j hj => ?_, ?_⟩
      · cases j with
        | zero => exact hq
        | succ j => exact e2 j (by omega)
      · rw [List.filter_cons_of_pos (by simp [hq]), e3]; simp
theorem ids_eq {L : RLs} (h : L.Pairwise (fun a b => a.1.id ≠ b.1.id)) {p q : Th × Nat} (hp : p ∈ L) (hq : q ∈ L) (e : p.1.id = q.1.id) : p = q := by
  induction L with
  | nil => cases hp
  | cons x L ih =>
    rw [List.pairwise_cons] at h
    rcases List.mem_cons.1 hp with h1 | h1
    · rcases List.mem_cons.1 hq with h2 | h2
      · rw [h1, h2]
      · exact absurd (by rw [← h1]; exact e) (h.1 q h2)
    · rcases List.mem_cons.1 hq with h2 | h2
      · exact absurd (by rw [← h2]; exact e.symm) (h.1 p h1)
      · exact ih h.2 h1 h2
/-- the pairs of the ring's map -/
def pairs (L : RLs) : List (Int × DataW Unit) := L.map (fun p => (p.1.id, .lit (.int .i64 (p.2 : Nat))))
theorem pairs_gone (L : RLs) (id : Int) : pairs (gone L id) = (pairs L).filter (fun p => decide (p.1 ≠ id)) := by
  unfold pairs gone
  rw [List.filter_map]
  rfl
theorem pairs_snoc (L : RLs) (t : Th) (k : Nat) : pairs (L ++ [(t, k)]) = pairs L ++ [(t.id, .lit (.int .i64 (k : Nat)))] := by simp [pairs]
theorem gone_many (L : RLs) (k : Nat) (ids : List Th) (h : RLok L) (hp : ids.Perm (rowOf L k)) : ids.foldl (fun M t => gone M t.id) L = left L k := by
  have key : ∀ (ids : List Th) (M : RLs), ids.foldl (fun M t => gone M t.id) M = M.filter (fun p => decide (∀ t ∈ ids, p.1.id ≠ t.id)) := by
    intro ids
    induction ids with
    | nil => intro M; exact (List.filter_eq_self.2 fun p _ => by simp).symm
    | cons t ids ih =>
      intro M
      rw [List.foldl_cons, ih]
      unfold gone
      rw [List.filter_filter]
      apply List.filter_congr
      intro p _
      simp only [List.mem_cons, forall_eq_or_imp, ← Bool.decide_and]
      congr 1
      simp only [eq_iff_iff]
      exact And.comm
  rw [key]
  unfold left
  apply List.filter_congr
  intro p hpL
  congr 1
  simp only [eq_iff_iff]
  constructor
  · intro h1 e
    exact h1 p.1 (hp.mem_iff.2 (mem_rowOf.2 (by rw [← e]; exact hpL))) rfl
  · intro h1 t ht e
    have h2 := mem_rowOf.1 (hp.mem_iff.1 ht)
    exact h1 (congrArg Prod.snd (ids_eq h.ids hpL h2 e))
/-- which slots have something -/
structure UsedIs (u : Nat) (L : RLs) : Prop where
  lt : u < 18446744073709551616
  bit : ∀ k, k < 64 → (u.testBit k = true ↔ ∃ p ∈ L, p.2 = k)
theorem UsedIs.nil : UsedIs 0 [] := ⟨by decide, fun k _ => by simp⟩
def onBit (u k : Nat) : Nat := (BitVec.ofNat 64 u ||| BitVec.ofNat 64 (2 ^ k)).toNat
def offBit (u k : Nat) : Nat := (BitVec.ofNat 64 u &&& ~~~ BitVec.ofNat 64 (2 ^ k)).toNat
theorem onBit_bit (u k j : Nat) (hk : k < 64) (hj : j < 64) : (onBit u k).testBit j = (u.testBit j || decide (k = j)) := by
  unfold onBit
  rw [BitVec.testBit_toNat, BitVec.getLsbD_or, BitVec.getLsbD_ofNat, BitVec.getLsbD_ofNat, Nat.testBit_two_pow]
  simp [hj]
theorem offBit_bit (u k j : Nat) (hk : k < 64) (hj : j < 64) : (offBit u k).testBit j = (u.testBit j && !decide (k = j)) := by
  unfold offBit
  rw [BitVec.testBit_toNat, BitVec.getLsbD_and, BitVec.getLsbD_not, BitVec.getLsbD_ofNat, BitVec.getLsbD_ofNat, Nat.testBit_two_pow]
  simp [hj]
theorem onBit_lt (u k : Nat) : onBit u k < 18446744073709551616 := by unfold onBit; exact BitVec.isLt _
theorem offBit_lt (u k : Nat) : offBit u k < 18446744073709551616 := by unfold offBit; exact BitVec.isLt _
theorem UsedIs.put {u : Nat} {L : RLs} (h : UsedIs u L) (t : Th) (k : Nat) (hk : k < 64) : UsedIs (onBit u k) (L ++ [(t, k)]) := by
  refine ⟨onBit_lt u k, fun j hj => ?_⟩
  rw [onBit_bit u k j hk hj, Bool.or_eq_true, h.bit j hj]
  simp only [decide_eq_true_eq, List.mem_append, List.mem_singleton]
  constructor
  · rintro (⟨p, hp, e⟩ | e)
    · exact ⟨p, .inl hp, e⟩
    · exact ⟨(t, k), .inr rfl, e⟩
  · rintro ⟨p, hp | hp, e⟩
    · exact .inl ⟨p, hp, e⟩
    · subst hp; exact .inr e
theorem UsedIs.left {u : Nat} {L : RLs} (h : UsedIs u L) (k : Nat) (hk : k < 64) : UsedIs (offBit u k) (left L k) := by
  refine ⟨offBit_lt u k, fun j hj => ?_⟩
  rw [offBit_bit u k j hk hj, Bool.and_eq_true, h.bit j hj]
  simp only [Bool.not_eq_true', decide_eq_false_iff_not]
  constructor
  · rintro ⟨⟨p, hp, e⟩, hne⟩
    exact ⟨p, List.mem_filter.2 ⟨hp, by simp; omega⟩, e⟩
  · rintro ⟨p, hp, e⟩
    have h2 := List.mem_filter.1 hp
    simp only [decide_eq_true_eq] at h2
    exact ⟨⟨p, h2.1, e⟩, by omega⟩
/-- behind Drop of the only one in a slot, of one of many -/
theorem UsedIs.gone_off {u : Nat} {L : RLs} (h : UsedIs u L) (id : Int) (k : Nat) (hk : k < 64) (he : rowOf (gone L id) k = []) (ho : ∀ p ∈ L, p.1.id = id → p.2 = k) : UsedIs (offBit u k) (gone L id) := by
  refine ⟨offBit_lt u k, fun j hj => ?_⟩
  rw [offBit_bit u k j hk hj, Bool.and_eq_true, h.bit j hj]
  simp only [Bool.not_eq_true', decide_eq_false_iff_not]
  constructor
  · rintro ⟨⟨p, hp, e⟩, hne⟩
    exact ⟨p, List.mem_filter.2 ⟨hp, by simp only [decide_eq_true_eq]; intro h2; have := ho p hp h2; omega⟩, e⟩
  · rintro ⟨p, hp, e⟩
    have h2 := List.mem_filter.1 hp
    refine ⟨⟨p, h2.1, e⟩, fun e2 => ?_⟩
    have h3 : p.1 ∈ rowOf (gone L id) k := mem_rowOf.2 (by rw [e2, ← e]; exact hp)
    rw [he] at h3; cases h3
theorem UsedIs.gone_same {u : Nat} {L : RLs} (h : UsedIs u L) (id : Int) (k : Nat) (he : rowOf (gone L id) k ≠ []) (ho : ∀ p ∈ L, p.1.id = id → p.2 = k) : UsedIs u (gone L id) := by
  refine ⟨h.lt, fun j hj => ?_⟩
  rw [h.bit j hj]
  constructor
  · rintro ⟨p, hp, e⟩
    by_cases h2 : p.1.id = id
    · have h3 := ho p hp h2
      obtain ⟨t, ht⟩ := List.exists_mem_of_ne_nil _ he
      have h4 := mem_rowOf.1 ht
      exact ⟨_, h4, by simp; omega⟩
    · exact ⟨p, List.mem_filter.2 ⟨hp, by simpa using h2⟩, e⟩
  · rintro ⟨p, hp, e⟩
    exact ⟨p, (List.mem_filter.1 hp).1, e⟩
end Go.Proofs.Ytedlplkomfiahaa
namespace Go.Proofs.Ytedlplkomfiahaa
set_option linter.unusedVariables false
set_option linter.unusedSimpArgs false
set_option linter.unusedSectionVars false
open Go Go.RowKit Go.Maps
abbrev rgT : TypeId := 149
abbrev mwT : TypeId := 146
theorem u64law : Keyed Try.prog 28 := int_keyed Try.underlying28
theorem zeroI (w : World) : (zeroValue 3).run Try.prog w = .ok (.int .i64 0) w := by kernel_rfl
theorem infoTh : (Try.prog.info? 32).map (fun i => (i.zero, i.size, i.bytes)) = some (some (.agg #[.int .u64 0, .int .u64 0, .int .i64 0]), 3, 24) := by kernel_rfl
theorem th_one (t : Th) : ∀ u ∈ thCells t, u.oneCell' = true := by
  intro u hu; simp [thCells] at hu; rcases hu with rfl | rfl | rfl <;> rfl
theorem ths_one (l : List Th) : ∀ u ∈ thFlat l, u.oneCell' = true := by
  intro u hu
  obtain ⟨r, hr, hu⟩ := List.mem_flatten.1 hu
  obtain ⟨x, _, rfl⟩ := List.mem_map.1 hr
  exact th_one x u hu
theorem thFlat_app (l : List Th) (t : Th) : (l.map thCells ++ [thCells t]).flatten = thFlat (l ++ [t]) := by simp [thFlat]
/-- only what lies in F has changed, or is new -/
structure Gr (F : Nat → Prop) (W W' : World) : Prop where
  os : W'.os = W.os
  tape : W'.tape = W.tape
  output : W'.output = W.output
  size : W.heap.size ≤ W'.heap.size
  block : ∀ i, i < W.heap.size → ¬ F i → W'.heap[i]? = W.heap[i]?
theorem Gr.refl (F : Nat → Prop) (W : World) : Gr F W W := ⟨rfl, rfl, rfl, Nat.le_refl _, fun _ _ _ => rfl⟩
theorem Gr.below {F : Nat → Prop} {W W' : World} (h : Below W.heap.size W W') : Gr F W W' := ⟨h.os, h.tape, h.output, h.size, fun i hi _ => h.block i hi⟩
theorem Gr.one {F : Nat → Prop} {W W' : World} {row : Option Nat} (h : W.grownBy W' row) (hF : ∀ b, row = some b → F b) : Gr F W W' := ⟨h.os, h.tape, h.output, h.size, fun i hi hn => h.block i hi (fun e => hn (hF i e.symm))⟩
theorem Gr.then {F G : Nat → Prop} {W W1 W2 : World} (h : Gr F W W1) (h2 : Gr G W1 W2) (hG : ∀ i, G i → F i ∨ W.heap.size ≤ i) : Gr F W W2 :=
  ⟨h2.os.trans h.os, h2.tape.trans h.tape, h2.output.trans h.output, Nat.le_trans h.size h2.size, fun i hi hn => (h2.block i (Nat.lt_of_lt_of_le hi h.size) (fun e => by rcases hG i e with h3 | h3; exact hn h3; omega)).trans (h.block i hi hn)⟩
theorem Gr.trans {F : Nat → Prop} {W W1 W2 : World} (h : Gr F W W1) (h2 : Gr F W1 W2) : Gr F W W2 := h.then h2 (fun i hi => .inl hi)
theorem Gr.mono {F G : Nat → Prop} {W W' : World} (h : Gr F W W') (hG : ∀ i, F i → G i) : Gr G W W' := ⟨h.os, h.tape, h.output, h.size, fun i hi hn => h.block i hi (fun e => hn (hG i e))⟩
theorem Gr.drew {F : Nat → Prop} {W W' : World} (h : Gr F W W') : Gr F W W'.drew := ⟨h.os, h.tape, h.output, h.size, h.block⟩
theorem Gr.above {F : Nat → Prop} {W W' : World} {B : Nat} (h : Gr F W W') (hB : B ≤ W.heap.size) (hF : ∀ i, F i → B ≤ i) : Below B W W' := ⟨h.os, h.tape, h.output, h.size, fun i hi => h.block i (Nat.lt_of_lt_of_le hi hB) (fun e => by have := hF i e; omega)⟩
/-- what lies in F, and what is new -/
def More (F : Nat → Prop) (W W' : World) (i : Nat) : Prop := F i ∨ (W.heap.size ≤ i ∧ i < W'.heap.size)
/-- a row of things of one's own, nil or not -/
structure TR (W : World) (F : Nat → Prop) (v : Value) (l : List Th) : Prop where
  own : W.ownsRow 0 thT 3 v l.length (thFlat l)
  foot : ∀ g, v.ownBlock = some g → F g
theorem TR.kept {W W' : World} {F : Nat → Prop} {v : Value} {l : List Th} (h : TR W F v l) (hk : ∀ g, v.ownBlock = some g → W'.heap[g]? = W.heap[g]?) : TR W' F v l := by
  refine ⟨⟨h.own.1, ?_⟩, h.foot⟩
  rcases h.own.2 with hn | ⟨g, cap, cur, rfl, hb, hg, rest⟩
  · exact .inl hn
  · exact .inr ⟨g, cap, cur, rfl, hb, (hk g rfl).trans hg, rest⟩
theorem TR.nil (W : World) (F : Nat → Prop) : TR W F (.slice none 0 0) [] := ⟨World.ownsRow_nil _ _ _ _, fun g h => by cases h⟩
theorem TR.refoot {W : World} {F G : Nat → Prop} {v : Value} {l : List Th} (h : TR W F v l) (hG : ∀ i, F i → i < W.heap.size → G i) : TR W G v l := ⟨h.own, fun g hg => hG g (h.foot g hg) (h.own.lt g hg).2⟩
theorem TR.elem {W : World} {F : Nat → Prop} {v : Value} {l : List Th} (h : TR W F v l) {g : Nat} (hg : v.ownBlock = some g) : ∃ cs, W.heap[g]? = some (.cells cs thT (0, 0)) := by
  rcases h.own.2 with ⟨hn, _⟩ | ⟨g', cap, cur, rfl, hb, hh, rest⟩
  · subst hn; cases hg
  · simp only [Value.ownBlock, Option.some.injEq] at hg; subst hg; exact ⟨_, hh⟩
/-- a ring's memory -/
structure Rm (W : World) (F : Nat → Prop) (r n mb : Nat) (sv : List Value) (u : Nat) (ρ : Nat → List Th) (E : List (Int × DataW Unit)) : Prop where
  blk : W.heap[r]? = some (.cells (sv ++ [Value.int .u64 (u : Nat), Value.map (some mb)]).toArray rgT (0, 0))
  len : sv.length = 64
  rows : ∀ k (hk : k < sv.length), TR W F sv[k] (ρ k)
  apart : ∀ i j (hi : i < sv.length) (hj : j < sv.length), i ≠ j → ∀ g, sv[i].ownBlock = some g → sv[j].ownBlock ≠ some g
  map : ∃ D, W.ownsMap Try.prog 28 (plainElem Try.prog 3) mb n D ∧ MapL D E
  footR : F r
  footM : F mb
theorem Rm.lt {W : World} {F : Nat → Prop} {r n mb : Nat} {sv : List Value} {u : Nat} {ρ : Nat → List Th} {E : List (Int × DataW Unit)} (h : Rm W F r n mb sv u ρ E) : r < W.heap.size ∧ mb < W.heap.size := by
  obtain ⟨D, h1, h2⟩ := h.map
  exact ⟨(Array.getElem?_eq_some_iff.1 h.blk).1, h1.lt⟩
theorem Rm.ne {W : World} {F : Nat → Prop} {r n mb : Nat} {sv : List Value} {u : Nat} {ρ : Nat → List Th} {E : List (Int × DataW Unit)} (h : Rm W F r n mb sv u ρ E) : r ≠ mb := by
  obtain ⟨D, ⟨es, clock, h1, _⟩, h2⟩ := h.map
  intro e; have := h.blk; rw [e, h1] at this; cases this
theorem Rm.row_ne {W : World} {F : Nat → Prop} {r n mb : Nat} {sv : List Value} {u : Nat} {ρ : Nat → List Th} {E : List (Int × DataW Unit)} (h : Rm W F r n mb sv u ρ E) {k g : Nat} (hk : k < sv.length) (hg : sv[k].ownBlock = some g) : g ≠ r ∧ g ≠ mb := by
  obtain ⟨cs, h1⟩ := (h.rows k hk).elem hg
  obtain ⟨D, ⟨es, clock, h2, _⟩, _⟩ := h.map
  refine ⟨fun e => ?_, fun e => ?_⟩
  · have := h.blk; rw [← e, h1] at this
    simp only [Option.some.injEq, Obj.cells.injEq] at this
    exact absurd this.2.1 (by decide)
  · rw [e, h2] at h1; cases h1
theorem Rm.kept {W W' : World} {F : Nat → Prop} {r n mb : Nat} {sv : List Value} {u : Nat} {ρ : Nat → List Th} {E : List (Int × DataW Unit)} (h : Rm W F r n mb sv u ρ E) (hk : ∀ i, F i → i < W.heap.size → W'.heap[i]? = W.heap[i]?) : Rm W' F r n mb sv u ρ E := by
  have hl := h.lt
  refine ⟨(hk r h.footR hl.1).trans h.blk, h.len, fun k hkl => (h.rows k hkl).kept fun g hg => hk g ((h.rows k hkl).foot g hg) ((h.rows k hkl).own.lt g hg).2, h.apart, ?_, h.footR, h.footM⟩
  obtain ⟨D, ⟨es, clock, h1, h2⟩, h3⟩ := h.map
  exact ⟨D, ⟨es, clock, (hk mb h.footM hl.2).trans h1, h2⟩, h3⟩
theorem Rm.below {W W' : World} {F : Nat → Prop} {r n mb : Nat} {sv : List Value} {u : Nat} {ρ : Nat → List Th} {E : List (Int × DataW Unit)} (h : Rm W F r n mb sv u ρ E) (hb : Below W.heap.size W W') : Rm W' F r n mb sv u ρ E := h.kept fun i _ hi => hb.block i hi
theorem Rm.refoot {W : World} {F G : Nat → Prop} {r n mb : Nat} {sv : List Value} {u : Nat} {ρ : Nat → List Th} {E : List (Int × DataW Unit)} (h : Rm W F r n mb sv u ρ E) (hG : ∀ i, F i → i < W.heap.size → G i) : Rm W G r n mb sv u ρ E :=
  ⟨h.blk, h.len, fun k hk => (h.rows k hk).refoot hG, h.apart, h.map, hG r h.footR h.lt.1, hG mb h.footM h.lt.2⟩
theorem Rm.cell {W : World} {F : Nat → Prop} {r n mb : Nat} {sv : List Value} {u : Nat} {ρ : Nat → List Th} {E : List (Int × DataW Unit)} (h : Rm W F r n mb sv u ρ E) (k : Nat) (hk : k < sv.length) : W.cell? ⟨r, k, none⟩ = some sv[k] := by
  rw [block_cell h.blk k, List.getElem?_toArray, List.getElem?_append_left hk, List.getElem?_eq_getElem hk]
theorem Rm.cellU {W : World} {F : Nat → Prop} {r n mb : Nat} {sv : List Value} {u : Nat} {ρ : Nat → List Th} {E : List (Int × DataW Unit)} (h : Rm W F r n mb sv u ρ E) : W.cell? ⟨r, 64, none⟩ = some (.int .u64 (u : Nat)) := by
  rw [block_cell h.blk 64, List.getElem?_toArray, List.getElem?_append_right (by rw [h.len]; exact Nat.le_refl _), h.len]; rfl
theorem Rm.cellM {W : World} {F : Nat → Prop} {r n mb : Nat} {sv : List Value} {u : Nat} {ρ : Nat → List Th} {E : List (Int × DataW Unit)} (h : Rm W F r n mb sv u ρ E) : W.cell? ⟨r, 65, none⟩ = some (.map (some mb)) := by
  rw [block_cell h.blk 65, List.getElem?_toArray, List.getElem?_append_right (by rw [h.len]; decide), h.len]; rfl
theorem Rm.free {W : World} {F : Nat → Prop} {r n mb : Nat} {sv : List Value} {u : Nat} {ρ : Nat → List Th} {E : List (Int × DataW Unit)} (h : Rm W F r n mb sv u ρ E) (k : Nat) : W.frozen? ⟨r, k, none⟩ = false := block_free h.blk k
def updR (ρ : Nat → List Th) (k : Nat) (l : List Th) : Nat → List Th := fun j => if j = k then l else ρ j
/-- a slot's row is another one now -/
theorem Rm.setRow {W W1 : World} {F G : Nat → Prop} {r n mb : Nat} {sv : List Value} {u : Nat} {ρ : Nat → List Th} {E : List (Int × DataW Unit)} (h : Rm W F r n mb sv u ρ E) (k : Nat) (hk : k < sv.length) (v : Value) (l : List Th)
    (hg : W.grownBy W1 sv[k].ownBlock) (ho : W1.ownsRow 0 thT 3 v l.length (thFlat l)) (hv : ∀ g, v.ownBlock = some g → sv[k].ownBlock = some g ∨ W.heap.size ≤ g) (hG : ∀ i, F i → G i) (hvG : ∀ g, v.ownBlock = some g → G g) :
    Rm (W1.setCell ⟨r, k, none⟩ v) G r n mb (sv.set k v) u (updR ρ k l) E ∧ Gr F W (W1.setCell ⟨r, k, none⟩ v) := by
  have hl := h.lt
  have hr1 : W1.heap[r]? = some (.cells (sv ++ [Value.int .u64 (u : Nat), Value.map (some mb)]).toArray rgT (0, 0)) := (hg.block r hl.1 (fun e => (h.row_ne hk e.symm).1 rfl)).trans h.blk
  have hs := block_set hr1 k v
  have oth : ∀ i, i ≠ r → (W1.setCell ⟨r, k, none⟩ v).heap[i]? = W1.heap[i]? := fun i hi => heap_setCell_other W1 ⟨r, k, none⟩ i v hi
  refine ⟨⟨?_, by simp [h.len], fun j hj => ?_, fun i j hi hj hij g he => ?_, ?_, hG r h.footR, hG mb h.footM⟩, ?_⟩
  · rw [hs]
    simp only [List.setIfInBounds_toArray, List.set_append_left _ _ hk]
  · simp only [List.length_set] at hj
    by_cases e : k = j
    · subst e
      rw [List.getElem_set_self]
      have h2 : TR W1 G v l := ⟨ho, hvG⟩
      unfold updR
      rw [if_pos rfl]
      exact h2.kept fun g hg2 => oth g (fun e => by
        rcases hv g hg2 with h3 | h3
        · exact (h.row_ne hk h3).1 e
        · omega)
    · rw [List.getElem_set_ne e]
      unfold updR
      rw [if_neg (Ne.symm e)]
      have h2 := h.rows j hj
      refine ⟨(h2.kept fun g hg2 => (oth g (h.row_ne hj hg2).1).trans (hg.block g (h2.own.lt g hg2).2 (fun e2 => h.apart k j hk hj e g e2.symm hg2))).own, fun g hg2 => hG g (h2.foot g hg2)⟩
  · simp only [List.length_set] at hi hj
    by_cases e : k = i
    · subst e
      rw [List.getElem_set_self] at he
      rw [List.getElem_set_ne hij]
      intro e2
      rcases hv g he with h3 | h3
      · exact h.apart k j hk hj hij g h3 e2
      · have := ((h.rows j hj).own.lt g e2).2; omega
    · rw [List.getElem_set_ne e] at he
      by_cases e3 : k = j
      · subst e3
        rw [List.getElem_set_self]
        intro e2
        rcases hv g e2 with h3 | h3
        · exact h.apart i k hi hk hij g he h3
        · have := ((h.rows i hi).own.lt g he).2; omega
      · rw [List.getElem_set_ne e3]; exact h.apart i j hi hj hij g he
  · obtain ⟨D, ⟨es, clock, h1, h2⟩, h3⟩ := h.map
    exact ⟨D, ⟨es, clock, (oth mb (Ne.symm h.ne)).trans ((hg.block mb hl.2 (fun e => (h.row_ne hk e.symm).2 rfl)).trans h1), h2⟩, h3⟩
  · exact (Gr.one hg fun b hb => (h.rows k hk).foot b hb).trans (Gr.one (grown_set W1 r k v) fun b hb => by simp only [Option.some.injEq] at hb; subst hb; exact h.footR)
/-- the bits are other ones now -/
theorem Rm.setU {W : World} {F : Nat → Prop} {r n mb : Nat} {sv : List Value} {u : Nat} {ρ : Nat → List Th} {E : List (Int × DataW Unit)} (h : Rm W F r n mb sv u ρ E) (u2 : Nat) :
    Rm (W.setCell ⟨r, 64, none⟩ (.int .u64 (u2 : Nat))) F r n mb sv u2 ρ E ∧ Gr F W (W.setCell ⟨r, 64, none⟩ (.int .u64 (u2 : Nat))) := by
  have hs := block_set h.blk 64 (.int .u64 (u2 : Nat))
  have oth : ∀ i, i ≠ r → (W.setCell ⟨r, 64, none⟩ (.int .u64 (u2 : Nat))).heap[i]? = W.heap[i]? := fun i hi => heap_setCell_other W ⟨r, 64, none⟩ i _ hi
  refine ⟨⟨?_, h.len, fun k hk => (h.rows k hk).kept fun g hg => oth g (h.row_ne hk hg).1, h.apart, ?_, h.footR, h.footM⟩, Gr.one (grown_set W r 64 _) fun b hb => by simp only [Option.some.injEq] at hb; subst hb; exact h.footR⟩
  · rw [hs]
    simp only [List.setIfInBounds_toArray]
    rw [List.set_append_right _ _ (by rw [h.len]; exact Nat.le_refl _), h.len]; rfl
  · obtain ⟨D, ⟨es, clock, h1, h2⟩, h3⟩ := h.map
    exact ⟨D, ⟨es, clock, (oth mb (Ne.symm h.ne)).trans h1, h2⟩, h3⟩
/-- the map has turned -/
theorem Rm.turn {W W' : World} {F : Nat → Prop} {r n n' mb : Nat} {sv : List Value} {u : Nat} {ρ : Nat → List Th} {E E' : List (Int × DataW Unit)} {D' : DataW Unit} (h : Rm W F r n mb sv u ρ E) (hg : W.grownBy W' (some mb))
    (ho : W'.ownsMap Try.prog 28 (plainElem Try.prog 3) mb n' D') (hD : MapL D' E') : Rm W' F r n' mb sv u ρ E' ∧ Gr F W W' := by
  have hl := h.lt
  refine ⟨⟨(hg.block r hl.1 (fun e => h.ne (by simpa using e))).trans h.blk, h.len, fun k hk => (h.rows k hk).kept fun g hg2 => hg.block g ((h.rows k hk).own.lt g hg2).2 (fun e => (h.row_ne hk hg2).2 (by simpa using e)), h.apart, ⟨D', ho, hD⟩, h.footR, h.footM⟩, Gr.one hg fun b hb => by simp only [Option.some.injEq] at hb; subst hb; exact h.footM⟩
/-- the same rows, said otherwise -/
theorem Rm.same {W : World} {F : Nat → Prop} {r n mb : Nat} {sv : List Value} {u : Nat} {ρ ρ' : Nat → List Th} {E E' : List (Int × DataW Unit)} (h : Rm W F r n mb sv u ρ E) (hρ : ∀ k, k < 64 → ρ k = ρ' k) (hE : E = E') : Rm W F r n mb sv u ρ' E' :=
  ⟨h.blk, h.len, fun k hk => by rw [← hρ k (by rw [← h.len]; exact hk)]; exact h.rows k hk, h.apart, hE ▸ h.map, h.footR, h.footM⟩
/-- a ring in which the things of L wait; its map was written at most n times -/
structure Rng (W : World) (F : Nat → Prop) (r n : Nat) (L : RLs) : Prop where
  ok : RLok L
  few : L.length ≤ n
  bd : ∀ i, F i → i < W.heap.size
  mem : ∃ mb sv u, Rm W F r n mb sv u (rowOf L) (pairs L) ∧ UsedIs u L
theorem Rng.kept {W W' : World} {F : Nat → Prop} {r n : Nat} {L : RLs} (h : Rng W F r n L) (hs : W.heap.size ≤ W'.heap.size) (hk : ∀ i, F i → W'.heap[i]? = W.heap[i]?) : Rng W' F r n L := by
  obtain ⟨mb, sv, u, h1, h2⟩ := h.mem
  exact ⟨h.ok, h.few, fun i hi => Nat.lt_of_lt_of_le (h.bd i hi) hs, mb, sv, u, h1.kept (fun i hi _ => hk i hi), h2⟩
theorem Rng.below {W W' : World} {F : Nat → Prop} {r n : Nat} {L : RLs} (h : Rng W F r n L) (hb : Below W.heap.size W W') : Rng W' F r n L := h.kept hb.size fun i hi => hb.block i (h.bd i hi)
/-- what another one's call has changed -/
theorem Rng.beside {W W' : World} {F G : Nat → Prop} {r n : Nat} {L : RLs} (h : Rng W F r n L) (hg : Gr G W W') (hd : ∀ i, F i → ¬ G i) : Rng W' F r n L := h.kept hg.size fun i hi => hg.block i (h.bd i hi) (hd i hi)
theorem More.bd {F : Nat → Prop} {W W' : World} (h : ∀ i, F i → i < W.heap.size) (hs : W.heap.size ≤ W'.heap.size) : ∀ i, More F W W' i → i < W'.heap.size := fun i hi => hi.elim (fun h1 => Nat.lt_of_lt_of_le (h i h1) hs) (fun h1 => h1.2)
theorem Rng.lt {W : World} {F : Nat → Prop} {r n : Nat} {L : RLs} (h : Rng W F r n L) : r < W.heap.size := by
  obtain ⟨mb, sv, u, h1, h2⟩ := h.mem
  exact h1.lt.1
theorem Rng.mono {W : World} {F : Nat → Prop} {r n n' : Nat} {L : RLs} (h : Rng W F r n L) (hn : n ≤ n') : Rng W F r n' L := by
  obtain ⟨mb, sv, u, h1, h2⟩ := h.mem
  obtain ⟨D, h3, h4⟩ := h1.map
  exact ⟨h.ok, Nat.le_trans h.few hn, h.bd, mb, sv, u, ⟨h1.blk, h1.len, h1.rows, h1.apart, ⟨D, h3.mono hn, h4⟩, h1.footR, h1.footM⟩, h2⟩
end Go.Proofs.Ytedlplkomfiahaa
namespace Go.Proofs.Ytedlplkomfiahaa
set_option linter.unusedVariables false
set_option linter.unusedSimpArgs false
set_option linter.unusedSectionVars false
open Go Go.RowKit Go.Maps
abbrev FOrd : Value := .func (.func 80) #[] #[]
theorem insert_nil (W : World) : Calls Try.prog 104 #[.slice none 0 0, .int .i64 0, .int .i64 0, FOrd] W fun e W' => e = .returned (.tuple #[]) ∧ W' = W := by
  go_enter Try.func104, Try.ntmps104
  go_wp2_with fail
  go_loopw [8] (fun u wr => u = .int .i64 1 ∧ wr = W) (fun _ _ => 0)
  case atStart => exact ⟨rfl, rfl⟩
  case round =>
    obtain ⟨rfl, rfl⟩ := hrel
    go_wp2_with fail
    exact bodyPost_end (results_none rfl _ _ _) rfl ⟨rfl, rfl⟩
theorem stable_nil (W : World) : Calls Try.prog 101 #[.slice none 0 0, .int .i64 0, FOrd] W fun e W' => e = .returned (.tuple #[]) ∧ W' = W := by
  go_enter Try.func101, Try.ntmps101
  go_wp2_with fail
  go_loopw [7, 8] (fun u v wr => u = .int .i64 0 ∧ v = .int .i64 20 ∧ wr = W) (fun _ _ _ => 0)
  case atStart => exact ⟨rfl, rfl, rfl⟩
  case round =>
    obtain ⟨rfl, rfl, rfl⟩ := hrel
    go_wp2_with fail
    refine (insert_nil _).mono ?_
    rintro e W2 ⟨rfl, rfl⟩
    go_wp2_with fail
    go_loopw [6] (fun u wr => u = .int .i64 20 ∧ wr = W2) (fun _ _ => 0)
    case atStart => exact ⟨rfl, rfl⟩
    case round =>
      obtain ⟨rfl, rfl⟩ := hrel
      go_wp2_with fail
      exact bodyPost_end (results_none rfl _ _ _) rfl ⟨rfl, rfl⟩
theorem sortStable_any (W : World) (F : Nat → Prop) (v : Value) (l : List Th) (h : TR W F v l) (hl : l.length ≤ 1000000) :
    Calls Try.prog 88 #[v, FOrd] W fun e W' => e = .returned (.tuple #[]) ∧ TR W' F v (Sta.srt thLe l) ∧ W.grownBy W' v.ownBlock := by
  rcases h.own.2 with ⟨rfl, h0⟩ | ⟨g, cap, cur, rfl, _⟩
  · have h1 : l = [] := List.eq_nil_of_length_eq_zero h0
    subst h1
    go_enter Try.func88, Try.ntmps88
    go_wp2_with fail
    refine (stable_nil _).mono ?_
    rintro e W2 ⟨rfl, rfl⟩
    go_wp2_with fail
    exact bodyPost_end (results_none rfl _ _ _) rfl ⟨rfl, TR.nil _ _, World.grownBy.refl _ _⟩
  · have hs : SR thT W W 0 g l.length cap l := ⟨h.own, World.grownBy.refl _ _, rfl⟩
    have hst := stable_any l W W 0 g l.length cap hl hs
    have hf := h.foot
    have Hst := Lib.hid hst
    clear hst hs h
    go_enter Try.func88, Try.ntmps88
    go_wp2_with fail
    refine Hst.out.mono ?_
    rintro e W2 ⟨rfl, hr⟩
    go_wp2_with fail
    refine bodyPost_end (results_none rfl _ _ _) rfl ⟨rfl, ⟨?_, hf⟩, hr.gr⟩
    rw [Sta.srt_len]; exact hr.own
theorem sort_any (W : World) (F : Nat → Prop) (v : Value) (l : List Th) (h : TR W F v l) (hl : l.length ≤ 1000000) :
    Calls Try.prog 70 #[v] W fun e W' => e = .returned (.tuple #[]) ∧ TR W' F v (Sta.srt thLe l) ∧ W.grownBy W' v.ownBlock := by
  have hst := sortStable_any W F v l h hl
  have Hst := Lib.hid hst
  obtain ⟨ao, cap, rfl⟩ := own_slice h.own
  clear hst h
  go_enter Try.func70, Try.ntmps70
  go_wp2_with fail
  refine Hst.out.mono ?_
  rintro e W2 ⟨rfl, hr⟩
  go_wp2_with fail
  exact bodyPost_end (results_none rfl _ _ _) rfl ⟨rfl, hr⟩
/-- a copy -/
theorem cloneTh_any (W : World) (F : Nat → Prop) (v : Value) (l : List Th) (h : TR W F v l) (hl : l.length ≤ 1000000) :
    Calls Try.prog 94 #[v] W fun e W' => (∃ v', e = .returned v' ∧ W'.ownsRow W.heap.size thT 3 v' l.length (thFlat l)) ∧ Below W.heap.size W W' := by
  have q22 : ∀ (w : World) (a : Option Addr) (n c n' c' : Nat), (binOp .eql 35 (.slice a n c) (.slice none n' c')).run Try.prog w = .ok (.bool a.isNone) w := fun w a n c n' c' => Lib.run_eql_slice_nil w _ _ a n c n' c' Try.underlying35
  rcases h.own.2 with ⟨rfl, h0⟩ | ⟨g, cap, cur, rfl, _⟩
  · have h1 : l = [] := List.eq_nil_of_length_eq_zero h0
    subst h1
    go_enter Try.func94, Try.ntmps94
    go_wp2
    go_ret
    exact ⟨⟨_, rfl, World.ownsRow_nil _ _ _ _⟩, Below.refl _ _⟩
  · have hs : Sl W 3 (some ⟨g, 0, none⟩) l.length cap (thFlat l) := Sl.of_own h.own
    go_enter Try.func94, Try.ntmps94
    go_wp2_with (at_builtin; refine wpl_append rfl (.tmp 5) (.tmp 6) 35 rfl W.heap.size 32 infoTh Try.underlying35 rfl (by decide) _ 0 [] rfl (own_empty W W.heap.size _ 3 (Nat.le_refl _)) _ _ _ _ rfl (hs.below (below_new _ _)) (ths_one l) ?_ ?_ ?_ ?_; (unfold maxLen; omega); omega; exact (below_new _ _).size; intro ao' cap' w' hown' hg')
    go_ret
    refine ⟨⟨_, rfl, ?_⟩, below_app (below_new _ _) hg' (own_empty W W.heap.size _ 3 (Nat.le_refl _)) (Nat.le_refl _) (below_new _ _).size⟩
    rw [Nat.zero_add] at hown'
    exact hown'
/-- a ring that a call made -/
theorem none_no (W : World) (r mb : Nat) (hc : W.cell? ⟨r, 65, none⟩ = some (.map (some mb))) (hr : r < W.heap.size) :
    Calls Try.prog 93 #[.pointer (some ⟨r, 0, none⟩)] W fun e W' => e = .returned (.bool false) ∧ W' = W := by
  have q1 : (binOp .eql 146 (.map (some mb)) (.map none)).run Try.prog W = .ok (.bool false) W := by kernel_rfl
  go_enter Try.func93, Try.ntmps93
  go_wp2_with fail
  go_ret
  exact ⟨rfl, rfl⟩
set_option maxRecDepth 100000 in
theorem len_ring (W : World) (F : Nat → Prop) (r n : Nat) (L : RLs) (h : Rng W F r n L) :
    Calls Try.prog 90 #[.pointer (some ⟨r, 0, none⟩)] W fun e W' => e = .returned (.int .i64 (L.length : Nat)) ∧ W' = W := by
  obtain ⟨mb, sv, u, hm, hu⟩ := h.mem
  have hc := hm.cellM
  have hr := hm.lt.1
  have Hno := Lib.hid (none_no W r mb hc hr)
  obtain ⟨D, hD, hE⟩ := hm.map
  have hsz : Maps.size D = L.length := by rw [hE.size]; simp [pairs]
  have Hsz := Lib.hid hsz
  have HD := Lib.hid hD
  clear hsz hm hu h hD hE
  go_enter Try.func90, Try.ntmps90
  go_wp2_with fail
  refine Hno.out.mono ?_
  rintro e W2 ⟨rfl, rfl⟩
  have hlen := HD.out.len Try.underlying146 3
  rw [Hsz.out] at hlen
  go_wp2_with fail
  go_ret
  exact ⟨rfl, rfl⟩
end Go.Proofs.Ytedlplkomfiahaa
namespace Go.Proofs.Ytedlplkomfiahaa
set_option linter.unusedVariables false
set_option linter.unusedSimpArgs false
set_option linter.unusedSectionVars false
open Go Go.RowKit Go.Maps
/-- a look at the map -/
theorem Rm.look_yes {W : World} {F : Nat → Prop} {r n mb : Nat} {sv : List Value} {u : Nat} {ρ : Nat → List Th} {L : RLs} (h : Rm W F r n mb sv u ρ (pairs L)) {p : Th × Nat} (hp : p ∈ L) (hw : IdOk p.1.id) {W' : World} (hb : W'.heap[mb]? = W.heap[mb]?) :
    (Instr.lookup mwT (.map (some mb)) (.int .u64 p.1.id) true).run Try.prog W' = .ok (.tuple #[.int .i64 (p.2 : Nat), .bool true]) W' := by
  obtain ⟨D, ⟨es, clock, h1, h1'⟩, h2⟩ := h.map
  have ho : W'.ownsMap Try.prog 28 (plainElem Try.prog 3) mb n D := ⟨es, clock, hb.trans h1, h1'⟩
  obtain ⟨v, ps, hrun, hv⟩ := ho.look_ok u64law Try.underlying146 (zeroI W') (plainElem_int (a := 0) Try.underlying3 (by decide)) (keyOf_int_mk Try.underlying28 hw.wf)
  have hm : (p.1.id, (DataW.lit (.int .i64 (p.2 : Nat)) : DataW Unit)) ∈ pairs L := List.mem_map.2 ⟨p, hp, rfl⟩
  rw [(h2.has p.1.id).2 ⟨_, hm, rfl⟩] at hrun
  rw [h2.at_ _ hm] at hv
  obtain ⟨c, rfl, hc, -⟩ := plainElem_int_inv Try.underlying3 hv
  simp only [Prod.mk.injEq, DataW.lit.injEq, Lit.int.injEq, true_and] at hc
  rw [hrun, ← hc.1]
theorem Rm.look_no {W : World} {F : Nat → Prop} {r n mb : Nat} {sv : List Value} {u : Nat} {ρ : Nat → List Th} {L : RLs} (h : Rm W F r n mb sv u ρ (pairs L)) {id : Int} (hf : ∀ p ∈ L, p.1.id ≠ id) (hw : IdOk id) {W' : World} (hb : W'.heap[mb]? = W.heap[mb]?) :
    (Instr.lookup mwT (.map (some mb)) (.int .u64 id) true).run Try.prog W' = .ok (.tuple #[.int .i64 0, .bool false]) W' := by
  obtain ⟨D, ⟨es, clock, h1, h1'⟩, h2⟩ := h.map
  have ho : W'.ownsMap Try.prog 28 (plainElem Try.prog 3) mb n D := ⟨es, clock, hb.trans h1, h1'⟩
  obtain ⟨v, ps, hrun, hv⟩ := ho.look_ok u64law Try.underlying146 (zeroI W') (plainElem_int (a := 0) Try.underlying3 (by decide)) (keyOf_int_mk Try.underlying28 hw.wf)
  have hm : ∀ q ∈ pairs L, q.1 ≠ id := fun q hq => by
    obtain ⟨p, hp, rfl⟩ := List.mem_map.1 hq
    exact hf p hp
  rw [h2.hasnt hm] at hrun
  rw [h2.atnt hm] at hv
  obtain ⟨c, rfl, hc, -⟩ := plainElem_int_inv Try.underlying3 hv
  simp only [Prod.mk.injEq, DataW.lit.injEq, Lit.int.injEq, true_and] at hc
  rw [hrun, ← hc.1]
/-- a ring in new memory -/
theorem Rng.new (W : World) (cs : Array Value) (hcs : cs = (List.replicate 64 (Value.slice none 0 0) ++ [Value.int .u64 ((0 : Nat) : Int), Value.map (some W.heap.size)]).toArray) :
    Rng ((W.alloc (.map #[] 0)).alloc (.cells cs rgT)) (More (fun _ => False) W ((W.alloc (.map #[] 0)).alloc (.cells cs rgT))) (W.heap.size + 1) 0 [] ∧ Below W.heap.size W ((W.alloc (.map #[] 0)).alloc (.cells cs rgT)) := by
  have hB : Below W.heap.size W ((W.alloc (.map #[] 0)).alloc (.cells cs rgT)) := below_on (below_new W _) (below_new _ _) (Nat.le_refl _)
  refine ⟨⟨RLok.nil, Nat.le_refl _, More.bd (fun _ h => h.elim) hB.size, W.heap.size, List.replicate 64 (Value.slice none 0 0), 0, ⟨?_, by simp, fun k hk => ?_, fun i j hi hj hij g hg => ?_, ⟨_, (World.ownsMap_made W Try.prog _ _).alloc _, MapL.nil⟩, .inr (by simp), .inr ⟨Nat.le_refl _, by simp; omega⟩⟩, UsedIs.nil⟩, hB⟩
  · have := heap_alloc_new (W.alloc (.map #[] 0)) (.cells cs rgT)
    rw [hcs] at this ⊢
    simpa using this
  · rw [List.getElem_replicate]; exact TR.nil _ _
  · rw [List.getElem_replicate] at hg; cases hg
theorem new_ring (W : World) :
    Calls Try.prog 65 #[] W fun e W' => e = .returned (.pointer (some ⟨W.heap.size + 1, 0, none⟩)) ∧ Rng W' (More (fun _ => False) W W') (W.heap.size + 1) 0 [] ∧ Below W.heap.size W W' := by
  have hmk := @run_makeMap Try.prog
  have hzr : ∀ w, (zeroValue 149).run Try.prog w = .ok (.agg (List.replicate 64 (Value.slice none 0 0) ++ [Value.int .u64 0, Value.map none]).toArray) w := fun w => by kernel_rfl
  go_enter Try.func65, Try.ntmps65
  go_wp2_with fail
  go_ret
  exact ⟨rfl, Rng.new W _ (by rfl)⟩
/-- behind an append to a slot's row -/
theorem Rm.row_app {W W4 w4 : World} {F : Nat → Prop} {r n mb : Nat} {sv : List Value} {u : Nat} {ρ : Nat → List Th} {E : List (Int × DataW Unit)} (h : Rm W F r n mb sv u ρ E) (k : Nat) (hk : k < sv.length) {v : Value} (hv : sv[k] = v) (hB : Below W.heap.size W W4) (hg : W4.grownBy w4 v.ownBlock) :
    w4.cell? ⟨r, k, none⟩ = some v ∧ w4.frozen? ⟨r, k, none⟩ = false ∧ W.grownBy w4 v.ownBlock := by
  subst hv
  have hl := h.lt
  have h1 : w4.heap[r]? = W.heap[r]? := (hg.block r (Nat.lt_of_lt_of_le hl.1 hB.size) (fun e => (h.row_ne hk e.symm).1 rfl)).trans (hB.block r hl.1)
  have h2 : w4.heap[r]? = some (.cells (sv ++ [Value.int .u64 (u : Nat), Value.map (some mb)]).toArray rgT (0, 0)) := h1.trans h.blk
  exact ⟨(World.cell?_of_block h1).trans (h.cell k hk), block_free h2 k, grown_trans (grown_below hB) hg⟩
theorem Rm.put_row {W W3 w4 : World} {F : Nat → Prop} {r n mb g c4 X cp : Nat} {ao : Option Addr} {sv : List Value} {u : Nat} {ρ : Nat → List Th} {E : List (Int × DataW Unit)} (h : Rm W3 F r n mb sv u ρ E) (hB : Below W.heap.size W W3) (k : Nat) (hk : k < sv.length) (t : Th)
    (hsv : sv[k] = .slice ao (ρ k).length cp) (hg : W3.grownBy w4 (Value.slice ao (ρ k).length cp).ownBlock) (ho : w4.ownsRow 0 thT 3 (.slice (some ⟨g, 0, none⟩) ((ρ k).length + 1) c4) ((ρ k).length + 1) ((ρ k).map thCells ++ [thCells t]).flatten)
    (hlie : (Value.slice ao (ρ k).length cp).ownBlock = some g ∨ g = X) (hX : W3.heap.size ≤ X) :
    ∃ v', Rm (w4.setCell ⟨r, k, none⟩ (.slice (some ⟨g, 0, none⟩) ((ρ k).length + 1) c4)) (More F W (w4.setCell ⟨r, k, none⟩ (.slice (some ⟨g, 0, none⟩) ((ρ k).length + 1) c4))) r n mb (sv.set k v') u (updR ρ k (ρ k ++ [t])) E ∧ Gr F W3 (w4.setCell ⟨r, k, none⟩ (.slice (some ⟨g, 0, none⟩) ((ρ k).length + 1) c4)) := by
  have hg4 := (ho.lt g rfl).2
  have hlie2 : ∀ g', (Value.slice (some ⟨g, 0, none⟩) ((ρ k).length + 1) c4).ownBlock = some g' → sv[k].ownBlock = some g' ∨ W3.heap.size ≤ g' := fun g' hg' => by
    simp only [Value.ownBlock, Option.some.injEq] at hg'
    subst hg'
    rw [hsv]
    exact hlie.imp id (fun e => by omega)
  have hlen : (ρ k ++ [t]).length = (ρ k).length + 1 := by simp
  have hstep := h.setRow (G := More F W (w4.setCell ⟨r, k, none⟩ (.slice (some ⟨g, 0, none⟩) ((ρ k).length + 1) c4))) k hk (.slice (some ⟨g, 0, none⟩) ((ρ k).length + 1) c4) (ρ k ++ [t]) (by rw [hsv]; exact hg) (by rw [hlen, ← thFlat_app]; exact ho) hlie2 (fun i hi => .inl hi) (fun g' hg' => by
    have := hlie2 g' hg'
    rcases this with h1 | h1
    · exact .inl ((h.rows k hk).foot g' h1)
    · simp only [Value.ownBlock, Option.some.injEq] at hg'
      subst hg'
      exact .inr ⟨Nat.le_trans hB.size h1, by simpa using hg4⟩)
  exact ⟨_, hstep.1, hstep.2⟩
theorem mapset_run {W : World} {b n : Nat} {D : DataW Unit} (h : W.ownsMap Try.prog 28 (plainElem Try.prog 3) b n D) (hn : n < 1000000) (id : Int) (hw : IdOk id) (k : Nat) (hk : k < 64) :
    ∃ W', (Instr.mapUpdate mwT (.map (some b)) (.int .u64 id) (.int .i64 (k : Nat))).run Try.prog W = .ok () W' ∧ W'.ownsMap Try.prog 28 (plainElem Try.prog 3) b (n + 1) (D.put (.int .u64 id) (.lit (.int .i64 (k : Nat)))) ∧ W.grownBy W' (some b) :=
  h.update u64law Try.underlying146 (by unfold maxLen; omega) (keyOf_int_mk Try.underlying28 hw.wf) (plainElem_int Try.underlying3 (by simp [Lit.wf, IntKind.min, IntKind.max, IntKind.signed, IntKind.bits]; omega))
theorem pow_in (k : Nat) (hk : k < 64) : IntKind.u64.wrap (2 ^ k) = ((2 ^ k : Nat) : Int) := by
  have h5 : 2 ^ k < 18446744073709551616 := Nat.pow_lt_pow_right (a := 2) (n := 64) (by decide) hk
  have h4 : (2 : Int) ^ k = ((2 ^ k : Nat) : Int) := (Int.natCast_pow 2 k).symm
  rw [h4]
  generalize 2 ^ k = m at h5 ⊢
  simp [IntKind.wrap, IntKind.signed, IntKind.bits]; omega
theorem wrapU (m : Nat) (h : m < 18446744073709551616) : IntKind.u64.wrap (m : Int) = (m : Int) := by
  simp [IntKind.wrap, IntKind.signed, IntKind.bits]; omega
theorem bits_on (u k : Nat) (hk : k < 64) : bits .or .u64 (u : Nat) (IntKind.u64.wrap (2 ^ k)) = (onBit u k : Nat) := by
  rw [pow_in k hk]
  exact wrapU _ (onBit_lt u k)
theorem bits_off (u k : Nat) (hk : k < 64) : bits .andNot .u64 (u : Nat) (IntKind.u64.wrap (2 ^ k)) = (offBit u k : Nat) := by
  rw [pow_in k hk]
  exact wrapU _ (offBit_lt u k)
set_option maxRecDepth 100000 in
set_option maxHeartbeats 4000000 in
theorem put_ok (W : World) (F : Nat → Prop) (r n k : Nat) (L : RLs) (t : Th) (h : Rng W F r n L) (hk : k < 64) (hf : ∀ p ∈ L, p.1.id ≠ t.id) (hw : IdOk t.id) (hn : n < 1000000) :
    Calls Try.prog 92 #[.pointer (some ⟨r, 0, none⟩), .int .i64 (k : Nat), thVal t] W fun e W' => e = .returned (.int .i64 0) ∧ Rng W' (More F W W') r (n + 1) (L ++ [(t, k)]) ∧ Gr F W W' := by
  obtain ⟨mb, sv, u, hm, hu⟩ := h.mem
  have hok := h.ok
  have hfew := h.few
  obtain ⟨ti, tg, td⟩ := t
  have hkl : k < sv.length := by rw [hm.len]; exact hk
  obtain ⟨W1, hW1⟩ : ∃ W1, W1 = W.alloc (.cells #[.int .u64 ti, .int .u64 tg, .int .i64 td] thT) := ⟨_, rfl⟩
  have hB1 : Below W.heap.size W W1 := by rw [hW1]; exact below_new _ _
  have hm1 := hm.below hB1
  have hz1 : W1.heap.size = W.heap.size + 1 := by rw [hW1]; simp
  have ht1 : W1.heap[W.heap.size]? = some (.cells #[.int .u64 ti, .int .u64 tg, .int .i64 td] thT (0, 0)) := by rw [hW1]; exact heap_alloc_new _ _
  have t0 := block_cell ht1 0
  have t1 := block_cell ht1 1
  have t2 := block_cell ht1 2
  simp at t0 t1 t2
  have hc := hm1.cellM
  have hr := hm1.lt.1
  have htl : W.heap.size < W1.heap.size := by omega
  have Hno := Lib.hid (none_no W1 r mb hc hr)
  have k1 : ¬ (k : Int) < 0 := by omega
  have k2 : ¬ (64 : Int) ≤ (k : Int) := by omega
  have hlk := fun n => hm1.look_no (id := ti) hf hw (W' := W1.drewN n) (by simp)
  have Hz1 := Lib.hid hz1
  have Ht1 := Lib.hid ht1
  have Hm1 := Lib.hid hm1
  clear hm1 ht1
  unfold thVal
  go_enter Try.func92, Try.ntmps92
  go_wp2_with fail
  rw [← hW1]
  clear hz1 hW1
  refine Hno.out.mono ?_
  rintro e W2 ⟨rfl, hW2⟩
  subst hW2
  go_wp2_with fail
  go_quiet (fail)
  go_wp2_with fail
  obtain ⟨W3, hW3⟩ : ∃ W3, W3 = W2.drewN nq := ⟨_, rfl⟩
  have hm3 : Rm W3 F r n mb sv u (rowOf L) (pairs L) := by rw [hW3]; exact Hm1.out.kept (fun _ _ _ => by simp)
  have hB3 : Below W.heap.size W W3 := by rw [hW3]; exact ⟨hB1.os, hB1.tape, hB1.output, hB1.size, hB1.block⟩
  have t03 : W3.cell? ⟨W.heap.size, 0, none⟩ = some (.int .u64 ti) := by rw [hW3]; simpa using t0
  have t13 : W3.cell? ⟨W.heap.size, 1, none⟩ = some (.int .u64 tg) := by rw [hW3]; simpa using t1
  have t23 : W3.cell? ⟨W.heap.size, 2, none⟩ = some (.int .i64 td) := by rw [hW3]; simpa using t2
  have tl3 : W.heap.size < W3.heap.size := by rw [hW3]; simpa using htl
  have hr3 := hm3.lt.1
  have hrow := (hm3.rows k hkl).own
  obtain ⟨ao, cp, hsv⟩ := own_slice hrow
  have hck := hm3.cell k hkl
  rw [hsv] at hck hrow
  have hfr := hm3.free k
  have hlr : (rowOf L k).length ≤ 1000000 := by have := rowOf_len L k; omega
  have hblk := hm3.blk
  have Hblk := Lib.hid hblk
  have hzz : 0 ≤ W3.heap.size := Nat.zero_le _
  rw [← hW3]
  clear hW3 hB1 t0 t1 t2 hc hr htl Hno hlk hblk
  have Hm3 := Lib.hid hm3
  have Hrow := Lib.hid hrow
  clear hm3 hrow
  go_cut [6] (fun v wx => v = .int .i64 0 ∧ ∃ v', Rm wx (More F W wx) r n mb (sv.set k v') u (updR (rowOf L) k (rowOf L k ++ [⟨ti, tg, td⟩])) (pairs L) ∧ Gr F W3 wx)
  case first =>
    go_region_law (refine step_append_one rfl (.tmp 37) (.tmp 39) 35 rfl 0 32 infoTh Try.underlying35 rfl (by decide) (.slice ao (rowOf L k).length cp) (rowOf L k).length ((rowOf L k).map thCells) rfl (Hrow.out.alloc _) _ 1 (thCells ⟨ti, tg, td⟩) rfl rfl (news_at _ rfl) (th_one _) ?_ ?_ ?_ ?_; omega; (unfold maxLen; omega); (simp); intro g c4 w4 hown4 hg4 hlie; obtain ⟨ck4, fk4, gr4⟩ := Hm3.out.row_app k hkl hsv (by first | exact below_new W3 _ | exact (below_new W3 _).drew | exact below_on ((Below.refl W3.heap.size W3).drew) (below_new _ _) (Nat.le_refl _)) hg4)
    all_goals
      have hfin := Hm3.out.put_row hB3 k hkl ⟨ti, tg, td⟩ hsv gr4 hown4 hlie (by simp)
      go_wp2_with fail
      go_meet
      exact ⟨rfl, hfin⟩
  case rest =>
    obtain ⟨rfl, v', hmw, hgw⟩ := hcut
    have hcu := hmw.cellU
    have hfu := hmw.free 64
    have hrw := hmw.lt.1
    have hbo := bits_on u k hk
    have Hmw := Lib.hid hmw
    clear hmw hck hfr
    have htw : wc.cell? ⟨W.heap.size, 0, none⟩ = some (.int .u64 ti) := by
      rw [← t03]
      exact World.cell?_of_block (hgw.block W.heap.size tl3 (fun e => Nat.lt_irrefl _ (h.bd _ e)))
    have htwl := Nat.lt_of_lt_of_le tl3 hgw.size
    go_wp2_with fail
    go_region
    all_goals
      go_wp2_with fail
      obtain ⟨W5, hW5⟩ : ∃ W5, W5 = (wc.setCell ⟨r, 64, none⟩ (.int .u64 (onBit u k : Nat))).drew := ⟨_, rfl⟩
      rw [← hW5]
      have hst := Hmw.out.setU (onBit u k)
      have hm5 : Rm W5.drew (More F W wc) r n mb (sv.set k v') (onBit u k) (updR (rowOf L) k (rowOf L k ++ [⟨ti, tg, td⟩])) (pairs L) := by rw [hW5]; exact hst.1.kept (fun _ _ _ => rfl)
      have hg5 : Gr F wc W5.drew := by
        rw [hW5]
        exact ((Gr.one (grown_set wc r 64 _) fun b hb => by simp only [Option.some.injEq] at hb; subst hb; exact hm.footR).drew).drew
      have ht5 : W5.cell? ⟨W.heap.size, 0, none⟩ = some (.int .u64 ti) := by
        rw [hW5, ← htw]
        exact World.cell?_of_block (heap_setCell_other wc ⟨r, 64, none⟩ W.heap.size _ (fun e => Nat.lt_irrefl _ (by have := hm.lt.1; rw [← (show W.heap.size = r from e)] at this; exact this)))
      have hz5 : wc.heap.size = W5.heap.size := by rw [hW5]; simp
      have htl5 : W.heap.size < W5.heap.size := by rw [← hz5]; exact htwl
      have hcm5 : W5.cell? ⟨r, 65, none⟩ = some (.map (some mb)) := hm5.cellM
      have hr5 : r < W5.heap.size := hm5.lt.1
      obtain ⟨D, hD, hE⟩ := hm5.map
      obtain ⟨W6, hupd, hD6, hg6⟩ := mapset_run hD hn ti hw k hk
      have hE6 : MapL (D.put (.int .u64 ti) (.lit (.int .i64 (k : Nat)))) (pairs (L ++ [((⟨ti, tg, td⟩ : Th), k)])) := by
        rw [pairs_snoc]
        exact hE.put ti _ (fun p hp => by
          obtain ⟨q, hq, rfl⟩ := List.mem_map.1 hp
          exact hf q hq)
      have hm6 := hm5.turn hg6 hD6 hE6
      have hsz : W.heap.size ≤ wc.heap.size := Nat.le_trans (Nat.le_of_lt tl3) hgw.size
      have hgr : Gr F W W6 := (((Gr.below hB3).trans hgw).trans hg5).trans (Gr.one hg6 fun b hb => by simp only [Option.some.injEq] at hb; subst hb; exact hm.footM)
      have hfin : Rng W6 (More F W W6) r (n + 1) (L ++ [((⟨ti, tg, td⟩ : Th), k)]) := by
        refine ⟨hok.snoc _ k hk hf hw, by simp; omega, More.bd h.bd hgr.size, mb, sv.set k v', onBit u k, (hm6.1.refoot fun i hi hl => ?_).same (fun j hj => ?_) rfl, hu.put _ k hk⟩
        · exact hi.imp id (fun h1 => ⟨h1.1, hl⟩)
        · rw [rowOf_snoc]
          unfold updR
          by_cases e : j = k
          · subst e; simp
          · rw [if_neg e, if_neg (Ne.symm e)]
      have Hfin := Lib.hid (⟨hfin, hgr⟩ : Rng W6 (More F W W6) r (n + 1) (L ++ [((⟨ti, tg, td⟩ : Th), k)]) ∧ Gr F W W6)
      clear hst hm5 hg5 hz5 hD hE hD6 hg6 hE6 hm6 hsz hgr hfin hW5 hbo hcu hfu hgw htw htwl hrw
      go_region
      all_goals
        go_wp2_with fail
        go_ret
        exact ⟨rfl, Hfin.out⟩
end Go.Proofs.Ytedlplkomfiahaa
