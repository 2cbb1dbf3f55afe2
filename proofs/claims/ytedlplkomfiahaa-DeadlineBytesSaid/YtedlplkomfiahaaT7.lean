/- Lemmas for DeadlineBytes (Tm). No statement of the seat is proved here. -/
import Derived.Test.YtedlplkomfiahaaT6
namespace Go.Proofs.Ytedlplkomfiahaa
set_option linter.unusedVariables false
set_option linter.unusedSimpArgs false
set_option linter.unusedSectionVars false
open Go Go.RowKit
theorem app_A (P A R : List Th) (t : Nat) (h : t < A.length) (h2 : P.length + t < (P ++ (A ++ R)).length) : (P ++ (A ++ R))[P.length + t] = A[t] := by
  rw [List.getElem_append_right (by omega)]
  simp only [Nat.add_sub_cancel_left]
  rw [List.getElem_append_left h]
theorem app_B (P A B R : List Th) (t : Nat) (h : t < B.length) (h2 : P.length + A.length + t < (P ++ (A ++ (B ++ R))).length) : (P ++ (A ++ (B ++ R)))[P.length + A.length + t] = B[t] := by
  rw [List.getElem_append_right (by omega)]
  simp only [show P.length + A.length + t - P.length = A.length + t by omega]
  rw [List.getElem_append_right (by omega)]
  simp only [Nat.add_sub_cancel_left]
  rw [List.getElem_append_left h]
theorem mid_facts (i j hh : Nat) (bi : i ≤ 1000000) (bj : j ≤ 1000000) (h : hh = (i + j) / 2) : ∃ ij : Nat, wrap64 ((i : Int) + (j : Int)) = (ij : Int) ∧ IntKind.u64.wrap (ij : Int) = (ij : Int) ∧ IntKind.i64.wrap ((ij : Int) / 2) = (hh : Int) ∧ wrap64 ((ij : Int) / 2) = (hh : Int) := by
  refine ⟨i + j, w_add i j (i + j) 2000000 rfl (by omega) (by omega), IntWalk.u64_in _ (by omega), ?_, ?_⟩
  · rw [IntWalk.i64_in _ (by omega), h]; omega
  · rw [IntWalk.wrap64_in _ (by omega), h]; omega
theorem mv_nums (p b q n a s t k : Nat) (hq : p + s + 1 + q = n) (hb : b = s) (ha : a = p) (hk : k = a + t) (ht : t < s) : k < p + b + 1 + q ∧ k + 1 < p + b + 1 + q ∧ k < n ∧ k = p + t ∧ k + 1 = p + t + 1 := by omega
theorem up_le (B : List Th) (h : thUp B) (r s : Nat) (hr : r ≤ s) (hs : s < B.length) : thLe (B[r]'(by omega)) B[s] = true := by
  by_cases e : r = s
  · subst e; exact (thLe_total _ _).elim id id
  · exact List.pairwise_iff_getElem.1 h r s (by omega) hs (by omega)
theorem up_no (B : List Th) (h : thUp B) (x : Th) (r s : Nat) (hr : r ≤ s) (hs : s < B.length) (hx : thLe x B[s] = false) : thLe x (B[r]'(by omega)) = false := by
  cases h2 : thLe x (B[r]'(by omega)) with
  | false => rfl
  | true => rw [thLe_trans _ _ _ h2 (up_le B h r s hr hs)] at hx; cases hx
theorem up_yes (B : List Th) (h : thUp B) (x : Th) (r s : Nat) (hr : r ≤ s) (hs : s < B.length) (hx : thLe x (B[r]'(by omega)) = true) : thLe x B[s] = true := thLe_trans _ _ _ hx (up_le B h r s hr hs)
set_option maxRecDepth 1000000 in
set_option maxHeartbeats 16000000 in
theorem symMerge_one (x : Th) (P B Q : List Th) (a m b : Nat) (W0 W : World) (base g n cap : Nat) (hn : n ≤ 1000000) (ha : a = P.length) (hm : m = P.length + 1) (hb : b = P.length + 1 + B.length) (hB : thUp B)
    (h : SR thT W0 W base g n cap (P ++ ([x] ++ (B ++ Q)))) :
    Calls Try.prog 105 #[.slice (some ⟨g, 0, none⟩) n cap, .int .i64 (a : Nat), .int .i64 (m : Nat), .int .i64 (b : Nat), .func (.func 80) #[] #[]] W fun e W' => e = .returned (.tuple #[]) ∧ SR thT W0 W' base g n cap (P ++ (Sta.mg thLe [x] B ++ Q)) := by
  have hlen := h.len
  simp only [List.length_append, List.length_cons, List.length_nil] at hlen
  have Ha := Lib.hid ha
  have Hm := Lib.hid hm
  have Hb := Lib.hid hb
  have Hlen := Lib.hid hlen
  have Hn := Lib.hid hn
  have HB := Lib.hid hB
  have H := Lib.hid h
  have w1 : wrap64 ((m : Int) - (a : Int)) = 1 := w_sub m a 1 n (by omega) (by omega) (by omega)
  clear ha hm hb hlen hn hB h
  go_enter Try.func105, Try.ntmps105
  go_wp2_with fail
  clear w1
  go_loopw [10, 11] (fun u v wr => ∃ (i j s e : Nat), u = .int .i64 (i : Nat) ∧ v = .int .i64 (j : Nat) ∧ Hid (i = m + s) ∧ Hid (j = m + e) ∧ s ≤ e ∧ e ≤ B.length ∧ Hid (∀ r (hr : r < B.length), r < s → thLe x B[r] = false) ∧ Hid (∀ r (hr : r < B.length), e ≤ r → thLe x B[r] = true) ∧ SR thT W0 wr base g n cap (P ++ ([x] ++ (B ++ Q)))) (fun u v _ => (intOf v).toNat - (intOf u).toNat)
  case atStart => exact ⟨m, b, 0, B.length, rfl, rfl, rfl, by show _ = _; rw [Hb.out, Hm.out], Nat.zero_le _, Nat.le_refl _, fun r _ h => by omega, fun r h1 h2 => by omega, H.out⟩
  case round =>
    obtain ⟨i, j, s, e, rfl, rfl, hi, hj, hse, heB, hlo, hhi, hr⟩ := hrel
    by_cases hlt : s < e
    · obtain ⟨hs, hhs⟩ : ∃ hs, hs = (s + e) / 2 := ⟨_, rfl⟩
      obtain ⟨hh, hhh⟩ : ∃ hh, hh = m + hs := ⟨_, rfl⟩
      have c1 : (i : Int) < (j : Int) := by have := hi.out; have := hj.out; omega
      have hmid : hh = (i + j) / 2 := by rw [hhh, hhs, hi.out, hj.out]; omega
      have bi : i ≤ 1000000 := by have := hi.out; have := Hm.out; have := Hlen.out; have := Hn.out; omega
      have bj : j ≤ 1000000 := by have := hj.out; have := Hm.out; have := Hlen.out; have := Hn.out; omega
      have Hhh := Lib.hid hhh
      have Hhs := Lib.hid (show s ≤ hs ∧ hs < e by omega)
      have hsB : hs < B.length := by omega
      clear hhh hhs hlt
      go_upto_region 4 with fail
      go_cut [12] (fun v wx => v = .int .i64 (hh : Nat) ∧ wx = wr)
      case first =>
        obtain ⟨ij, m1, m2, m3, m4⟩ := mid_facts i j hh bi bj hmid
        clear bi bj hmid
        go_wp2_with fail
        go_meet
        exact ⟨rfl, rfl⟩
      case rest =>
        obtain ⟨rfl, hwc⟩ := hcut
        have hwc2 := hwc.symm
        clear hwc
        subst hwc2
        clear bi bj hmid
        have hDn := hr.len
        obtain ⟨D, hD⟩ : ∃ D, D = P ++ ([x] ++ (B ++ Q)) := ⟨_, rfl⟩
        have hH : hh < D.length := by rw [hD, hDn, Hhh.out, Hm.out, ← Hlen.out]; omega
        have hA : a < D.length := by rw [hD, hDn, Ha.out, ← Hlen.out]; omega
        have atH : D[hh] = B[hs] := by
          have e1 : hh = P.length + [x].length + hs := by rw [Hhh.out, Hm.out]; rfl
          subst e1
          subst hD
          exact app_B P [x] B Q hs hsB hH
        have atA : D[a] = x := by
          have e1 : a = P.length + 0 := by rw [Ha.out]; rfl
          subst e1
          subst hD
          exact app_A P [x] (B ++ Q) 0 (by simp) hA
        obtain ⟨e1, e2⟩ := i_lt (n := n) hH (by rw [hD]; exact hDn)
        obtain ⟨e3, e4⟩ := i_lt (n := n) hA (by rw [hD]; exact hDn)
        have hr2 := hr
        rw [← hD] at hr2
        obtain ⟨y, hy⟩ : ∃ y, y = B[hs] := ⟨_, rfl⟩
        rw [← hy] at atH
        have hld : ∀ W', Below wr.heap.size wr W' → (Instr.loadAt 32 (.pointer (some ⟨g, hh * 3, none⟩))).run Try.prog W' = .ok (thVal y) W' ∧ (Instr.loadAt 32 (.pointer (some ⟨g, a * 3, none⟩))).run Try.prog W' = .ok (thVal x) W' := fun W' hb => by
          have h2 := hr2.below hb
          have a1 := ld_th h2 hh hH
          have a2 := ld_th h2 a hA
          rw [atH] at a1
          rw [atA] at a2
          exact ⟨a1, a2⟩
        have Hld := Lib.hid hld
        have Hr := Lib.hid hr
        have Hy := Lib.hid hy
        have HsB := Lib.hid hsB
        have Hw := Lib.hid (w_one hh n (by omega) (by have := Hn.out; omega))
        clear hDn hD hH hA atH atA hr2 hr hy hld c1
        by_cases hcmp : thLt y x = true
        · have hc := (orderN_lt y x).2 hcmp
          obtain ⟨o, ho⟩ : ∃ o, o = orderN y x := ⟨_, rfl⟩
          have hord := fun W => order_any y x W
          rw [← ho] at hc hord
          have Hox := Lib.hid hord
          have hle := (thLe_no x y).2 hcmp
          have Hle := Lib.hid hle
          clear ho hord hcmp hle
          go_upto_region 5 with fail
          have hSd := Hld.out wr.drew (Below.refl _ _).drew
          refine wp_region_held_drew (S := fun W' => (Instr.loadAt 32 (.pointer (some ⟨g, hh * 3, none⟩))).run Try.prog W' = .ok (thVal y) W' ∧ (Instr.loadAt 32 (.pointer (some ⟨g, a * 3, none⟩))).run Try.prog W' = .ok (thVal x) W') (by kernel_rfl) hSd (fun hHeld => ?_)
          refine wpAnyH_take (i := 0) (v := ?_) rfl (by kernel_rfl) (by kernel_rfl) (by kernel_rfl) (fun _ _ _ h => h) (Or.inl ⟨by rfl, ?_⟩) (by assumption) ?_
          rotate_left
          · intro w8 hSw; clear hSw; go_simp; (try with_reducible rfl)
          simp only [Act.put, List.getElem_toArray, List.getElem_cons_zero, List.getElem_cons_succ, List.setIfInBounds_toArray, List.set_cons_zero, List.set_cons_succ]
          refine wpAnyH_take (i := 1) (v := ?_) rfl (by kernel_rfl) (by kernel_rfl) (by kernel_rfl) (fun _ _ _ h => h) (Or.inl ⟨by rfl, ?_⟩) (by assumption) ?_
          rotate_left
          · intro w8 hSw; clear hSw; go_simp; (try with_reducible rfl)
          simp only [Act.put, List.getElem_toArray, List.getElem_cons_zero, List.getElem_cons_succ, List.setIfInBounds_toArray, List.set_cons_zero, List.set_cons_succ]
          refine wpAnyH_take (i := 2) (v := ?_) rfl (by kernel_rfl) (by kernel_rfl) (by kernel_rfl) (fun _ _ _ h => h) (Or.inl ⟨by rfl, ?_⟩) (by assumption) ?_
          rotate_left
          · intro w8 hSw; clear hSw; go_simp; (try with_reducible rfl)
          simp only [Act.put, List.getElem_toArray, List.getElem_cons_zero, List.getElem_cons_succ, List.setIfInBounds_toArray, List.set_cons_zero, List.set_cons_succ]
          refine wpAnyH_take (i := 3) (v := ?_) rfl (by kernel_rfl) (by kernel_rfl) (by kernel_rfl) (fun _ _ _ h => h) (Or.inl ⟨by rfl, ?_⟩) (by assumption) ?_
          rotate_left
          · intro w8 hSw; clear hSw; go_simp; (try with_reducible rfl)
          simp only [Act.put, List.getElem_toArray, List.getElem_cons_zero, List.getElem_cons_succ, List.setIfInBounds_toArray, List.set_cons_zero, List.set_cons_succ]
          refine wpAnyH_take (i := 4) (v := thVal y) rfl (by kernel_rfl) (by kernel_rfl) (by kernel_rfl) (fun _ _ _ h => h) (Or.inl ⟨by rfl, ?_⟩) (by assumption) ?_
          · intro w8 hSw; exact ld_takeT rfl hSw.1 rfl
          simp only [Act.put, List.getElem_toArray, List.getElem_cons_zero, List.getElem_cons_succ, List.setIfInBounds_toArray, List.set_cons_zero, List.set_cons_succ]
          refine wpAnyH_take (i := 5) (v := ?_) rfl (by kernel_rfl) (by kernel_rfl) (by kernel_rfl) (fun _ _ _ h => h) (Or.inl ⟨by rfl, ?_⟩) (by assumption) ?_
          rotate_left
          · intro w8 hSw; clear hSw; go_simp; (try with_reducible rfl)
          simp only [Act.put, List.getElem_toArray, List.getElem_cons_zero, List.getElem_cons_succ, List.setIfInBounds_toArray, List.set_cons_zero, List.set_cons_succ]
          refine wpAnyH_take (i := 6) (v := ?_) rfl (by kernel_rfl) (by kernel_rfl) (by kernel_rfl) (fun _ _ _ h => h) (Or.inl ⟨by rfl, ?_⟩) (by assumption) ?_
          rotate_left
          · intro w8 hSw; clear hSw; go_simp; (try with_reducible rfl)
          simp only [Act.put, List.getElem_toArray, List.getElem_cons_zero, List.getElem_cons_succ, List.setIfInBounds_toArray, List.set_cons_zero, List.set_cons_succ]
          refine wpAnyH_take (i := 7) (v := ?_) rfl (by kernel_rfl) (by kernel_rfl) (by kernel_rfl) (fun _ _ _ h => h) (Or.inl ⟨by rfl, ?_⟩) (by assumption) ?_
          rotate_left
          · intro w8 hSw; clear hSw; go_simp; (try with_reducible rfl)
          simp only [Act.put, List.getElem_toArray, List.getElem_cons_zero, List.getElem_cons_succ, List.setIfInBounds_toArray, List.set_cons_zero, List.set_cons_succ]
          refine wpAnyH_take (i := 8) (v := thVal x) rfl (by kernel_rfl) (by kernel_rfl) (by kernel_rfl) (fun _ _ _ h => h) (Or.inl ⟨by rfl, ?_⟩) (by assumption) ?_
          · intro w8 hSw; exact ld_takeT rfl hSw.2 rfl
          simp only [Act.put, List.getElem_toArray, List.getElem_cons_zero, List.getElem_cons_succ, List.setIfInBounds_toArray, List.set_cons_zero, List.set_cons_succ]
          refine wpAnyH_ready (rs := [9]) (by kernel_rfl) (by simp) ?_
          refine AllReadyH.cons rfl (fun K hK => ?_) AllReadyH.nil
          go_simp
          go_at_call 80
          refine (Hox.out _).mono ?_
          rintro e w5 ⟨rfl, hB5'⟩; have hB5 := below_on ((Below.refl wr.heap.size wr).drew) hB5' (Nat.le_refl _)
          refine hK.out _ _ (Hld.out _ hB5) (fun hHeld => ?_)
          clear hK K
          try simp only [Act.put, List.getElem_toArray, List.getElem_cons_zero, List.getElem_cons_succ, List.setIfInBounds_toArray, List.set_cons_zero, List.set_cons_succ]
          refine wpAnyH_take (i := 10) (v := ?_) rfl (by kernel_rfl) (by kernel_rfl) (by kernel_rfl) (fun _ _ _ h => h) (Or.inl ⟨by rfl, ?_⟩) (by assumption) ?_
          rotate_left
          · intro w8 hSw; clear hSw; go_simp; (try with_reducible rfl)
          simp only [Act.put, List.getElem_toArray, List.getElem_cons_zero, List.getElem_cons_succ, List.setIfInBounds_toArray, List.set_cons_zero, List.set_cons_succ]
          refine wpAnyH_done (by kernel_rfl) ?_ _
          go_wp2_with fail
          go_roundw
          case rel => exact ⟨hh + 1, j, hs + 1, e, by first | rfl | rw [Hw.out], rfl, by show _ = _; rw [Hhh.out]; omega, hj, by have := Hhs.out; omega, heB, (fun r hr h => by
            refine up_no B HB.out x r hs (by omega) HsB.out ?_
            rw [← Hy.out]; exact Hle.out), hhi, Hr.out.below hB5⟩
          case measure =>
            first | rw [Hw.out] | skip
            simp only [intOf, Int.toNat_natCast]
            have := hi.out
            have := hj.out
            have := Hhh.out
            have := Hhs.out
            omega
        · have hc : ¬ orderN y x < 0 := fun h => hcmp ((orderN_lt y x).1 h)
          obtain ⟨o, ho⟩ : ∃ o, o = orderN y x := ⟨_, rfl⟩
          have hord := fun W => order_any y x W
          rw [← ho] at hc hord
          have Hox := Lib.hid hord
          have hle : thLe x y = true := by
            cases h : thLe x y with
            | true => rfl
            | false => exact absurd ((thLe_no _ _).1 h) hcmp
          have Hle := Lib.hid hle
          clear ho hord hcmp hle
          go_upto_region 5 with fail
          have hSd := Hld.out wr.drew (Below.refl _ _).drew
          refine wp_region_held_drew (S := fun W' => (Instr.loadAt 32 (.pointer (some ⟨g, hh * 3, none⟩))).run Try.prog W' = .ok (thVal y) W' ∧ (Instr.loadAt 32 (.pointer (some ⟨g, a * 3, none⟩))).run Try.prog W' = .ok (thVal x) W') (by kernel_rfl) hSd (fun hHeld => ?_)
          refine wpAnyH_take (i := 0) (v := ?_) rfl (by kernel_rfl) (by kernel_rfl) (by kernel_rfl) (fun _ _ _ h => h) (Or.inl ⟨by rfl, ?_⟩) (by assumption) ?_
          rotate_left
          · intro w8 hSw; clear hSw; go_simp; (try with_reducible rfl)
          simp only [Act.put, List.getElem_toArray, List.getElem_cons_zero, List.getElem_cons_succ, List.setIfInBounds_toArray, List.set_cons_zero, List.set_cons_succ]
          refine wpAnyH_take (i := 1) (v := ?_) rfl (by kernel_rfl) (by kernel_rfl) (by kernel_rfl) (fun _ _ _ h => h) (Or.inl ⟨by rfl, ?_⟩) (by assumption) ?_
          rotate_left
          · intro w8 hSw; clear hSw; go_simp; (try with_reducible rfl)
          simp only [Act.put, List.getElem_toArray, List.getElem_cons_zero, List.getElem_cons_succ, List.setIfInBounds_toArray, List.set_cons_zero, List.set_cons_succ]
          refine wpAnyH_take (i := 2) (v := ?_) rfl (by kernel_rfl) (by kernel_rfl) (by kernel_rfl) (fun _ _ _ h => h) (Or.inl ⟨by rfl, ?_⟩) (by assumption) ?_
          rotate_left
          · intro w8 hSw; clear hSw; go_simp; (try with_reducible rfl)
          simp only [Act.put, List.getElem_toArray, List.getElem_cons_zero, List.getElem_cons_succ, List.setIfInBounds_toArray, List.set_cons_zero, List.set_cons_succ]
          refine wpAnyH_take (i := 3) (v := ?_) rfl (by kernel_rfl) (by kernel_rfl) (by kernel_rfl) (fun _ _ _ h => h) (Or.inl ⟨by rfl, ?_⟩) (by assumption) ?_
          rotate_left
          · intro w8 hSw; clear hSw; go_simp; (try with_reducible rfl)
          simp only [Act.put, List.getElem_toArray, List.getElem_cons_zero, List.getElem_cons_succ, List.setIfInBounds_toArray, List.set_cons_zero, List.set_cons_succ]
          refine wpAnyH_take (i := 4) (v := thVal y) rfl (by kernel_rfl) (by kernel_rfl) (by kernel_rfl) (fun _ _ _ h => h) (Or.inl ⟨by rfl, ?_⟩) (by assumption) ?_
          · intro w8 hSw; exact ld_takeT rfl hSw.1 rfl
          simp only [Act.put, List.getElem_toArray, List.getElem_cons_zero, List.getElem_cons_succ, List.setIfInBounds_toArray, List.set_cons_zero, List.set_cons_succ]
          refine wpAnyH_take (i := 5) (v := ?_) rfl (by kernel_rfl) (by kernel_rfl) (by kernel_rfl) (fun _ _ _ h => h) (Or.inl ⟨by rfl, ?_⟩) (by assumption) ?_
          rotate_left
          · intro w8 hSw; clear hSw; go_simp; (try with_reducible rfl)
          simp only [Act.put, List.getElem_toArray, List.getElem_cons_zero, List.getElem_cons_succ, List.setIfInBounds_toArray, List.set_cons_zero, List.set_cons_succ]
          refine wpAnyH_take (i := 6) (v := ?_) rfl (by kernel_rfl) (by kernel_rfl) (by kernel_rfl) (fun _ _ _ h => h) (Or.inl ⟨by rfl, ?_⟩) (by assumption) ?_
          rotate_left
          · intro w8 hSw; clear hSw; go_simp; (try with_reducible rfl)
          simp only [Act.put, List.getElem_toArray, List.getElem_cons_zero, List.getElem_cons_succ, List.setIfInBounds_toArray, List.set_cons_zero, List.set_cons_succ]
          refine wpAnyH_take (i := 7) (v := ?_) rfl (by kernel_rfl) (by kernel_rfl) (by kernel_rfl) (fun _ _ _ h => h) (Or.inl ⟨by rfl, ?_⟩) (by assumption) ?_
          rotate_left
          · intro w8 hSw; clear hSw; go_simp; (try with_reducible rfl)
          simp only [Act.put, List.getElem_toArray, List.getElem_cons_zero, List.getElem_cons_succ, List.setIfInBounds_toArray, List.set_cons_zero, List.set_cons_succ]
          refine wpAnyH_take (i := 8) (v := thVal x) rfl (by kernel_rfl) (by kernel_rfl) (by kernel_rfl) (fun _ _ _ h => h) (Or.inl ⟨by rfl, ?_⟩) (by assumption) ?_
          · intro w8 hSw; exact ld_takeT rfl hSw.2 rfl
          simp only [Act.put, List.getElem_toArray, List.getElem_cons_zero, List.getElem_cons_succ, List.setIfInBounds_toArray, List.set_cons_zero, List.set_cons_succ]
          refine wpAnyH_ready (rs := [9]) (by kernel_rfl) (by simp) ?_
          refine AllReadyH.cons rfl (fun K hK => ?_) AllReadyH.nil
          go_simp
          go_at_call 80
          refine (Hox.out _).mono ?_
          rintro e w5 ⟨rfl, hB5'⟩; have hB5 := below_on ((Below.refl wr.heap.size wr).drew) hB5' (Nat.le_refl _)
          refine hK.out _ _ (Hld.out _ hB5) (fun hHeld => ?_)
          clear hK K
          try simp only [Act.put, List.getElem_toArray, List.getElem_cons_zero, List.getElem_cons_succ, List.setIfInBounds_toArray, List.set_cons_zero, List.set_cons_succ]
          refine wpAnyH_take (i := 10) (v := ?_) rfl (by kernel_rfl) (by kernel_rfl) (by kernel_rfl) (fun _ _ _ h => h) (Or.inl ⟨by rfl, ?_⟩) (by assumption) ?_
          rotate_left
          · intro w8 hSw; clear hSw; go_simp; (try with_reducible rfl)
          simp only [Act.put, List.getElem_toArray, List.getElem_cons_zero, List.getElem_cons_succ, List.setIfInBounds_toArray, List.set_cons_zero, List.set_cons_succ]
          refine wpAnyH_done (by kernel_rfl) ?_ _
          go_wp2_with fail
          go_roundw
          case rel => exact ⟨i, hh, s, hs, rfl, rfl, hi, Hhh, Hhs.out.1, by have := HsB.out; omega, hlo, (fun r hr h => by
            refine up_yes B HB.out x hs r h hr ?_
            rw [← Hy.out]; exact Hle.out), Hr.out.below hB5⟩
          case measure =>
            simp only [intOf, Int.toNat_natCast]
            have := hi.out
            have := hj.out
            have := Hhh.out
            have := Hhs.out
            omega
    · obtain rfl : s = e := by omega
      have c1 : ¬ (i : Int) < (j : Int) := by have := hi.out; have := hj.out; omega
      have hfin : P ++ (Sta.mg thLe [x] B ++ Q) = Sta.mvu P (B.take s) (B.drop s ++ Q) x s := by
        have e1 := Sta.mg_one thLe x (B.take s) (B.drop s) (fun z hz => by
          obtain ⟨r, h1, rfl⟩ := List.mem_iff_getElem.1 hz
          simp only [List.length_take] at h1
          rw [List.getElem_take]
          exact hlo.out r (by omega) (by omega)) (fun z hz => by
          obtain ⟨r, h1, rfl⟩ := List.mem_iff_getElem.1 hz
          simp only [List.length_drop] at h1
          rw [List.getElem_drop]
          exact hhi.out (s + r) (by omega) (by omega))
        rw [List.take_append_drop] at e1
        rw [e1]
        have hts : (B.take s).length = s := by rw [List.length_take]; omega
        unfold Sta.mvu
        rw [List.take_of_length_le (show (B.take s).length ≤ s by omega), List.drop_eq_nil_of_le (show (B.take s).length ≤ s by omega)]
        simp
      have hbeg : P ++ ([x] ++ (B ++ Q)) = Sta.mvu P (B.take s) (B.drop s ++ Q) x 0 := by
        unfold Sta.mvu
        simp only [List.take_zero, List.drop_zero, List.nil_append]
        rw [← List.append_assoc (B.take s), List.take_append_drop]
        rfl
      rw [hbeg] at hr
      obtain ⟨B1, hB1⟩ : ∃ B1, B1 = B.take s := ⟨_, rfl⟩
      obtain ⟨Q1, hQ1⟩ : ∃ Q1, Q1 = B.drop s ++ Q := ⟨_, rfl⟩
      have hB1l : B1.length = s := by rw [hB1, List.length_take]; omega
      have hQ1l : P.length + s + 1 + Q1.length = n := by rw [hQ1, List.length_append, List.length_drop, ← Hlen.out]; omega
      rw [← hB1, ← hQ1] at hr hfin
      have Hfin := Lib.hid hfin
      have HB1 := Lib.hid hB1l
      have HQ1 := Lib.hid hQ1l
      have Hr := Lib.hid hr
      obtain ⟨i1, hi1⟩ : ∃ i1, i1 = a + s := ⟨_, rfl⟩
      have w2 : wrap64 ((i : Int) - 1) = (i1 : Int) := w_sub i 1 i1 n (by rw [hi.out, Hm.out, hi1, Ha.out]; omega) (by have := hi.out; have := Hm.out; have := Hlen.out; omega) (by have := Hn.out; omega)
      have Hi1 := Lib.hid hi1
      clear hfin hbeg hB1 hQ1 hB1l hQ1l hr hi1 hlt heB hse
      go_wp2_with fail
      go_loopw [13] (fun u ws => ∃ (k t : Nat), u = .int .i64 (k : Nat) ∧ Hid (k = a + t) ∧ t ≤ s ∧ SR thT W0 ws base g n cap (Sta.mvu P B1 Q1 x t)) (fun u _ => n - (intOf u).toNat)
      case atStart => exact ⟨a, 0, rfl, rfl, Nat.zero_le _, Hr.out⟩
      case round =>
        obtain ⟨k, t, rfl, hk, hts, hr⟩ := hrel
        by_cases hlt : t < s
        · have hL := Sta.mvu_len P B1 Q1 x t
          have hDn := hr.len
          have htB : t < B1.length := by rw [HB1.out]; exact hlt
          obtain ⟨f1, f2, f4, f5, f6⟩ := mv_nums P.length B1.length Q1.length n a s t k HQ1.out HB1.out Ha.out hk.out hlt
          rw [← hL] at f1 f2
          have hst := Sta.mvu_step P B1 Q1 x t htB k (k + 1) f5 f6 f1 f2
          obtain ⟨D, hD⟩ : ∃ D, D = Sta.mvu P B1 Q1 x t := ⟨_, rfl⟩
          have hK : k < D.length := by rw [hD]; exact f1
          have hK1 : k + 1 < D.length := by rw [hD]; exact f2
          obtain ⟨e1, e2⟩ := i_lt (n := n) hK (by rw [hD]; exact hDn)
          obtain ⟨e3, e4⟩ := i_lt (n := n) hK1 (by rw [hD]; exact hDn)
          have w3 := Lib.hid (w_one k n f4 (by have := Hn.out; omega))
          have e5' : (k : Int) + 1 < (n : Int) := by omega
          have nb : (n : Int) ≤ 1000000 := by have := Hn.out; omega
          have c2 : (k : Int) < (i1 : Int) := by have := hk.out; have := Hi1.out; omega
          have hr5 := hr
          rw [← hD] at hr5
          simp only [← hD] at hst
          have hne : k ≠ k + 1 := by omega
          obtain ⟨i0, i1, i2⟩ := hr5.cells k hK
          obtain ⟨j0, j1, j2⟩ := hr5.cells (k + 1) hK1
          have hsw := (hr5.sw k (k + 1) hK hK1).drew
          have fi0 := hr5.free (k * 3)
          have fi1 := hr5.free (k * 3 + 1)
          have fi2 := hr5.free (k * 3 + 2)
          have fj0 := hr5.free ((k + 1) * 3)
          have fj1 := hr5.free ((k + 1) * 3 + 1)
          have fj2 := hr5.free ((k + 1) * 3 + 2)
          have zg := hr5.lt
          obtain ⟨n1, n2, n3, n4, n5, n6, n7, n8, n9, n10, n11, n12⟩ := th_apart k (k + 1) hne
          have e5 := hsw
          rw [hst] at e5
          have E5 := Lib.hid e5
          obtain ⟨u, hu⟩ : ∃ u, u = D[k] := ⟨_, rfl⟩
          obtain ⟨v, hv⟩ : ∃ v, v = D[k + 1] := ⟨_, rfl⟩
          rw [← hu] at i0 i1 i2 E5
          rw [← hv] at j0 j1 j2 E5
          have Hf4 := Lib.hid f4
          have Hlt := Lib.hid hlt
          clear hsw e5 hr5 hne hst hD hK hK1 f1 f2 f4 f5 f6 hL hDn htB hr hlt hu hv e3 e4
          go_wp2_with fail
          go_region
          go_wp2_with fail
          go_roundw
          case rel => exact ⟨k + 1, t + 1, by first | rfl | rw [w3.out] | simp, by show _ = _; rw [hk.out]; omega, Hlt.out, E5.out⟩
          case measure =>
            have := Hf4.out
            first | rw [w3.out] | skip
            simp only [intOf]
            omega
        · obtain rfl : t = s := by omega
          have c2 : ¬ (k : Int) < (i1 : Int) := by have := hk.out; have := Hi1.out; omega
          rw [← Hfin.out] at hr
          clear hlt
          go_wp2_with fail
          refine bodyPost_ret (v := .tuple #[]) (results_none rfl _ _ _) rfl ?_
          exact ⟨rfl, hr⟩
end Go.Proofs.Ytedlplkomfiahaa
