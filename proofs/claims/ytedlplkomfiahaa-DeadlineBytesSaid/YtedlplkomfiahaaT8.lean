/- Lemmas for DeadlineBytes (Tm2). No statement of the seat is proved here. -/
import Derived.Test.YtedlplkomfiahaaT7
namespace Go.Proofs.Ytedlplkomfiahaa
set_option linter.unusedVariables false
set_option linter.unusedSimpArgs false
set_option linter.unusedSectionVars false
open Go Go.RowKit
theorem dn_no (A : List Th) (h : thUp A) (y : Th) (r s : Nat) (hr : s ≤ r) (hs : r < A.length) (hx : thLe (A[s]'(by omega)) y = false) : thLe A[r] y = false := by
  cases h2 : thLe A[r] y with
  | false => rfl
  | true => rw [thLe_trans _ _ _ (up_le A h s r hr hs) h2] at hx; cases hx
theorem dn_yes (A : List Th) (h : thUp A) (y : Th) (r s : Nat) (hr : r ≤ s) (hs : s < A.length) (hx : thLe A[s] y = true) : thLe (A[r]'(by omega)) y = true := thLe_trans _ _ _ (up_le A h r s hr hs) hx
theorem mvd_nums (p l q n i t k k1 : Nat) (hq : p + l + 1 + q = n) (hi : i = p) (hk : k = i + t) (ht : t ≤ l) (h0 : 0 < t) (hk1 : k1 = k - 1) : k < p + l + 1 + q ∧ k1 < p + l + 1 + q ∧ k ≤ n ∧ k = p + (t - 1) + 1 ∧ k1 = p + (t - 1) ∧ t - 1 < l ∧ k = k1 + 1 ∧ k1 = i + (t - 1) := by omega
theorem lst_nums (p la q n a m b s hh hs : Nat) (ha : a = p) (hm : m = p + la) (hb : b = p + la + 1) (hq : p + (la + (1 + q)) = n) (hs1 : hs < la) (hhh : hh = a + hs) : hh < n ∧ m < n ∧ a ≤ m ∧ m ≤ n ∧ b ≤ n ∧ b = 1 + m ∧ m = la + a := by omega
set_option maxRecDepth 1000000 in
set_option maxHeartbeats 16000000 in
theorem symMerge_last (y : Th) (P A Q : List Th) (a m b : Nat) (W0 W : World) (base g n cap : Nat) (hn : n ≤ 1000000) (ha : a = P.length) (hm : m = P.length + A.length) (hb : b = P.length + A.length + 1) (hA2 : 2 ≤ A.length) (hA : thUp A)
    (h : SR thT W0 W base g n cap (P ++ (A ++ ([y] ++ Q)))) :
    Calls Try.prog 105 #[.slice (some ⟨g, 0, none⟩) n cap, .int .i64 (a : Nat), .int .i64 (m : Nat), .int .i64 (b : Nat), .func (.func 80) #[] #[]] W fun e W' => e = .returned (.tuple #[]) ∧ SR thT W0 W' base g n cap (P ++ (Sta.mg thLe A [y] ++ Q)) := by
  have hlen := h.len
  simp only [List.length_append, List.length_cons, List.length_nil] at hlen
  have hlen : P.length + (A.length + (1 + Q.length)) = n := by omega
  have Ha := Lib.hid ha
  have Hm := Lib.hid hm
  have Hlen := Lib.hid hlen
  have Hn := Lib.hid hn
  have HA := Lib.hid hA
  have H := Lib.hid h
  obtain ⟨la, hla⟩ : ∃ la, la = A.length := ⟨_, rfl⟩
  have w1 : wrap64 ((m : Int) - (a : Int)) = (la : Int) := w_sub m a la n (by omega) (by omega) (by omega)
  have c0 : ((la : Int) == 1) = false := by simp; omega
  have w2 : wrap64 ((b : Int) - (m : Int)) = 1 := w_sub b m 1 n (by omega) (by omega) (by omega)
  clear ha hm hb hlen hn hA h hla hA2
  go_enter Try.func105, Try.ntmps105
  go_wp2_with fail
  clear w1 w2 c0
  go_loopw [14, 15] (fun u v wr => ∃ (i j s e : Nat), u = .int .i64 (i : Nat) ∧ v = .int .i64 (j : Nat) ∧ Hid (i = a + s) ∧ Hid (j = a + e) ∧ s ≤ e ∧ e ≤ A.length ∧ Hid (∀ r (hr : r < A.length), r < s → thLe A[r] y = true) ∧ Hid (∀ r (hr : r < A.length), e ≤ r → thLe A[r] y = false) ∧ SR thT W0 wr base g n cap (P ++ (A ++ ([y] ++ Q)))) (fun u v _ => (intOf v).toNat - (intOf u).toNat)
  case atStart => exact ⟨a, m, 0, A.length, rfl, rfl, rfl, by show _ = _; rw [Hm.out, Ha.out], Nat.zero_le _, Nat.le_refl _, fun r _ h => by omega, fun r h1 h2 => by omega, H.out⟩
  case round =>
    obtain ⟨i, j, s, e, rfl, rfl, hi, hj, hse, heB, hlo, hhi, hr⟩ := hrel
    by_cases hlt : s < e
    · obtain ⟨hs, hhs⟩ : ∃ hs, hs = (s + e) / 2 := ⟨_, rfl⟩
      obtain ⟨hh, hhh⟩ : ∃ hh, hh = a + hs := ⟨_, rfl⟩
      have c1 : (i : Int) < (j : Int) := by have := hi.out; have := hj.out; omega
      have hmid : hh = (i + j) / 2 := by rw [hhh, hhs, hi.out, hj.out]; omega
      have bi : i ≤ 1000000 := by have := hi.out; have := Ha.out; have := Hlen.out; have := Hn.out; omega
      have bj : j ≤ 1000000 := by have := hj.out; have := Ha.out; have := Hlen.out; have := Hn.out; omega
      have Hhh := Lib.hid hhh
      have Hhs := Lib.hid (show s ≤ hs ∧ hs < e by omega)
      have hsB : hs < A.length := by omega
      clear hhh hhs hlt
      go_upto_region 16 with fail
      go_cut [16] (fun v wx => v = .int .i64 (hh : Nat) ∧ wx = wr)
      case first =>
        obtain ⟨ij, m1, m2, m3, m4⟩ := mid_facts i j hh bi bj hmid
        clear bi bj hmid
        go_wp2_with fail
        go_meet
        exact ⟨rfl, rfl⟩
      case rest =>
        obtain ⟨rfl, hwc⟩ := hcut
        have hwc2 := hwc.symm
        clear hwc
        subst hwc2
        clear bi bj hmid
        have hDn := hr.len
        obtain ⟨n1, n2, n3, n4, n5, n6, n7⟩ := lst_nums P.length A.length Q.length n a m (P.length + A.length + 1) s hh hs Ha.out Hm.out rfl Hlen.out hsB Hhh.out
        obtain ⟨D, hD⟩ : ∃ D, D = P ++ (A ++ ([y] ++ Q)) := ⟨_, rfl⟩
        have hH : hh < D.length := by rw [hD, hDn]; exact n1
        have hA : m < D.length := by rw [hD, hDn]; exact n2
        have atH : D[hh] = A[hs] := by
          have e1 : hh = P.length + hs := by rw [Hhh.out, Ha.out]
          subst e1
          subst hD
          exact app_A P A ([y] ++ Q) hs hsB hH
        have atA : D[m] = y := by
          have e1 : m = P.length + A.length + 0 := by rw [Hm.out]; rfl
          subst e1
          subst hD
          exact app_B P A [y] Q 0 (by simp) hA
        obtain ⟨e1, e2⟩ := i_lt (n := n) hH (by rw [hD]; exact hDn)
        obtain ⟨e3, e4⟩ := i_lt (n := n) hA (by rw [hD]; exact hDn)
        have hr2 := hr
        rw [← hD] at hr2
        obtain ⟨z, hz⟩ : ∃ z, z = A[hs] := ⟨_, rfl⟩
        rw [← hz] at atH
        have hld : ∀ W', Below wr.heap.size wr W' → (Instr.loadAt 32 (.pointer (some ⟨g, m * 3, none⟩))).run Try.prog W' = .ok (thVal y) W' ∧ (Instr.loadAt 32 (.pointer (some ⟨g, hh * 3, none⟩))).run Try.prog W' = .ok (thVal z) W' := fun W' hb => by
          have h2 := hr2.below hb
          have a1 := ld_th h2 m hA
          have a2 := ld_th h2 hh hH
          rw [atA] at a1
          rw [atH] at a2
          exact ⟨a1, a2⟩
        have Hld := Lib.hid hld
        have Hr := Lib.hid hr
        have Hz := Lib.hid hz
        have HsB := Lib.hid hsB
        have Hw := Lib.hid (w_one hh n n1 (by have := Hn.out; omega))
        clear hDn hD hH hA atH atA hr2 hr hz hld c1 n1 n2 n3 n4 n5 n6 n7
        by_cases hcmp : thLt y z = true
        · have hc := (orderN_lt y z).2 hcmp
          obtain ⟨o, ho⟩ : ∃ o, o = orderN y z := ⟨_, rfl⟩
          have hord := fun W => order_any y z W
          rw [← ho] at hc hord
          have Hox := Lib.hid hord
          have hle := (thLe_no z y).2 hcmp
          have Hle := Lib.hid hle
          clear ho hord hcmp hle
          go_upto_region 17 with fail
          have hSd := Hld.out wr.drew (Below.refl _ _).drew
          refine wp_region_held_drew (S := fun W' => (Instr.loadAt 32 (.pointer (some ⟨g, m * 3, none⟩))).run Try.prog W' = .ok (thVal y) W' ∧ (Instr.loadAt 32 (.pointer (some ⟨g, hh * 3, none⟩))).run Try.prog W' = .ok (thVal z) W') (by kernel_rfl) hSd (fun hHeld => ?_)
          refine wpAnyH_take (i := 0) (v := ?_) rfl (by kernel_rfl) (by kernel_rfl) (by kernel_rfl) (fun _ _ _ h => h) (Or.inl ⟨by rfl, ?_⟩) (by assumption) ?_
          rotate_left
          · intro w8 hSw; clear hSw; go_simp; (try with_reducible rfl)
          simp only [Act.put, List.getElem_toArray, List.getElem_cons_zero, List.getElem_cons_succ, List.setIfInBounds_toArray, List.set_cons_zero, List.set_cons_succ]
          refine wpAnyH_take (i := 1) (v := ?_) rfl (by kernel_rfl) (by kernel_rfl) (by kernel_rfl) (fun _ _ _ h => h) (Or.inl ⟨by rfl, ?_⟩) (by assumption) ?_
          rotate_left
          · intro w8 hSw; clear hSw; go_simp; (try with_reducible rfl)
          simp only [Act.put, List.getElem_toArray, List.getElem_cons_zero, List.getElem_cons_succ, List.setIfInBounds_toArray, List.set_cons_zero, List.set_cons_succ]
          refine wpAnyH_take (i := 2) (v := ?_) rfl (by kernel_rfl) (by kernel_rfl) (by kernel_rfl) (fun _ _ _ h => h) (Or.inl ⟨by rfl, ?_⟩) (by assumption) ?_
          rotate_left
          · intro w8 hSw; clear hSw; go_simp; (try with_reducible rfl)
          simp only [Act.put, List.getElem_toArray, List.getElem_cons_zero, List.getElem_cons_succ, List.setIfInBounds_toArray, List.set_cons_zero, List.set_cons_succ]
          refine wpAnyH_take (i := 3) (v := ?_) rfl (by kernel_rfl) (by kernel_rfl) (by kernel_rfl) (fun _ _ _ h => h) (Or.inl ⟨by rfl, ?_⟩) (by assumption) ?_
          rotate_left
          · intro w8 hSw; clear hSw; go_simp; (try with_reducible rfl)
          simp only [Act.put, List.getElem_toArray, List.getElem_cons_zero, List.getElem_cons_succ, List.setIfInBounds_toArray, List.set_cons_zero, List.set_cons_succ]
          refine wpAnyH_take (i := 4) (v := thVal y) rfl (by kernel_rfl) (by kernel_rfl) (by kernel_rfl) (fun _ _ _ h => h) (Or.inl ⟨by rfl, ?_⟩) (by assumption) ?_
          · intro w8 hSw; exact ld_takeT rfl hSw.1 rfl
          simp only [Act.put, List.getElem_toArray, List.getElem_cons_zero, List.getElem_cons_succ, List.setIfInBounds_toArray, List.set_cons_zero, List.set_cons_succ]
          refine wpAnyH_take (i := 5) (v := ?_) rfl (by kernel_rfl) (by kernel_rfl) (by kernel_rfl) (fun _ _ _ h => h) (Or.inl ⟨by rfl, ?_⟩) (by assumption) ?_
          rotate_left
          · intro w8 hSw; clear hSw; go_simp; (try with_reducible rfl)
          simp only [Act.put, List.getElem_toArray, List.getElem_cons_zero, List.getElem_cons_succ, List.setIfInBounds_toArray, List.set_cons_zero, List.set_cons_succ]
          refine wpAnyH_take (i := 6) (v := ?_) rfl (by kernel_rfl) (by kernel_rfl) (by kernel_rfl) (fun _ _ _ h => h) (Or.inl ⟨by rfl, ?_⟩) (by assumption) ?_
          rotate_left
          · intro w8 hSw; clear hSw; go_simp; (try with_reducible rfl)
          simp only [Act.put, List.getElem_toArray, List.getElem_cons_zero, List.getElem_cons_succ, List.setIfInBounds_toArray, List.set_cons_zero, List.set_cons_succ]
          refine wpAnyH_take (i := 7) (v := ?_) rfl (by kernel_rfl) (by kernel_rfl) (by kernel_rfl) (fun _ _ _ h => h) (Or.inl ⟨by rfl, ?_⟩) (by assumption) ?_
          rotate_left
          · intro w8 hSw; clear hSw; go_simp; (try with_reducible rfl)
          simp only [Act.put, List.getElem_toArray, List.getElem_cons_zero, List.getElem_cons_succ, List.setIfInBounds_toArray, List.set_cons_zero, List.set_cons_succ]
          refine wpAnyH_take (i := 8) (v := thVal z) rfl (by kernel_rfl) (by kernel_rfl) (by kernel_rfl) (fun _ _ _ h => h) (Or.inl ⟨by rfl, ?_⟩) (by assumption) ?_
          · intro w8 hSw; exact ld_takeT rfl hSw.2 rfl
          simp only [Act.put, List.getElem_toArray, List.getElem_cons_zero, List.getElem_cons_succ, List.setIfInBounds_toArray, List.set_cons_zero, List.set_cons_succ]
          refine wpAnyH_ready (rs := [9]) (by kernel_rfl) (by simp) ?_
          refine AllReadyH.cons rfl (fun K hK => ?_) AllReadyH.nil
          go_simp
          go_at_call 80
          refine (Hox.out _).mono ?_
          rintro e w5 ⟨rfl, hB5'⟩; have hB5 := below_on ((Below.refl wr.heap.size wr).drew) hB5' (Nat.le_refl _)
          refine hK.out _ _ (Hld.out _ hB5) (fun hHeld => ?_)
          clear hK K
          try simp only [Act.put, List.getElem_toArray, List.getElem_cons_zero, List.getElem_cons_succ, List.setIfInBounds_toArray, List.set_cons_zero, List.set_cons_succ]
          refine wpAnyH_take (i := 10) (v := ?_) rfl (by kernel_rfl) (by kernel_rfl) (by kernel_rfl) (fun _ _ _ h => h) (Or.inl ⟨by rfl, ?_⟩) (by assumption) ?_
          rotate_left
          · intro w8 hSw; clear hSw; go_simp; (try with_reducible rfl)
          simp only [Act.put, List.getElem_toArray, List.getElem_cons_zero, List.getElem_cons_succ, List.setIfInBounds_toArray, List.set_cons_zero, List.set_cons_succ]
          refine wpAnyH_take (i := 11) (v := ?_) rfl (by kernel_rfl) (by kernel_rfl) (by kernel_rfl) (fun _ _ _ h => h) (Or.inl ⟨by rfl, ?_⟩) (by assumption) ?_
          rotate_left
          · intro w8 hSw; clear hSw; go_simp; (try with_reducible rfl)
          simp only [Act.put, List.getElem_toArray, List.getElem_cons_zero, List.getElem_cons_succ, List.setIfInBounds_toArray, List.set_cons_zero, List.set_cons_succ]
          refine wpAnyH_done (by kernel_rfl) ?_ _
          go_wp2_with fail
          go_roundw
          case rel => exact ⟨i, hh, s, hs, rfl, rfl, hi, Hhh, Hhs.out.1, by have := HsB.out; omega, hlo, (fun r hr h => by
            refine dn_no A HA.out y r hs h hr ?_
            rw [← Hz.out]; exact Hle.out), Hr.out.below hB5⟩
          case measure =>
            simp only [intOf, Int.toNat_natCast]
            have := hi.out
            have := hj.out
            have := Hhh.out
            have := Hhs.out
            omega
        · have hc : ¬ orderN y z < 0 := fun h => hcmp ((orderN_lt y z).1 h)
          obtain ⟨o, ho⟩ : ∃ o, o = orderN y z := ⟨_, rfl⟩
          have hord := fun W => order_any y z W
          rw [← ho] at hc hord
          have Hox := Lib.hid hord
          have hle : thLe z y = true := by
            cases h : thLe z y with
            | true => rfl
            | false => exact absurd ((thLe_no _ _).1 h) hcmp
          have Hle := Lib.hid hle
          clear ho hord hcmp hle
          go_upto_region 17 with fail
          have hSd := Hld.out wr.drew (Below.refl _ _).drew
          refine wp_region_held_drew (S := fun W' => (Instr.loadAt 32 (.pointer (some ⟨g, m * 3, none⟩))).run Try.prog W' = .ok (thVal y) W' ∧ (Instr.loadAt 32 (.pointer (some ⟨g, hh * 3, none⟩))).run Try.prog W' = .ok (thVal z) W') (by kernel_rfl) hSd (fun hHeld => ?_)
          refine wpAnyH_take (i := 0) (v := ?_) rfl (by kernel_rfl) (by kernel_rfl) (by kernel_rfl) (fun _ _ _ h => h) (Or.inl ⟨by rfl, ?_⟩) (by assumption) ?_
          rotate_left
          · intro w8 hSw; clear hSw; go_simp; (try with_reducible rfl)
          simp only [Act.put, List.getElem_toArray, List.getElem_cons_zero, List.getElem_cons_succ, List.setIfInBounds_toArray, List.set_cons_zero, List.set_cons_succ]
          refine wpAnyH_take (i := 1) (v := ?_) rfl (by kernel_rfl) (by kernel_rfl) (by kernel_rfl) (fun _ _ _ h => h) (Or.inl ⟨by rfl, ?_⟩) (by assumption) ?_
          rotate_left
          · intro w8 hSw; clear hSw; go_simp; (try with_reducible rfl)
          simp only [Act.put, List.getElem_toArray, List.getElem_cons_zero, List.getElem_cons_succ, List.setIfInBounds_toArray, List.set_cons_zero, List.set_cons_succ]
          refine wpAnyH_take (i := 2) (v := ?_) rfl (by kernel_rfl) (by kernel_rfl) (by kernel_rfl) (fun _ _ _ h => h) (Or.inl ⟨by rfl, ?_⟩) (by assumption) ?_
          rotate_left
          · intro w8 hSw; clear hSw; go_simp; (try with_reducible rfl)
          simp only [Act.put, List.getElem_toArray, List.getElem_cons_zero, List.getElem_cons_succ, List.setIfInBounds_toArray, List.set_cons_zero, List.set_cons_succ]
          refine wpAnyH_take (i := 3) (v := ?_) rfl (by kernel_rfl) (by kernel_rfl) (by kernel_rfl) (fun _ _ _ h => h) (Or.inl ⟨by rfl, ?_⟩) (by assumption) ?_
          rotate_left
          · intro w8 hSw; clear hSw; go_simp; (try with_reducible rfl)
          simp only [Act.put, List.getElem_toArray, List.getElem_cons_zero, List.getElem_cons_succ, List.setIfInBounds_toArray, List.set_cons_zero, List.set_cons_succ]
          refine wpAnyH_take (i := 4) (v := thVal y) rfl (by kernel_rfl) (by kernel_rfl) (by kernel_rfl) (fun _ _ _ h => h) (Or.inl ⟨by rfl, ?_⟩) (by assumption) ?_
          · intro w8 hSw; exact ld_takeT rfl hSw.1 rfl
          simp only [Act.put, List.getElem_toArray, List.getElem_cons_zero, List.getElem_cons_succ, List.setIfInBounds_toArray, List.set_cons_zero, List.set_cons_succ]
          refine wpAnyH_take (i := 5) (v := ?_) rfl (by kernel_rfl) (by kernel_rfl) (by kernel_rfl) (fun _ _ _ h => h) (Or.inl ⟨by rfl, ?_⟩) (by assumption) ?_
          rotate_left
          · intro w8 hSw; clear hSw; go_simp; (try with_reducible rfl)
          simp only [Act.put, List.getElem_toArray, List.getElem_cons_zero, List.getElem_cons_succ, List.setIfInBounds_toArray, List.set_cons_zero, List.set_cons_succ]
          refine wpAnyH_take (i := 6) (v := ?_) rfl (by kernel_rfl) (by kernel_rfl) (by kernel_rfl) (fun _ _ _ h => h) (Or.inl ⟨by rfl, ?_⟩) (by assumption) ?_
          rotate_left
          · intro w8 hSw; clear hSw; go_simp; (try with_reducible rfl)
          simp only [Act.put, List.getElem_toArray, List.getElem_cons_zero, List.getElem_cons_succ, List.setIfInBounds_toArray, List.set_cons_zero, List.set_cons_succ]
          refine wpAnyH_take (i := 7) (v := ?_) rfl (by kernel_rfl) (by kernel_rfl) (by kernel_rfl) (fun _ _ _ h => h) (Or.inl ⟨by rfl, ?_⟩) (by assumption) ?_
          rotate_left
          · intro w8 hSw; clear hSw; go_simp; (try with_reducible rfl)
          simp only [Act.put, List.getElem_toArray, List.getElem_cons_zero, List.getElem_cons_succ, List.setIfInBounds_toArray, List.set_cons_zero, List.set_cons_succ]
          refine wpAnyH_take (i := 8) (v := thVal z) rfl (by kernel_rfl) (by kernel_rfl) (by kernel_rfl) (fun _ _ _ h => h) (Or.inl ⟨by rfl, ?_⟩) (by assumption) ?_
          · intro w8 hSw; exact ld_takeT rfl hSw.2 rfl
          simp only [Act.put, List.getElem_toArray, List.getElem_cons_zero, List.getElem_cons_succ, List.setIfInBounds_toArray, List.set_cons_zero, List.set_cons_succ]
          refine wpAnyH_ready (rs := [9]) (by kernel_rfl) (by simp) ?_
          refine AllReadyH.cons rfl (fun K hK => ?_) AllReadyH.nil
          go_simp
          go_at_call 80
          refine (Hox.out _).mono ?_
          rintro e w5 ⟨rfl, hB5'⟩; have hB5 := below_on ((Below.refl wr.heap.size wr).drew) hB5' (Nat.le_refl _)
          refine hK.out _ _ (Hld.out _ hB5) (fun hHeld => ?_)
          clear hK K
          try simp only [Act.put, List.getElem_toArray, List.getElem_cons_zero, List.getElem_cons_succ, List.setIfInBounds_toArray, List.set_cons_zero, List.set_cons_succ]
          refine wpAnyH_take (i := 10) (v := ?_) rfl (by kernel_rfl) (by kernel_rfl) (by kernel_rfl) (fun _ _ _ h => h) (Or.inl ⟨by rfl, ?_⟩) (by assumption) ?_
          rotate_left
          · intro w8 hSw; clear hSw; go_simp; (try with_reducible rfl)
          simp only [Act.put, List.getElem_toArray, List.getElem_cons_zero, List.getElem_cons_succ, List.setIfInBounds_toArray, List.set_cons_zero, List.set_cons_succ]
          refine wpAnyH_take (i := 11) (v := ?_) rfl (by kernel_rfl) (by kernel_rfl) (by kernel_rfl) (fun _ _ _ h => h) (Or.inl ⟨by rfl, ?_⟩) (by assumption) ?_
          rotate_left
          · intro w8 hSw; clear hSw; go_simp; (try with_reducible rfl)
          simp only [Act.put, List.getElem_toArray, List.getElem_cons_zero, List.getElem_cons_succ, List.setIfInBounds_toArray, List.set_cons_zero, List.set_cons_succ]
          refine wpAnyH_done (by kernel_rfl) ?_ _
          go_wp2_with fail
          go_roundw
          case rel => exact ⟨hh + 1, j, hs + 1, e, by first | rfl | rw [Hw.out], rfl, by show _ = _; rw [Hhh.out]; omega, hj, by have := Hhs.out; omega, heB, (fun r hr h => by
            refine dn_yes A HA.out y r hs (by omega) HsB.out ?_
            rw [← Hz.out]; exact Hle.out), hhi, Hr.out.below hB5⟩
          case measure =>
            first | rw [Hw.out] | skip
            simp only [intOf, Int.toNat_natCast]
            have := hi.out
            have := hj.out
            have := Hhh.out
            have := Hhs.out
            omega
    · obtain rfl : s = e := by omega
      have c1 : ¬ (i : Int) < (j : Int) := by have := hi.out; have := hj.out; omega
      have hfin : P ++ (Sta.mg thLe A [y] ++ Q) = Sta.mvu (P ++ A.take s) (A.drop s) Q y 0 := by
        have e1 := Sta.mg_last thLe y (A.take s) (A.drop s) (fun z hz => by
          obtain ⟨r, h1, rfl⟩ := List.mem_iff_getElem.1 hz
          simp only [List.length_take] at h1
          rw [List.getElem_take]
          exact hlo.out r (by omega) (by omega)) (fun z hz => by
          obtain ⟨r, h1, rfl⟩ := List.mem_iff_getElem.1 hz
          simp only [List.length_drop] at h1
          rw [List.getElem_drop]
          exact hhi.out (s + r) (by omega) (by omega))
        rw [List.take_append_drop] at e1
        rw [e1]
        simp [Sta.mvu]
      have hbeg : P ++ (A ++ ([y] ++ Q)) = Sta.mvu (P ++ A.take s) (A.drop s) Q y (A.drop s).length := by
        unfold Sta.mvu
        rw [List.take_length, List.drop_length, List.append_assoc, ← List.append_assoc (A.take s), List.take_append_drop]
        simp
      rw [hbeg] at hr
      obtain ⟨A2, hA2⟩ : ∃ A2, A2 = A.drop s := ⟨_, rfl⟩
      obtain ⟨P1, hP1⟩ : ∃ P1, P1 = P ++ A.take s := ⟨_, rfl⟩
      have hP1l : i = P1.length := by rw [hP1, hi.out, List.length_append, List.length_take, Ha.out]; omega
      have hA2l : m = i + A2.length := by rw [hA2, hi.out, List.length_drop, Ha.out, Hm.out]; omega
      have hall : P1.length + A2.length + 1 + Q.length = n := by rw [hP1, hA2, List.length_append, List.length_take, List.length_drop, ← Hlen.out]; omega
      rw [← hA2, ← hP1] at hr hfin
      have Hfin := Lib.hid hfin
      have HP1 := Lib.hid hP1l
      have HA2 := Lib.hid hA2l
      have Hall := Lib.hid hall
      have Hr := Lib.hid hr
      clear hfin hbeg hA2 hP1 hP1l hA2l hall hr hlt heB hse
      go_wp2_with fail
      go_loopw [17] (fun u ws => ∃ (k t : Nat), u = .int .i64 (k : Nat) ∧ Hid (k = i + t) ∧ t ≤ A2.length ∧ SR thT W0 ws base g n cap (Sta.mvu P1 A2 Q y t)) (fun u _ => (intOf u).toNat)
      case atStart => exact ⟨m, A2.length, rfl, HA2, Nat.le_refl _, Hr.out⟩
      case round =>
        obtain ⟨k, t, rfl, hk, hts, hr⟩ := hrel
        by_cases hlt : 0 < t
        · obtain ⟨k1, hk1⟩ : ∃ k1, k1 = k - 1 := ⟨_, rfl⟩
          have hL := Sta.mvu_len P1 A2 Q y t
          have hDn := hr.len
          obtain ⟨f1, f2, f3, f4, f5, f6, f7, f8⟩ := mvd_nums P1.length A2.length Q.length n i t k k1 Hall.out HP1.out hk.out hts hlt hk1
          rw [← hL] at f1 f2
          have hst := fun h1 h2 => Sta.mvd_step P1 A2 Q y (t - 1) f6 k k1 f4 f5 h1 h2
          rw [show t - 1 + 1 = t by omega] at hst
          have hst := hst f1 f2
          obtain ⟨D, hD⟩ : ∃ D, D = Sta.mvu P1 A2 Q y t := ⟨_, rfl⟩
          have hK : k < D.length := by rw [hD]; exact f1
          have hK1 : k1 < D.length := by rw [hD]; exact f2
          obtain ⟨e1, e2⟩ := i_lt (n := n) hK (by rw [hD]; exact hDn)
          obtain ⟨e3, e4⟩ := i_lt (n := n) hK1 (by rw [hD]; exact hDn)
          have w3 : wrap64 ((k : Int) - 1) = (k1 : Int) := w_sub k 1 k1 n f7 f3 (by have := Hn.out; omega)
          have w3i := wi_of w3
          have c2 : (i : Int) < (k : Int) := by have := hk.out; omega
          have hr5 := hr
          rw [← hD] at hr5
          simp only [← hD] at hst
          have hne : k ≠ k1 := by omega
          obtain ⟨i0, i1, i2⟩ := hr5.cells k hK
          obtain ⟨j0, j1, j2⟩ := hr5.cells k1 hK1
          have hsw := (hr5.sw k k1 hK hK1).drew
          have fi0 := hr5.free (k * 3)
          have fi1 := hr5.free (k * 3 + 1)
          have fi2 := hr5.free (k * 3 + 2)
          have fj0 := hr5.free (k1 * 3)
          have fj1 := hr5.free (k1 * 3 + 1)
          have fj2 := hr5.free (k1 * 3 + 2)
          have zg := hr5.lt
          obtain ⟨n1, n2, n3, n4, n5, n6, n7, n8, n9, n10, n11, n12⟩ := th_apart k k1 hne
          have e5 := hsw
          rw [hst] at e5
          have E5 := Lib.hid e5
          obtain ⟨u, hu⟩ : ∃ u, u = D[k] := ⟨_, rfl⟩
          obtain ⟨v, hv⟩ : ∃ v, v = D[k1] := ⟨_, rfl⟩
          rw [← hu] at i0 i1 i2 E5
          rw [← hv] at j0 j1 j2 E5
          have Hf7 := Lib.hid f7
          have Hf8 := Lib.hid f8
          have Hlt := Lib.hid hlt
          clear hsw e5 hr5 hne hst hD hK hK1 f1 f2 f3 f4 f5 f6 f7 f8 hL hDn hr hlt hu hv hk1
          go_wp2_with fail
          go_region
          go_wp2_with fail
          go_roundw
          case rel => exact ⟨k1, t - 1, by first | rfl | rw [w3], Hf8.out, by omega, E5.out⟩
          case measure =>
            first | rw [w3] | skip
            simp only [intOf, Int.toNat_natCast]
            have := Hf7.out
            omega
        · obtain rfl : t = 0 := by omega
          have c2 : ¬ (i : Int) < (k : Int) := by have := hk.out; omega
          rw [← Hfin.out] at hr
          clear hlt
          go_wp2_with fail
          refine bodyPost_ret (v := .tuple #[]) (results_none rfl _ _ _) rfl ?_
          exact ⟨rfl, hr⟩
end Go.Proofs.Ytedlplkomfiahaa
