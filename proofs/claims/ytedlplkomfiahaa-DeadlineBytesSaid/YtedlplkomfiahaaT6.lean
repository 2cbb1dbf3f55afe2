/- Lemmas for DeadlineBytes (Ti). No statement of the seat is proved here. -/
import Derived.Test.YtedlplkomfiahaaT5
namespace Go.Proofs.Ytedlplkomfiahaa
set_option linter.unusedVariables false
set_option linter.unusedSimpArgs false
set_option linter.unusedSectionVars false
open Go Go.RowKit
theorem ld_takeT {P : Program} {T : TypeId} {p k : Nat} {v : Value} {W : World} {ρ : Operand → Value} {o : Oper} {x : Operand} (ho : o.op = .load T x) (h : (Instr.loadAt T (.pointer (some ⟨p, k, none⟩))).run P W = .ok v W) (hx : ρ x = .pointer (some ⟨p, k, none⟩)) : (execOp ρ o).run P W = .ok (.value v) W := by
  unfold execOp
  simp [ho, hx, h]
theorem ld_th {W0 W : World} {base g n cap : Nat} {D : List Th} (h : SR thT W0 W base g n cap D) (i : Nat) (hi : i < D.length) : (Instr.loadAt 32 (.pointer (some ⟨g, i * 3, none⟩))).run Try.prog W = .ok (thVal D[i]) W := by
  obtain ⟨h0, h1, h2⟩ := h.cells i hi
  unfold thVal
  go_simp
theorem mvu_at (P B Q : List Th) (x : Th) (t : Nat) (h : P.length + t < (Sta.mvu P B Q x t).length) (ht : t ≤ B.length) : (Sta.mvu P B Q x t)[P.length + t] = x := by
  simp only [Sta.mvu]
  rw [List.getElem_append_right (by omega)]
  simp only [Nat.add_sub_cancel_left]
  rw [List.getElem_append_right (by rw [List.length_take]; omega)]
  simp [Nat.min_eq_left ht]
theorem mvu_before (P B Q : List Th) (x : Th) (t i : Nat) (h : P.length + i < (Sta.mvu P B Q x t).length) (hi : i < t) (ht : t ≤ B.length) : (Sta.mvu P B Q x t)[P.length + i] = B[i]'(by omega) := by
  simp only [Sta.mvu]
  rw [List.getElem_append_right (by omega)]
  simp only [Nat.add_sub_cancel_left]
  rw [List.getElem_append_left (by rw [List.length_take]; omega)]
  simp
theorem ins_nums (p t c s q n i j : Nat) (hlen : p + s + 1 + q = n) (hs : s = c) (ht : t ≤ c) (hj : j = p + t) : j < p + s + 1 + q ∧ j ≤ n ∧ t ≤ s ∧ p ≤ j ∧ p ≤ n ∧ (0 < t → p + (t - 1) + 1 = j ∧ p + (t - 1) < p + s + 1 + q ∧ t - 1 < s) := by omega
theorem ins_out (a c l n b : Nat) (hb : b = a + l) (hn : a + l ≤ n) (hc : c < l) : a + c < b ∧ a + c < n ∧ a + c ≤ n := by omega
theorem wi_of {x y : Int} (h : wrap64 x = y) : IntKind.i64.wrap x = y := by
  unfold wrap64 at h
  rw [IntKind.wrap_i64]; exact h
theorem srt_take1 (L : List Th) : Sta.srt thLe (L.take 1) = L.take 1 := by
  cases L with
  | nil => rfl
  | cons x L => exact Sta.srt_one thLe x
set_option maxRecDepth 100000 in
set_option maxHeartbeats 16000000 in
theorem insert_any (P L Q : List Th) (a b : Nat) (W0 W : World) (base g n cap : Nat) (hn : n ≤ 1000000) (ha : a = P.length) (hb : b = P.length + L.length)
    (h : SR thT W0 W base g n cap (P ++ (L ++ Q))) :
    Calls Try.prog 104 #[.slice (some ⟨g, 0, none⟩) n cap, .int .i64 (a : Nat), .int .i64 (b : Nat), .func (.func 80) #[] #[]] W fun e W' => e = .returned (.tuple #[]) ∧ SR thT W0 W' base g n cap (P ++ (Sta.srt thLe L ++ Q)) := by
  have hlen := h.len
  simp only [List.length_append] at hlen
  have Hord := Lib.hid order_any
  have Ha := Lib.hid ha
  have Hb := Lib.hid (show b = a + L.length by omega)
  have Hl := Lib.hid (show a + L.length ≤ n by omega)
  have w1 := w_one a (n + 1) (by omega) (by omega)
  have HW1 := Lib.hid w1
  have Hn := Lib.hid hn
  have H := Lib.hid h
  clear ha hb hlen h
  obtain ⟨i0, hi0⟩ : ∃ i0, i0 = a + 1 := ⟨_, rfl⟩
  rw [← hi0] at w1
  have Hi0 := Lib.hid hi0
  clear hi0 hn HW1
  go_enter Try.func104, Try.ntmps104
  go_wp2_with fail
  have HW1 := Lib.hid w1
  clear w1
  go_loopw [8] (fun u wr => ∃ (c i : Nat), u = .int .i64 (i : Nat) ∧ Hid (i = a + c) ∧ 1 ≤ c ∧ (c ≤ L.length ∨ c = 1) ∧ SR thT W0 wr base g n cap (P ++ (Sta.srt thLe (L.take c) ++ (L.drop c ++ Q)))) (fun u _ => n + 2 - (intOf u).toNat)
  case atStart => exact ⟨1, i0, by first | rfl | rw [HW1.out], Hi0, by omega, .inr rfl, by rw [srt_take1, ← List.append_assoc (L.take 1), List.take_append_drop]; exact H.out⟩
  case round =>
    obtain ⟨c, i, rfl, hi, hc1, hc2, hr⟩ := hrel
    by_cases hlt : c < L.length
    · obtain ⟨o1, o2, o3⟩ := ins_out a c L.length n b Hb.out Hl.out hlt
      rw [← hi.out] at o1 o2 o3
      have t1 : (i : Int) < (b : Int) := by omega
      have Ho2 := Lib.hid o2
      clear o1 o2 o3 H HW1 Hi0
      -- the one that is put in
      obtain ⟨x, hx⟩ : ∃ x, x = L[c] := ⟨_, rfl⟩
      have hdr : L.drop c = x :: L.drop (c + 1) := by rw [hx]; exact List.drop_eq_getElem_cons hlt
      have htk : L.take (c + 1) = L.take c ++ [x] := by rw [hx]; exact List.take_succ_eq_append_getElem hlt
      obtain ⟨S, hS⟩ : ∃ S, S = Sta.srt thLe (L.take c) := ⟨_, rfl⟩
      have hSl : S.length = c := by rw [hS, Sta.srt_len, List.length_take]; omega
      obtain ⟨Q', hQ'⟩ : ∃ Q', Q' = L.drop (c + 1) ++ Q := ⟨_, rfl⟩
      have hr : SR thT W0 wr base g n cap (Sta.mvu P S Q' x c) := by
        have e : P ++ (Sta.srt thLe (L.take c) ++ (L.drop c ++ Q)) = Sta.mvu P S Q' x c := by
          unfold Sta.mvu
          rw [hdr, ← hS, hQ', List.take_of_length_le (show S.length ≤ c by omega), List.drop_eq_nil_of_le (show S.length ≤ c by omega)]; simp
        rw [← e]; exact hr
      have Hfin := Lib.hid (fun t (ht : t ≤ S.length) h1 h2 => Sta.srt_ins thLe (L.take c) S x thLe_trans thLe_total hS t ht h1 h2)
      rw [← htk] at Hfin
      have hrow : ∀ t (ht : t ≤ S.length), (∀ h : 0 < t, thLe (S[t - 1]'(by omega)) x = true) → (∀ j (h : j < S.length), t ≤ j → thLe S[j] x = false) → Sta.mvu P S Q' x t = P ++ (Sta.srt thLe (L.take (c + 1)) ++ (L.drop (c + 1) ++ Q)) := fun t ht h1 h2 => by
        rw [Hfin.out t ht h1 h2, hQ']
        simp [Sta.mvu]
      have Hrow := Lib.hid hrow
      have HwI := Lib.hid (w_one i n Ho2.out (by have := Hn.out; omega))
      have HS := Lib.hid hSl
      have HQ := Lib.hid hQ'
      clear hrow
      have Hlt := Lib.hid hlt
      clear hx hdr htk hS hSl hQ' hlt
      go_wp2_with fail
      clear t1
      go_loopw [9] (fun v ws => ∃ (t j : Nat), v = .int .i64 (j : Nat) ∧ Hid (j = a + t) ∧ t ≤ c ∧ Hid (∀ r (hr : r < S.length), t ≤ r → thLe S[r] x = false) ∧ SR thT W0 ws base g n cap (Sta.mvu P S Q' x t)) (fun v _ => (intOf v).toNat)
      case atStart => exact ⟨c, i, rfl, hi, Nat.le_refl _, fun r hr hcr => by have := HS.out; omega, hr⟩
      case round =>
        obtain ⟨t, j, rfl, hj, htc, hpass, hr⟩ := hrel
        have hL := Sta.mvu_len P S Q' x t
        have hDn := hr.len
        obtain ⟨k1, k2, k3, k4, k5, k6⟩ := ins_nums P.length t c S.length Q'.length n i j (by rw [← hL]; exact hDn) HS.out htc (by rw [hj.out, Ha.out])
        obtain ⟨D, hD⟩ : ∃ D, D = Sta.mvu P S Q' x t := ⟨_, rfl⟩
        have hJ : j < D.length := by rw [hD, hL]; exact k1
        have hatJ : D[j] = x := by
          have e := mvu_at P S Q' x t (by rw [hL]; omega) k3
          rw [← e]
          simp only [hD, hj.out, Ha.out]
        by_cases ht0 : t = 0
        · -- nothing stands ahead of it
          have c1 : ¬ (a : Int) < (j : Int) := by rw [hj.out, ht0]; omega
          have Hht := Lib.hid ht0
          have hrd := hr.drew
          have Hrd := Lib.hid hrd
          clear hL hDn k1 k2 k3 k4 k5 k6 hJ hatJ hD hr ht0 hrd
          go_upto_region 4 with fail
          refine wp_region_held_drew (S := fun _ => True) (by kernel_rfl) trivial (fun hHeld => ?_)
          refine wpAnyH_take (i := 0) (v := ?_) rfl (by kernel_rfl) (by kernel_rfl) (by kernel_rfl) (fun _ _ _ h => h) (Or.inl ⟨by rfl, ?_⟩) (by assumption) ?_
          rotate_left
          · intro w8 hSw; clear hSw; go_simp; (try with_reducible rfl)
          simp only [Act.put, List.getElem_toArray, List.getElem_cons_zero, List.getElem_cons_succ, List.setIfInBounds_toArray, List.set_cons_zero, List.set_cons_succ]
          refine wpAnyH_take (i := 1) (v := ?_) rfl (by kernel_rfl) (by kernel_rfl) (by kernel_rfl) (fun _ _ _ h => h) (Or.inl ⟨by rfl, ?_⟩) (by assumption) ?_
          rotate_left
          · intro w8 hSw; clear hSw; go_simp; (try with_reducible rfl)
          simp only [Act.put, List.getElem_toArray, List.getElem_cons_zero, List.getElem_cons_succ, List.setIfInBounds_toArray, List.set_cons_zero, List.set_cons_succ]
          refine wpAnyH_take (i := 2) (v := ?_) rfl (by kernel_rfl) (by kernel_rfl) (by kernel_rfl) (fun _ _ _ h => h) (Or.inl ⟨by rfl, ?_⟩) (by assumption) ?_
          rotate_left
          · intro w8 hSw; clear hSw; go_simp; (try with_reducible rfl)
          simp only [Act.put, List.getElem_toArray, List.getElem_cons_zero, List.getElem_cons_succ, List.setIfInBounds_toArray, List.set_cons_zero, List.set_cons_succ]
          refine wpAnyH_take (i := 3) (v := ?_) rfl (by kernel_rfl) (by kernel_rfl) (by kernel_rfl) (fun _ _ _ h => h) (Or.inl ⟨by rfl, ?_⟩) (by assumption) ?_
          rotate_left
          · intro w8 hSw; clear hSw; go_simp; (try with_reducible rfl)
          simp only [Act.put, List.getElem_toArray, List.getElem_cons_zero, List.getElem_cons_succ, List.setIfInBounds_toArray, List.set_cons_zero, List.set_cons_succ]
          refine wpAnyH_take (i := 4) rfl (by kernel_rfl) (by kernel_rfl) (by kernel_rfl) (fun _ _ _ h => h) (Or.inr ⟨by rfl, rfl⟩) (by assumption) ?_
          simp only [Act.put, List.getElem_toArray, List.getElem_cons_zero, List.getElem_cons_succ, List.setIfInBounds_toArray, List.set_cons_zero, List.set_cons_succ]
          refine wpAnyH_take (i := 5) rfl (by kernel_rfl) (by kernel_rfl) (by kernel_rfl) (fun _ _ _ h => h) (Or.inr ⟨by rfl, rfl⟩) (by assumption) ?_
          simp only [Act.put, List.getElem_toArray, List.getElem_cons_zero, List.getElem_cons_succ, List.setIfInBounds_toArray, List.set_cons_zero, List.set_cons_succ]
          refine wpAnyH_take (i := 6) rfl (by kernel_rfl) (by kernel_rfl) (by kernel_rfl) (fun _ _ _ h => h) (Or.inr ⟨by rfl, rfl⟩) (by assumption) ?_
          simp only [Act.put, List.getElem_toArray, List.getElem_cons_zero, List.getElem_cons_succ, List.setIfInBounds_toArray, List.set_cons_zero, List.set_cons_succ]
          refine wpAnyH_take (i := 7) rfl (by kernel_rfl) (by kernel_rfl) (by kernel_rfl) (fun _ _ _ h => h) (Or.inr ⟨by rfl, rfl⟩) (by assumption) ?_
          simp only [Act.put, List.getElem_toArray, List.getElem_cons_zero, List.getElem_cons_succ, List.setIfInBounds_toArray, List.set_cons_zero, List.set_cons_succ]
          refine wpAnyH_take (i := 8) rfl (by kernel_rfl) (by kernel_rfl) (by kernel_rfl) (fun _ _ _ h => h) (Or.inr ⟨by rfl, rfl⟩) (by assumption) ?_
          simp only [Act.put, List.getElem_toArray, List.getElem_cons_zero, List.getElem_cons_succ, List.setIfInBounds_toArray, List.set_cons_zero, List.set_cons_succ]
          refine wpAnyH_take (i := 9) rfl (by kernel_rfl) (by kernel_rfl) (by kernel_rfl) (fun _ _ _ h => h) (Or.inr ⟨by rfl, rfl⟩) (by assumption) ?_
          simp only [Act.put, List.getElem_toArray, List.getElem_cons_zero, List.getElem_cons_succ, List.setIfInBounds_toArray, List.set_cons_zero, List.set_cons_succ]
          refine wpAnyH_take (i := 10) rfl (by kernel_rfl) (by kernel_rfl) (by kernel_rfl) (fun _ _ _ h => h) (Or.inr ⟨by rfl, rfl⟩) (by assumption) ?_
          simp only [Act.put, List.getElem_toArray, List.getElem_cons_zero, List.getElem_cons_succ, List.setIfInBounds_toArray, List.set_cons_zero, List.set_cons_succ]
          refine wpAnyH_take (i := 11) rfl (by kernel_rfl) (by kernel_rfl) (by kernel_rfl) (fun _ _ _ h => h) (Or.inr ⟨by rfl, rfl⟩) (by assumption) ?_
          simp only [Act.put, List.getElem_toArray, List.getElem_cons_zero, List.getElem_cons_succ, List.setIfInBounds_toArray, List.set_cons_zero, List.set_cons_succ]
          refine wpAnyH_take (i := 12) rfl (by kernel_rfl) (by kernel_rfl) (by kernel_rfl) (fun _ _ _ h => h) (Or.inr ⟨by rfl, rfl⟩) (by assumption) ?_
          simp only [Act.put, List.getElem_toArray, List.getElem_cons_zero, List.getElem_cons_succ, List.setIfInBounds_toArray, List.set_cons_zero, List.set_cons_succ]
          refine wpAnyH_take (i := 13) rfl (by kernel_rfl) (by kernel_rfl) (by kernel_rfl) (fun _ _ _ h => h) (Or.inr ⟨by rfl, rfl⟩) (by assumption) ?_
          simp only [Act.put, List.getElem_toArray, List.getElem_cons_zero, List.getElem_cons_succ, List.setIfInBounds_toArray, List.set_cons_zero, List.set_cons_succ]
          refine wpAnyH_take (i := 14) rfl (by kernel_rfl) (by kernel_rfl) (by kernel_rfl) (fun _ _ _ h => h) (Or.inr ⟨by rfl, rfl⟩) (by assumption) ?_
          simp only [Act.put, List.getElem_toArray, List.getElem_cons_zero, List.getElem_cons_succ, List.setIfInBounds_toArray, List.set_cons_zero, List.set_cons_succ]
          refine wpAnyH_take (i := 15) rfl (by kernel_rfl) (by kernel_rfl) (by kernel_rfl) (fun _ _ _ h => h) (Or.inr ⟨by rfl, rfl⟩) (by assumption) ?_
          simp only [Act.put, List.getElem_toArray, List.getElem_cons_zero, List.getElem_cons_succ, List.setIfInBounds_toArray, List.set_cons_zero, List.set_cons_succ]
          refine wpAnyH_take (i := 16) (v := ?_) rfl (by kernel_rfl) (by kernel_rfl) (by kernel_rfl) (fun _ _ _ h => h) (Or.inl ⟨by rfl, ?_⟩) (by assumption) ?_
          rotate_left
          · intro w8 hSw; clear hSw; go_simp; (try with_reducible rfl)
          simp only [Act.put, List.getElem_toArray, List.getElem_cons_zero, List.getElem_cons_succ, List.setIfInBounds_toArray, List.set_cons_zero, List.set_cons_succ]
          refine wpAnyH_done (by kernel_rfl) ?_ _
          go_wp2_with fail
          go_roundw
          case rel => exact ⟨c + 1, i + 1, by rw [HwI.out], by show _ = _; rw [hi.out]; omega, by omega, .inl Hlt.out, by rw [← Hrow.out t (by rw [Hht.out]; omega) (fun h => by have := Hht.out; omega) (fun r hr htr => hpass.out r hr htr), Hht.out]; rw [Hht.out] at Hrd; exact Hrd.out⟩
          case measure =>
            rw [HwI.out]
            simp only [intOf, Int.toNat_natCast]
            have := Ho2.out
            omega
        · obtain ⟨k7, k8, k9⟩ := k6 (by omega)
          obtain ⟨jp, hjp⟩ : ∃ jp, jp = a + (t - 1) := ⟨_, rfl⟩
          have hjp1 : jp + 1 = j := by rw [hjp, Ha.out]; exact k7
          have hJP : jp < D.length := by rw [hD, hL, hjp, Ha.out]; exact k8
          obtain ⟨y, hy⟩ : ∃ y, y = S[t - 1] := ⟨_, rfl⟩
          have hatP : D[jp] = y := by
            have e := mvu_before P S Q' x t (t - 1) (by rw [hL]; exact k8) (by omega) k3
            rw [hy, ← e]
            simp only [hD, hjp, Ha.out]
          have c1 : (a : Int) < (j : Int) := by rw [← hjp1, hjp]; omega
          obtain ⟨e1, e2⟩ := i_lt (n := n) hJ (by rw [hD]; exact hDn)
          obtain ⟨e3, e4⟩ := i_lt (n := n) hJP (by rw [hD]; exact hDn)
          have w1 := w_sub j 1 jp n hjp1.symm k2 (by have := Hn.out; omega)
          have w1 : wrap64 ((j : Int) - 1) = (jp : Int) := w1
          have w1i : IntKind.i64.wrap ((j : Int) - 1) = (jp : Int) := wi_of w1
          rw [← hD] at hr
          have hld : ∀ W', Below wr.heap.size wr W' → (Instr.loadAt 32 (.pointer (some ⟨g, j * 3, none⟩))).run Try.prog W' = .ok (thVal x) W' ∧ (Instr.loadAt 32 (.pointer (some ⟨g, jp * 3, none⟩))).run Try.prog W' = .ok (thVal y) W' := fun W' hb => by
            have h2 := hr.below hb
            have a1 := ld_th h2 j hJ
            have a2 := ld_th h2 jp hJP
            rw [hatJ] at a1
            rw [hatP] at a2
            exact ⟨a1, a2⟩
          have Hld := Lib.hid hld
          have hstep := fun h1 h2 => Sta.mvd_step P S Q' x (t - 1) k9 j jp (by rw [← hjp1, hjp, Ha.out]) (by rw [hjp, Ha.out]) h1 h2
          rw [show t - 1 + 1 = t by omega, ← hD] at hstep
          have Hstep := Lib.hid hstep
          have Hr := Lib.hid hr
          have HatJ := Lib.hid hatJ
          have HatP := Lib.hid hatP
          have HD := Lib.hid hD
          have Hy := Lib.hid hy
          have Hjp := Lib.hid hjp
          have Hjp1 := Lib.hid hjp1
          have Ht0 := Lib.hid ht0
          clear hL hDn k1 k2 k3 k4 k5 k6 k7 k8 hatJ hD hr ht0 hjp hjp1 hy hatP hld hstep
          by_cases hcmp : thLt x y = true
          · have hc := (orderN_lt x y).2 hcmp
            obtain ⟨o, ho⟩ : ∃ o, o = orderN x y := ⟨_, rfl⟩
            have hord := fun W => order_any x y W
            rw [← ho] at hc hord
            have Hox := Lib.hid hord
            have Hcmp := Lib.hid hcmp
            clear ho hord hcmp
            go_upto_region 4 with fail
            have hSd := Hld.out wr.drew (Below.refl _ _).drew
            refine wp_region_held_drew (S := fun W' => (Instr.loadAt 32 (.pointer (some ⟨g, j * 3, none⟩))).run Try.prog W' = .ok (thVal x) W' ∧ (Instr.loadAt 32 (.pointer (some ⟨g, jp * 3, none⟩))).run Try.prog W' = .ok (thVal y) W') (by kernel_rfl) hSd (fun hHeld => ?_)
            refine wpAnyH_take (i := 0) (v := ?_) rfl (by kernel_rfl) (by kernel_rfl) (by kernel_rfl) (fun _ _ _ h => h) (Or.inl ⟨by rfl, ?_⟩) (by assumption) ?_
            rotate_left
            · intro w8 hSw; clear hSw; go_simp; (try with_reducible rfl)
            simp only [Act.put, List.getElem_toArray, List.getElem_cons_zero, List.getElem_cons_succ, List.setIfInBounds_toArray, List.set_cons_zero, List.set_cons_succ]
            refine wpAnyH_take (i := 1) (v := ?_) rfl (by kernel_rfl) (by kernel_rfl) (by kernel_rfl) (fun _ _ _ h => h) (Or.inl ⟨by rfl, ?_⟩) (by assumption) ?_
            rotate_left
            · intro w8 hSw; clear hSw; go_simp; (try with_reducible rfl)
            simp only [Act.put, List.getElem_toArray, List.getElem_cons_zero, List.getElem_cons_succ, List.setIfInBounds_toArray, List.set_cons_zero, List.set_cons_succ]
            refine wpAnyH_take (i := 2) (v := ?_) rfl (by kernel_rfl) (by kernel_rfl) (by kernel_rfl) (fun _ _ _ h => h) (Or.inl ⟨by rfl, ?_⟩) (by assumption) ?_
            rotate_left
            · intro w8 hSw; clear hSw; go_simp; (try with_reducible rfl)
            simp only [Act.put, List.getElem_toArray, List.getElem_cons_zero, List.getElem_cons_succ, List.setIfInBounds_toArray, List.set_cons_zero, List.set_cons_succ]
            refine wpAnyH_take (i := 3) (v := ?_) rfl (by kernel_rfl) (by kernel_rfl) (by kernel_rfl) (fun _ _ _ h => h) (Or.inl ⟨by rfl, ?_⟩) (by assumption) ?_
            rotate_left
            · intro w8 hSw; clear hSw; go_simp; (try with_reducible rfl)
            simp only [Act.put, List.getElem_toArray, List.getElem_cons_zero, List.getElem_cons_succ, List.setIfInBounds_toArray, List.set_cons_zero, List.set_cons_succ]
            refine wpAnyH_take (i := 4) (v := ?_) rfl (by kernel_rfl) (by kernel_rfl) (by kernel_rfl) (fun _ _ _ h => h) (Or.inl ⟨by rfl, ?_⟩) (by assumption) ?_
            rotate_left
            · intro w8 hSw; clear hSw; go_simp; (try with_reducible rfl)
            simp only [Act.put, List.getElem_toArray, List.getElem_cons_zero, List.getElem_cons_succ, List.setIfInBounds_toArray, List.set_cons_zero, List.set_cons_succ]
            refine wpAnyH_take (i := 5) (v := ?_) rfl (by kernel_rfl) (by kernel_rfl) (by kernel_rfl) (fun _ _ _ h => h) (Or.inl ⟨by rfl, ?_⟩) (by assumption) ?_
            rotate_left
            · intro w8 hSw; clear hSw; go_simp; (try with_reducible rfl)
            simp only [Act.put, List.getElem_toArray, List.getElem_cons_zero, List.getElem_cons_succ, List.setIfInBounds_toArray, List.set_cons_zero, List.set_cons_succ]
            refine wpAnyH_take (i := 6) (v := ?_) rfl (by kernel_rfl) (by kernel_rfl) (by kernel_rfl) (fun _ _ _ h => h) (Or.inl ⟨by rfl, ?_⟩) (by assumption) ?_
            rotate_left
            · intro w8 hSw; clear hSw; go_simp; (try with_reducible rfl)
            simp only [Act.put, List.getElem_toArray, List.getElem_cons_zero, List.getElem_cons_succ, List.setIfInBounds_toArray, List.set_cons_zero, List.set_cons_succ]
            refine wpAnyH_take (i := 7) (v := ?_) rfl (by kernel_rfl) (by kernel_rfl) (by kernel_rfl) (fun _ _ _ h => h) (Or.inl ⟨by rfl, ?_⟩) (by assumption) ?_
            rotate_left
            · intro w8 hSw; clear hSw; go_simp; (try with_reducible rfl)
            simp only [Act.put, List.getElem_toArray, List.getElem_cons_zero, List.getElem_cons_succ, List.setIfInBounds_toArray, List.set_cons_zero, List.set_cons_succ]
            refine wpAnyH_take (i := 8) (v := thVal x) rfl (by kernel_rfl) (by kernel_rfl) (by kernel_rfl) (fun _ _ _ h => h) (Or.inl ⟨by rfl, ?_⟩) (by assumption) ?_
            · intro w8 hSw; exact ld_takeT rfl hSw.1 rfl
            simp only [Act.put, List.getElem_toArray, List.getElem_cons_zero, List.getElem_cons_succ, List.setIfInBounds_toArray, List.set_cons_zero, List.set_cons_succ]
            refine wpAnyH_take (i := 9) (v := ?_) rfl (by kernel_rfl) (by kernel_rfl) (by kernel_rfl) (fun _ _ _ h => h) (Or.inl ⟨by rfl, ?_⟩) (by assumption) ?_
            rotate_left
            · intro w8 hSw; clear hSw; go_simp; (try with_reducible rfl)
            simp only [Act.put, List.getElem_toArray, List.getElem_cons_zero, List.getElem_cons_succ, List.setIfInBounds_toArray, List.set_cons_zero, List.set_cons_succ]
            refine wpAnyH_take (i := 10) (v := ?_) rfl (by kernel_rfl) (by kernel_rfl) (by kernel_rfl) (fun _ _ _ h => h) (Or.inl ⟨by rfl, ?_⟩) (by assumption) ?_
            rotate_left
            · intro w8 hSw; clear hSw; go_simp; (try with_reducible rfl)
            simp only [Act.put, List.getElem_toArray, List.getElem_cons_zero, List.getElem_cons_succ, List.setIfInBounds_toArray, List.set_cons_zero, List.set_cons_succ]
            refine wpAnyH_take (i := 11) (v := ?_) rfl (by kernel_rfl) (by kernel_rfl) (by kernel_rfl) (fun _ _ _ h => h) (Or.inl ⟨by rfl, ?_⟩) (by assumption) ?_
            rotate_left
            · intro w8 hSw; clear hSw; go_simp; (try with_reducible rfl)
            simp only [Act.put, List.getElem_toArray, List.getElem_cons_zero, List.getElem_cons_succ, List.setIfInBounds_toArray, List.set_cons_zero, List.set_cons_succ]
            refine wpAnyH_take (i := 12) (v := ?_) rfl (by kernel_rfl) (by kernel_rfl) (by kernel_rfl) (fun _ _ _ h => h) (Or.inl ⟨by rfl, ?_⟩) (by assumption) ?_
            rotate_left
            · intro w8 hSw; clear hSw; go_simp; (try with_reducible rfl)
            simp only [Act.put, List.getElem_toArray, List.getElem_cons_zero, List.getElem_cons_succ, List.setIfInBounds_toArray, List.set_cons_zero, List.set_cons_succ]
            refine wpAnyH_take (i := 13) (v := thVal y) rfl (by kernel_rfl) (by kernel_rfl) (by kernel_rfl) (fun _ _ _ h => h) (Or.inl ⟨by rfl, ?_⟩) (by assumption) ?_
            · intro w8 hSw; exact ld_takeT rfl hSw.2 rfl
            simp only [Act.put, List.getElem_toArray, List.getElem_cons_zero, List.getElem_cons_succ, List.setIfInBounds_toArray, List.set_cons_zero, List.set_cons_succ]
            refine wpAnyH_ready (rs := [14]) (by kernel_rfl) (by simp) ?_
            refine AllReadyH.cons rfl (fun K hK => ?_) AllReadyH.nil
            go_simp
            go_at_call 80
            refine (Hox.out _).mono ?_
            rintro e w5 ⟨rfl, hB5'⟩; have hB5 := below_on ((Below.refl wr.heap.size wr).drew) hB5' (Nat.le_refl _)
            refine hK.out _ _ (Hld.out _ hB5) (fun hHeld => ?_)
            clear hK K
            try simp only [Act.put, List.getElem_toArray, List.getElem_cons_zero, List.getElem_cons_succ, List.setIfInBounds_toArray, List.set_cons_zero, List.set_cons_succ]
            refine wpAnyH_take (i := 15) (v := ?_) rfl (by kernel_rfl) (by kernel_rfl) (by kernel_rfl) (fun _ _ _ h => h) (Or.inl ⟨by rfl, ?_⟩) (by assumption) ?_
            rotate_left
            · intro w8 hSw; clear hSw; go_simp; (try with_reducible rfl)
            simp only [Act.put, List.getElem_toArray, List.getElem_cons_zero, List.getElem_cons_succ, List.setIfInBounds_toArray, List.set_cons_zero, List.set_cons_succ]
            refine wpAnyH_take (i := 16) (v := ?_) rfl (by kernel_rfl) (by kernel_rfl) (by kernel_rfl) (fun _ _ _ h => h) (Or.inl ⟨by rfl, ?_⟩) (by assumption) ?_
            rotate_left
            · intro w8 hSw; clear hSw; go_simp; (try with_reducible rfl)
            simp only [Act.put, List.getElem_toArray, List.getElem_cons_zero, List.getElem_cons_succ, List.setIfInBounds_toArray, List.set_cons_zero, List.set_cons_succ]
            refine wpAnyH_done (by kernel_rfl) ?_ _
            go_upto_region 6 with fail
            have hr5 := Hr.out.below hB5
            have hne : j ≠ jp := by have := Hjp1.out; omega
            obtain ⟨i0, i1, i2⟩ := hr5.cells j hJ
            obtain ⟨j0, j1, j2⟩ := hr5.cells jp hJP
            have hsw := (hr5.sw j jp hJ hJP).drew
            have fi0 := hr5.free (j * 3)
            have fi1 := hr5.free (j * 3 + 1)
            have fi2 := hr5.free (j * 3 + 2)
            have fj0 := hr5.free (jp * 3)
            have fj1 := hr5.free (jp * 3 + 1)
            have fj2 := hr5.free (jp * 3 + 2)
            have zg := hr5.lt
            obtain ⟨n1, n2, n3, n4, n5, n6, n7, n8, n9, n10, n11, n12⟩ := th_apart j jp hne
            have e5 : SR thT W0 ((((((w5.setCell ⟨g, j * 3, none⟩ (.int .u64 D[jp].id)).setCell ⟨g, j * 3 + 1, none⟩ (.int .u64 D[jp].gen)).setCell ⟨g, j * 3 + 2, none⟩ (.int .i64 D[jp].due)).setCell ⟨g, jp * 3, none⟩ (.int .u64 D[j].id)).setCell ⟨g, jp * 3 + 1, none⟩ (.int .u64 D[j].gen)).setCell ⟨g, jp * 3 + 2, none⟩ (.int .i64 D[j].due)).drew base g n cap (Sta.mvu P S Q' x (t - 1)) := by
              rw [← Hstep.out hJ hJP]; exact hsw
            rw [HatJ.out] at i0 i1 i2 e5
            rw [HatP.out] at j0 j1 j2 e5
            have E5 := Lib.hid e5
            clear hsw e5 hr5 hne
            go_region
            go_wp2_with fail
            go_roundw
            case rel => exact ⟨t - 1, jp, by first | rfl | rw [w1], Hjp.out, by omega, (fun r hr htr => by
              by_cases h : t ≤ r
              · exact hpass.out r hr h
              · have h2 : r = t - 1 := by omega
                subst h2
                have h3 := Hy.out
                rw [← h3]
                exact (thLe_no _ _).2 Hcmp.out), E5.out⟩
            case measure =>
              first | rw [w1] | skip
              simp only [intOf, Int.toNat_natCast]
              have := Hjp1.out
              omega
          · have hc : ¬ orderN x y < 0 := fun h => hcmp ((orderN_lt x y).1 h)
            obtain ⟨o, ho⟩ : ∃ o, o = orderN x y := ⟨_, rfl⟩
            have hord := fun W => order_any x y W
            rw [← ho] at hc hord
            have Hox := Lib.hid hord
            have hle : thLe y x = true := by
              cases h : thLe y x with
              | true => rfl
              | false => exact absurd ((thLe_no _ _).1 h) hcmp
            have Hle := Lib.hid hle
            clear ho hord hcmp hle
            go_upto_region 4 with fail
            have hSd := Hld.out wr.drew (Below.refl _ _).drew
            refine wp_region_held_drew (S := fun W' => (Instr.loadAt 32 (.pointer (some ⟨g, j * 3, none⟩))).run Try.prog W' = .ok (thVal x) W' ∧ (Instr.loadAt 32 (.pointer (some ⟨g, jp * 3, none⟩))).run Try.prog W' = .ok (thVal y) W') (by kernel_rfl) hSd (fun hHeld => ?_)
            refine wpAnyH_take (i := 0) (v := ?_) rfl (by kernel_rfl) (by kernel_rfl) (by kernel_rfl) (fun _ _ _ h => h) (Or.inl ⟨by rfl, ?_⟩) (by assumption) ?_
            rotate_left
            · intro w8 hSw; clear hSw; go_simp; (try with_reducible rfl)
            simp only [Act.put, List.getElem_toArray, List.getElem_cons_zero, List.getElem_cons_succ, List.setIfInBounds_toArray, List.set_cons_zero, List.set_cons_succ]
            refine wpAnyH_take (i := 1) (v := ?_) rfl (by kernel_rfl) (by kernel_rfl) (by kernel_rfl) (fun _ _ _ h => h) (Or.inl ⟨by rfl, ?_⟩) (by assumption) ?_
            rotate_left
            · intro w8 hSw; clear hSw; go_simp; (try with_reducible rfl)
            simp only [Act.put, List.getElem_toArray, List.getElem_cons_zero, List.getElem_cons_succ, List.setIfInBounds_toArray, List.set_cons_zero, List.set_cons_succ]
            refine wpAnyH_take (i := 2) (v := ?_) rfl (by kernel_rfl) (by kernel_rfl) (by kernel_rfl) (fun _ _ _ h => h) (Or.inl ⟨by rfl, ?_⟩) (by assumption) ?_
            rotate_left
            · intro w8 hSw; clear hSw; go_simp; (try with_reducible rfl)
            simp only [Act.put, List.getElem_toArray, List.getElem_cons_zero, List.getElem_cons_succ, List.setIfInBounds_toArray, List.set_cons_zero, List.set_cons_succ]
            refine wpAnyH_take (i := 3) (v := ?_) rfl (by kernel_rfl) (by kernel_rfl) (by kernel_rfl) (fun _ _ _ h => h) (Or.inl ⟨by rfl, ?_⟩) (by assumption) ?_
            rotate_left
            · intro w8 hSw; clear hSw; go_simp; (try with_reducible rfl)
            simp only [Act.put, List.getElem_toArray, List.getElem_cons_zero, List.getElem_cons_succ, List.setIfInBounds_toArray, List.set_cons_zero, List.set_cons_succ]
            refine wpAnyH_take (i := 4) (v := ?_) rfl (by kernel_rfl) (by kernel_rfl) (by kernel_rfl) (fun _ _ _ h => h) (Or.inl ⟨by rfl, ?_⟩) (by assumption) ?_
            rotate_left
            · intro w8 hSw; clear hSw; go_simp; (try with_reducible rfl)
            simp only [Act.put, List.getElem_toArray, List.getElem_cons_zero, List.getElem_cons_succ, List.setIfInBounds_toArray, List.set_cons_zero, List.set_cons_succ]
            refine wpAnyH_take (i := 5) (v := ?_) rfl (by kernel_rfl) (by kernel_rfl) (by kernel_rfl) (fun _ _ _ h => h) (Or.inl ⟨by rfl, ?_⟩) (by assumption) ?_
            rotate_left
            · intro w8 hSw; clear hSw; go_simp; (try with_reducible rfl)
            simp only [Act.put, List.getElem_toArray, List.getElem_cons_zero, List.getElem_cons_succ, List.setIfInBounds_toArray, List.set_cons_zero, List.set_cons_succ]
            refine wpAnyH_take (i := 6) (v := ?_) rfl (by kernel_rfl) (by kernel_rfl) (by kernel_rfl) (fun _ _ _ h => h) (Or.inl ⟨by rfl, ?_⟩) (by assumption) ?_
            rotate_left
            · intro w8 hSw; clear hSw; go_simp; (try with_reducible rfl)
            simp only [Act.put, List.getElem_toArray, List.getElem_cons_zero, List.getElem_cons_succ, List.setIfInBounds_toArray, List.set_cons_zero, List.set_cons_succ]
            refine wpAnyH_take (i := 7) (v := ?_) rfl (by kernel_rfl) (by kernel_rfl) (by kernel_rfl) (fun _ _ _ h => h) (Or.inl ⟨by rfl, ?_⟩) (by assumption) ?_
            rotate_left
            · intro w8 hSw; clear hSw; go_simp; (try with_reducible rfl)
            simp only [Act.put, List.getElem_toArray, List.getElem_cons_zero, List.getElem_cons_succ, List.setIfInBounds_toArray, List.set_cons_zero, List.set_cons_succ]
            refine wpAnyH_take (i := 8) (v := thVal x) rfl (by kernel_rfl) (by kernel_rfl) (by kernel_rfl) (fun _ _ _ h => h) (Or.inl ⟨by rfl, ?_⟩) (by assumption) ?_
            · intro w8 hSw; exact ld_takeT rfl hSw.1 rfl
            simp only [Act.put, List.getElem_toArray, List.getElem_cons_zero, List.getElem_cons_succ, List.setIfInBounds_toArray, List.set_cons_zero, List.set_cons_succ]
            refine wpAnyH_take (i := 9) (v := ?_) rfl (by kernel_rfl) (by kernel_rfl) (by kernel_rfl) (fun _ _ _ h => h) (Or.inl ⟨by rfl, ?_⟩) (by assumption) ?_
            rotate_left
            · intro w8 hSw; clear hSw; go_simp; (try with_reducible rfl)
            simp only [Act.put, List.getElem_toArray, List.getElem_cons_zero, List.getElem_cons_succ, List.setIfInBounds_toArray, List.set_cons_zero, List.set_cons_succ]
            refine wpAnyH_take (i := 10) (v := ?_) rfl (by kernel_rfl) (by kernel_rfl) (by kernel_rfl) (fun _ _ _ h => h) (Or.inl ⟨by rfl, ?_⟩) (by assumption) ?_
            rotate_left
            · intro w8 hSw; clear hSw; go_simp; (try with_reducible rfl)
            simp only [Act.put, List.getElem_toArray, List.getElem_cons_zero, List.getElem_cons_succ, List.setIfInBounds_toArray, List.set_cons_zero, List.set_cons_succ]
            refine wpAnyH_take (i := 11) (v := ?_) rfl (by kernel_rfl) (by kernel_rfl) (by kernel_rfl) (fun _ _ _ h => h) (Or.inl ⟨by rfl, ?_⟩) (by assumption) ?_
            rotate_left
            · intro w8 hSw; clear hSw; go_simp; (try with_reducible rfl)
            simp only [Act.put, List.getElem_toArray, List.getElem_cons_zero, List.getElem_cons_succ, List.setIfInBounds_toArray, List.set_cons_zero, List.set_cons_succ]
            refine wpAnyH_take (i := 12) (v := ?_) rfl (by kernel_rfl) (by kernel_rfl) (by kernel_rfl) (fun _ _ _ h => h) (Or.inl ⟨by rfl, ?_⟩) (by assumption) ?_
            rotate_left
            · intro w8 hSw; clear hSw; go_simp; (try with_reducible rfl)
            simp only [Act.put, List.getElem_toArray, List.getElem_cons_zero, List.getElem_cons_succ, List.setIfInBounds_toArray, List.set_cons_zero, List.set_cons_succ]
            refine wpAnyH_take (i := 13) (v := thVal y) rfl (by kernel_rfl) (by kernel_rfl) (by kernel_rfl) (fun _ _ _ h => h) (Or.inl ⟨by rfl, ?_⟩) (by assumption) ?_
            · intro w8 hSw; exact ld_takeT rfl hSw.2 rfl
            simp only [Act.put, List.getElem_toArray, List.getElem_cons_zero, List.getElem_cons_succ, List.setIfInBounds_toArray, List.set_cons_zero, List.set_cons_succ]
            refine wpAnyH_ready (rs := [14]) (by kernel_rfl) (by simp) ?_
            refine AllReadyH.cons rfl (fun K hK => ?_) AllReadyH.nil
            go_simp
            go_at_call 80
            refine (Hox.out _).mono ?_
            rintro e w5 ⟨rfl, hB5'⟩; have hB5 := below_on ((Below.refl wr.heap.size wr).drew) hB5' (Nat.le_refl _)
            refine hK.out _ _ (Hld.out _ hB5) (fun hHeld => ?_)
            clear hK K
            try simp only [Act.put, List.getElem_toArray, List.getElem_cons_zero, List.getElem_cons_succ, List.setIfInBounds_toArray, List.set_cons_zero, List.set_cons_succ]
            refine wpAnyH_take (i := 15) (v := ?_) rfl (by kernel_rfl) (by kernel_rfl) (by kernel_rfl) (fun _ _ _ h => h) (Or.inl ⟨by rfl, ?_⟩) (by assumption) ?_
            rotate_left
            · intro w8 hSw; clear hSw; go_simp; (try with_reducible rfl)
            simp only [Act.put, List.getElem_toArray, List.getElem_cons_zero, List.getElem_cons_succ, List.setIfInBounds_toArray, List.set_cons_zero, List.set_cons_succ]
            refine wpAnyH_take (i := 16) (v := ?_) rfl (by kernel_rfl) (by kernel_rfl) (by kernel_rfl) (fun _ _ _ h => h) (Or.inl ⟨by rfl, ?_⟩) (by assumption) ?_
            rotate_left
            · intro w8 hSw; clear hSw; go_simp; (try with_reducible rfl)
            simp only [Act.put, List.getElem_toArray, List.getElem_cons_zero, List.getElem_cons_succ, List.setIfInBounds_toArray, List.set_cons_zero, List.set_cons_succ]
            refine wpAnyH_done (by kernel_rfl) ?_ _
            go_wp2_with fail
            go_roundw
            case rel => exact ⟨c + 1, i + 1, by first | rfl | rw [HwI.out], by show _ = _; rw [hi.out]; omega, by omega, .inl Hlt.out, by
              rw [← Hrow.out t (by have := HS.out; omega) (fun h => by have h3 := Hy.out; rw [← h3]; exact Hle.out) (fun r hr htr => hpass.out r hr htr)]
              have h5 := Hr.out.below hB5
              rw [HD.out] at h5
              exact h5⟩
            case measure =>
              first | rw [HwI.out] | skip
              simp only [intOf, Int.toNat_natCast]
              have := Ho2.out
              omega
    · have hend : L.take c = L ∧ L.drop c = [] ∧ ¬ (i : Int) < (b : Int) := by
        refine ⟨List.take_of_length_le (by omega), List.drop_eq_nil_of_le (by omega), ?_⟩
        have h1 := hi.out
        have h2 := Hb.out
        omega
      obtain ⟨f1, f2, f3⟩ := hend
      rw [f1, f2] at hr
      clear f1 f2 hlt
      go_wp2_with fail
      refine bodyPost_end (results_none rfl _ _ _) rfl ?_
      exact ⟨rfl, by simpa using hr⟩
end Go.Proofs.Ytedlplkomfiahaa
