/- Lemmas for DeadlinePlays (Ub). No statement of the seat is proved here. -/
import Derived.Test.YtedlplkomfiahaaQ9
namespace Go.Proofs.Ytedlplkomfiahaa
set_option linter.unusedVariables false
set_option linter.unusedSimpArgs false
set_option linter.unusedSectionVars false
open Go Go.RowKit Go.Maps
theorem len_e (i k : Nat) (h : k ≤ i) : k + 1 + (i - k) = i + 1 := by omega
theorem i_nums (i n : Nat) (h : i < n) : (i : Int) < (n : Int) ∧ n - (i + 1) < n - i := by omega
theorem ts_meas (n i : Nat) (h : i < n) : n - (intOf (.int .i64 ((i : Int) + 1))).toNat < n - (intOf (.int .i64 (i : Nat))).toNat := by simp only [intOf]; omega
theorem rt_two (a b : RLs) : rtFlat (a ++ b) = rtFlat a ++ rtFlat b := by simp [rtFlat]
theorem rt_snoc (l : RLs) (p : Th × Nat) : (l.map rtCells ++ [rtCells p]).flatten = rtFlat (l ++ [p]) := by simp [rtFlat]
theorem rt_load {W : World} {b off : Nat} {p : Th × Nat} (h0 : W.cell? ⟨b, off, none⟩ = some (.int .u64 p.1.id)) (h1 : W.cell? ⟨b, off + 1, none⟩ = some (.int .u64 p.1.gen)) (h2 : W.cell? ⟨b, off + 2, none⟩ = some (.int .i64 p.1.due)) (h3 : W.cell? ⟨b, off + 3, none⟩ = some (.int .i64 (p.2 : Nat))) :
    (Instr.loadAt rtT (.pointer (some ⟨b, off, none⟩))).run Try.prog W = .ok (rtVal p) W := by
  unfold rtVal
  go_simp
set_option maxRecDepth 100000 in
set_option maxHeartbeats 8000000 in
theorem sorted_any (W : World) (ao : Option Addr) (cap : Nat) (l : RLs) (h : Rt W ao cap l) (hl : l.length ≤ 10000) :
    Calls Try.prog 78 #[.slice ao l.length cap] W fun e W' => ∃ ao' cap', e = .returned (.slice ao' l.length cap') ∧ W'.ownsRow W.heap.size rtT 4 (.slice ao' l.length cap') l.length (rtFlat (Sta.srt leP l)) ∧ Below W.heap.size W W' := by
  go_enter Try.func78, Try.ntmps78
  go_wp2_with fail
  go_loopw [3, 4] (fun v u wr => ∃ (i : Nat) (o : Option Addr) (c : Nat) (out : RLs), u = .int .i64 (i : Nat) ∧ v = .slice o i c ∧ i ≤ l.length ∧ Hid (out = Sta.srt leP (l.take i)) ∧ Hid (out.length = i) ∧ wr.ownsRow W.heap.size rtT 4 (.slice o i c) i (rtFlat out) ∧ Below W.heap.size W wr) (fun _ u _ => l.length - (intOf u).toNat)
  case atStart => exact ⟨0, none, 0, [], rfl, rfl, Nat.zero_le _, rfl, rfl, World.ownsRow_nil _ _ _ _, Below.refl _ _⟩
  case round =>
    obtain ⟨i, o, c, out, rfl, rfl, hi, hout, hol, ho, hb⟩ := hrel
    by_cases hil : i < l.length
    · obtain ⟨x1, x2⟩ := i_nums i l.length hil
      obtain ⟨x, hx⟩ : ∃ x, x = l[i] := ⟨_, rfl⟩
      have Hx := Lib.hid hx
      have Hh := Lib.hid h
      have HL := Lib.hid hl
      have Ho := Lib.hid ho
      have Hb := Lib.hid hb
      have hi6 : i ≤ 10000 := Nat.le_trans hi hl
      have hlx := Hh.out.below hb
      obtain ⟨bx, fx, rfl, hbx, -⟩ := Hh.out.cells i hil
      have hcx : ∀ w', Below W.heap.size W w' → w'.cell? ⟨bx, fx + i * 4, none⟩ = some (.int .u64 x.1.id) ∧ w'.cell? ⟨bx, fx + i * 4 + 1, none⟩ = some (.int .u64 x.1.gen) ∧ w'.cell? ⟨bx, fx + i * 4 + 2, none⟩ = some (.int .i64 x.1.due) ∧ w'.cell? ⟨bx, fx + i * 4 + 3, none⟩ = some (.int .i64 (x.2 : Nat)) := fun w' hw' => by
        obtain ⟨b2, f2, e, _, h1, h2, h3, h4⟩ := Rt.cells (Hh.out.below hw') i hil
        simp only [Option.some.injEq, Addr.mk.injEq, and_true] at e
        obtain ⟨rfl, rfl⟩ := e
        rw [hx]; exact ⟨h1, h2, h3, h4⟩
      have Hcx := Lib.hid hcx
      have hwr := hb.size
      have Hil := Lib.hid hil
      clear hlx hx h hl ho hb hi hcx
      go_wp2_with fail
      go_loopw [5] (fun v wi => ∃ k : Nat, v = .int .i64 (k : Nat) ∧ k ≤ i ∧ Hid (∀ j (hj : j < out.length), k ≤ j → leP out[j] x = false) ∧ Below wr.heap.size wr wi) (fun v _ => (intOf v).toNat)
      case atStart => exact ⟨i, rfl, Nat.le_refl _, fun j hj hk => by have := hol.out; omega, Below.refl _ _⟩
      case round =>
        obtain ⟨k, rfl, hk, hafter, hbi⟩ := hrel
        have hB2 := below_on Hb.out hbi (Nat.le_refl _)
        by_cases hk0 : 0 < k
        · obtain ⟨kp, hkp⟩ : ∃ kp, k = kp + 1 := ⟨k - 1, by omega⟩
          have hkl : kp < out.length := by rw [hol.out]; omega
          obtain ⟨y, hy⟩ : ∃ y, y = out[kp] := ⟨_, rfl⟩
          have hown := own_below Ho.out hbi
          have hRo : Rt wr o c out := Rt.of_own (by rw [hol.out]; exact hown)
          obtain ⟨bo, fo, rfl, hbo, c0, c1, c2, c3⟩ := hRo.cells kp hkl
          rw [← hy] at c0 c1 c2 c3
          have x3 : (k : Int) > 0 := by omega
          have x4 : wrap64 ((k : Int) - 1) = (kp : Int) := by rw [IntWalk.wrap64_in _ (by omega)]; omega
          have x5 := wi_of x4
          have x6 : (kp : Int) < (i : Int) := by omega
          have Hkp := Lib.hid hkp
          clear hkp
          have Hbf := Lib.hid (fun W => before_any x y W)
          have Hy := Lib.hid hy
          have Haf := Lib.hid hafter.out
          have hwl := hB2.size
          have hbx2 : bx < wr.heap.size := Nat.lt_of_lt_of_le hbx hwl
          have hld : ∀ W', Below wr.heap.size wr W' → (Instr.loadAt rtT (.pointer (some ⟨bx, fx + i * 4, none⟩))).run Try.prog W' = .ok (rtVal x) W' ∧ (Instr.loadAt rtT (.pointer (some ⟨bo, fo + kp * 4, none⟩))).run Try.prog W' = .ok (rtVal y) W' := fun W' hw => by
            obtain ⟨g0, g1, g2, g3⟩ := Hcx.out W' (below_on hB2 hw (Nat.le_refl _))
            have a0 := (hw.cell (p := ⟨bo, fo + kp * 4, none⟩) hbo).trans c0
            have a1 := (hw.cell (p := ⟨bo, fo + kp * 4 + 1, none⟩) hbo).trans c1
            have a2 := (hw.cell (p := ⟨bo, fo + kp * 4 + 2, none⟩) hbo).trans c2
            have a3 := (hw.cell (p := ⟨bo, fo + kp * 4 + 3, none⟩) hbo).trans c3
            exact ⟨rt_load g0 g1 g2 g3, rt_load a0 a1 a2 a3⟩
          have Hld := Lib.hid hld
          have HB2 := Lib.hid hB2
          clear hown hRo hy hafter hld c0 c1 c2 c3 hB2
          go_upto_region 6 with fail
          go_cut [5, 28] (fun v u wx => v = .int .i64 (k : Nat) ∧ u = .bool (thLt x.1 y.1) ∧ Below wr.heap.size wr wx)
          case first =>
            refine wp_region_held_drew (S := fun W' => (Instr.loadAt rtT (.pointer (some ⟨bx, fx + i * 4, none⟩))).run Try.prog W' = .ok (rtVal x) W' ∧ (Instr.loadAt rtT (.pointer (some ⟨bo, fo + kp * 4, none⟩))).run Try.prog W' = .ok (rtVal y) W') (by kernel_rfl) (Hld.out wr.drew (Below.refl _ _).drew) (fun hHeld => ?_)
            refine wpAnyH_take (i := 0) (v := ?_) rfl (by kernel_rfl) (by kernel_rfl) (by kernel_rfl) (fun _ _ _ h => h) (Or.inl ⟨by rfl, ?_⟩) (by assumption) ?_
            rotate_left
            · intro w8 hSw; clear hSw; go_simp; (try with_reducible rfl)
            simp only [Act.put, List.getElem_toArray, List.getElem_cons_zero, List.getElem_cons_succ, List.setIfInBounds_toArray, List.set_cons_zero, List.set_cons_succ]
            refine wpAnyH_take (i := 1) (v := ?_) rfl (by kernel_rfl) (by kernel_rfl) (by kernel_rfl) (fun _ _ _ h => h) (Or.inl ⟨by rfl, ?_⟩) (by assumption) ?_
            rotate_left
            · intro w8 hSw; clear hSw; go_simp; (try with_reducible rfl)
            simp only [Act.put, List.getElem_toArray, List.getElem_cons_zero, List.getElem_cons_succ, List.setIfInBounds_toArray, List.set_cons_zero, List.set_cons_succ]
            refine wpAnyH_take (i := 2) (v := ?_) rfl (by kernel_rfl) (by kernel_rfl) (by kernel_rfl) (fun _ _ _ h => h) (Or.inl ⟨by rfl, ?_⟩) (by assumption) ?_
            rotate_left
            · intro w8 hSw; clear hSw; go_simp; (try with_reducible rfl)
            simp only [Act.put, List.getElem_toArray, List.getElem_cons_zero, List.getElem_cons_succ, List.setIfInBounds_toArray, List.set_cons_zero, List.set_cons_succ]
            refine wpAnyH_take (i := 3) (v := ?_) rfl (by kernel_rfl) (by kernel_rfl) (by kernel_rfl) (fun _ _ _ h => h) (Or.inl ⟨by rfl, ?_⟩) (by assumption) ?_
            rotate_left
            · intro w8 hSw; clear hSw; go_simp; (try with_reducible rfl)
            simp only [Act.put, List.getElem_toArray, List.getElem_cons_zero, List.getElem_cons_succ, List.setIfInBounds_toArray, List.set_cons_zero, List.set_cons_succ]
            refine wpAnyH_take (i := 4) (v := ?_) rfl (by kernel_rfl) (by kernel_rfl) (by kernel_rfl) (fun _ _ _ h => h) (Or.inl ⟨by rfl, ?_⟩) (by assumption) ?_
            rotate_left
            · intro w8 hSw; clear hSw; go_simp; (try with_reducible rfl)
            simp only [Act.put, List.getElem_toArray, List.getElem_cons_zero, List.getElem_cons_succ, List.setIfInBounds_toArray, List.set_cons_zero, List.set_cons_succ]
            refine wpAnyH_take (i := 5) (v := ?_) rfl (by kernel_rfl) (by kernel_rfl) (by kernel_rfl) (fun _ _ _ h => h) (Or.inl ⟨by rfl, ?_⟩) (by assumption) ?_
            rotate_left
            · intro w8 hSw; clear hSw; go_simp; (try with_reducible rfl)
            simp only [Act.put, List.getElem_toArray, List.getElem_cons_zero, List.getElem_cons_succ, List.setIfInBounds_toArray, List.set_cons_zero, List.set_cons_succ]
            refine wpAnyH_take (i := 6) (v := rtVal x) rfl (by kernel_rfl) (by kernel_rfl) (by kernel_rfl) (fun _ _ _ h => h) (Or.inl ⟨by rfl, ?_⟩) (by assumption) ?_
            · intro w8 hSw; exact ld_takeT rfl hSw.1 rfl
            simp only [Act.put, List.getElem_toArray, List.getElem_cons_zero, List.getElem_cons_succ, List.setIfInBounds_toArray, List.set_cons_zero, List.set_cons_succ]
            refine wpAnyH_take (i := 7) (v := ?_) rfl (by kernel_rfl) (by kernel_rfl) (by kernel_rfl) (fun _ _ _ h => h) (Or.inl ⟨by rfl, ?_⟩) (by assumption) ?_
            rotate_left
            · intro w8 hSw; clear hSw; go_simp; (try with_reducible rfl)
            simp only [Act.put, List.getElem_toArray, List.getElem_cons_zero, List.getElem_cons_succ, List.setIfInBounds_toArray, List.set_cons_zero, List.set_cons_succ]
            refine wpAnyH_take (i := 8) (v := ?_) rfl (by kernel_rfl) (by kernel_rfl) (by kernel_rfl) (fun _ _ _ h => h) (Or.inl ⟨by rfl, ?_⟩) (by assumption) ?_
            rotate_left
            · intro w8 hSw; clear hSw; go_simp; (try with_reducible rfl)
            simp only [Act.put, List.getElem_toArray, List.getElem_cons_zero, List.getElem_cons_succ, List.setIfInBounds_toArray, List.set_cons_zero, List.set_cons_succ]
            refine wpAnyH_take (i := 9) (v := ?_) rfl (by kernel_rfl) (by kernel_rfl) (by kernel_rfl) (fun _ _ _ h => h) (Or.inl ⟨by rfl, ?_⟩) (by assumption) ?_
            rotate_left
            · intro w8 hSw; clear hSw; go_simp; (try with_reducible rfl)
            simp only [Act.put, List.getElem_toArray, List.getElem_cons_zero, List.getElem_cons_succ, List.setIfInBounds_toArray, List.set_cons_zero, List.set_cons_succ]
            refine wpAnyH_take (i := 10) (v := ?_) rfl (by kernel_rfl) (by kernel_rfl) (by kernel_rfl) (fun _ _ _ h => h) (Or.inl ⟨by rfl, ?_⟩) (by assumption) ?_
            rotate_left
            · intro w8 hSw; clear hSw; go_simp; (try with_reducible rfl)
            simp only [Act.put, List.getElem_toArray, List.getElem_cons_zero, List.getElem_cons_succ, List.setIfInBounds_toArray, List.set_cons_zero, List.set_cons_succ]
            refine wpAnyH_take (i := 11) (v := rtVal y) rfl (by kernel_rfl) (by kernel_rfl) (by kernel_rfl) (fun _ _ _ h => h) (Or.inl ⟨by rfl, ?_⟩) (by assumption) ?_
            · intro w8 hSw; exact ld_takeT rfl hSw.2 rfl
            simp only [Act.put, List.getElem_toArray, List.getElem_cons_zero, List.getElem_cons_succ, List.setIfInBounds_toArray, List.set_cons_zero, List.set_cons_succ]
            refine wpAnyH_ready (rs := [12]) (by kernel_rfl) (by simp) ?_
            refine AllReadyH.cons rfl (fun K hK => ?_) AllReadyH.nil
            go_simp
            go_at_call 42
            refine (Hbf.out _).mono ?_
            rintro e w5 ⟨rfl, hB5'⟩; have hB5 := below_on ((Below.refl wr.heap.size wr).drew) hB5' (Nat.le_refl _)
            refine hK.out _ _ (Hld.out _ hB5) (fun hHeld => ?_)
            clear hK K
            try simp only [Act.put, List.getElem_toArray, List.getElem_cons_zero, List.getElem_cons_succ, List.setIfInBounds_toArray, List.set_cons_zero, List.set_cons_succ]
            refine wpAnyH_take (i := 13) (v := ?_) rfl (by kernel_rfl) (by kernel_rfl) (by kernel_rfl) (fun _ _ _ h => h) (Or.inl ⟨by rfl, ?_⟩) (by assumption) ?_
            rotate_left
            · intro w8 hSw; clear hSw; go_simp; (try with_reducible rfl)
            simp only [Act.put, List.getElem_toArray, List.getElem_cons_zero, List.getElem_cons_succ, List.setIfInBounds_toArray, List.set_cons_zero, List.set_cons_succ]
            refine wpAnyH_done (by kernel_rfl) ?_ _
            go_wp2_with fail
            go_meet
            exact ⟨rfl, rfl, hB5⟩
          case rest =>
            obtain ⟨rfl, rfl, hB5⟩ := hcut
            clear Hbf Hld
            cases hcmp : thLt x.1 y.1 with
            | true =>
              have Hc := Lib.hid hcmp
              clear hcmp
              go_wp2_with fail
              go_roundw
              case rel => exact ⟨kp, by first | rfl | rw [x4], Nat.le_of_lt (Int.ofNat_lt.1 x6), fun j hj hkj => by
                by_cases hjk : j = kp
                · subst hjk
                  show thLe out[j].1 x.1 = false
                  rw [← Hy.out]
                  exact (thLe_no _ _).2 Hc.out
                · exact Haf.out j hj (by have := Hkp.out; omega), below_on hbi hB5 (Nat.le_refl _)⟩
              case measure =>
                first | rw [x4] | skip
                simp only [intOf, Int.toNat_natCast]
                have := Hkp.out
                omega
            | false =>
              have hins : ∀ h : 0 < k, leP (out[k - 1]'(by have := hol.out; omega)) x = true := fun h => by
                have e : k - 1 = kp := by have := Hkp.out; omega
                show thLe (out[k - 1]'(by have := hol.out; omega)).1 x.1 = true
                cases hh : thLe (out[k - 1]'(by have := hol.out; omega)).1 x.1 with
                | true => rfl
                | false =>
                  have h3 := (thLe_no _ _).1 hh
                  simp only [e] at h3
                  rw [← Hy.out, hcmp] at h3
                  cases h3
              have Hins := Lib.hid hins
              clear hcmp hins
              have hbC := below_on hbi hB5 (Nat.le_refl _)
              have ho8 := own_below Ho.out hbC
              have hb8 := below_on Hb.out hbC (Nat.le_refl _)
              have hl8 : Rt wc (some ⟨bo, fo, none⟩) c out := Rt.of_own (by rw [hol.out]; exact ho8)
              have hic := hl8.sl.le
              rw [hol.out] at hic
              have hnew := Sta.srt_ins leP (l.take i) out x leP_trans leP_total hout.out k (by rw [hol.out]; exact hk) Hins.out (fun j hj hkj => Haf.out j hj hkj)
              have P1 := hl8.piece 0 k (Nat.zero_le _) (by rw [hol.out]; exact hk)
              have P2 := hl8.piece k i hk (by rw [hol.out]; exact Nat.le_refl _)
              have hs1 := fun W => run_slice_sl (P := Try.prog) (w := W) Try.underlying48 szRt (some ⟨bo, fo, none⟩) i c none (some (.int .i64 (k : Nat))) 0 k (.inr ⟨rfl, rfl⟩) (.inl rfl) (Nat.zero_le _) (Nat.le_trans hk hic)
              have hs2 := fun W => run_slice_sl (P := Try.prog) (w := W) Try.underlying48 szRt (some ⟨bo, fo, none⟩) i c (some (.int .i64 (k : Nat))) none k i (.inl rfl) (.inr ⟨rfl, rfl⟩) hk hic
              obtain ⟨a1, ha1⟩ : ∃ a1, a1 = (if c = 0 then ((some ⟨bo, fo, none⟩) : Option Addr) else ((some ⟨bo, fo, none⟩) : Option Addr).map (·.add (0 * 4))) := ⟨_, rfl⟩
              rw [← ha1] at P1 hs1
              obtain ⟨a2, ha2⟩ : ∃ a2, a2 = (if c = k then ((some ⟨bo, fo, none⟩) : Option Addr) else ((some ⟨bo, fo, none⟩) : Option Addr).map (·.add (k * 4))) := ⟨_, rfl⟩
              rw [← ha2] at P2 hs2
              simp only [Nat.sub_zero, List.drop_zero] at P1 hs1
              rw [List.take_of_length_le (by rw [hol.out]; exact Nat.le_refl _)] at P2
              have Hnew := Lib.hid hnew
              have P1 := Lib.hid P1
              have P2 := Lib.hid P2
              have Hl8 := Lib.hid hl8
              have HbC := Lib.hid hb8
              have Ho8 := Lib.hid ho8
              have hk6 : k ≤ 10000 := Nat.le_trans hk hi6
              have hbx8 : bx < wc.heap.size := Nat.lt_of_lt_of_le hbx hb8.size
              have hW8 := hb8.size
              clear hnew hl8 hb8 ho8 hbC ha1 ha2
              go_wp2_with (first
                | (at_builtin; refine wpl_append rfl (.tmp 31) (.tmp 34) rtsT rfl wc.heap.size rtT infoRt Try.underlying48 rfl (by decide) _ 0 [] rfl (own_empty wc wc.heap.size _ 4 (Nat.le_refl _)) _ _ _ _ rfl (P1.out.below (below_new _ _)) (rts_one _) ?_ ?_ ?_ ?_; (unfold maxLen; omega); omega; exact (below_new _ _).size; intro ao1 cap1 w1 hown1 hg1; rw [Nat.zero_add, List.nil_append] at hown1; have hb1 := below_app (below_new _ _) hg1 (own_empty wc wc.heap.size _ 4 (Nat.le_refl _)) (Nat.le_refl _) (below_new _ _).size; obtain ⟨g0, g1, g2, g3⟩ := Hcx.out w1 (below_on HbC.out hb1 (Nat.le_refl _)); have hz1 := hb1.size; have hbx1 := Nat.lt_of_lt_of_le hbx8 hz1; have Hown1 := Lib.hid hown1; have Hb1 := Lib.hid hb1; clear hown1 hb1 hg1)
                | (at_builtin; refine wpl_append_one rfl (.tmp 36) (.tmp 41) rtsT rfl wc.heap.size rtT infoRt Try.underlying48 rfl (by decide) _ k ((out.take k).map rtCells) rfl (Hown1.out.alloc _) _ 1 (rtCells x) rfl rfl (news_at _ rfl) (rt_one _) ?_ ?_ ?_ ?_; omega; (unfold maxLen; omega); (simp; omega); intro q2 c2 w2 hown2 hg2 hlie2; have hb2 := (below_app (Hb1.out.alloc hz1 _) hg2 (Hown1.out.alloc _) (Nat.le_refl _) (by simp; omega)); have hz2 := hb2.size; have Hown2 := Lib.hid hown2; have Hb2 := Lib.hid hb2; clear hown2 hb2 hg2 hlie2)
                | (at_builtin; refine wpl_append rfl (.tmp 43) (.tmp 46) rtsT rfl wc.heap.size rtT infoRt Try.underlying48 rfl (by decide) _ (k + 1) _ rfl Hown2.out _ _ _ _ rfl (P2.out.below Hb2.out) (rts_one _) ?_ ?_ ?_ ?_; (unfold maxLen; omega); omega; exact hz2; intro ao3 cap3 w3 hown3 hg3; have hb3 := below_app Hb2.out hg3 Hown2.out (Nat.le_refl _) hz2; have Hown3 := Lib.hid hown3; have Hb3 := Lib.hid hb3; clear hown3 hb3 hg3))
              obtain ⟨w6, w7⟩ := i_nums i l.length Hil.out
              have w8 : wrap64 ((i : Int) + 1) = (i : Int) + 1 := IntWalk.wrap64_in _ (by omega)
              go_roundw
              case rel =>
                have e1 := len_e i k hk
                have e2 : l.take (i + 1) = l.take i ++ [x] := by rw [← List.take_append_getElem Hil.out, Hx.out]
                have e3 : (List.map rtCells (List.take k out) ++ [rtCells x]).flatten ++ rtFlat (List.drop k out) = rtFlat (Sta.srt leP (l.take (i + 1))) := by rw [rt_snoc, e2, Hnew.out, ← rt_two]; simp
                have h3 := Hown3.out
                rw [e1, e3] at h3
                refine ⟨i + 1, ao3, cap3, _, rfl, by rw [e1], Hil.out, rfl, ?_, own_base h3 HbC.out.size, below_on HbC.out Hb3.out (Nat.le_refl _)⟩
                show (Sta.srt leP (l.take (i + 1))).length = i + 1
                rw [Sta.srt_len, List.length_take, Nat.min_eq_left Hil.out]
              case measure => exact ts_meas l.length i Hil.out
        · have x3 : ¬ (k : Int) > 0 := by omega
          have hins : ∀ h : 0 < k, leP (out[k - 1]'(by have := hol.out; omega)) x = true := fun h => absurd h hk0
          have Hins := Lib.hid hins
          have Haf := Lib.hid hafter.out
          clear hins hafter
          go_upto_region 6 with fail
          go_cut [5, 28] (fun v u wx => v = .int .i64 (k : Nat) ∧ u = .bool false ∧ Below wr.heap.size wr wx)
          case first =>
            refine wp_region_held_drew (S := fun _ => True) (by kernel_rfl) trivial (fun hHeld => ?_)
            refine wpAnyH_take (i := 0) (v := ?_) rfl (by kernel_rfl) (by kernel_rfl) (by kernel_rfl) (fun _ _ _ h => h) (Or.inl ⟨by rfl, ?_⟩) (by assumption) ?_
            rotate_left
            · intro w8 hSw; clear hSw; go_simp; (try with_reducible rfl)
            simp only [Act.put, List.getElem_toArray, List.getElem_cons_zero, List.getElem_cons_succ, List.setIfInBounds_toArray, List.set_cons_zero, List.set_cons_succ]
            refine wpAnyH_take (i := 1) (v := ?_) rfl (by kernel_rfl) (by kernel_rfl) (by kernel_rfl) (fun _ _ _ h => h) (Or.inl ⟨by rfl, ?_⟩) (by assumption) ?_
            rotate_left
            · intro w8 hSw; clear hSw; go_simp; (try with_reducible rfl)
            simp only [Act.put, List.getElem_toArray, List.getElem_cons_zero, List.getElem_cons_succ, List.setIfInBounds_toArray, List.set_cons_zero, List.set_cons_succ]
            refine wpAnyH_take (i := 2) (v := ?_) rfl (by kernel_rfl) (by kernel_rfl) (by kernel_rfl) (fun _ _ _ h => h) (Or.inl ⟨by rfl, ?_⟩) (by assumption) ?_
            rotate_left
            · intro w8 hSw; clear hSw; go_simp; (try with_reducible rfl)
            simp only [Act.put, List.getElem_toArray, List.getElem_cons_zero, List.getElem_cons_succ, List.setIfInBounds_toArray, List.set_cons_zero, List.set_cons_succ]
            refine wpAnyH_take (i := 3) rfl (by kernel_rfl) (by kernel_rfl) (by kernel_rfl) (fun _ _ _ h => h) (Or.inr ⟨by rfl, rfl⟩) (by assumption) ?_
            simp only [Act.put, List.getElem_toArray, List.getElem_cons_zero, List.getElem_cons_succ, List.setIfInBounds_toArray, List.set_cons_zero, List.set_cons_succ]
            refine wpAnyH_take (i := 4) rfl (by kernel_rfl) (by kernel_rfl) (by kernel_rfl) (fun _ _ _ h => h) (Or.inr ⟨by rfl, rfl⟩) (by assumption) ?_
            simp only [Act.put, List.getElem_toArray, List.getElem_cons_zero, List.getElem_cons_succ, List.setIfInBounds_toArray, List.set_cons_zero, List.set_cons_succ]
            refine wpAnyH_take (i := 5) rfl (by kernel_rfl) (by kernel_rfl) (by kernel_rfl) (fun _ _ _ h => h) (Or.inr ⟨by rfl, rfl⟩) (by assumption) ?_
            simp only [Act.put, List.getElem_toArray, List.getElem_cons_zero, List.getElem_cons_succ, List.setIfInBounds_toArray, List.set_cons_zero, List.set_cons_succ]
            refine wpAnyH_take (i := 6) rfl (by kernel_rfl) (by kernel_rfl) (by kernel_rfl) (fun _ _ _ h => h) (Or.inr ⟨by rfl, rfl⟩) (by assumption) ?_
            simp only [Act.put, List.getElem_toArray, List.getElem_cons_zero, List.getElem_cons_succ, List.setIfInBounds_toArray, List.set_cons_zero, List.set_cons_succ]
            refine wpAnyH_take (i := 7) rfl (by kernel_rfl) (by kernel_rfl) (by kernel_rfl) (fun _ _ _ h => h) (Or.inr ⟨by rfl, rfl⟩) (by assumption) ?_
            simp only [Act.put, List.getElem_toArray, List.getElem_cons_zero, List.getElem_cons_succ, List.setIfInBounds_toArray, List.set_cons_zero, List.set_cons_succ]
            refine wpAnyH_take (i := 8) rfl (by kernel_rfl) (by kernel_rfl) (by kernel_rfl) (fun _ _ _ h => h) (Or.inr ⟨by rfl, rfl⟩) (by assumption) ?_
            simp only [Act.put, List.getElem_toArray, List.getElem_cons_zero, List.getElem_cons_succ, List.setIfInBounds_toArray, List.set_cons_zero, List.set_cons_succ]
            refine wpAnyH_take (i := 9) rfl (by kernel_rfl) (by kernel_rfl) (by kernel_rfl) (fun _ _ _ h => h) (Or.inr ⟨by rfl, rfl⟩) (by assumption) ?_
            simp only [Act.put, List.getElem_toArray, List.getElem_cons_zero, List.getElem_cons_succ, List.setIfInBounds_toArray, List.set_cons_zero, List.set_cons_succ]
            refine wpAnyH_take (i := 10) rfl (by kernel_rfl) (by kernel_rfl) (by kernel_rfl) (fun _ _ _ h => h) (Or.inr ⟨by rfl, rfl⟩) (by assumption) ?_
            simp only [Act.put, List.getElem_toArray, List.getElem_cons_zero, List.getElem_cons_succ, List.setIfInBounds_toArray, List.set_cons_zero, List.set_cons_succ]
            refine wpAnyH_take (i := 11) rfl (by kernel_rfl) (by kernel_rfl) (by kernel_rfl) (fun _ _ _ h => h) (Or.inr ⟨by rfl, rfl⟩) (by assumption) ?_
            simp only [Act.put, List.getElem_toArray, List.getElem_cons_zero, List.getElem_cons_succ, List.setIfInBounds_toArray, List.set_cons_zero, List.set_cons_succ]
            refine wpAnyH_take (i := 12) rfl (by kernel_rfl) (by kernel_rfl) (by kernel_rfl) (fun _ _ _ h => h) (Or.inr ⟨by rfl, rfl⟩) (by assumption) ?_
            simp only [Act.put, List.getElem_toArray, List.getElem_cons_zero, List.getElem_cons_succ, List.setIfInBounds_toArray, List.set_cons_zero, List.set_cons_succ]
            refine wpAnyH_take (i := 13) (v := ?_) rfl (by kernel_rfl) (by kernel_rfl) (by kernel_rfl) (fun _ _ _ h => h) (Or.inl ⟨by rfl, ?_⟩) (by assumption) ?_
            rotate_left
            · intro w8 hSw; clear hSw; go_simp; (try with_reducible rfl)
            simp only [Act.put, List.getElem_toArray, List.getElem_cons_zero, List.getElem_cons_succ, List.setIfInBounds_toArray, List.set_cons_zero, List.set_cons_succ]
            refine wpAnyH_done (by kernel_rfl) ?_ _
            go_wp2_with fail
            go_meet
            exact ⟨rfl, rfl, (Below.refl _ _).drew⟩
          case rest =>
            obtain ⟨rfl, rfl, hB5⟩ := hcut
            have hbC := below_on hbi hB5 (Nat.le_refl _)
            have ho8 := own_below Ho.out hbC
            have hb8 := below_on Hb.out hbC (Nat.le_refl _)
            have hl8 : Rt wc o c out := Rt.of_own (by rw [hol.out]; exact ho8)
            have hic := hl8.sl.le
            rw [hol.out] at hic
            have hnew := Sta.srt_ins leP (l.take i) out x leP_trans leP_total hout.out k (by rw [hol.out]; exact hk) Hins.out (fun j hj hkj => Haf.out j hj hkj)
            have P1 := hl8.piece 0 k (Nat.zero_le _) (by rw [hol.out]; exact hk)
            have P2 := hl8.piece k i hk (by rw [hol.out]; exact Nat.le_refl _)
            have hs1 := fun W => run_slice_sl (P := Try.prog) (w := W) Try.underlying48 szRt o i c none (some (.int .i64 (k : Nat))) 0 k (.inr ⟨rfl, rfl⟩) (.inl rfl) (Nat.zero_le _) (Nat.le_trans hk hic)
            have hs2 := fun W => run_slice_sl (P := Try.prog) (w := W) Try.underlying48 szRt o i c (some (.int .i64 (k : Nat))) none k i (.inl rfl) (.inr ⟨rfl, rfl⟩) hk hic
            obtain ⟨a1, ha1⟩ : ∃ a1, a1 = (if c = 0 then (o : Option Addr) else (o : Option Addr).map (·.add (0 * 4))) := ⟨_, rfl⟩
            rw [← ha1] at P1 hs1
            obtain ⟨a2, ha2⟩ : ∃ a2, a2 = (if c = k then (o : Option Addr) else (o : Option Addr).map (·.add (k * 4))) := ⟨_, rfl⟩
            rw [← ha2] at P2 hs2
            simp only [Nat.sub_zero, List.drop_zero] at P1 hs1
            rw [List.take_of_length_le (by rw [hol.out]; exact Nat.le_refl _)] at P2
            have Hnew := Lib.hid hnew
            have P1 := Lib.hid P1
            have P2 := Lib.hid P2
            have Hl8 := Lib.hid hl8
            have HbC := Lib.hid hb8
            have Ho8 := Lib.hid ho8
            have hk6 : k ≤ 10000 := Nat.le_trans hk hi6
            have hbx8 : bx < wc.heap.size := Nat.lt_of_lt_of_le hbx hb8.size
            have hW8 := hb8.size
            clear hnew hl8 hb8 ho8 hbC ha1 ha2
            go_wp2_with (first
              | (at_builtin; refine wpl_append rfl (.tmp 31) (.tmp 34) rtsT rfl wc.heap.size rtT infoRt Try.underlying48 rfl (by decide) _ 0 [] rfl (own_empty wc wc.heap.size _ 4 (Nat.le_refl _)) _ _ _ _ rfl (P1.out.below (below_new _ _)) (rts_one _) ?_ ?_ ?_ ?_; (unfold maxLen; omega); omega; exact (below_new _ _).size; intro ao1 cap1 w1 hown1 hg1; rw [Nat.zero_add, List.nil_append] at hown1; have hb1 := below_app (below_new _ _) hg1 (own_empty wc wc.heap.size _ 4 (Nat.le_refl _)) (Nat.le_refl _) (below_new _ _).size; obtain ⟨g0, g1, g2, g3⟩ := Hcx.out w1 (below_on HbC.out hb1 (Nat.le_refl _)); have hz1 := hb1.size; have hbx1 := Nat.lt_of_lt_of_le hbx8 hz1; have Hown1 := Lib.hid hown1; have Hb1 := Lib.hid hb1; clear hown1 hb1 hg1)
              | (at_builtin; refine wpl_append_one rfl (.tmp 36) (.tmp 41) rtsT rfl wc.heap.size rtT infoRt Try.underlying48 rfl (by decide) _ k ((out.take k).map rtCells) rfl (Hown1.out.alloc _) _ 1 (rtCells x) rfl rfl (news_at _ rfl) (rt_one _) ?_ ?_ ?_ ?_; omega; (unfold maxLen; omega); (simp; omega); intro q2 c2 w2 hown2 hg2 hlie2; have hb2 := (below_app (Hb1.out.alloc hz1 _) hg2 (Hown1.out.alloc _) (Nat.le_refl _) (by simp; omega)); have hz2 := hb2.size; have Hown2 := Lib.hid hown2; have Hb2 := Lib.hid hb2; clear hown2 hb2 hg2 hlie2)
              | (at_builtin; refine wpl_append rfl (.tmp 43) (.tmp 46) rtsT rfl wc.heap.size rtT infoRt Try.underlying48 rfl (by decide) _ (k + 1) _ rfl Hown2.out _ _ _ _ rfl (P2.out.below Hb2.out) (rts_one _) ?_ ?_ ?_ ?_; (unfold maxLen; omega); omega; exact hz2; intro ao3 cap3 w3 hown3 hg3; have hb3 := below_app Hb2.out hg3 Hown2.out (Nat.le_refl _) hz2; have Hown3 := Lib.hid hown3; have Hb3 := Lib.hid hb3; clear hown3 hb3 hg3))
            obtain ⟨w6, w7⟩ := i_nums i l.length Hil.out
            have w8 : wrap64 ((i : Int) + 1) = (i : Int) + 1 := IntWalk.wrap64_in _ (by omega)
            go_roundw
            case rel =>
              have e1 := len_e i k hk
              have e2 : l.take (i + 1) = l.take i ++ [x] := by rw [← List.take_append_getElem Hil.out, Hx.out]
              have e3 : (List.map rtCells (List.take k out) ++ [rtCells x]).flatten ++ rtFlat (List.drop k out) = rtFlat (Sta.srt leP (l.take (i + 1))) := by rw [rt_snoc, e2, Hnew.out, ← rt_two]; simp
              have h3 := Hown3.out
              rw [e1, e3] at h3
              refine ⟨i + 1, ao3, cap3, _, rfl, by rw [e1], Hil.out, rfl, ?_, own_base h3 HbC.out.size, below_on HbC.out Hb3.out (Nat.le_refl _)⟩
              show (Sta.srt leP (l.take (i + 1))).length = i + 1
              rw [Sta.srt_len, List.length_take, Nat.min_eq_left Hil.out]
            case measure => exact ts_meas l.length i Hil.out
    · obtain rfl : i = l.length := by omega
      have x1 : ¬ (l.length : Int) < (l.length : Int) := by omega
      have he := hout.out
      rw [List.take_length] at he
      rw [he] at ho
      have HF := Lib.hid (⟨ho, hb⟩ : _ ∧ _)
      clear ho hb he hil h
      go_wp2_with fail
      go_ret
      exact ⟨_, _, rfl, HF.out⟩
end Go.Proofs.Ytedlplkomfiahaa
