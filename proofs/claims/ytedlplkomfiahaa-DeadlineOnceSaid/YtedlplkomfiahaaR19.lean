/- Lemmas for DeadlineOnce (DeadlineOnce). No statement of the seat is proved here. -/
import Derived.Test.YtedlplkomfiahaaR18
namespace Go.Proofs.Ytedlplkomfiahaa
set_option linter.unusedVariables false
set_option linter.unusedSimpArgs false
set_option linter.unusedSectionVars false
open Go Go.RowKit Go.Maps Go.Deep
theorem bnx_keep {W wr V : World} {G : Nat → Prop} {b q : Nat} {now last : Int} {X : List Th} {o : Obj} (h : Bnx W wr G b now last X V) (hx : wr.heap[q]? = some o) (hq : ¬ G q) : V.heap[q]? = some o := by
  obtain ⟨G', -, g2, -⟩ := h
  exact (g2.block q (Array.getElem?_eq_some_iff.1 hx).1 hq).trans hx
theorem guard_th13 (p q : Operand) (a b c d e f : Int) (V : World) : (eqGuard .neq thT p q (.agg #[.int .u64 a, .int .u64 b, .int .i64 c]) (.agg #[.int .u64 d, .int .u64 e, .int .i64 f])).run Try.prog V = .ok () V := run_eqGuard_agg V .neq _ p q _ _ (by kernel_rfl)
theorem meas_u13 (c k : Nat) (h : k < c) : c - (intOf (.int .u64 ((k : Int) + 1))).toNat < c - (intOf (.int .u64 (k : Nat))).toNat := by simp only [intOf]; omega
theorem setL_up (last : Int) (X : List Th) (id due : Int) : last ≤ setL last X id due := by unfold setL; split <;> omega
theorem setOk_E {last : Int} {X : List Th} {id due : Int} (h : setE last X id due = 0) : SetOk last X id due := by
  by_cases hok : SetOk last X id due
  · exact hok
  · exfalso
    unfold setE at h
    split at h
    · rename_i hd
      split at h
      · omega
      · rename_i hl
        split at h
        · omega
        · rename_i hf
          apply hok
          refine ⟨hd, by omega, ?_⟩
          cases hc : canB X id with
          | true => exact .inl rfl
          | false => exact .inr (by
              have : ¬ 256 ≤ X.length := fun h2 => hf ⟨hc, h2⟩
              omega)
    · omega
theorem neq_e (x : Int) (h : ¬ x = 0) : (x != 0) = true := by simp [h]
theorem advE_ok {now tb : Int} (h : advE now tb = 0) : Inst tb ∧ now ≤ tb := by
  unfold advE at h
  split at h
  · split at h
    · omega
    · exact ⟨by assumption, by omega⟩
  · omega
theorem adv_same {now tb : Int} (X : List Th) (h : ¬ advE now tb = 0) : advX now tb X = X ∧ advN now tb = now := by
  unfold advE at h
  unfold advX advN
  by_cases hi : Inst tb
  · rw [if_pos hi] at h
    rw [if_pos hi, if_pos hi]
    by_cases hl : tb < now
    · rw [if_pos hl, if_pos hl]; exact ⟨rfl, rfl⟩
    · rw [if_neg hl] at h; exact absurd rfl h
  · rw [if_neg hi, if_neg hi]; exact ⟨rfl, rfl⟩
theorem drop_less {A : List Th} (h : Ids A) (k : Nat) (hk : k < A.length) (B : List Th) (hB : Ids (A.drop k ++ B)) : lessId (A.drop k ++ B) A[k].id = A.drop (k + 1) ++ B := by
  rw [List.drop_eq_getElem_cons hk, List.cons_append] at hB ⊢
  have h1 := (List.pairwise_cons.1 hB).1
  unfold lessId
  rw [List.filter_cons_of_neg (by simp)]
  exact List.filter_eq_self.2 fun t ht => by simpa using fun e => h1 t ht e.symm
set_option maxRecDepth 100000 in
set_option maxHeartbeats 16000000 in
theorem deadlineOnce_run (W : World) (now : Int) (bo : Option Addr) (cb : Nat) (l : List DOp) (hs : DOps W bo cb l) (hok : ∀ a ∈ l, DOpOk a) :
    Calls Try.prog 3 #[.int .i64 now, .slice bo l.length cb] W fun e W' => e = .returned (.bool true) ∧ Below W.heap.size W W' := by
  have Hs := Lib.hid hs
  have Hok := Lib.hid hok
  clear hs hok
  by_cases hbad : l.length > 100 ∨ (¬ l.length > 100 ∧ now < 0) ∨ (¬ l.length > 100 ∧ ¬ now < 0 ∧ now > 1125899906842624)
  · have Hn1 := Lib.hid (bnew_no W (-1) (by unfold Inst; omega))
    have Hlv := Lib.hid (lives13 W)
    rcases hbad with y1 | ⟨y1, y2⟩ | ⟨y1, y2, y3⟩
    · have x1 : (l.length : Int) > 100 := by omega
      clear y1
      go_enter Try.func3, Try.ntmps3
      go_wp2_with fail
      refine Hn1.out.mono ?_
      rintro e V1 ⟨rfl, hw⟩
      subst V1
      go_wp2_with fail
      refine (show Calls _ _ _ _ _ from Hlv.out).mono ?_
      rintro e V1 ⟨rfl, hv1⟩
      go_wp2_with fail
      go_ret
      exact ⟨rfl, hv1⟩
    · have x1 : ¬ (l.length : Int) > 100 := by omega
      clear y1
      go_enter Try.func3, Try.ntmps3
      go_wp2_with fail
      refine Hn1.out.mono ?_
      rintro e V1 ⟨rfl, hw⟩
      subst V1
      go_wp2_with fail
      refine (show Calls _ _ _ _ _ from Hlv.out).mono ?_
      rintro e V1 ⟨rfl, hv1⟩
      go_wp2_with fail
      go_ret
      exact ⟨rfl, hv1⟩
    · have x1 : ¬ (l.length : Int) > 100 := by omega
      clear y1
      go_enter Try.func3, Try.ntmps3
      go_wp2_with fail
      refine Hn1.out.mono ?_
      rintro e V1 ⟨rfl, hw⟩
      subst V1
      go_wp2_with fail
      refine (show Calls _ _ _ _ _ from Hlv.out).mono ?_
      rintro e V1 ⟨rfl, hv1⟩
      go_wp2_with fail
      go_ret
      exact ⟨rfl, hv1⟩
  · have hl : l.length ≤ 100 := by omega
    have hn : Inst now := ⟨by omega, by omega⟩
    have x1 : ¬ (l.length : Int) > 100 := by omega
    have x2 : ¬ now < 0 := by omega
    have x3 : ¬ now > 1125899906842624 := by omega
    have Hl := Lib.hid hl
    have Hnw := Lib.hid (bnew_o W W now hn (Below.refl _ _))
    have hmk := @run_makeMap Try.prog
    clear hbad hl hn
    go_enter Try.func3, Try.ntmps3
    go_wp2_with fail
    refine (show Calls _ _ _ _ _ from Hnw.out).mono ?_
    rintro e W1 ⟨b, G, rfl, hbk, -, -⟩
    obtain ⟨W2, hW2⟩ : ∃ W2, W2 = W1.alloc (.map #[] 0) := ⟨_, rfl⟩
    obtain ⟨W3, hW3⟩ : ∃ W3, W3 = W2.alloc (.map #[] 0) := ⟨_, rfl⟩
    obtain ⟨m1, hm1⟩ : ∃ m, m = W1.heap.size := ⟨_, rfl⟩
    obtain ⟨m2, hm2⟩ : ∃ m, m = W1.heap.size + 1 := ⟨_, rfl⟩
    have z2 : W2.heap.size = W1.heap.size + 1 := by rw [hW2]; simp
    have B2 : Below W1.heap.size W1 W2 := by rw [hW2]; exact below_new _ _
    have B3 : Below W2.heap.size W2 W3 := by rw [hW3]; exact below_new _ _
    have a1 : MpX W3 m1 0 [] := by
      have h1 : MpX W2 m1 0 [] := by rw [hW2, hm1]; exact MpX.made W1
      exact h1.below B3
    have a2 : Bp W3 m2 0 (fun _ => false) := by rw [hW3, hm2, ← z2]; exact ⟨_, World.ownsMap_made _ _ _ _, BSet.start⟩
    have hs1 := hbk.bel.size
    have HOn : Hid (On W W3 G b m1 m2 0 now 0 [] [] (fun _ => false)) := (⟨hbk.below (below_on B2 B3 (Nat.le_refl _)), a1, a2, (fun k h => by cases h), by omega, (fun e => by have := hbk.bd m1 e; omega), (fun e => by have := hbk.bd m2 e; omega), by omega, by omega⟩ : On W W3 G b m1 m2 0 now 0 [] [] (fun _ => false))
    clear hbk z2 B2 B3 a1 a2 hs1 x1 x2 x3 Hnw
    go_upto_region 6 with fail
    rw [← hW2, ← hW3, ← hm2, ← hm1]
    clear hW2 hW3 hm1 hm2 hmk
    go_wp2_with fail
    go_loopw [41] (fun u wr => ∃ (i n : Nat) (G : Nat → Prop) (nw la : Int) (X : List Th) (T : Int → Bool), u = .int .i64 (i : Nat) ∧ i ≤ l.length ∧ Hid (n ≤ 2 * i) ∧ Hid (On W wr G b m1 m2 n nw la X X T)) (fun u _ => l.length - (intOf u).toNat)
    case atStart => exact ⟨0, 0, G, now, 0, [], fun _ => false, rfl, Nat.zero_le _, (Nat.le_refl 0 : 0 ≤ 2 * 0), HOn⟩
    case round =>
      obtain ⟨i, n, G, nw, la, X, T, rfl, hi, hni, hon⟩ := hrel
      by_cases hil : i < l.length
      · obtain ⟨x1, x2⟩ := i_nums i l.length hil
        obtain ⟨bx, fx, rfl, hcl⟩ := DOps.get (Hs.out.below hon.out.bel) i hil
        have c0 := hcl 0 (by decide)
        have c1 := hcl 1 (by decide)
        have c2 := hcl 2 (by decide)
        obtain ⟨y, hy⟩ : ∃ y, y = l[i] := ⟨_, rfl⟩
        have hyo : DOpOk y := by rw [hy]; exact Hok.out _ (List.getElem_mem hil)
        rw [← hy] at c0 c1 c2
        obtain ⟨ok, oi, oa⟩ := y
        simp [dopCells] at c0 c1 c2
        have hbx := cell?_lt c0
        have Hid2 := Lib.hid (show IdOk oi from hyo.1)
        have w1 : wrap64 ((i : Int) + 1) = (i : Int) + 1 := IntWalk.wrap64_in _ (by have := Hl.out; omega)
        have Hi := Lib.hid hil
        have HW1 := Lib.hid w1
        obtain ⟨V0, hV0⟩ : ∃ V0, V0 = wr.alloc (.cells #[.int .i64 ok, .int .u64 oi, .int .i64 oa] dopT) := ⟨_, rfl⟩
        obtain ⟨q, hq⟩ : ∃ q, q = wr.heap.size := ⟨_, rfl⟩
        have hB0 : Below wr.heap.size wr V0 := by rw [hV0]; exact below_new _ _
        have hxq : V0.heap[q]? = some (.cells #[.int .i64 ok, .int .u64 oi, .int .i64 oa] dopT (0, 0)) := by rw [hV0, hq]; exact heap_alloc_new _ _
        have Hon0 := Lib.hid (hon.out.below hB0)
        have Hqo : Hid (¬ G q ∧ q ≠ m1 ∧ q ≠ m2 ∧ W.heap.size ≤ q) := (⟨fun e => by have := hon.out.bk.bd q e; omega, by have := hon.out.map.lt; omega, by have := hon.out.giv.lt; omega, by have := hon.out.bel.size; omega⟩ : ¬ G q ∧ q ≠ m1 ∧ q ≠ m2 ∧ W.heap.size ≤ q)
        have Xq := Lib.hid hxq
        have Hni : Hid (n + 2 ≤ 2 * (i + 1)) := (by have := hni.out; omega : n + 2 ≤ 2 * (i + 1))
        have Hn9 : Hid (n < 1000000) := (by have := hni.out; have := Hl.out; omega : n < 1000000)
        have HW0 := Lib.hid (And.intro hV0 hq)
        clear hil hi hyo hcl hy hB0 hV0 hq w1 hxq hon hni
        go_upto_region 9 with fail
        rw [← HW0.out.1, ← HW0.out.2]
        have d0 := block_cell Xq.out 0
        have d1 := block_cell Xq.out 1
        have d2 := block_cell Xq.out 2
        have dl := (Array.getElem?_eq_some_iff.1 Xq.out).1
        simp at d0 d1 d2
        clear c0 c1 c2 hbx
        by_cases k1 : ok = 1
        · subst k1
          have Hcn := Lib.hid (bclear_o Hon0.out.bk oi Hid2.out)
          go_wp2_with fail
          refine (show Calls _ _ _ _ _ from Hcn.out).mono ?_
          rintro e V1 ⟨rfl, hbn⟩
          have hxq1 := bnx_keep hbn Xq.out Hqo.out.1
          obtain ⟨G', hon1⟩ := Hon0.out.call hbn (Int.le_refl _)
          obtain ⟨V2, hrun, hm, hg⟩ := hon1.map.del oi Hid2.out 0
          have HonE := Lib.hid (hon1.arm hg hm (Nat.le_refl _))
          have w1 := HW1.out
          clear d0 d1 d2 dl
          have d1 := block_cell hxq1 1
          have dl := (Array.getElem?_eq_some_iff.1 hxq1).1
          simp at d1
          clear hbn hxq1 hon1 hm hg
          go_wp2_with fail
          go_roundw
          case rel => exact ⟨i + 1, n, G', nw, la, lessId X oi, T, by first | rfl | rw [w1]; rfl, Hi.out, (Nat.le_trans (Nat.le_add_right n 2) Hni.out : n ≤ 2 * (i + 1)), HonE⟩
          case measure =>
            first | rw [w1] | skip
            exact ts_meas l.length i Hi.out
        by_cases k2 : ok = 2
        · subst k2
          have Had := Lib.hid (badv_o Hon0.out.bk oa)
          go_wp2_with fail
          refine (show Calls _ _ _ _ _ from Had.out).mono ?_
          rintro e V1 ⟨af, cf, rfl, hbn, hof⟩
          have hxq1 := bnx_keep hbn Xq.out Hqo.out.1
          obtain ⟨G', hon1⟩ := Hon0.out.call hbn (Int.le_refl _)
          by_cases hE : advE nw oa = 0
          · have hinst := advE_ok hE
            have hadv := adv_in (X := X) hinst.1 hinst.2
            rw [hadv.2.1, hadv.2.2.1] at hon1
            rw [hadv.2.2.2] at hof
            rw [hE, hadv.2.2.2]
            obtain ⟨L, hL⟩ : ∃ L, L = dueT X oa := ⟨_, rfl⟩
            obtain ⟨S, hS⟩ : ∃ S, S = soonT X oa := ⟨_, rfl⟩
            rw [← hS] at hon1
            rw [← hL] at hof ⊢
            have hperm : X.Perm (L ++ S) := by rw [hL, hS]; exact due_soon X oa
            have hidsX := Hon0.out.bk.okX.2.2.1
            have hids : Ids (L ++ S) := hidsX.perm hperm
            have hokI : ∀ t ∈ L ++ S, IdOk t.id := fun t ht => (Hon0.out.bk.okX.2.2.2.1 t (hperm.mem_iff.2 ht)).2
            have hdueL : ∀ t ∈ L, t.due ≤ oa := fun t ht => by rw [hL] at ht; simpa using (List.mem_filter.1 ht).2
            have hdueS : ∀ t ∈ S, oa < t.due := fun t ht => by rw [hS] at ht; simpa using (List.mem_filter.1 ht).2
            have hLl : L.length ≤ 256 := by rw [hL]; exact Nat.le_trans (List.length_filter_le _ _) Hon0.out.bk.okX.2.2.2.2
            have hon2 : On W V1 G' b m1 m2 n oa la S (L ++ S) T := ⟨hon1.bk, hon1.map.perm hperm, hon1.giv, hon1.top, hon1.ne, hon1.o1, hon1.o2, hon1.u1, hon1.u2⟩
            have Hon2 := Lib.hid hon2
            have Hof := Lib.hid (Tt.of_own hof)
            have Hids := Lib.hid hids
            have HokI := Lib.hid hokI
            have HdL := Lib.hid hdueL
            have HdS := Lib.hid hdueS
            have HLl := Lib.hid hLl
            have Hm1 : Hid (m1 < V0.heap.size) := (Hon0.out.map.lt : m1 < V0.heap.size)
            have hHo : V1.ownsRow V0.heap.size thT 3 (.slice af L.length cf) L.length (thFlat L) := hof
            have Ho := Lib.hid hHo
            have Xq1 := Lib.hid hxq1
            have hqm : q ≠ m1 := Hqo.out.2.1
            have Hqm := Lib.hid hqm
            have x3 : ¬ (0 : Int) ≠ 0 := fun h => h rfl
            clear hbn hon1 hof hperm hidsX hids hokI hdueL hdueS hLl hon2 hxq1 hL hS hE hadv hinst d0 d1 d2 dl hHo hqm x3
            go_wp2_with fail
            go_loopw [94] (fun u wx => ∃ (j : Nat), u = .int .i64 (j : Nat) ∧ j ≤ L.length ∧ Hid (On W wx G' b m1 m2 n oa la S (L.drop j ++ S) T) ∧ Hid (wx.heap[q]? = some (.cells #[.int .i64 2, .int .u64 oi, .int .i64 oa] dopT (0, 0))) ∧ Hid (wx.ownsRow V0.heap.size thT 3 (.slice af L.length cf) L.length (thFlat L))) (fun u _ => L.length - (intOf u).toNat)
            case atStart => exact ⟨0, rfl, Nat.zero_le _, Hon2, Xq1, Ho⟩
            case round =>
              obtain ⟨j, rfl, hj, honj, hxj, hoj⟩ := hrel
              by_cases hjl : j < L.length
              · obtain ⟨y1, y2⟩ := i_nums j L.length hjl
                obtain ⟨bz, fz, rfl, hbz, e0, e1, e2⟩ := Tt.cells (Tt.of_own hoj.out) j hjl
                have hless := drop_less (A := L) (List.Pairwise.sublist (List.sublist_append_left L S) Hids.out) j hjl S (List.Pairwise.sublist (List.Sublist.append_right (List.drop_sublist j L) S) Hids.out)
                have hmem : L[j] ∈ L.drop j ++ S := List.mem_append_left _ (by rw [List.drop_eq_getElem_cons hjl]; exact List.mem_cons_self ..)
                have hidj := HokI.out L[j] (List.mem_append_left _ (List.getElem_mem hjl))
                have hduj := HdL.out L[j] (List.getElem_mem hjl)
                obtain ⟨⟨ti, tg, td⟩, ht⟩ : ∃ t, t = L[j] := ⟨_, rfl⟩
                rw [← ht] at e0 e1 e2 hless hmem hidj hduj
                simp only at e0 e1 e2 hless hidj hduj
                obtain ⟨V, hV⟩ : ∃ V, V = wr.alloc (.cells #[.int .u64 ti, .int .u64 tg, .int .i64 td] thT) := ⟨_, rfl⟩
                obtain ⟨p, hp⟩ : ∃ p, p = wr.heap.size := ⟨_, rfl⟩
                have hBV : Below wr.heap.size wr V := by rw [hV]; exact below_new _ _
                have hxp : V.heap[p]? = some (.cells #[.int .u64 ti, .int .u64 tg, .int .i64 td] thT (0, 0)) := by rw [hV, hp]; exact heap_alloc_new _ _
                have honV := honj.out.below hBV
                have hlk := honV.map.look hmem hidj
                obtain ⟨V2, hrun, hm, hg⟩ := honV.map.del ti hidj 0
                rw [hless] at hm
                have HonE := Lib.hid (honV.arm hg hm (Nat.le_refl _))
                have hpm : p ≠ m1 := by have := honj.out.map.lt; omega
                have hxqV := bx_below hBV hxj.out
                have hxq2 := (hg.block q (Array.getElem?_eq_some_iff.1 hxqV).1 (fun e => Hqm.out (Option.some.inj e))).trans hxqV
                have ho2 := own_gr (own_below hoj.out hBV) (Gr.one hg (fun b e => (Option.some.inj e).symm) : Gr (fun i => i = m1) V V2) (fun i e => by subst e; exact Hm1.out)
                have Xq2 := Lib.hid hxq2
                have Ho2 := Lib.hid ho2
                have hne := neq_th ⟨ti, tg, td⟩
                have hgd := fun p q V => guard_th13 p q ti tg td ti tg td V
                unfold thVal at hne hlk
                simp only at hlk hne
                have x3 : ¬ td > oa := by omega
                have w9 : wrap64 ((j : Int) + 1) = (j : Int) + 1 := IntWalk.wrap64_in _ (by have := HLl.out; omega)
                have Hj := Lib.hid hjl
                have HW9 := Lib.hid w9
                have HV := Lib.hid (And.intro hV hp)
                have d2 := block_cell hxqV 2
                have dl := (Array.getElem?_eq_some_iff.1 hxqV).1
                have r0 := block_cell hxp 0
                have r1 := block_cell hxp 1
                have r2 := block_cell hxp 2
                have rl := (Array.getElem?_eq_some_iff.1 hxp).1
                simp at d2 r0 r1 r2
                clear hless hmem hidj hduj ht hBV hxp honV hm hg hpm hxqV hxq2 ho2 hV hp hj hjl w9 honj hxj hoj
                go_upto_region 25 with fail
                rw [← HV.out.1, ← HV.out.2]
                clear e0 e1 e2 hbz
                go_wp2_with fail
                go_roundw
                case rel => exact ⟨j + 1, by first | rfl | rw [HW9.out]; rfl, Hj.out, HonE, Xq2, Ho2⟩
                case measure =>
                  first | rw [HW9.out] | skip
                  exact ts_meas L.length j Hj.out
              · obtain rfl : j = L.length := Nat.le_antisymm hj (Nat.le_of_not_lt hjl)
                have y1 : ¬ (L.length : Int) < (L.length : Int) := Int.lt_irrefl _
                rw [List.drop_length, List.nil_append] at honj
                obtain ⟨c, hc⟩ : ∃ c : Nat, oi.tmod 20 = (c : Int) := ⟨(oi.tmod 20).toNat, by have := Int.tmod_nonneg 20 Hid2.out.1; omega⟩
                have hc20 : c < 20 := by have := Int.tmod_lt_of_pos oi (show (0 : Int) < 20 by omega); omega
                have HC := Lib.hid hc20
                have d1 := block_cell hxj.out 1
                have dl := (Array.getElem?_eq_some_iff.1 hxj.out).1
                simp at d1
                clear hj hjl hc20 hoj
                go_upto_region 30 with fail
                clear d1 dl
                go_loopw [118] (fun u wx => ∃ (k : Nat), u = .int .u64 (k : Nat) ∧ k ≤ c ∧ Hid (On W wx G' b m1 m2 n oa la S S T) ∧ Hid (wx.heap[q]? = some (.cells #[.int .i64 2, .int .u64 oi, .int .i64 oa] dopT (0, 0)))) (fun u _ => c - (intOf u).toNat)
                case atStart => exact ⟨0, rfl, Nat.zero_le _, honj, hxj⟩
                case round =>
                  clear honj hxj
                  obtain ⟨k, rfl, hk, honk, hxk⟩ := hrel
                  by_cases hkc : k < c
                  · have x4 : (k : Int) < (c : Int) := by omega
                    have w9 : IntKind.u64.wrap ((k : Int) + 1) = (k : Int) + 1 := by have := HC.out; simp [IntKind.wrap, IntKind.signed, IntKind.bits]; omega
                    have HW9 := Lib.hid w9
                    have Hk := Lib.hid hkc
                    have d2 := block_cell hxk.out 2
                    have dl := (Array.getElem?_eq_some_iff.1 hxk.out).1
                    simp at d2
                    have hik : IdOk (k : Int) := ⟨by omega, by have := HC.out; omega⟩
                    by_cases hin : ∃ u ∈ S, u.id = (k : Int)
                    · obtain ⟨u, hu, hue⟩ := hin
                      have hlk := honk.out.map.look_yes hu (by rw [hue]; exact hik)
                      have hdu := HdS.out u hu
                      obtain ⟨ti, tg, td⟩ := u
                      simp only at hue hdu
                      subst hue
                      unfold thVal at hlk
                      simp only at hlk
                      have x5 : ¬ td ≤ oa := by omega
                      obtain ⟨V, hV⟩ : ∃ V, V = wr.alloc (.cells #[.int .u64 (k : Int), .int .u64 tg, .int .i64 td] thT) := ⟨_, rfl⟩
                      have hBV : Below wr.heap.size wr V := by rw [hV]; exact below_new _ _
                      have HonV := Lib.hid (honk.out.below hBV)
                      have XqV := Lib.hid (bx_below hBV hxk.out)
                      have HV := Lib.hid hV
                      clear hV hBV hu hdu hkc hk w9 hik
                      go_wp2_with fail
                      rw [← HV.out]
                      go_roundw
                      case rel => exact ⟨k + 1, by first | rfl | rw [HW9.out]; rfl, Hk.out, HonV, XqV⟩
                      case measure =>
                        first | rw [HW9.out] | skip
                        exact meas_u13 c k Hk.out
                    · have hlk := honk.out.map.look_no (fun t ht e => hin ⟨t, ht, e⟩) hik
                      unfold thVal at hlk
                      obtain ⟨V, hV⟩ : ∃ V, V = wr.alloc (.cells #[.int .u64 0, .int .u64 0, .int .i64 0] thT) := ⟨_, rfl⟩
                      have hBV : Below wr.heap.size wr V := by rw [hV]; exact below_new _ _
                      have HonV := Lib.hid (honk.out.below hBV)
                      have XqV := Lib.hid (bx_below hBV hxk.out)
                      have HV := Lib.hid hV
                      clear hV hBV hin hkc hk w9 hik
                      go_wp2_with fail
                      rw [← HV.out]
                      go_roundw
                      case rel => exact ⟨k + 1, by first | rfl | rw [HW9.out]; rfl, Hk.out, HonV, XqV⟩
                      case measure =>
                        first | rw [HW9.out] | skip
                        exact meas_u13 c k Hk.out
                  · obtain rfl : k = c := by omega
                    have x4 : ¬ (k : Int) < (k : Int) := Int.lt_irrefl _
                    have w1 := HW1.out
                    obtain ⟨T9, hT9⟩ : ∃ T9, T9 = T := ⟨_, rfl⟩
                    rw [← hT9] at honk
                    clear hk hkc hT9
                    go_wp2_with fail
                    go_roundw
                    case rel => exact ⟨i + 1, n, G', oa, la, S, T9, by first | rfl | rw [w1]; rfl, Hi.out, (Nat.le_trans (Nat.le_add_right n 2) Hni.out : n ≤ 2 * (i + 1)), honk⟩
                    case measure =>
                      first | rw [w1] | skip
                      exact ts_meas l.length i Hi.out
          · obtain ⟨j1, j2⟩ := adv_same X hE
            rw [j1, j2] at hon1
            have hEb := neq_e _ hE
            obtain ⟨T9, hT9⟩ : ∃ T9, T9 = T := ⟨_, rfl⟩
            rw [← hT9] at hon1
            have HonE := Lib.hid hon1
            obtain ⟨E9, hE9⟩ : ∃ E9, E9 = advE nw oa := ⟨_, rfl⟩
            rw [← hE9] at hEb hE ⊢
            have w1 := HW1.out
            clear hbn hxq1 hon1 j1 j2 hE9 hT9 hof
            go_wp2_with fail
            go_roundw
            case rel => exact ⟨i + 1, n, G', nw, la, X, T9, by first | rfl | rw [w1]; rfl, Hi.out, (Nat.le_trans (Nat.le_add_right n 2) Hni.out : n ≤ 2 * (i + 1)), HonE⟩
            case measure =>
              first | rw [w1] | skip
              exact ts_meas l.length i Hi.out
        · have hse := bset_o Hon0.out.bk oi oa Hid2.out
          have Hse := Lib.hid hse
          clear hse
          go_wp2_with fail
          refine (show Calls _ _ _ _ _ from Hse.out).mono ?_
          rintro e V1 ⟨rfl, hbn⟩
          have hxq1 := bnx_keep hbn Xq.out Hqo.out.1
          obtain ⟨G', hon1⟩ := Hon0.out.call hbn (setL_up la X oi oa)
          by_cases hE : setE la X oi oa = 0
          · have hsok := setOk_E hE
            obtain ⟨j1, j2, j3, j4⟩ := set_in la X oi oa hsok.1 hsok.2
            rw [j3, j4] at hon1
            rw [j1, hE]
            have hTn : T (la + 1) = false := by
              cases hT : T (la + 1) with
              | false => rfl
              | true => have := Hon0.out.top _ hT; omega
            have hla := Hon0.out.bk.num
            have hidn : IdOk (la + 1) := ⟨by omega, by have := hsok.2.1; omega⟩
            have hlk := hon1.giv.look (la + 1) hidn
            rw [hTn] at hlk
            obtain ⟨V2, hrun, hm, hg⟩ := hon1.giv.set Hn9.out (la + 1) hidn
            have hon2 := hon1.give hg hm (fun k hk => by
              simp only [Bool.or_eq_true, beq_iff_eq] at hk
              rcases hk with hk | hk
              · have := Hon0.out.top k hk; omega
              · omega)
            have hxq2 := (hg.block q (Array.getElem?_eq_some_iff.1 hxq1).1 (fun e => Hqo.out.2.2.1 (Option.some.inj e))).trans hxq1
            obtain ⟨V3, hrun2, hm2, hg2⟩ := hon2.map.set (by have := Hn9.out; have := Hni.out; have := Hi.out; have := Hl.out; omega) ⟨oi, la + 1, oa⟩ Hid2.out
            unfold thVal at hrun2
            simp only at hrun2 hm2
            have Hrun := Lib.hid hrun
            have hp : (lessId X oi ++ [(⟨oi, la + 1, oa⟩ : Th)]).Perm (insT (lessId X oi) ⟨oi, la + 1, oa⟩) := (Sta.srt_perm thLe _).symm
            have hon3 := hon2.arm hg2 (hm2.perm hp) (Nat.le_succ _)
            have HonE := Lib.hid hon3
            have w1 := HW1.out
            clear d0 d1 d2 dl
            have e1 := block_cell hxq1 1
            have el := (Array.getElem?_eq_some_iff.1 hxq1).1
            have d1 := block_cell hxq2 1
            have d2 := block_cell hxq2 2
            have dl := (Array.getElem?_eq_some_iff.1 hxq2).1
            simp at d1 d2 e1
            have hN2 : n + 1 + 1 ≤ 2 * (i + 1) := Hni.out
            have HN2 := Lib.hid hN2
            obtain ⟨T9, hT9⟩ : ∃ T9, T9 = fun j => T j || la + 1 == j := ⟨_, rfl⟩
            rw [← hT9] at HonE
            clear hbn hxq1 hxq2 hon1 hon2 hon3 hm hg hm2 hg2 hp hidn hla hTn j1 j2 j3 j4 hsok hE hT9 hN2
            go_wp2_with fail
            go_roundw
            case rel => exact ⟨i + 1, (n + 1 + 1), G', nw, (la + 1), _, T9, by first | rfl | rw [w1]; rfl, Hi.out, (HN2.out : (n + 1 + 1) ≤ 2 * (i + 1)), HonE⟩
            case measure =>
              first | rw [w1] | skip
              exact ts_meas l.length i Hi.out
          · have hns : ¬ SetOk la X oi oa := fun h => hE (set_in la X oi oa h.1 h.2).2.1
            obtain ⟨j1, j2, j3⟩ := set_out la X oi oa hns
            rw [j2, j3] at hon1
            have hEb := neq_e _ hE
            obtain ⟨T9, hT9⟩ : ∃ T9, T9 = T := ⟨_, rfl⟩
            rw [← hT9] at hon1
            have HonE := Lib.hid hon1
            obtain ⟨E9, hE9⟩ : ∃ E9, E9 = setE la X oi oa := ⟨_, rfl⟩
            rw [← hE9] at hEb hE ⊢
            have w1 := HW1.out
            clear hbn hxq1 hon1 hns j1 j2 j3 hE9 hT9
            go_wp2_with fail
            go_roundw
            case rel => exact ⟨i + 1, n, G', nw, la, X, T9, by first | rfl | rw [w1]; rfl, Hi.out, (Nat.le_trans (Nat.le_add_right n 2) Hni.out : n ≤ 2 * (i + 1)), HonE⟩
            case measure =>
              first | rw [w1] | skip
              exact ts_meas l.length i Hi.out
      · obtain rfl : i = l.length := Nat.le_antisymm hi (Nat.le_of_not_lt hil)
        have x1 : ¬ (l.length : Int) < (l.length : Int) := Int.lt_irrefl _
        have Hst := Lib.hid (bstate_o hon.out.bk)
        clear hi hil
        go_wp2_with fail
        refine (show Calls _ _ _ _ _ from Hst.out).mono ?_
        rintro e V1 ⟨a1, c1, rfl, -, hb1⟩
        have hfd : ∀ w, (Instr.field dsT (.agg #[.int .i64 nw, .int .u64 la, .slice a1 X.length c1]) 2).run Try.prog w = .ok (.slice a1 X.length c1) w := fun w => by kernel_rfl
        have hln := fun ty => (hon.out.map.below hb1).len ty
        have Hlv := Lib.hid (lives13 V1)
        have HB := Lib.hid (below_on hon.out.bel hb1 (Nat.le_refl _))
        unfold dsV
        clear hb1
        go_wp2_with fail
        refine (show Calls _ _ _ _ _ from Hlv.out).mono ?_
        rintro e V6 ⟨rfl, hb6⟩
        go_wp2_with fail
        go_ret
        exact ⟨rfl, below_on HB.out hb6 (Nat.le_refl _)⟩
theorem deadlineOnce_walk (now : Int) (bo : Option Addr) (cb : Nat) (l : List DOp) (W : World) (n1 : -9223372036854775808 ≤ now) (n2 : now ≤ 9223372036854775807) (hs : DOps W bo cb l) (hok : ∀ a ∈ l, DOpOk a) :
    Calls Try.prog 3 #[.int .i64 now, .slice bo l.length cb] W fun e W' => e = .returned (.bool true) ∧ Below W.heap.size W W' := deadlineOnce_run W now bo cb l hs hok
end Go.Proofs.Ytedlplkomfiahaa
