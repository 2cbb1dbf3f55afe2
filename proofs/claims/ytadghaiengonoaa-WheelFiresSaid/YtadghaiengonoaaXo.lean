/- wheel: New, Advance. No statement of the seat is proved here. -/
import Derived.Test.YtadghaiengonoaaXn
import Derived.Test.YtadghaiengonoaaAux4
namespace Go.Proofs.Ytadghaiengonoaa
set_option linter.unusedVariables false
set_option linter.unusedSimpArgs false
set_option linter.unusedSectionVars false
open Go Go.RowKit Go.Maps

theorem cancel_none (W : World) (q : Option Addr) (id : Int) (hno : WNone W q) : Calls Try.prog 16 #[.pointer q, .int .u64 id] W fun e W' => e = .returned (.tuple #[thVal ⟨0, 0, 0⟩, .bool false]) ∧ Below W.heap.size W W' := by
  obtain ⟨b, hb⟩ : ∃ b, b = W.heap.size := ⟨_, rfl⟩
  obtain ⟨W1, hW1⟩ : ∃ W1, W1 = W.alloc (.cells #[.int .u64 0, .int .u64 0, .int .i64 0] thT) := ⟨_, rfl⟩
  have hB1 : Below W.heap.size W W1 := by rw [hW1]; exact below_new _ _
  have ht1 : W1.heap[b]? = some (.cells #[.int .u64 0, .int .u64 0, .int .i64 0] thT (0, 0)) := by rw [hW1, hb]; exact heap_alloc_new _ _
  have Hgt := Lib.hid (wget_none W1 q id (hno.below hB1))
  have HB1 := Lib.hid hB1
  have Ht1 := Lib.hid ht1
  have Hb := Lib.hid hb
  clear hB1 ht1 hno
  go_enter Try.func16, Try.ntmps16
  go_wp2_with fail
  rw [← hW1, ← hb]
  clear hW1 hb
  refine Hgt.out.mono ?_
  rintro e W2 ⟨rfl, hB2⟩
  have ht2 := (hB2.block b (Array.getElem?_eq_some_iff.1 Ht1.out).1).trans Ht1.out
  obtain ⟨W3, hW3⟩ : ∃ W3, W3 = W2.alloc (.cells #[.int .u64 0, .int .u64 0, .int .i64 0] thT) := ⟨_, rfl⟩
  obtain ⟨q', hq⟩ : ∃ q', q' = W2.heap.size := ⟨_, rfl⟩
  have hB3 : Below W2.heap.size W2 W3 := by rw [hW3]; exact below_new _ _
  have ht3 := (hB3.block b (Array.getElem?_eq_some_iff.1 ht2).1).trans ht2
  have hq3 : W3.heap[q']? = some (.cells #[.int .u64 0, .int .u64 0, .int .i64 0] thT (0, 0)) := by rw [hW3, hq]; exact heap_alloc_new _ _
  obtain ⟨c0, c1, c2, f0, f1, f2⟩ := set3_res (t := ⟨0, 0, 0⟩) ht3
  obtain ⟨q0, q1, q2, -, -, -⟩ := set3_res (t := ⟨0, 0, 0⟩) hq3
  have hql := (Array.getElem?_eq_some_iff.1 hq3).1
  have hbl := (Array.getElem?_eq_some_iff.1 ht3).1
  have hqb : q' ≠ b := by have := (Array.getElem?_eq_some_iff.1 ht2).1; omega
  have hb4 := below_on (below_on HB1.out hB2 (Nat.le_refl _)) hB3 (Nat.le_refl _)
  have hb5 := set3_below hb4 (Nat.le_of_eq Hb.out.symm) hb4.size ⟨0, 0, 0⟩
  obtain ⟨d0, d1, d2, -, -, -⟩ := set3_res (set3_blk ht3 ⟨0, 0, 0⟩)
  simp only [set3] at d0 d1 d2 hb5
  have Hd := Lib.hid (⟨d0, d1, d2⟩ : _ ∧ _ ∧ _)
  have Hb5 := Lib.hid hb5
  clear d0 d1 d2 hb5 hb4 ht3 hq3 hB3 ht2 hB2
  unfold thVal
  go_upto_region 2 with fail
  rw [← hW3, ← hq]
  clear hW3 hq
  go_wp2_with fail
  refine bodyPost_ret (v := .tuple #[thVal ⟨0, 0, 0⟩, .bool false]) ?_ rfl ⟨rfl, Hb5.out⟩
  obtain ⟨d0, d1, d2⟩ := Hd.out
  simp [results, Try.results16, go_sem, thVal, d0, d1, d2]
theorem adv_none (W : World) (q : Option Addr) (tb : Int) (hno : WNone W q) : Calls Try.prog 11 #[.pointer q, .int .i64 tb] W fun e W' => e = .returned (.tuple #[.slice none 0 0, .int .i64 1]) ∧ Below W.heap.size W W' := by
  have Hno := Lib.hid (hno W (Below.refl _ _))
  go_enter Try.func11, Try.ntmps11
  go_wp2_with fail
  refine Hno.out.mono ?_
  rintro e W2 ⟨rfl, hW2⟩
  subst hW2
  go_wp2_with fail
  go_ret2
  exact ⟨rfl, Below.refl _ _⟩
/-- what Advance answers -/
def advE (now tb : Int) : Int := if Inst tb then (if tb < now then 34 else 0) else 2
def advN (now tb : Int) : Int := if Inst tb then (if tb < now then now else tb) else now
def advX (now tb : Int) (X : List Th) : List Th := if Inst tb then (if tb < now then X else soonT X tb) else X
def advL (now tb : Int) (X : List Th) : List Th := if Inst tb then (if tb < now then [] else dueT X tb) else []
set_option maxRecDepth 100000 in
set_option maxHeartbeats 4000000 in
theorem adv_any (W : World) (F : Nat → Prop) (w : Nat) (now tb : Int) (X : List Th) (h : Whl W F w now X) :
    Calls Try.prog 11 #[.pointer (some ⟨w, 0, none⟩), .int .i64 tb] W fun e W' => ∃ ao cap, e = .returned (.tuple #[.slice ao (advL now tb X).length cap, .int .i64 (advE now tb)]) ∧ Wst W F w (advN now tb) (advX now tb X) W' ∧
      W'.ownsRow W.heap.size thT 3 (.slice ao (advL now tb X).length cap) (advL now tb X).length (thFlat (advL now tb X)) := by
  obtain ⟨G, rs, pf, mf, R, far, hm, hn, hi⟩ := h
  obtain ⟨a0, a1, a2, a3, a4, a5, b0, hwl, hfl⟩ := hm.cells
  have Hno := Lib.hid (wnone_no W w pf a5 hwl)
  have hkeep : Wst W F w now X W := Wst.of hm hn hi (Gr.refl _ _) (fun i hi => .inl hi)
  have Hkeep := Lib.hid hkeep
  have Hm := Lib.hid hm
  have Hi := Lib.hid hi
  have Hn := Lib.hid hn
  clear hm hi hn hkeep a1 a2 a3 a4 a5 b0 hfl
  go_enter Try.func11, Try.ntmps11
  go_wp2_with fail
  refine Hno.out.mono ?_
  rintro e W2 ⟨rfl, hW2⟩
  subst hW2
  by_cases hd : Inst tb
  · have His := Lib.hid (inst_yes tb hd W2)
    have Hd := Lib.hid hd
    clear hd
    go_wp2_with fail
    refine His.out.mono ?_
    rintro e W3 ⟨rfl, hW3⟩
    subst hW3
    by_cases hlt : tb < now
    · have hE : advE now tb = 34 := by unfold advE; rw [if_pos Hd.out, if_pos hlt]
      have hN : advN now tb = now := by unfold advN; rw [if_pos Hd.out, if_pos hlt]
      have hX : advX now tb X = X := by unfold advX; rw [if_pos Hd.out, if_pos hlt]
      have hL : advL now tb X = [] := by unfold advL; rw [if_pos Hd.out, if_pos hlt]
      have HE := Lib.hid hE
      have HN := Lib.hid hN
      have HX := Lib.hid hX
      have HL := Lib.hid hL
      clear hE hN hX hL
      go_wp2_with fail
      go_ret2
      rw [HE.out, HN.out, HX.out, HL.out]
      exact ⟨none, 0, rfl, Hkeep.out, World.ownsRow_nil _ _ _ _⟩
    · have hE : advE now tb = 0 := by unfold advE; rw [if_pos Hd.out, if_neg hlt]
      have hN : advN now tb = tb := by unfold advN; rw [if_pos Hd.out, if_neg hlt]
      have hX : advX now tb X = soonT X tb := by unfold advX; rw [if_pos Hd.out, if_neg hlt]
      have hL : advL now tb X = dueT X tb := by unfold advL; rw [if_pos Hd.out, if_neg hlt]
      have HE := Lib.hid hE
      have HN := Lib.hid hN
      have HX := Lib.hid hX
      have HL := Lib.hid hL
      have hle : now ≤ tb := Int.le_of_not_gt hlt
      have Hle := Lib.hid hle
      have hlT := Hi.out.lenT
      have hla := late_any W3 F G w now rs pf mf 256 R far Hm.out (fun t ht => (Hi.out.okT t (Tot.far ht)).2) (by have := Tot.len_far R far; omega)
      have Hla := Lib.hid hla
      clear hE hN hX hL hla hle hlT
      go_wp2_with fail
      refine Hla.out.mono ?_
      rintro e W4 ⟨ao, cap, l, far', rfl, hrow, hm4, hg4, hsz4, hli⟩
      have hok : TurnOk now tb R far' 256 := by
        have hsub : ∀ t ∈ far', t ∈ far := fun t ht => hli.out.perm.mem_iff.2 (List.mem_append_right l ht)
        have hpt : (Tot R far).Perm (l ++ Tot R far') := of_cnt fun x => by
          have h1 := cnt_of hli.out.perm x
          rw [Tot.cnt]
          simp only [List.count_append, Tot.cnt] at h1 ⊢
          omega
        have hlen := hpt.length_eq
        rw [List.length_append] at hlen
        have hlT := Hi.out.lenT
        refine ⟨⟨Hi.out.cls.ring, fun t ht => Hi.out.cls.far t (hsub t ht)⟩, fun t ht => ?_, Hn.out, Hd.out, Hle.out, fun t ht => Hi.out.okT t (hpt.mem_iff.2 (List.mem_append_right l ht)), Ids.app_right (Hi.out.idsT.perm hpt), by omega, by decide⟩
        exact (hli.out.rest t ht).elim (fun h => by cases h) id
      have hll : l.length ≤ 256 := by
        have h1 := hli.out.perm.length_eq
        rw [List.length_append] at h1
        have h2 := Tot.len_far R far
        have h3 := Hi.out.lenT
        omega
      have htn := Lib.hid (turn_any W4 F G w now tb rs pf mf 256 R far' hm4 hok)
      have Hrow := Lib.hid hrow
      have Hg4 := Lib.hid hg4
      have Hg4s := Lib.hid hsz4
      have Hll := Lib.hid hll
      clear hrow hm4 hg4 hsz4 hok hll
      go_wp2_with fail
      refine htn.out.mono ?_
      rintro e W5 ⟨ao2, cap2, late, rfl, F', G', mf', n', R', far2, hm5, hrow2, hnF, hg5, hF5, hc5, hf5, hp5, hl5⟩
      have hadv := Hi.out.adv Hle.out hli.out hc5 hf5 hp5 hl5
      have hFb : ∀ i, F i → i < W3.heap.size + 1 := fun i hi => Nat.lt_succ_of_lt (Hm.out.bd i hi)
      have hrow5 := own_gr Hrow.out hg5 hFb
      have hll2 : late.length ≤ 256 := by
        have h1 := hp5.length_eq
        rw [List.length_append] at h1
        have h2 := hli.out.perm.length_eq
        rw [List.length_append] at h2
        have h3 : (Tot R far').length ≤ (Tot R far).length := by unfold Tot; simp only [List.length_append]; omega
        have h4 := Hi.out.lenT
        omega
      have hsl := Sl.of_own hrow2
      have hz5 : W3.heap.size + 1 ≤ W5.heap.size := Nat.le_trans Hg4s.out hg5.size
      have Hadv := Lib.hid hadv
      have Hrow5 := Lib.hid hrow5
      have Hm5 := Lib.hid hm5
      have Hg5 := Lib.hid hg5
      have HF5 := Lib.hid hF5
      have Hll2 := Lib.hid hll2
      have Hsl := Lib.hid hsl
      have Hz5 := Lib.hid hz5
      clear htn hadv hrow5 hm5 hg5 hF5 hll2 hsl hz5 hrow2 hnF hc5 hf5 hp5 hl5 hFb
      go_wp2_with (at_builtin; refine wpl_append_lie rfl (.tmp 23) (.tmp 26) thsT rfl (W3.heap.size + 1) thT infoTh Try.underlying32 rfl (by decide) (.slice ao l.length cap) l.length (thFlat l) rfl Hrow5.out _ _ _ _ rfl Hsl.out (ths_one late) ?_ ?_ ?_ ?_; (have := Hll.out; have := Hll2.out; unfold maxLen; omega); (have := Hll.out; have := Hll2.out; omega); exact Hz5.out; intro ao6 cap6 w6 hown6 hg6 hlie6)
      have hlen : (dueT X tb).length = l.length + late.length := by rw [← Hadv.out.2, Sta.srt_len, List.length_append]
      rw [← thFlat_two, ← List.length_append] at hown6
      have hnl : ∀ g, (Value.slice ao l.length cap).ownBlock = some g → ¬ F' g := fun g hg e => by
        have h1 := Hrow.out.lt g hg
        rcases HF5.out g e with h2 | h2
        · have := Hm.out.bd g h2; omega
        · omega
      have hn6 : ∀ g, (Value.slice ao6 (l.length + late.length) cap6).ownBlock = some g → ¬ F' g := fun g hg e => by
        rcases hlie6 g hg with h1 | h1
        · exact hnl g h1 e
        · have := Hm5.out.bd g e; omega
      rw [← List.length_append] at hn6
      have hst := sort_any w6 (fun _ => True) (.slice ao6 (l ++ late).length cap6) (l ++ late) ⟨own_base hown6 (Nat.zero_le _), fun _ _ => trivial⟩ (by have := Hll.out; have := Hll2.out; rw [List.length_append]; omega)
      rw [Hadv.out.2] at hst
      have hm6 := Hm5.out.kept hg6.size fun i hi => hg6.block i (Hm5.out.bd i hi) (fun e => hnl i e.symm hi)
      have hg36 : Gr F W3 w6 := ((Hg4.out.trans Hg5.out).after (Gr.one hg6 (fun x hx => hx) : Gr (fun i => (Value.slice ao l.length cap).ownBlock = some i) W5 w6) fun i hi => .inr (Nat.le_of_succ_le (Hrow.out.lt i hi).1))
      have Hst := Lib.hid hst
      have Hm6 := Lib.hid hm6
      have Hg36 := Lib.hid hg36
      have Hn6 := Lib.hid hn6
      have Ho6 := Lib.hid hown6
      have Hlen := Lib.hid hlen
      rw [← List.length_append]
      clear hst hm6 hg36 hn6 hown6 hlen hnl hg6 hlie6
      refine Hst.out.mono ?_
      rintro e W7 ⟨rfl, hr7, hg7⟩
      have hfin : Wst W3 F w tb (soonT X tb) W7 := by
        refine Wst.of (Hm6.out.kept hg7.size fun i hi => hg7.block i (Hm6.out.bd i hi) (fun e => Hn6.out i e.symm hi)) Hd.out Hadv.out.1 (Hg36.out.after (Gr.one hg7 (fun x hx => hx) : Gr (fun i => (Value.slice ao6 (l ++ late).length cap6).ownBlock = some i) w6 W7) fun i hi => .inr (Nat.le_of_succ_le (Ho6.out.lt i hi).1)) (fun i hi => (HF5.out i hi).imp id (fun x => Nat.le_trans (Nat.le_of_succ_le Hg4s.out) x))
      have hrow7 : W7.ownsRow W3.heap.size thT 3 (.slice ao6 (dueT X tb).length cap6) (dueT X tb).length (thFlat (dueT X tb)) := by
        have e : (l ++ late).length = (dueT X tb).length := by rw [Hlen.out, List.length_append]
        have h1 := hr7.own
        rw [e] at h1
        refine ⟨h1.1, ?_⟩
        rcases h1.2 with hn | ⟨g, c1, cur, he, hb, hh, rest⟩
        · exact .inl hn
        · refine .inr ⟨g, c1, cur, he, ?_, hh, rest⟩
          have := (Ho6.out.lt g (by rw [e, he]; rfl)).1
          omega
      have Hfin := Lib.hid hfin
      have Hrow7 := Lib.hid hrow7
      clear hfin hrow7 hr7 hg7
      go_wp2_with fail
      go_ret2
      rw [HE.out, HN.out, HX.out, HL.out]
      exact ⟨ao6, cap6, by rw [Hlen.out]; rfl, Hfin.out, Hrow7.out⟩
  · have His := Lib.hid (inst_no tb hd W2)
    have hE : advE now tb = 2 := by unfold advE; rw [if_neg hd]
    have hN : advN now tb = now := by unfold advN; rw [if_neg hd]
    have hX : advX now tb X = X := by unfold advX; rw [if_neg hd]
    have hL : advL now tb X = [] := by unfold advL; rw [if_neg hd]
    have HE := Lib.hid hE
    have HN := Lib.hid hN
    have HX := Lib.hid hX
    have HL := Lib.hid hL
    clear hE hN hX hL hd
    go_wp2_with fail
    refine His.out.mono ?_
    rintro e W3 ⟨rfl, hW3⟩
    subst hW3
    go_wp2_with fail
    go_ret2
    rw [HE.out, HN.out, HX.out, HL.out]
    exact ⟨none, 0, rfl, Hkeep.out, World.ownsRow_nil _ _ _ _⟩
end Go.Proofs.Ytadghaiengonoaa
