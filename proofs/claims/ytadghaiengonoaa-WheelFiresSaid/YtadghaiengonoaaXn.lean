/- wheel: New, Arm, Cancel. No statement of the seat is proved here. -/
import Derived.Test.YtadghaiengonoaaXm
namespace Go.Proofs.Ytadghaiengonoaa
set_option linter.unusedVariables false
set_option linter.unusedSimpArgs false
set_option linter.unusedSectionVars false
open Go Go.RowKit Go.Maps

theorem arm_none (W : World) (q : Option Addr) (t : Th) (hno : WNone W q) : Calls Try.prog 10 #[.pointer q, thVal t] W fun e W' => e = .returned (.int .i64 1) ∧ Below W.heap.size W W' := by
  obtain ⟨ti, tg, td⟩ := t
  obtain ⟨W1, hW1⟩ : ∃ W1, W1 = W.alloc (.cells #[.int .u64 ti, .int .u64 tg, .int .i64 td] thT) := ⟨_, rfl⟩
  have hB1 : Below W.heap.size W W1 := by rw [hW1]; exact below_new _ _
  have Hno := Lib.hid (hno W1 hB1)
  unfold thVal
  go_enter Try.func10, Try.ntmps10
  go_wp2_with fail
  rw [← hW1]
  clear hW1
  refine Hno.out.mono ?_
  rintro e W2 ⟨rfl, hW2⟩
  subst hW2
  go_wp2_with fail
  go_ret
  exact ⟨rfl, hB1⟩
instance (t : Int) : Decidable (Inst t) := by unfold Inst; infer_instance
/-- what Arm answers -/
def armE (X : List Th) (t : Th) : Int := if Inst t.due then (if ∃ u ∈ X, u.id = t.id then 32 else if 256 ≤ X.length then 30 else 0) else 2
def armX (X : List Th) (t : Th) : List Th := if Inst t.due then (if ∃ u ∈ X, u.id = t.id then X else if 256 ≤ X.length then X else insT X t) else X
set_option maxRecDepth 100000 in
set_option maxHeartbeats 4000000 in
theorem arm_any (W : World) (F : Nat → Prop) (w : Nat) (now : Int) (X : List Th) (t : Th) (h : Whl W F w now X) (hw : IdOk t.id) :
    Calls Try.prog 10 #[.pointer (some ⟨w, 0, none⟩), thVal t] W fun e W' => e = .returned (.int .i64 (armE X t)) ∧ Wst W F w now (armX X t) W' := by
  obtain ⟨G, rs, pf, mf, R, far, hm, hn, hi⟩ := h
  obtain ⟨ti, tg, td⟩ := t
  obtain ⟨q, hq⟩ : ∃ q, q = W.heap.size := ⟨_, rfl⟩
  obtain ⟨W1, hW1⟩ : ∃ W1, W1 = W.alloc (.cells #[.int .u64 ti, .int .u64 tg, .int .i64 td] thT) := ⟨_, rfl⟩
  have hB1 : Below W.heap.size W W1 := by rw [hW1]; exact below_new _ _
  have ht1 : W1.heap[q]? = some (.cells #[.int .u64 ti, .int .u64 tg, .int .i64 td] thT (0, 0)) := by rw [hW1, hq]; exact heap_alloc_new _ _
  have hm1 := hm.below hB1
  obtain ⟨a0, a1, a2, a3, a4, a5, b0, hwl, hfl⟩ := hm1.cells
  obtain ⟨q0, q1, q2, -, -, -⟩ := set3_res (t := ⟨ti, tg, td⟩) ht1
  have hql := (Array.getElem?_eq_some_iff.1 ht1).1
  have Hno := Lib.hid (wnone_no W1 w pf a5 hwl)
  have hkeep : ∀ W', Below W1.heap.size W1 W' → Wst W F w now X W' := fun W' hb => Wst.of (hm1.below hb) hn hi ((Gr.below hB1).trans (Gr.below hb)) (fun i hi => .inl hi)
  have Hkeep := Lib.hid hkeep
  have HB1 := Lib.hid hB1
  have Hm1 := Lib.hid hm1
  have Hi := Lib.hid hi
  have Hn := Lib.hid hn
  have Ht1 := Lib.hid ht1
  clear hm hi hn hm1 hB1 hkeep ht1 a0 a1 a2 a3 a4 a5 b0 hwl hfl
  unfold thVal
  go_enter Try.func10, Try.ntmps10
  go_wp2_with fail
  rw [← hW1, ← hq]
  clear hW1 hq
  refine Hno.out.mono ?_
  rintro e W2 ⟨rfl, hW2⟩
  subst hW2
  by_cases hd : Inst td
  · have His := Lib.hid (inst_yes td hd W2)
    have Hd := Lib.hid hd
    clear hd
    go_wp2_with fail
    refine His.out.mono ?_
    rintro e W3 ⟨rfl, hW3⟩
    subst hW3
    have Hgt := Lib.hid (wget_any W3 F G w now rs pf mf 256 R far ti Hm1.out hw (by decide))
    go_wp2_with fail
    refine Hgt.out.mono ?_
    rintro e W4 ⟨hor, hB4⟩
    rcases hor with ⟨u, hu, hui, rfl⟩ | ⟨hno, rfl⟩
    · have hex : ∃ v ∈ X, v.id = ti := ⟨u, Hi.out.perm.mem_iff.2 hu, hui⟩
      have hE : armE X ⟨ti, tg, td⟩ = 32 := by unfold armE; rw [if_pos Hd.out, if_pos hex]
      have hX : armX X ⟨ti, tg, td⟩ = X := by unfold armX; rw [if_pos Hd.out, if_pos hex]
      have hfin := Hkeep.out _ (below_on hB4 (below_new W4 (.cells #[.int .u64 u.id, .int .u64 u.gen, .int .i64 u.due] thT)) (Nat.le_refl _))
      have Hfin := Lib.hid hfin
      have HE := Lib.hid hE
      have HX := Lib.hid hX
      clear hfin hE hX hex hui hu hB4
      obtain ⟨ui, ug, ud⟩ := u
      unfold thVal
      go_wp2_with fail
      go_ret
      exact ⟨by rw [HE.out]; rfl, by rw [HX.out]; exact Hfin.out⟩
    · have hnx : ∀ v ∈ X, v.id ≠ ti := fun v hv => hno v (Hi.out.perm.mem_iff.1 hv)
      have hne : ¬ ∃ v ∈ X, v.id = ti := fun ⟨v, hv, e⟩ => hnx v hv e
      obtain ⟨W5, hW5⟩ : ∃ W5, W5 = W4.alloc (.cells #[.int .u64 0, .int .u64 0, .int .i64 0] thT) := ⟨_, rfl⟩
      have hB5 := below_on hB4 (by rw [hW5]; exact below_new W4 _ : Below W4.heap.size W4 W5) (Nat.le_refl _)
      have hm5 := Hm1.out.below hB5
      have hlT : (Tot R far).length = X.length := Hi.out.perm.length_eq.symm
      have hwl := wlen_any W5 F G w now rs pf mf 256 R far hm5 (by have := Hi.out.lenT; omega)
      rw [hlT] at hwl
      have Hwl := Lib.hid hwl
      have HB5 := Lib.hid hB5
      have Hno' := Lib.hid hno
      have Hnx := Lib.hid hnx
      have Hne := Lib.hid hne
      have ht5 := (hB5.block q hql).trans Ht1.out
      have Ht5 := Lib.hid ht5
      clear hm5 hlT hwl hB5 hB4 hno hnx hne ht5 q0 q1 q2 hql
      unfold thVal
      go_upto_region 8 with fail
      rw [← hW5]
      clear hW5
      go_wp2_with fail
      refine Hwl.out.mono ?_
      rintro e W6 ⟨rfl, hB6⟩
      have hB16 := below_on HB5.out hB6 (Nat.le_refl _)
      have ht6 := (hB6.block q (Array.getElem?_eq_some_iff.1 Ht5.out).1).trans Ht5.out
      obtain ⟨q0, q1, q2, -, -, -⟩ := set3_res (t := ⟨ti, tg, td⟩) ht6
      have hql := (Array.getElem?_eq_some_iff.1 ht6).1
      by_cases h256 : 256 ≤ X.length
      · have x1 : (256 : Int) ≤ (X.length : Int) := by omega
        have hE : armE X ⟨ti, tg, td⟩ = 30 := by unfold armE; rw [if_pos Hd.out, if_neg Hne.out, if_pos h256]
        have hX : armX X ⟨ti, tg, td⟩ = X := by unfold armX; rw [if_pos Hd.out, if_neg Hne.out, if_pos h256]
        have Hfin := Lib.hid (Hkeep.out _ hB16)
        have HE := Lib.hid hE
        have HX := Lib.hid hX
        clear hE hX h256 hB16 hB6 ht6
        go_wp2_with fail
        go_ret
        exact ⟨by rw [HE.out]; rfl, by rw [HX.out]; exact Hfin.out⟩
      · have x1 : ¬ (256 : Int) ≤ (X.length : Int) := by omega
        have hE : armE X ⟨ti, tg, td⟩ = 0 := by unfold armE; rw [if_pos Hd.out, if_neg Hne.out, if_neg h256]
        have hX : armX X ⟨ti, tg, td⟩ = insT X ⟨ti, tg, td⟩ := by unfold armX; rw [if_pos Hd.out, if_neg Hne.out, if_neg h256]
        have hpt := wput_any W6 F G w now rs pf mf 256 R far ⟨ti, tg, td⟩ (Hm1.out.below hB16) Hn.out Hd.out hw (by decide) Hno'.out
        have hput := Hi.out.put ⟨ti, tg, td⟩ Hnx.out ⟨Hd.out, hw⟩ (by omega)
        have Hput := Lib.hid hput
        have Hpt := Lib.hid hpt
        have HE := Lib.hid hE
        have HX := Lib.hid hX
        have HB16 := Lib.hid hB16
        unfold thVal at Hpt
        clear hE hX h256 hB16 hB6 ht6 hput hpt
        go_wp2_with fail
        refine Hpt.out.mono ?_
        rintro e W7 ⟨rfl, F7, G7, hm7, hg7, hF7⟩
        have hfin : Wst W F w now (insT X ⟨ti, tg, td⟩) W7 := Wst.of hm7 Hn.out Hput.out (((Gr.below HB1.out).trans (Gr.below HB16.out)).trans hg7) (fun i hi => (hF7 i hi).imp id (fun x => Nat.le_trans (Nat.le_trans HB1.out.size HB16.out.size) x))
        have Hfin := Lib.hid hfin
        clear hfin hm7 hg7 hF7
        go_wp2_with fail
        go_ret
        exact ⟨by rw [HE.out]; rfl, by rw [HX.out]; exact Hfin.out⟩
  · have His := Lib.hid (inst_no td hd W2)
    have hE : armE X ⟨ti, tg, td⟩ = 2 := by unfold armE; rw [if_neg hd]
    have hX : armX X ⟨ti, tg, td⟩ = X := by unfold armX; rw [if_neg hd]
    have Hfin := Lib.hid (Hkeep.out _ (Below.refl _ W2))
    have HE := Lib.hid hE
    have HX := Lib.hid hX
    clear hd hE hX
    go_wp2_with fail
    refine His.out.mono ?_
    rintro e W3 ⟨rfl, hW3⟩
    subst hW3
    go_wp2_with fail
    go_ret
    exact ⟨by rw [HE.out]; rfl, by rw [HX.out]; exact Hfin.out⟩
theorem drop_g (W : World) (F : Nat → Prop) (r n : Nat) (L : RLs) (h : Rng W F r n L) (id : Int) (hw : IdOk id) (hn : n ≤ 1000000) :
    Calls Try.prog 34 #[.pointer (some ⟨r, 0, none⟩), .int .u64 id] W fun e W' => (∃ (t : Th) (ok : Bool), e = .returned (.tuple #[thVal t, .bool ok])) ∧ Rng W' (More F W W') r n (gone L id) ∧ Gr F W W' := by
  by_cases hex : ∃ p ∈ L, p.1.id = id
  · obtain ⟨p, hp, rfl⟩ := hex
    refine (drop_yes W F r n L h p hp hn).mono ?_
    rintro e W' ⟨rfl, hR, hG⟩
    exact ⟨⟨_, _, rfl⟩, hR, hG⟩
  · have hf : ∀ p ∈ L, p.1.id ≠ id := fun p hp e => hex ⟨p, hp, e⟩
    refine (drop_no W F r n L h id hw hf).mono ?_
    rintro e W' ⟨rfl, hB⟩
    have hg : gone L id = L := List.filter_eq_self.2 fun p hp => by simpa using hf p hp
    rw [hg]
    exact ⟨⟨_, _, rfl⟩, (h.below hB).widen (fun i hi => .inl hi) (More.bd h.bd hB.size), Gr.below hB⟩
theorem fmapdel_run {W : World} {b n : Nat} {D : DataW Unit} (h : W.ownsMap Try.prog 28 thElem b n D) (id : Int) (hw : IdOk id) (ty : TypeId) :
    ∃ W', (Builtin.delete_ #[mfT, 28] ty #[.map (some b), .int .u64 id]).run Try.prog W = .ok (.tuple #[]) W' ∧ W'.ownsMap Try.prog 28 thElem b n (D.del (.int .u64 id)) ∧ W.grownBy W' (some b) := by
  obtain ⟨W', h1, h2, h3⟩ := h.drop u64law Try.underlying69 (keyOf_int_mk Try.underlying28 hw.wf) ty
  exact ⟨W', h1, h2, h3.grown⟩
/-- what Cancel tells -/
def CancelIs (X : List Th) (id : Int) (e : Ending) : Prop := (∃ u ∈ X, u.id = id ∧ e = .returned (.tuple #[thVal u, .bool true])) ∨ ((∀ u ∈ X, u.id ≠ id) ∧ e = .returned (.tuple #[thVal ⟨0, 0, 0⟩, .bool false]))
def goneTo (R : Nat → RLs) (id : Int) (i : Nat) : Nat → RLs := fun j => if j < i then gone (R j) id else R j
set_option maxRecDepth 100000 in
set_option maxHeartbeats 4000000 in
theorem cancel_any (W : World) (F : Nat → Prop) (w : Nat) (now : Int) (X : List Th) (id : Int) (h : Whl W F w now X) (hw : IdOk id) :
    Calls Try.prog 16 #[.pointer (some ⟨w, 0, none⟩), .int .u64 id] W fun e W' => CancelIs X id e ∧ Wst W F w now (lessId X id) W' := by
  obtain ⟨G, rs, pf, mf, R, far, hm, hn, hi⟩ := h
  obtain ⟨b, hb⟩ : ∃ b, b = W.heap.size := ⟨_, rfl⟩
  obtain ⟨W1, hW1⟩ : ∃ W1, W1 = W.alloc (.cells #[.int .u64 0, .int .u64 0, .int .i64 0] thT) := ⟨_, rfl⟩
  have hB1 : Below W.heap.size W W1 := by rw [hW1]; exact below_new _ _
  have ht1 : W1.heap[b]? = some (.cells #[.int .u64 0, .int .u64 0, .int .i64 0] thT (0, 0)) := by rw [hW1, hb]; exact heap_alloc_new _ _
  have hm1 := hm.below hB1
  have hbF : ¬ F b := fun e => by have := hm.bd b e; omega
  have Hgt := Lib.hid (wget_any W1 F G w now rs pf mf 256 R far id hm1 hw (by decide))
  have Hm1 := Lib.hid hm1
  have HB1 := Lib.hid hB1
  have Ht1 := Lib.hid ht1
  have Hi := Lib.hid hi
  have Hn := Lib.hid hn
  have Hb := Lib.hid hb
  have HbF := Lib.hid hbF
  have HF := Lib.hid hm.bd
  clear hm hn hi hm1 hB1 ht1 hbF
  go_enter Try.func16, Try.ntmps16
  go_wp2_with fail
  rw [← hW1, ← hb]
  clear hW1 hb
  refine Hgt.out.mono ?_
  rintro e W2 ⟨hor, hB2⟩
  have ht2 := (hB2.block b (Array.getElem?_eq_some_iff.1 Ht1.out).1).trans Ht1.out
  rcases hor with ⟨u, hu, hui, rfl⟩ | ⟨hno, rfl⟩
  · have huX : u ∈ X := Hi.out.perm.mem_iff.2 hu
    obtain ⟨W3, hW3⟩ : ∃ W3, W3 = W2.alloc (.cells #[.int .u64 u.id, .int .u64 u.gen, .int .i64 u.due] thT) := ⟨_, rfl⟩
    obtain ⟨q, hq⟩ : ∃ q, q = W2.heap.size := ⟨_, rfl⟩
    have hB3 : Below W2.heap.size W2 W3 := by rw [hW3]; exact below_new _ _
    have ht3 := (hB3.block b (Array.getElem?_eq_some_iff.1 ht2).1).trans ht2
    have hq3 : W3.heap[q]? = some (.cells #[.int .u64 u.id, .int .u64 u.gen, .int .i64 u.due] thT (0, 0)) := by rw [hW3, hq]; exact heap_alloc_new _ _
    have hqF : ¬ F q := fun e => by have := HF.out q e; have h1 := HB1.out.size; have h2 := hB2.size; omega
    have hqb : q ≠ b := by have := (Array.getElem?_eq_some_iff.1 ht2).1; omega
    have hm3 := (Hm1.out.below hB2).below hB3
    have hg3 : Gr F W W3 := (Gr.below HB1.out).trans ((Gr.below hB2).trans (Gr.below hB3))
    obtain ⟨a0, a1, a2, a3, a4, a5, b0, hwl, hfl⟩ := hm3.cells
    have Hm3 := Lib.hid hm3
    have Hg3 := Lib.hid hg3
    have Ht3 := Lib.hid ht3
    have Hq3 := Lib.hid hq3
    have Hqb := Lib.hid hqb
    have HqF := Lib.hid hqF
    have HuX := Lib.hid huX
    have Hui := Lib.hid hui
    clear hm3 hg3 ht3 hq3 hqb hqF huX hui hu hB3 ht2 hB2
    obtain ⟨ui, ug, ud⟩ := u
    unfold thVal
    go_upto_region 2 with fail
    rw [← hW3, ← hq]
    clear hW3 hq
    go_wp2_with fail
    clear a0 a1 a2 a3 a4 a5 b0 hwl hfl
    go_loopw [23] (fun v wr => ∃ (i : Nat) (F' : Nat → Prop) (G' : Nat → Nat → Prop), v = .int .i64 (i : Nat) ∧ i ≤ 4 ∧ Hid (Whm wr F' G' w now rs pf mf 256 (goneTo R id i) far) ∧ Hid (Gr F W wr) ∧ Hid (∀ j, F' j → F j ∨ W.heap.size ≤ j) ∧ Hid (¬ F' b ∧ ¬ F' q) ∧
      Hid (wr.heap[b]? = some (.cells #[.int .u64 0, .int .u64 0, .int .i64 0] thT (0, 0))) ∧ Hid (wr.heap[q]? = some (.cells #[.int .u64 ui, .int .u64 ug, .int .i64 ud] thT (0, 0)))) (fun v _ => 4 - (intOf v).toNat)
    case atStart => exact ⟨0, F, G, rfl, by omega, (Hm3.out.same (fun k _ => by unfold goneTo; rw [if_neg (Nat.not_lt_zero k)]) rfl : Whm W3 F G w now rs pf mf 256 (goneTo R id 0) far), Hg3, (fun j hj => .inl hj : ∀ j, F j → F j ∨ W.heap.size ≤ j), (⟨HbF.out, HqF.out⟩ : ¬ F b ∧ ¬ F q), Ht3, Hq3⟩
    case round =>
      obtain ⟨i, F', G', rfl, hi, hm, hg, hF, hbq, htb, htq⟩ := hrel
      by_cases hi4 : i < 4
      · have x1 : (i : Int) < 4 := by omega
        have ix := idxk rs i hi4
        have w1 := wrap_k i 3 (Nat.le_of_lt_succ hi4) (by decide)
        have hrg := hm.out.ring i hi4
        have e1 : goneTo R id i i = R i := by unfold goneTo; rw [if_neg (Nat.lt_irrefl i)]
        rw [e1] at hrg
        have Hdr := Lib.hid (drop_g wr (G' i) (rs i) 256 (R i) hrg id hw (by decide))
        have Hi4 := Lib.hid hi4
        clear hrg e1 hi hi4
        go_wp2_with fail
        refine Hdr.out.mono ?_
        rintro e W5 ⟨⟨t5, ok5, rfl⟩, hR5, hG5⟩
        have hst := hm.out.step i Hi4.out _ hR5 (Nat.le_refl _) hG5
        have hm5 : Whm W5 (More F' wr W5) (updF G' i (More (G' i) wr W5)) w now rs pf mf 256 (goneTo R id (i + 1)) far := hst.1.same (fun k hk => by
          unfold updF goneTo
          by_cases e : k = i
          · subst e; rw [if_pos rfl, if_pos (Nat.lt_succ_self k)]
          · rw [if_neg e]
            by_cases e2 : k < i
            · rw [if_pos e2, if_pos (Nat.lt_succ_of_lt e2)]
            · rw [if_neg e2, if_neg (fun h => e2 (Nat.lt_of_le_of_ne (Nat.le_of_lt_succ h) e))]) rfl
        have hbl := (Array.getElem?_eq_some_iff.1 htb.out).1
        have hql := (Array.getElem?_eq_some_iff.1 htq.out).1
        have Hm5 := Lib.hid hm5
        have Hg5 := Lib.hid (Gr.after hg.out hst.2 (fun j hj => hF.out j hj))
        have HF5 := Lib.hid (fun j (hj : More F' wr W5 j) => hj.elim (hF.out j) (fun x => (.inr (Nat.le_trans hg.out.size x.1) : F j ∨ W.heap.size ≤ j)))
        have Hbq5 : Hid (¬ More F' wr W5 b ∧ ¬ More F' wr W5 q) := by
          show ¬ More F' wr W5 b ∧ ¬ More F' wr W5 q
          exact ⟨fun e => e.elim hbq.out.1 (fun x => absurd hbl (Nat.not_lt.2 x.1)), fun e => e.elim hbq.out.2 (fun x => absurd hql (Nat.not_lt.2 x.1))⟩
        have Htb5 := Lib.hid ((hst.2.block b hbl hbq.out.1).trans htb.out)
        have Htq5 := Lib.hid ((hst.2.block q hql hbq.out.2).trans htq.out)
        clear hR5 hG5 hst hm5 hbl hql
        unfold thVal
        go_wp2_with fail
        go_roundw
        case rel => exact ⟨i + 1, _, _, by first | rfl | rw [w1]; rfl, Hi4.out, Hm5, Hg5, HF5, Hbq5, Htb5, Htq5⟩
        case measure =>
          first | rw [w1] | skip
          exact meas4 i Hi4.out
      · obtain rfl : i = 4 := Nat.le_antisymm hi (Nat.le_of_not_lt hi4)
        obtain ⟨a0, a1, a2, a3, a4, a5, b0, hwl, hfl⟩ := hm.out.cells
        obtain ⟨D, hD, hE⟩ := hm.out.map
        obtain ⟨W6, hdel, hD6, hg6⟩ := fmapdel_run hD id hw 0
        have hm6 := hm.out.turn hg6 hD6 (far' := lessId far id) (by rw [fpairs_less]; exact hE.del id) (Nat.le_refl _)
        have hbm : b ≠ mf := fun e => hbq.out.1 (e ▸ hm.out.fm)
        have hqm : q ≠ mf := fun e => hbq.out.2 (e ▸ hm.out.fm)
        have htb6 := (hg6.block b (Array.getElem?_eq_some_iff.1 htb.out).1 (fun e => hbm (by simpa using e))).trans htb.out
        have htq6 := (hg6.block q (Array.getElem?_eq_some_iff.1 htq.out).1 (fun e => hqm (by simpa using e))).trans htq.out
        obtain ⟨c0, c1, c2, f0, f1, f2⟩ := set3_res (t := ⟨0, 0, 0⟩) htb6
        obtain ⟨q0, q1, q2, -, -, -⟩ := set3_res (t := ⟨ui, ug, ud⟩) htq6
        have hql := (Array.getElem?_eq_some_iff.1 htq6).1
        have hbl := (Array.getElem?_eq_some_iff.1 htb6).1
        have hqb := Hqb.out
        obtain ⟨d0, d1, d2, -, -, -⟩ := set3_res (set3_blk htb6 ⟨ui, ug, ud⟩)
        have hst : Wst W F w now (lessId X id) (set3 W6 b ⟨ui, ug, ud⟩) := by
          have hgs := set3_grown W6 b ⟨ui, ug, ud⟩
          refine Wst.of ((hm6.1.kept hgs.size fun j hj => hgs.block j (hm6.1.bd j hj) (fun e => hbq.out.1 (by simp only [Option.some.injEq] at e; exact e ▸ hj))).same (R' := fun k => gone (R k) id) (fun k hk => by unfold goneTo; rw [if_pos hk]) rfl) Hn.out (Hi.out.less id) ((hg.out.after hm6.2 hF.out).after (Gr.one hgs (fun x hx => hx) : Gr (fun j => some b = some j) W6 _) (fun j hj => .inr ?_)) hF.out
          simp only [Option.some.injEq] at hj
          exact hj ▸ Nat.le_of_eq Hb.out.symm
        simp only [set3] at d0 d1 d2 hst
        have Hd := Lib.hid (⟨d0, d1, d2⟩ : _ ∧ _ ∧ _)
        have Hst := Lib.hid hst
        clear d0 d1 d2 hst htb6 htq6 hm6 hD6 hg6 hD hE hi hi4 hbm hqm
        go_wp2_with fail
        refine bodyPost_ret (v := .tuple #[thVal ⟨ui, ug, ud⟩, .bool true]) ?_ rfl ⟨.inl ⟨_, HuX.out, Hui.out, rfl⟩, Hst.out⟩
        obtain ⟨d0, d1, d2⟩ := Hd.out
        simp [results, Try.results16, go_sem, thVal, d0, d1, d2]
  · have hno2 : ∀ v ∈ X, v.id ≠ id := fun v hv => hno v (Hi.out.perm.mem_iff.1 hv)
    have hless : lessId X id = X := List.filter_eq_self.2 fun v hv => by simpa using hno2 v hv
    obtain ⟨W3, hW3⟩ : ∃ W3, W3 = W2.alloc (.cells #[.int .u64 0, .int .u64 0, .int .i64 0] thT) := ⟨_, rfl⟩
    obtain ⟨q, hq⟩ : ∃ q, q = W2.heap.size := ⟨_, rfl⟩
    have hB3 : Below W2.heap.size W2 W3 := by rw [hW3]; exact below_new _ _
    have ht3 := (hB3.block b (Array.getElem?_eq_some_iff.1 ht2).1).trans ht2
    have hq3 : W3.heap[q]? = some (.cells #[.int .u64 0, .int .u64 0, .int .i64 0] thT (0, 0)) := by rw [hW3, hq]; exact heap_alloc_new _ _
    obtain ⟨c0, c1, c2, f0, f1, f2⟩ := set3_res (t := ⟨0, 0, 0⟩) ht3
    obtain ⟨q0, q1, q2, -, -, -⟩ := set3_res (t := ⟨0, 0, 0⟩) hq3
    have hql := (Array.getElem?_eq_some_iff.1 hq3).1
    have hbl := (Array.getElem?_eq_some_iff.1 ht3).1
    have hqb : q ≠ b := by have := (Array.getElem?_eq_some_iff.1 ht2).1; omega
    have hb4 := below_on (below_on HB1.out hB2 (Nat.le_refl _)) hB3 (Nat.le_refl _)
    have hb5 := set3_below hb4 (Nat.le_of_eq Hb.out.symm) hb4.size ⟨0, 0, 0⟩
    obtain ⟨d0, d1, d2, -, -, -⟩ := set3_res (set3_blk ht3 ⟨0, 0, 0⟩)
    have hst : Wst W F w now (lessId X id) (set3 W3 b ⟨0, 0, 0⟩) := by
      rw [hless]
      refine Wst.of (Hm1.out.kept (Nat.le_trans (Nat.le_trans hB2.size hB3.size) (set3_grown W3 b ⟨0, 0, 0⟩).size) fun i hi => ?_) Hn.out Hi.out (Gr.below hb5) (fun i hi => .inl hi)
      have hil := HF.out i hi
      exact (hb5.block i hil).trans (HB1.out.block i hil).symm
    simp only [set3] at d0 d1 d2 hst
    have Hd := Lib.hid (⟨d0, d1, d2⟩ : _ ∧ _ ∧ _)
    have Hst := Lib.hid hst
    have Hno := Lib.hid hno2
    clear d0 d1 d2 hst hb5 hb4 ht3 hq3 hB3 ht2 hB2 hno hno2 hless
    unfold thVal
    go_upto_region 2 with fail
    rw [← hW3, ← hq]
    clear hW3 hq
    go_wp2_with fail
    refine bodyPost_ret (v := .tuple #[thVal ⟨0, 0, 0⟩, .bool false]) ?_ rfl ⟨.inr ⟨Hno.out, rfl⟩, Hst.out⟩
    obtain ⟨d0, d1, d2⟩ := Hd.out
    simp [results, Try.results16, go_sem, thVal, d0, d1, d2]
end Go.Proofs.Ytadghaiengonoaa
