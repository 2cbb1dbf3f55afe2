/- Lemmas for DeadlineBytes (Xm Xn Aux4 Xo Xp Xr WheelFull Open OpenR OpenT Xs Xt Xu Xv Xx OpenW Xz). No statement of the seat is proved here. -/
import Derived.Maps.AppendAt
import Derived.ProofKit
import Derived.OpenShut
import Derived.ShutString
import Derived.ChangeOld
import Derived.Deep.Matrix
import Derived.Deep.Slices
import Derived.Deep.Fields
import Derived.Deep.Strs
import Derived.ChangeKeysEq
import Derived.Stop.BytesEq
import Derived.Deep.OwnRows
import Derived.Test.YtedlplkomfiahaaT1
import Derived.Test.YtedlplkomfiahaaT13
import Derived.Test.YtedlplkomfiahaaT17
namespace Go.Proofs.Ytedlplkomfiahaa
set_option linter.unusedVariables false
set_option linter.unusedSimpArgs false
set_option linter.unusedSectionVars false
open Go Go.RowKit Go.Maps
/-- in order -/
def Asc (l : List Th) : Prop := l.Pairwise (fun a b => thLt a b = true)
theorem Asc.filter {l : List Th} (h : Asc l) (p : Th → Bool) : Asc (l.filter p) := List.Pairwise.filter p h
theorem asc_of {l : List Th} (h : thUp l) (hi : Ids l) : Asc l := by
  refine (List.pairwise_and_iff.2 ⟨h, hi⟩).imp fun {a b} hab => ?_
  have h1 := hab.1
  have h2 := hab.2
  rw [thLe_iff] at h1
  rw [thLt_iff]
  omega
theorem asc_srt {l : List Th} (h : Ids l) : Asc (Sta.srt thLe l) := asc_of (Sta.srt_up thLe thLe_trans thLe_total l) (h.perm (Sta.srt_perm thLe l).symm)
theorem asc_uniq {l m : List Th} (hl : Asc l) (hm : Asc m) (hp : l.Perm m) : l = m :=
  List.Perm.eq_of_pairwise (le := fun a b => thLt a b = true) (fun a b _ _ h1 h2 => by
    rw [thLt_iff] at h1 h2
    omega) hl hm hp
theorem srt_is {l m : List Th} (hm : Asc m) (hi : Ids m) (hp : l.Perm m) : Sta.srt thLe l = m :=
  asc_uniq (asc_srt (hi.perm hp.symm)) hm ((Sta.srt_perm thLe l).trans hp)
/-- what waits in a wheel, in order, and where it lies -/
structure WheelIs (now : Int) (R : Nat → RLs) (far X : List Th) : Prop where
  cls : Cls now R far
  perm : X.Perm (Tot R far)
  asc : Asc X
  ids : Ids X
  ok : ∀ t ∈ X, Inst t.due ∧ IdOk t.id
  len : X.length ≤ 256
def cntR (now : Int) (X : List Th) (k : Nat) : Nat := (X.filter (fun t => decide (ringN now t.due = k))).length
theorem Cls.cnt {now : Int} {R : Nat → RLs} {far : List Th} (h : Cls now R far) (k : Nat) (hk : k < 5) : cntR now (Tot R far) k = spr R far k := by
  unfold cntR Tot spr
  simp only [List.filter_append, List.length_append]
  have key : ∀ j, j < 4 → (((R j).map (·.1)).filter (fun t => decide (ringN now t.due = k))).length = if j = k then (R j).length else 0 := fun j hj => by
    by_cases e : j = k
    · rw [if_pos e, List.filter_eq_self.2 (fun t ht => ?_), List.length_map]
      obtain ⟨p, hp, rfl⟩ := List.mem_map.1 ht
      simp [(h.ring j hj p hp).1, e]
    · rw [if_neg e, List.filter_eq_nil_iff.2 (fun t ht => ?_), List.length_nil]
      obtain ⟨p, hp, rfl⟩ := List.mem_map.1 ht
      simp [(h.ring j hj p hp).1, e]
  have kf : (far.filter (fun t => decide (ringN now t.due = k))).length = if 4 = k then far.length else 0 := by
    by_cases e : 4 = k
    · rw [if_pos e, List.filter_eq_self.2 (fun t ht => by simp [h.far t ht, e])]
    · rw [if_neg e, List.filter_eq_nil_iff.2 (fun t ht => by simp [h.far t ht, e]), List.length_nil]
  rw [key 0 (by decide), key 1 (by decide), key 2 (by decide), key 3 (by decide), kf]
  rcases (by omega : k = 0 ∨ k = 1 ∨ k = 2 ∨ k = 3 ∨ k = 4) with rfl | rfl | rfl | rfl | rfl <;> simp
theorem cntR_perm {now : Int} {X Y : List Th} (h : X.Perm Y) (k : Nat) : cntR now X k = cntR now Y k := (h.filter _).length_eq
theorem WheelIs.cnt {now : Int} {R : Nat → RLs} {far X : List Th} (h : WheelIs now R far X) (k : Nat) (hk : k < 5) : spr R far k = cntR now X k := (h.cls.cnt k hk).symm.trans (cntR_perm h.perm.symm k)
theorem WheelIs.nil (now : Int) : WheelIs now (fun _ => []) [] [] := ⟨⟨fun k _ p hp => by simp at hp, by simp⟩, List.Perm.refl _, List.Pairwise.nil, List.Pairwise.nil, by simp, by simp⟩
theorem WheelIs.okT {now : Int} {R : Nat → RLs} {far X : List Th} (h : WheelIs now R far X) : ∀ t ∈ Tot R far, Inst t.due ∧ IdOk t.id := fun t ht => h.ok t (h.perm.mem_iff.2 ht)
theorem WheelIs.idsT {now : Int} {R : Nat → RLs} {far X : List Th} (h : WheelIs now R far X) : Ids (Tot R far) := h.ids.perm h.perm
theorem WheelIs.lenT {now : Int} {R : Nat → RLs} {far X : List Th} (h : WheelIs now R far X) : (Tot R far).length ≤ 256 := by rw [← h.perm.length_eq]; exact h.len
def insT (X : List Th) (t : Th) : List Th := Sta.srt thLe (X ++ [t])
theorem Ids.snoc {X : List Th} {t : Th} (h : Ids X) (hf : ∀ u ∈ X, u.id ≠ t.id) : Ids (X ++ [t]) := List.pairwise_append.2 ⟨h, by simp, fun a ha b hb => by simp at hb; subst hb; exact hf a ha⟩
/-- one more -/
theorem WheelIs.put {now : Int} {R : Nat → RLs} {far X : List Th} (h : WheelIs now R far X) (t : Th) (hf : ∀ u ∈ X, u.id ≠ t.id) (ht : Inst t.due ∧ IdOk t.id) (hl : X.length < 256) : WheelIs now (putR R now t) (putF far now t) (insT X t) := by
  have hids := h.ids.snoc hf
  have hp : (insT X t).Perm (X ++ [t]) := Sta.srt_perm _ _
  refine ⟨⟨fun k hk p hp => ?_, fun u hu => ?_⟩, (hp.trans (List.Perm.append h.perm (List.Perm.refl _))).trans (Tot.put R far now t).symm, asc_srt hids, hids.perm hp.symm, fun u hu => ?_, ?_⟩
  · unfold putR at hp
    by_cases e : ringN now t.due = k
    · simp only [if_pos e] at hp
      rcases List.mem_append.1 hp with h1 | h1
      · exact h.cls.ring k hk p h1
      · simp at h1; subst h1
        exact ⟨e, rfl⟩
    · simp only [if_neg e] at hp
      exact h.cls.ring k hk p hp
  · unfold putF at hu
    by_cases e : ringN now t.due = 4
    · rw [if_pos e] at hu
      rcases List.mem_append.1 hu with h1 | h1
      · exact h.cls.far u h1
      · simp at h1; subst h1; exact e
    · rw [if_neg e] at hu
      exact h.cls.far u hu
  · rcases List.mem_append.1 (hp.mem_iff.1 hu) with h1 | h1
    · exact h.ok u h1
    · simp at h1; subst h1; exact ht
  · rw [hp.length_eq]; simp; omega
theorem gone_fst (L : RLs) (i : Int) : (gone L i).map (·.1) = lessId (L.map (·.1)) i := by
  unfold gone lessId
  rw [List.filter_map]
  rfl
theorem Tot.less (R : Nat → RLs) (far : List Th) (i : Int) : Tot (fun k => gone (R k) i) (lessId far i) = lessId (Tot R far) i := by
  unfold Tot
  simp only [gone_fst]
  unfold lessId
  simp only [List.filter_append]
/-- one less -/
theorem WheelIs.less {now : Int} {R : Nat → RLs} {far X : List Th} (h : WheelIs now R far X) (i : Int) : WheelIs now (fun k => gone (R k) i) (lessId far i) (lessId X i) := by
  refine ⟨⟨fun k hk p hp => h.cls.ring k hk p (List.mem_filter.1 hp).1, fun u hu => h.cls.far u (List.mem_filter.1 hu).1⟩, ?_, h.asc.filter _, List.Pairwise.filter _ h.ids, fun t ht => h.ok t (List.mem_filter.1 ht).1, Nat.le_trans (List.length_filter_le _ _) h.len⟩
  rw [Tot.less]
  exact h.perm.filter _
/-- what an advance tells, what it leaves -/
def dueT (X : List Th) (b : Int) : List Th := X.filter (fun t => decide (t.due ≤ b))
def soonT (X : List Th) (b : Int) : List Th := X.filter (fun t => decide (b < t.due))
theorem WheelIs.adv {a b : Int} {R R' : Nat → RLs} {far far' far2 X l late : List Th} (h : WheelIs a R far X) (hab : a ≤ b) (hl : LateIs a far far' [] l) (hc : Cls b R' far2) (hf2 : ∀ t ∈ far2, b < t.due) (hp : (Tot R far').Perm (late ++ Tot R' far2)) (hla : ∀ t ∈ late, t.due ≤ b) :
    WheelIs b R' far2 (soonT X b) ∧ Sta.srt thLe (l ++ late) = dueT X b := by
  have hX : X.Perm ((l ++ late) ++ Tot R' far2) := of_cnt fun x => by
    have h1 := cnt_of h.perm x
    have h2 := cnt_of hl.perm x
    have h3 := cnt_of hp x
    rw [Tot.cnt] at h1 h3
    simp only [List.count_append] at h1 h2 h3 ⊢
    omega
  have hle : ∀ t ∈ l ++ late, t.due ≤ b := fun t ht => by
    rcases List.mem_append.1 ht with h1 | h1
    · have := hl.late t h1; omega
    · exact hla t h1
  have hgt : ∀ t ∈ Tot R' far2, b < t.due := fun t ht => by
    rcases Tot.mem ht with h1 | ⟨k, hk, p, hp, rfl⟩
    · exact hf2 t h1
    · exact hc.soon k hk p hp
  have e1 : (l ++ late).filter (fun t => decide (b < t.due)) = [] := List.filter_eq_nil_iff.2 fun t ht => by have := hle t ht; simp; omega
  have e2 : (Tot R' far2).filter (fun t => decide (b < t.due)) = Tot R' far2 := List.filter_eq_self.2 fun t ht => by simpa using hgt t ht
  have e3 : (l ++ late).filter (fun t => decide (t.due ≤ b)) = l ++ late := List.filter_eq_self.2 fun t ht => by simpa using hle t ht
  have e4 : (Tot R' far2).filter (fun t => decide (t.due ≤ b)) = [] := List.filter_eq_nil_iff.2 fun t ht => by have := hgt t ht; simp; omega
  have p1 := hX.filter (fun t => decide (b < t.due))
  have p2 := hX.filter (fun t => decide (t.due ≤ b))
  rw [List.filter_append, e1, e2, List.nil_append] at p1
  rw [List.filter_append, e3, e4, List.append_nil] at p2
  refine ⟨⟨hc, p1, h.asc.filter _, List.Pairwise.filter _ h.ids, fun t ht => h.ok t (List.mem_filter.1 ht).1, Nat.le_trans (List.length_filter_le _ _) h.len⟩, ?_⟩
  exact srt_is (h.asc.filter _) (List.Pairwise.filter _ h.ids) p2.symm
/-- all of it, whichever order it came in -/
theorem WheelIs.all {now : Int} {R : Nat → RLs} {far X l : List Th} (h : WheelIs now R far X) (hp : l.Perm (Tot R far)) : Sta.srt thLe l = X := srt_is h.asc h.ids (hp.trans h.perm.symm)
/-- a wheel in memory, at 'now', in which X waits -/
def Whl (W : World) (F : Nat → Prop) (w : Nat) (now : Int) (X : List Th) : Prop :=
  ∃ G rs pf mf R far, Whm W F G w now rs pf mf 256 R far ∧ Inst now ∧ WheelIs now R far X
/-- what a call that writes a wheel leaves -/
def Wst (W : World) (F : Nat → Prop) (w : Nat) (now : Int) (X : List Th) (W' : World) : Prop :=
  ∃ F', Whl W' F' w now X ∧ Gr F W W' ∧ ∀ i, F' i → F i ∨ W.heap.size ≤ i
theorem Whl.below {W W' : World} {F : Nat → Prop} {w : Nat} {now : Int} {X : List Th} (h : Whl W F w now X) (hb : Below W.heap.size W W') : Whl W' F w now X := by
  obtain ⟨G, rs, pf, mf, R, far, h1, h2, h3⟩ := h
  exact ⟨G, rs, pf, mf, R, far, h1.below hb, h2, h3⟩
theorem Whl.beside {W W' : World} {F H : Nat → Prop} {w : Nat} {now : Int} {X : List Th} (h : Whl W F w now X) (hg : Gr H W W') (hd : ∀ i, F i → ¬ H i) : Whl W' F w now X := by
  obtain ⟨G, rs, pf, mf, R, far, h1, h2, h3⟩ := h
  exact ⟨G, rs, pf, mf, R, far, h1.beside hg hd, h2, h3⟩
theorem Whl.bd {W : World} {F : Nat → Prop} {w : Nat} {now : Int} {X : List Th} (h : Whl W F w now X) : ∀ i, F i → i < W.heap.size := by
  obtain ⟨G, rs, pf, mf, R, far, h1, h2, h3⟩ := h
  exact h1.bd
theorem Wst.of {W W' : World} {F F' : Nat → Prop} {G : Nat → Nat → Prop} {w : Nat} {now : Int} {rs : Nat → Nat} {pf mf n : Nat} {R : Nat → RLs} {far X : List Th} (h : Whm W' F' G w now rs pf mf n R far) (hn : Inst now) (hi : WheelIs now R far X) (hg : Gr F W W') (hF : ∀ i, F' i → F i ∨ W.heap.size ≤ i) : Wst W F w now X W' :=
  ⟨F', ⟨G, rs, pf, mf, R, far, h.tight hi.lenT, hn, hi⟩, hg, hF⟩
end Go.Proofs.Ytedlplkomfiahaa
namespace Go.Proofs.Ytedlplkomfiahaa
set_option linter.unusedVariables false
set_option linter.unusedSimpArgs false
set_option linter.unusedSectionVars false
open Go Go.RowKit Go.Maps
instance (t : Int) : Decidable (Inst t) := by unfold Inst; infer_instance
/-- what Arm answers -/
def armE (X : List Th) (t : Th) : Int := if Inst t.due then (if ∃ u ∈ X, u.id = t.id then 32 else if 256 ≤ X.length then 30 else 0) else 2
def armX (X : List Th) (t : Th) : List Th := if Inst t.due then (if ∃ u ∈ X, u.id = t.id then X else if 256 ≤ X.length then X else insT X t) else X
set_option maxRecDepth 100000 in
set_option maxHeartbeats 4000000 in
theorem arm_any (W : World) (F : Nat → Prop) (w : Nat) (now : Int) (X : List Th) (t : Th) (h : Whl W F w now X) (hw : IdOk t.id) :
    Calls Try.prog 38 #[.pointer (some ⟨w, 0, none⟩), thVal t] W fun e W' => e = .returned (.int .i64 (armE X t)) ∧ Wst W F w now (armX X t) W' := by
  obtain ⟨G, rs, pf, mf, R, far, hm, hn, hi⟩ := h
  obtain ⟨ti, tg, td⟩ := t
  obtain ⟨q, hq⟩ : ∃ q, q = W.heap.size := ⟨_, rfl⟩
  obtain ⟨W1, hW1⟩ : ∃ W1, W1 = W.alloc (.cells #[.int .u64 ti, .int .u64 tg, .int .i64 td] thT) := ⟨_, rfl⟩
  have hB1 : Below W.heap.size W W1 := by rw [hW1]; exact below_new _ _
  have ht1 : W1.heap[q]? = some (.cells #[.int .u64 ti, .int .u64 tg, .int .i64 td] thT (0, 0)) := by rw [hW1, hq]; exact heap_alloc_new _ _
  have hm1 := hm.below hB1
  obtain ⟨a0, a1, a2, a3, a4, a5, b0, hwl, hfl⟩ := hm1.cells
  obtain ⟨q0, q1, q2, -, -, -⟩ := set3_res (t := ⟨ti, tg, td⟩) ht1
  have hql := (Array.getElem?_eq_some_iff.1 ht1).1
  have Hno := Lib.hid (wnone_no W1 w pf a5 hwl)
  have hkeep : ∀ W', Below W1.heap.size W1 W' → Wst W F w now X W' := fun W' hb => Wst.of (hm1.below hb) hn hi ((Gr.below hB1).trans (Gr.below hb)) (fun i hi => .inl hi)
  have Hkeep := Lib.hid hkeep
  have HB1 := Lib.hid hB1
  have Hm1 := Lib.hid hm1
  have Hi := Lib.hid hi
  have Hn := Lib.hid hn
  have Ht1 := Lib.hid ht1
  clear hm hi hn hm1 hB1 hkeep ht1 a0 a1 a2 a3 a4 a5 b0 hwl hfl
  unfold thVal
  go_enter Try.func38, Try.ntmps38
  go_wp2_with fail
  rw [← hW1, ← hq]
  clear hW1 hq
  refine Hno.out.mono ?_
  rintro e W2 ⟨rfl, hW2⟩
  subst hW2
  by_cases hd : Inst td
  · have His := Lib.hid (inst_yes td hd W2)
    have Hd := Lib.hid hd
    clear hd
    go_wp2_with fail
    refine His.out.mono ?_
    rintro e W3 ⟨rfl, hW3⟩
    subst hW3
    have Hgt := Lib.hid (wget_any W3 F G w now rs pf mf 256 R far ti Hm1.out hw (by decide))
    go_wp2_with fail
    refine Hgt.out.mono ?_
    rintro e W4 ⟨hor, hB4⟩
    rcases hor with ⟨u, hu, hui, rfl⟩ | ⟨hno, rfl⟩
    · have hex : ∃ v ∈ X, v.id = ti := ⟨u, Hi.out.perm.mem_iff.2 hu, hui⟩
      have hE : armE X ⟨ti, tg, td⟩ = 32 := by unfold armE; rw [if_pos Hd.out, if_pos hex]
      have hX : armX X ⟨ti, tg, td⟩ = X := by unfold armX; rw [if_pos Hd.out, if_pos hex]
      have hfin := Hkeep.out _ (below_on hB4 (below_new W4 (.cells #[.int .u64 u.id, .int .u64 u.gen, .int .i64 u.due] thT)) (Nat.le_refl _))
      have Hfin := Lib.hid hfin
      have HE := Lib.hid hE
      have HX := Lib.hid hX
      clear hfin hE hX hex hui hu hB4
      obtain ⟨ui, ug, ud⟩ := u
      unfold thVal
      go_wp2_with fail
      go_ret
      exact ⟨by rw [HE.out]; rfl, by rw [HX.out]; exact Hfin.out⟩
    · have hnx : ∀ v ∈ X, v.id ≠ ti := fun v hv => hno v (Hi.out.perm.mem_iff.1 hv)
      have hne : ¬ ∃ v ∈ X, v.id = ti := fun ⟨v, hv, e⟩ => hnx v hv e
      obtain ⟨W5, hW5⟩ : ∃ W5, W5 = W4.alloc (.cells #[.int .u64 0, .int .u64 0, .int .i64 0] thT) := ⟨_, rfl⟩
      have hB5 := below_on hB4 (by rw [hW5]; exact below_new W4 _ : Below W4.heap.size W4 W5) (Nat.le_refl _)
      have hm5 := Hm1.out.below hB5
      have hlT : (Tot R far).length = X.length := Hi.out.perm.length_eq.symm
      have hwl := wlen_any W5 F G w now rs pf mf 256 R far hm5 (by have := Hi.out.lenT; omega)
      rw [hlT] at hwl
      have Hwl := Lib.hid hwl
      have HB5 := Lib.hid hB5
      have Hno' := Lib.hid hno
      have Hnx := Lib.hid hnx
      have Hne := Lib.hid hne
      have ht5 := (hB5.block q hql).trans Ht1.out
      have Ht5 := Lib.hid ht5
      clear hm5 hlT hwl hB5 hB4 hno hnx hne ht5 q0 q1 q2 hql
      unfold thVal
      go_upto_region 8 with fail
      rw [← hW5]
      clear hW5
      go_wp2_with fail
      refine Hwl.out.mono ?_
      rintro e W6 ⟨rfl, hB6⟩
      have hB16 := below_on HB5.out hB6 (Nat.le_refl _)
      have ht6 := (hB6.block q (Array.getElem?_eq_some_iff.1 Ht5.out).1).trans Ht5.out
      obtain ⟨q0, q1, q2, -, -, -⟩ := set3_res (t := ⟨ti, tg, td⟩) ht6
      have hql := (Array.getElem?_eq_some_iff.1 ht6).1
      by_cases h256 : 256 ≤ X.length
      · have x1 : (256 : Int) ≤ (X.length : Int) := by omega
        have hE : armE X ⟨ti, tg, td⟩ = 30 := by unfold armE; rw [if_pos Hd.out, if_neg Hne.out, if_pos h256]
        have hX : armX X ⟨ti, tg, td⟩ = X := by unfold armX; rw [if_pos Hd.out, if_neg Hne.out, if_pos h256]
        have Hfin := Lib.hid (Hkeep.out _ hB16)
        have HE := Lib.hid hE
        have HX := Lib.hid hX
        clear hE hX h256 hB16 hB6 ht6
        go_wp2_with fail
        go_ret
        exact ⟨by rw [HE.out]; rfl, by rw [HX.out]; exact Hfin.out⟩
      · have x1 : ¬ (256 : Int) ≤ (X.length : Int) := by omega
        have hE : armE X ⟨ti, tg, td⟩ = 0 := by unfold armE; rw [if_pos Hd.out, if_neg Hne.out, if_neg h256]
        have hX : armX X ⟨ti, tg, td⟩ = insT X ⟨ti, tg, td⟩ := by unfold armX; rw [if_pos Hd.out, if_neg Hne.out, if_neg h256]
        have hpt := wput_any W6 F G w now rs pf mf 256 R far ⟨ti, tg, td⟩ (Hm1.out.below hB16) Hn.out Hd.out hw (by decide) Hno'.out
        have hput := Hi.out.put ⟨ti, tg, td⟩ Hnx.out ⟨Hd.out, hw⟩ (by omega)
        have Hput := Lib.hid hput
        have Hpt := Lib.hid hpt
        have HE := Lib.hid hE
        have HX := Lib.hid hX
        have HB16 := Lib.hid hB16
        unfold thVal at Hpt
        clear hE hX h256 hB16 hB6 ht6 hput hpt
        go_wp2_with fail
        refine Hpt.out.mono ?_
        rintro e W7 ⟨rfl, F7, G7, hm7, hg7, hF7⟩
        have hfin : Wst W F w now (insT X ⟨ti, tg, td⟩) W7 := Wst.of hm7 Hn.out Hput.out (((Gr.below HB1.out).trans (Gr.below HB16.out)).trans hg7) (fun i hi => (hF7 i hi).imp id (fun x => Nat.le_trans (Nat.le_trans HB1.out.size HB16.out.size) x))
        have Hfin := Lib.hid hfin
        clear hfin hm7 hg7 hF7
        go_wp2_with fail
        go_ret
        exact ⟨by rw [HE.out]; rfl, by rw [HX.out]; exact Hfin.out⟩
  · have His := Lib.hid (inst_no td hd W2)
    have hE : armE X ⟨ti, tg, td⟩ = 2 := by unfold armE; rw [if_neg hd]
    have hX : armX X ⟨ti, tg, td⟩ = X := by unfold armX; rw [if_neg hd]
    have Hfin := Lib.hid (Hkeep.out _ (Below.refl _ W2))
    have HE := Lib.hid hE
    have HX := Lib.hid hX
    clear hd hE hX
    go_wp2_with fail
    refine His.out.mono ?_
    rintro e W3 ⟨rfl, hW3⟩
    subst hW3
    go_wp2_with fail
    go_ret
    exact ⟨by rw [HE.out]; rfl, by rw [HX.out]; exact Hfin.out⟩
theorem drop_g (W : World) (F : Nat → Prop) (r n : Nat) (L : RLs) (h : Rng W F r n L) (id : Int) (hw : IdOk id) (hn : n ≤ 1000000) :
    Calls Try.prog 66 #[.pointer (some ⟨r, 0, none⟩), .int .u64 id] W fun e W' => (∃ (t : Th) (ok : Bool), e = .returned (.tuple #[thVal t, .bool ok])) ∧ Rng W' (More F W W') r n (gone L id) ∧ Gr F W W' := by
  by_cases hex : ∃ p ∈ L, p.1.id = id
  · obtain ⟨p, hp, rfl⟩ := hex
    refine (drop_yes W F r n L h p hp hn).mono ?_
    rintro e W' ⟨rfl, hR, hG⟩
    exact ⟨⟨_, _, rfl⟩, hR, hG⟩
  · have hf : ∀ p ∈ L, p.1.id ≠ id := fun p hp e => hex ⟨p, hp, e⟩
    refine (drop_no W F r n L h id hw hf).mono ?_
    rintro e W' ⟨rfl, hB⟩
    have hg : gone L id = L := List.filter_eq_self.2 fun p hp => by simpa using hf p hp
    rw [hg]
    exact ⟨⟨_, _, rfl⟩, (h.below hB).widen (fun i hi => .inl hi) (More.bd h.bd hB.size), Gr.below hB⟩
theorem fmapdel_run {W : World} {b n : Nat} {D : DataW Unit} (h : W.ownsMap Try.prog 28 thElem b n D) (id : Int) (hw : IdOk id) (ty : TypeId) :
    ∃ W', (Builtin.delete_ #[mfT, 28] ty #[.map (some b), .int .u64 id]).run Try.prog W = .ok (.tuple #[]) W' ∧ W'.ownsMap Try.prog 28 thElem b n (D.del (.int .u64 id)) ∧ W.grownBy W' (some b) := by
  obtain ⟨W', h1, h2, h3⟩ := h.drop u64law Try.underlying26 (keyOf_int_mk Try.underlying28 hw.wf) ty
  exact ⟨W', h1, h2, h3.grown⟩
/-- what Cancel tells -/
def CancelIs (X : List Th) (id : Int) (e : Ending) : Prop := (∃ u ∈ X, u.id = id ∧ e = .returned (.tuple #[thVal u, .bool true])) ∨ ((∀ u ∈ X, u.id ≠ id) ∧ e = .returned (.tuple #[thVal ⟨0, 0, 0⟩, .bool false]))
def goneTo (R : Nat → RLs) (id : Int) (i : Nat) : Nat → RLs := fun j => if j < i then gone (R j) id else R j
set_option maxRecDepth 100000 in
set_option maxHeartbeats 4000000 in
theorem cancel_any (W : World) (F : Nat → Prop) (w : Nat) (now : Int) (X : List Th) (id : Int) (h : Whl W F w now X) (hw : IdOk id) :
    Calls Try.prog 34 #[.pointer (some ⟨w, 0, none⟩), .int .u64 id] W fun e W' => CancelIs X id e ∧ Wst W F w now (lessId X id) W' := by
  obtain ⟨G, rs, pf, mf, R, far, hm, hn, hi⟩ := h
  obtain ⟨b, hb⟩ : ∃ b, b = W.heap.size := ⟨_, rfl⟩
  obtain ⟨W1, hW1⟩ : ∃ W1, W1 = W.alloc (.cells #[.int .u64 0, .int .u64 0, .int .i64 0] thT) := ⟨_, rfl⟩
  have hB1 : Below W.heap.size W W1 := by rw [hW1]; exact below_new _ _
  have ht1 : W1.heap[b]? = some (.cells #[.int .u64 0, .int .u64 0, .int .i64 0] thT (0, 0)) := by rw [hW1, hb]; exact heap_alloc_new _ _
  have hm1 := hm.below hB1
  have hbF : ¬ F b := fun e => by have := hm.bd b e; omega
  have Hgt := Lib.hid (wget_any W1 F G w now rs pf mf 256 R far id hm1 hw (by decide))
  have Hm1 := Lib.hid hm1
  have HB1 := Lib.hid hB1
  have Ht1 := Lib.hid ht1
  have Hi := Lib.hid hi
  have Hn := Lib.hid hn
  have Hb := Lib.hid hb
  have HbF := Lib.hid hbF
  have HF := Lib.hid hm.bd
  clear hm hn hi hm1 hB1 ht1 hbF
  go_enter Try.func34, Try.ntmps34
  go_wp2_with fail
  rw [← hW1, ← hb]
  clear hW1 hb
  refine Hgt.out.mono ?_
  rintro e W2 ⟨hor, hB2⟩
  have ht2 := (hB2.block b (Array.getElem?_eq_some_iff.1 Ht1.out).1).trans Ht1.out
  rcases hor with ⟨u, hu, hui, rfl⟩ | ⟨hno, rfl⟩
  · have huX : u ∈ X := Hi.out.perm.mem_iff.2 hu
    obtain ⟨W3, hW3⟩ : ∃ W3, W3 = W2.alloc (.cells #[.int .u64 u.id, .int .u64 u.gen, .int .i64 u.due] thT) := ⟨_, rfl⟩
    obtain ⟨q, hq⟩ : ∃ q, q = W2.heap.size := ⟨_, rfl⟩
    have hB3 : Below W2.heap.size W2 W3 := by rw [hW3]; exact below_new _ _
    have ht3 := (hB3.block b (Array.getElem?_eq_some_iff.1 ht2).1).trans ht2
    have hq3 : W3.heap[q]? = some (.cells #[.int .u64 u.id, .int .u64 u.gen, .int .i64 u.due] thT (0, 0)) := by rw [hW3, hq]; exact heap_alloc_new _ _
    have hqF : ¬ F q := fun e => by have := HF.out q e; have h1 := HB1.out.size; have h2 := hB2.size; omega
    have hqb : q ≠ b := by have := (Array.getElem?_eq_some_iff.1 ht2).1; omega
    have hm3 := (Hm1.out.below hB2).below hB3
    have hg3 : Gr F W W3 := (Gr.below HB1.out).trans ((Gr.below hB2).trans (Gr.below hB3))
    obtain ⟨a0, a1, a2, a3, a4, a5, b0, hwl, hfl⟩ := hm3.cells
    have Hm3 := Lib.hid hm3
    have Hg3 := Lib.hid hg3
    have Ht3 := Lib.hid ht3
    have Hq3 := Lib.hid hq3
    have Hqb := Lib.hid hqb
    have HqF := Lib.hid hqF
    have HuX := Lib.hid huX
    have Hui := Lib.hid hui
    clear hm3 hg3 ht3 hq3 hqb hqF huX hui hu hB3 ht2 hB2
    obtain ⟨ui, ug, ud⟩ := u
    unfold thVal
    go_upto_region 2 with fail
    rw [← hW3, ← hq]
    clear hW3 hq
    go_wp2_with fail
    clear a0 a1 a2 a3 a4 a5 b0 hwl hfl
    go_loopw [23] (fun v wr => ∃ (i : Nat) (F' : Nat → Prop) (G' : Nat → Nat → Prop), v = .int .i64 (i : Nat) ∧ i ≤ 4 ∧ Hid (Whm wr F' G' w now rs pf mf 256 (goneTo R id i) far) ∧ Hid (Gr F W wr) ∧ Hid (∀ j, F' j → F j ∨ W.heap.size ≤ j) ∧ Hid (¬ F' b ∧ ¬ F' q) ∧
      Hid (wr.heap[b]? = some (.cells #[.int .u64 0, .int .u64 0, .int .i64 0] thT (0, 0))) ∧ Hid (wr.heap[q]? = some (.cells #[.int .u64 ui, .int .u64 ug, .int .i64 ud] thT (0, 0)))) (fun v _ => 4 - (intOf v).toNat)
    case atStart => exact ⟨0, F, G, rfl, by omega, (Hm3.out.same (fun k _ => by unfold goneTo; rw [if_neg (Nat.not_lt_zero k)]) rfl : Whm W3 F G w now rs pf mf 256 (goneTo R id 0) far), Hg3, (fun j hj => .inl hj : ∀ j, F j → F j ∨ W.heap.size ≤ j), (⟨HbF.out, HqF.out⟩ : ¬ F b ∧ ¬ F q), Ht3, Hq3⟩
    case round =>
      obtain ⟨i, F', G', rfl, hi, hm, hg, hF, hbq, htb, htq⟩ := hrel
      by_cases hi4 : i < 4
      · have x1 : (i : Int) < 4 := by omega
        have ix := idxk rs i hi4
        have w1 := wrap_k i 3 (Nat.le_of_lt_succ hi4) (by decide)
        have hrg := hm.out.ring i hi4
        have e1 : goneTo R id i i = R i := by unfold goneTo; rw [if_neg (Nat.lt_irrefl i)]
        rw [e1] at hrg
        have Hdr := Lib.hid (drop_g wr (G' i) (rs i) 256 (R i) hrg id hw (by decide))
        have Hi4 := Lib.hid hi4
        clear hrg e1 hi hi4
        go_wp2_with fail
        refine Hdr.out.mono ?_
        rintro e W5 ⟨⟨t5, ok5, rfl⟩, hR5, hG5⟩
        have hst := hm.out.step i Hi4.out _ hR5 (Nat.le_refl _) hG5
        have hm5 : Whm W5 (More F' wr W5) (updF G' i (More (G' i) wr W5)) w now rs pf mf 256 (goneTo R id (i + 1)) far := hst.1.same (fun k hk => by
          unfold updF goneTo
          by_cases e : k = i
          · subst e; rw [if_pos rfl, if_pos (Nat.lt_succ_self k)]
          · rw [if_neg e]
            by_cases e2 : k < i
            · rw [if_pos e2, if_pos (Nat.lt_succ_of_lt e2)]
            · rw [if_neg e2, if_neg (fun h => e2 (Nat.lt_of_le_of_ne (Nat.le_of_lt_succ h) e))]) rfl
        have hbl := (Array.getElem?_eq_some_iff.1 htb.out).1
        have hql := (Array.getElem?_eq_some_iff.1 htq.out).1
        have Hm5 := Lib.hid hm5
        have Hg5 := Lib.hid (Gr.after hg.out hst.2 (fun j hj => hF.out j hj))
        have HF5 := Lib.hid (fun j (hj : More F' wr W5 j) => hj.elim (hF.out j) (fun x => (.inr (Nat.le_trans hg.out.size x.1) : F j ∨ W.heap.size ≤ j)))
        have Hbq5 : Hid (¬ More F' wr W5 b ∧ ¬ More F' wr W5 q) := by
          show ¬ More F' wr W5 b ∧ ¬ More F' wr W5 q
          exact ⟨fun e => e.elim hbq.out.1 (fun x => absurd hbl (Nat.not_lt.2 x.1)), fun e => e.elim hbq.out.2 (fun x => absurd hql (Nat.not_lt.2 x.1))⟩
        have Htb5 := Lib.hid ((hst.2.block b hbl hbq.out.1).trans htb.out)
        have Htq5 := Lib.hid ((hst.2.block q hql hbq.out.2).trans htq.out)
        clear hR5 hG5 hst hm5 hbl hql
        unfold thVal
        go_wp2_with fail
        go_roundw
        case rel => exact ⟨i + 1, _, _, by first | rfl | rw [w1]; rfl, Hi4.out, Hm5, Hg5, HF5, Hbq5, Htb5, Htq5⟩
        case measure =>
          first | rw [w1] | skip
          exact meas4 i Hi4.out
      · obtain rfl : i = 4 := Nat.le_antisymm hi (Nat.le_of_not_lt hi4)
        obtain ⟨a0, a1, a2, a3, a4, a5, b0, hwl, hfl⟩ := hm.out.cells
        obtain ⟨D, hD, hE⟩ := hm.out.map
        obtain ⟨W6, hdel, hD6, hg6⟩ := fmapdel_run hD id hw 0
        have hm6 := hm.out.turn hg6 hD6 (far' := lessId far id) (by rw [fpairs_less]; exact hE.del id) (Nat.le_refl _)
        have hbm : b ≠ mf := fun e => hbq.out.1 (e ▸ hm.out.fm)
        have hqm : q ≠ mf := fun e => hbq.out.2 (e ▸ hm.out.fm)
        have htb6 := (hg6.block b (Array.getElem?_eq_some_iff.1 htb.out).1 (fun e => hbm (by simpa using e))).trans htb.out
        have htq6 := (hg6.block q (Array.getElem?_eq_some_iff.1 htq.out).1 (fun e => hqm (by simpa using e))).trans htq.out
        obtain ⟨c0, c1, c2, f0, f1, f2⟩ := set3_res (t := ⟨0, 0, 0⟩) htb6
        obtain ⟨q0, q1, q2, -, -, -⟩ := set3_res (t := ⟨ui, ug, ud⟩) htq6
        have hql := (Array.getElem?_eq_some_iff.1 htq6).1
        have hbl := (Array.getElem?_eq_some_iff.1 htb6).1
        have hqb := Hqb.out
        obtain ⟨d0, d1, d2, -, -, -⟩ := set3_res (set3_blk htb6 ⟨ui, ug, ud⟩)
        have hst : Wst W F w now (lessId X id) (set3 W6 b ⟨ui, ug, ud⟩) := by
          have hgs := set3_grown W6 b ⟨ui, ug, ud⟩
          refine Wst.of ((hm6.1.kept hgs.size fun j hj => hgs.block j (hm6.1.bd j hj) (fun e => hbq.out.1 (by simp only [Option.some.injEq] at e; exact e ▸ hj))).same (R' := fun k => gone (R k) id) (fun k hk => by unfold goneTo; rw [if_pos hk]) rfl) Hn.out (Hi.out.less id) ((hg.out.after hm6.2 hF.out).after (Gr.one hgs (fun x hx => hx) : Gr (fun j => some b = some j) W6 _) (fun j hj => .inr ?_)) hF.out
          simp only [Option.some.injEq] at hj
          exact hj ▸ Nat.le_of_eq Hb.out.symm
        simp only [set3] at d0 d1 d2 hst
        have Hd := Lib.hid (⟨d0, d1, d2⟩ : _ ∧ _ ∧ _)
        have Hst := Lib.hid hst
        clear d0 d1 d2 hst htb6 htq6 hm6 hD6 hg6 hD hE hi hi4 hbm hqm
        go_wp2_with fail
        refine bodyPost_ret (v := .tuple #[thVal ⟨ui, ug, ud⟩, .bool true]) ?_ rfl ⟨.inl ⟨_, HuX.out, Hui.out, rfl⟩, Hst.out⟩
        obtain ⟨d0, d1, d2⟩ := Hd.out
        simp [results, Try.results34, go_sem, thVal, d0, d1, d2]
  · have hno2 : ∀ v ∈ X, v.id ≠ id := fun v hv => hno v (Hi.out.perm.mem_iff.1 hv)
    have hless : lessId X id = X := List.filter_eq_self.2 fun v hv => by simpa using hno2 v hv
    obtain ⟨W3, hW3⟩ : ∃ W3, W3 = W2.alloc (.cells #[.int .u64 0, .int .u64 0, .int .i64 0] thT) := ⟨_, rfl⟩
    obtain ⟨q, hq⟩ : ∃ q, q = W2.heap.size := ⟨_, rfl⟩
    have hB3 : Below W2.heap.size W2 W3 := by rw [hW3]; exact below_new _ _
    have ht3 := (hB3.block b (Array.getElem?_eq_some_iff.1 ht2).1).trans ht2
    have hq3 : W3.heap[q]? = some (.cells #[.int .u64 0, .int .u64 0, .int .i64 0] thT (0, 0)) := by rw [hW3, hq]; exact heap_alloc_new _ _
    obtain ⟨c0, c1, c2, f0, f1, f2⟩ := set3_res (t := ⟨0, 0, 0⟩) ht3
    obtain ⟨q0, q1, q2, -, -, -⟩ := set3_res (t := ⟨0, 0, 0⟩) hq3
    have hql := (Array.getElem?_eq_some_iff.1 hq3).1
    have hbl := (Array.getElem?_eq_some_iff.1 ht3).1
    have hqb : q ≠ b := by have := (Array.getElem?_eq_some_iff.1 ht2).1; omega
    have hb4 := below_on (below_on HB1.out hB2 (Nat.le_refl _)) hB3 (Nat.le_refl _)
    have hb5 := set3_below hb4 (Nat.le_of_eq Hb.out.symm) hb4.size ⟨0, 0, 0⟩
    obtain ⟨d0, d1, d2, -, -, -⟩ := set3_res (set3_blk ht3 ⟨0, 0, 0⟩)
    have hst : Wst W F w now (lessId X id) (set3 W3 b ⟨0, 0, 0⟩) := by
      rw [hless]
      refine Wst.of (Hm1.out.kept (Nat.le_trans (Nat.le_trans hB2.size hB3.size) (set3_grown W3 b ⟨0, 0, 0⟩).size) fun i hi => ?_) Hn.out Hi.out (Gr.below hb5) (fun i hi => .inl hi)
      have hil := HF.out i hi
      exact (hb5.block i hil).trans (HB1.out.block i hil).symm
    simp only [set3] at d0 d1 d2 hst
    have Hd := Lib.hid (⟨d0, d1, d2⟩ : _ ∧ _ ∧ _)
    have Hst := Lib.hid hst
    have Hno := Lib.hid hno2
    clear d0 d1 d2 hst hb5 hb4 ht3 hq3 hB3 ht2 hB2 hno hno2 hless
    unfold thVal
    go_upto_region 2 with fail
    rw [← hW3, ← hq]
    clear hW3 hq
    go_wp2_with fail
    refine bodyPost_ret (v := .tuple #[thVal ⟨0, 0, 0⟩, .bool false]) ?_ rfl ⟨.inr ⟨Hno.out, rfl⟩, Hst.out⟩
    obtain ⟨d0, d1, d2⟩ := Hd.out
    simp [results, Try.results34, go_sem, thVal, d0, d1, d2]
end Go.Proofs.Ytedlplkomfiahaa
namespace Go.Proofs.Ytedlplkomfiahaa
set_option linter.unusedVariables false
set_option linter.unusedSimpArgs false
set_option linter.unusedSectionVars false
open Go Go.RowKit Go.Maps
/-- append as one operation; where the new row lies -/
theorem wpo_append_lie {P : Program} {w : World} {o : Oper} {a : Act} {K : Act → World → Prop} {Q : Exit → Act → World → Prop} (s x : Operand) (t : TypeId)
    (ho : o.op = .call { callee := .builtin .append, args := #[s, x], argTypes := #[t, t] })
    (base : Nat) (e : TypeId) {z : Value} {size bytes : Nat} (hi : (P.info? e).map (fun i => (i.zero, i.size, i.bytes)) = some (some z, size, bytes)) (ht : P.underlying t = some (.slice e))
    (hzs : z.cells.size = size) (hsz : 0 < size)
    (v : Value) (n : Nat) (xs : List Value) (hs : a.eval s = v) (hown : w.ownsRow base e size v n xs)
    (ao : Option Addr) (m c : Nat) (news : List Value) (hx : a.eval x = .slice ao m c) (hsl : Sl w size ao m c news) (h1 : ∀ u ∈ news, u.oneCell' = true)
    (h63 : n + m ≤ maxLen) (hbytes : (n + m) * bytes ≤ 140737488355328) (hbase : base ≤ w.heap.size)
    (h : ∀ ao' cap' w', w'.ownsRow base e size (.slice ao' (n + m) cap') (n + m) (xs ++ news) → w.grownBy w' v.ownBlock → (∀ g, (Value.slice ao' (n + m) cap').ownBlock = some g → v.ownBlock = some g ∨ g = w.heap.size) → K (a.put o.dst (.slice ao' (n + m) cap')) w') : o.wp P a w K Q := by
  obtain ⟨i, hi1, hi2, hi3, hi4⟩ := info_parts hi
  cases ao with
  | none =>
    have hc := hsl.none rfl
    have hle := hsl.le
    obtain rfl : c = 0 := hc
    obtain rfl : m = 0 := by omega
    have hnews : news = [] := List.eq_nil_of_length_eq_zero (by simpa using hsl.len)
    subst hnews
    have hrun := run_append_owned_none (P := P) (w := w) base t o.type e i size ht hi1 v n xs hown
    obtain ⟨ao', cap', rfl⟩ := own_slice hown
    unfold Oper.wp
    simp [execOp, ho, resolve, invoke, builtin, hs, hx, hrun, Result.andThen]
    exact h ao' cap' _ (by simpa using hown) (World.grownBy.refl _ _) (fun g hg => .inl hg)
  | some ad =>
    have hnews : ∀ j u, news[j]? = some u → w.cell? (ad.add j) = some u := by
      intro j u hu
      obtain ⟨b, off, e, hc⟩ := hsl.cell j u hu
      simp only [Option.some.injEq] at e
      subst e
      rw [← hc]; congr 1
      unfold Addr.add; split <;> simp_all
    obtain ⟨v', w', hr, h2, h3, _, h5⟩ := run_append_own_at (P := P) w base t o.type e i z size bytes ht hi1 hi2 hi3 hi4 hzs hsz v n xs hown ad m c news hsl.len hnews h1 h63 hbytes hbase
    obtain ⟨ao', cap', rfl⟩ := own_slice h2
    unfold Oper.wp execOp
    simp only [ho, resolve, invoke, builtin, Sem.run_bind, Sem.run_pure, Result.andThen_ok, List.map_toArray, List.map_cons, List.map_nil, hs, hx, hr]
    refine h ao' cap' w' h2 h3 fun g hg => ?_
    rcases h5 with h5 | h5
    · exact .inl (by rw [← h5]; exact hg)
    · right
      exact Option.some.inj (hg.symm.trans h5)
theorem wpl_append_lie {P : Program} {w : World} {ops : Array Oper} {rest : List Oper} {o : Oper} {a : Act} {Q : Exit → Act → World → Prop} (hw : Region.wanted o (yielded ops a.tmps) = true) (s x : Operand) (t : TypeId)
    (ho : o.op = .call { callee := .builtin .append, args := #[s, x], argTypes := #[t, t] })
    (base : Nat) (e : TypeId) {z : Value} {size bytes : Nat} (hi : (P.info? e).map (fun i => (i.zero, i.size, i.bytes)) = some (some z, size, bytes)) (ht : P.underlying t = some (.slice e))
    (hzs : z.cells.size = size) (hsz : 0 < size)
    (v : Value) (n : Nat) (xs : List Value) (hs : a.eval s = v) (hown : w.ownsRow base e size v n xs)
    (ao : Option Addr) (m c : Nat) (news : List Value) (hx : a.eval x = .slice ao m c) (hsl : Sl w size ao m c news) (h1 : ∀ u ∈ news, u.oneCell' = true)
    (h63 : n + m ≤ maxLen) (hbytes : (n + m) * bytes ≤ 140737488355328) (hbase : base ≤ w.heap.size)
    (h : ∀ ao' cap' w', w'.ownsRow base e size (.slice ao' (n + m) cap') (n + m) (xs ++ news) → w.grownBy w' v.ownBlock → (∀ g, (Value.slice ao' (n + m) cap').ownBlock = some g → v.ownBlock = some g ∨ g = w.heap.size) → wpList P ops Q rest (a.put o.dst (.slice ao' (n + m) cap')) w') : wpList P ops Q (o :: rest) a w :=
  wpl_of hw fun K hK => wpo_append_lie s x t ho base e hi ht hzs hsz v n xs hs hown ao m c news hx hsl h1 h63 hbytes hbase fun ao' cap' w' a1 a2 a3 => hK _ _ (h ao' cap' w' a1 a2 a3)
end Go.Proofs.Ytedlplkomfiahaa
namespace Go.Proofs.Ytedlplkomfiahaa
set_option linter.unusedVariables false
set_option linter.unusedSimpArgs false
set_option linter.unusedSectionVars false
open Go Go.RowKit Go.Maps
/-- what Advance answers -/
def advE (now tb : Int) : Int := if Inst tb then (if tb < now then 34 else 0) else 2
def advN (now tb : Int) : Int := if Inst tb then (if tb < now then now else tb) else now
def advX (now tb : Int) (X : List Th) : List Th := if Inst tb then (if tb < now then X else soonT X tb) else X
def advL (now tb : Int) (X : List Th) : List Th := if Inst tb then (if tb < now then [] else dueT X tb) else []
set_option maxRecDepth 100000 in
set_option maxHeartbeats 4000000 in
theorem adv_any (W : World) (F : Nat → Prop) (w : Nat) (now tb : Int) (X : List Th) (h : Whl W F w now X) :
    Calls Try.prog 35 #[.pointer (some ⟨w, 0, none⟩), .int .i64 tb] W fun e W' => ∃ ao cap, e = .returned (.tuple #[.slice ao (advL now tb X).length cap, .int .i64 (advE now tb)]) ∧ Wst W F w (advN now tb) (advX now tb X) W' ∧
      W'.ownsRow W.heap.size thT 3 (.slice ao (advL now tb X).length cap) (advL now tb X).length (thFlat (advL now tb X)) := by
  obtain ⟨G, rs, pf, mf, R, far, hm, hn, hi⟩ := h
  obtain ⟨a0, a1, a2, a3, a4, a5, b0, hwl, hfl⟩ := hm.cells
  have Hno := Lib.hid (wnone_no W w pf a5 hwl)
  have hkeep : Wst W F w now X W := Wst.of hm hn hi (Gr.refl _ _) (fun i hi => .inl hi)
  have Hkeep := Lib.hid hkeep
  have Hm := Lib.hid hm
  have Hi := Lib.hid hi
  have Hn := Lib.hid hn
  clear hm hi hn hkeep a1 a2 a3 a4 a5 b0 hfl
  go_enter Try.func35, Try.ntmps35
  go_wp2_with fail
  refine Hno.out.mono ?_
  rintro e W2 ⟨rfl, hW2⟩
  subst hW2
  by_cases hd : Inst tb
  · have His := Lib.hid (inst_yes tb hd W2)
    have Hd := Lib.hid hd
    clear hd
    go_wp2_with fail
    refine His.out.mono ?_
    rintro e W3 ⟨rfl, hW3⟩
    subst hW3
    by_cases hlt : tb < now
    · have hE : advE now tb = 34 := by unfold advE; rw [if_pos Hd.out, if_pos hlt]
      have hN : advN now tb = now := by unfold advN; rw [if_pos Hd.out, if_pos hlt]
      have hX : advX now tb X = X := by unfold advX; rw [if_pos Hd.out, if_pos hlt]
      have hL : advL now tb X = [] := by unfold advL; rw [if_pos Hd.out, if_pos hlt]
      have HE := Lib.hid hE
      have HN := Lib.hid hN
      have HX := Lib.hid hX
      have HL := Lib.hid hL
      clear hE hN hX hL
      go_wp2_with fail
      go_ret2
      rw [HE.out, HN.out, HX.out, HL.out]
      exact ⟨none, 0, rfl, Hkeep.out, World.ownsRow_nil _ _ _ _⟩
    · have hE : advE now tb = 0 := by unfold advE; rw [if_pos Hd.out, if_neg hlt]
      have hN : advN now tb = tb := by unfold advN; rw [if_pos Hd.out, if_neg hlt]
      have hX : advX now tb X = soonT X tb := by unfold advX; rw [if_pos Hd.out, if_neg hlt]
      have hL : advL now tb X = dueT X tb := by unfold advL; rw [if_pos Hd.out, if_neg hlt]
      have HE := Lib.hid hE
      have HN := Lib.hid hN
      have HX := Lib.hid hX
      have HL := Lib.hid hL
      have hle : now ≤ tb := Int.le_of_not_gt hlt
      have Hle := Lib.hid hle
      have hlT := Hi.out.lenT
      have hla := late_any W3 F G w now rs pf mf 256 R far Hm.out (fun t ht => (Hi.out.okT t (Tot.far ht)).2) (by have := Tot.len_far R far; omega)
      have Hla := Lib.hid hla
      clear hE hN hX hL hla hle hlT
      go_wp2_with fail
      refine Hla.out.mono ?_
      rintro e W4 ⟨ao, cap, l, far', rfl, hrow, hm4, hg4, hsz4, hli⟩
      have hok : TurnOk now tb R far' 256 := by
        have hsub : ∀ t ∈ far', t ∈ far := fun t ht => hli.out.perm.mem_iff.2 (List.mem_append_right l ht)
        have hpt : (Tot R far).Perm (l ++ Tot R far') := of_cnt fun x => by
          have h1 := cnt_of hli.out.perm x
          rw [Tot.cnt]
          simp only [List.count_append, Tot.cnt] at h1 ⊢
          omega
        have hlen := hpt.length_eq
        rw [List.length_append] at hlen
        have hlT := Hi.out.lenT
        refine ⟨⟨Hi.out.cls.ring, fun t ht => Hi.out.cls.far t (hsub t ht)⟩, fun t ht => ?_, Hn.out, Hd.out, Hle.out, fun t ht => Hi.out.okT t (hpt.mem_iff.2 (List.mem_append_right l ht)), Ids.app_right (Hi.out.idsT.perm hpt), by omega, by decide⟩
        exact (hli.out.rest t ht).elim (fun h => by cases h) id
      have hll : l.length ≤ 256 := by
        have h1 := hli.out.perm.length_eq
        rw [List.length_append] at h1
        have h2 := Tot.len_far R far
        have h3 := Hi.out.lenT
        omega
      have htn := Lib.hid (turn_any W4 F G w now tb rs pf mf 256 R far' hm4 hok)
      have Hrow := Lib.hid hrow
      have Hg4 := Lib.hid hg4
      have Hg4s := Lib.hid hsz4
      have Hll := Lib.hid hll
      clear hrow hm4 hg4 hsz4 hok hll
      go_wp2_with fail
      refine htn.out.mono ?_
      rintro e W5 ⟨ao2, cap2, late, rfl, F', G', mf', n', R', far2, hm5, hrow2, hnF, hg5, hF5, hc5, hf5, hp5, hl5⟩
      have hadv := Hi.out.adv Hle.out hli.out hc5 hf5 hp5 hl5
      have hFb : ∀ i, F i → i < W3.heap.size + 1 := fun i hi => Nat.lt_succ_of_lt (Hm.out.bd i hi)
      have hrow5 := own_gr Hrow.out hg5 hFb
      have hll2 : late.length ≤ 256 := by
        have h1 := hp5.length_eq
        rw [List.length_append] at h1
        have h2 := hli.out.perm.length_eq
        rw [List.length_append] at h2
        have h3 : (Tot R far').length ≤ (Tot R far).length := by unfold Tot; simp only [List.length_append]; omega
        have h4 := Hi.out.lenT
        omega
      have hsl := Sl.of_own hrow2
      have hz5 : W3.heap.size + 1 ≤ W5.heap.size := Nat.le_trans Hg4s.out hg5.size
      have Hadv := Lib.hid hadv
      have Hrow5 := Lib.hid hrow5
      have Hm5 := Lib.hid hm5
      have Hg5 := Lib.hid hg5
      have HF5 := Lib.hid hF5
      have Hll2 := Lib.hid hll2
      have Hsl := Lib.hid hsl
      have Hz5 := Lib.hid hz5
      clear htn hadv hrow5 hm5 hg5 hF5 hll2 hsl hz5 hrow2 hnF hc5 hf5 hp5 hl5 hFb
      go_wp2_with (at_builtin; refine wpl_append_lie rfl (.tmp 23) (.tmp 26) thsT rfl (W3.heap.size + 1) thT infoTh Try.underlying35 rfl (by decide) (.slice ao l.length cap) l.length (thFlat l) rfl Hrow5.out _ _ _ _ rfl Hsl.out (ths_one late) ?_ ?_ ?_ ?_; (have := Hll.out; have := Hll2.out; unfold maxLen; omega); (have := Hll.out; have := Hll2.out; omega); exact Hz5.out; intro ao6 cap6 w6 hown6 hg6 hlie6)
      have hlen : (dueT X tb).length = l.length + late.length := by rw [← Hadv.out.2, Sta.srt_len, List.length_append]
      rw [← thFlat_two, ← List.length_append] at hown6
      have hnl : ∀ g, (Value.slice ao l.length cap).ownBlock = some g → ¬ F' g := fun g hg e => by
        have h1 := Hrow.out.lt g hg
        rcases HF5.out g e with h2 | h2
        · have := Hm.out.bd g h2; omega
        · omega
      have hn6 : ∀ g, (Value.slice ao6 (l.length + late.length) cap6).ownBlock = some g → ¬ F' g := fun g hg e => by
        rcases hlie6 g hg with h1 | h1
        · exact hnl g h1 e
        · have := Hm5.out.bd g e; omega
      rw [← List.length_append] at hn6
      have hst := sort_any w6 (fun _ => True) (.slice ao6 (l ++ late).length cap6) (l ++ late) ⟨own_base hown6 (Nat.zero_le _), fun _ _ => trivial⟩ (by have := Hll.out; have := Hll2.out; rw [List.length_append]; omega)
      rw [Hadv.out.2] at hst
      have hm6 := Hm5.out.kept hg6.size fun i hi => hg6.block i (Hm5.out.bd i hi) (fun e => hnl i e.symm hi)
      have hg36 : Gr F W3 w6 := ((Hg4.out.trans Hg5.out).after (Gr.one hg6 (fun x hx => hx) : Gr (fun i => (Value.slice ao l.length cap).ownBlock = some i) W5 w6) fun i hi => .inr (Nat.le_of_succ_le (Hrow.out.lt i hi).1))
      have Hst := Lib.hid hst
      have Hm6 := Lib.hid hm6
      have Hg36 := Lib.hid hg36
      have Hn6 := Lib.hid hn6
      have Ho6 := Lib.hid hown6
      have Hlen := Lib.hid hlen
      rw [← List.length_append]
      clear hst hm6 hg36 hn6 hown6 hlen hnl hg6 hlie6
      refine Hst.out.mono ?_
      rintro e W7 ⟨rfl, hr7, hg7⟩
      have hfin : Wst W3 F w tb (soonT X tb) W7 := by
        refine Wst.of (Hm6.out.kept hg7.size fun i hi => hg7.block i (Hm6.out.bd i hi) (fun e => Hn6.out i e.symm hi)) Hd.out Hadv.out.1 (Hg36.out.after (Gr.one hg7 (fun x hx => hx) : Gr (fun i => (Value.slice ao6 (l ++ late).length cap6).ownBlock = some i) w6 W7) fun i hi => .inr (Nat.le_of_succ_le (Ho6.out.lt i hi).1)) (fun i hi => (HF5.out i hi).imp id (fun x => Nat.le_trans (Nat.le_of_succ_le Hg4s.out) x))
      have hrow7 : W7.ownsRow W3.heap.size thT 3 (.slice ao6 (dueT X tb).length cap6) (dueT X tb).length (thFlat (dueT X tb)) := by
        have e : (l ++ late).length = (dueT X tb).length := by rw [Hlen.out, List.length_append]
        have h1 := hr7.own
        rw [e] at h1
        refine ⟨h1.1, ?_⟩
        rcases h1.2 with hn | ⟨g, c1, cur, he, hb, hh, rest⟩
        · exact .inl hn
        · refine .inr ⟨g, c1, cur, he, ?_, hh, rest⟩
          have := (Ho6.out.lt g (by rw [e, he]; rfl)).1
          omega
      have Hfin := Lib.hid hfin
      have Hrow7 := Lib.hid hrow7
      clear hfin hrow7 hr7 hg7
      go_wp2_with fail
      go_ret2
      rw [HE.out, HN.out, HX.out, HL.out]
      exact ⟨ao6, cap6, by rw [Hlen.out]; rfl, Hfin.out, Hrow7.out⟩
  · have His := Lib.hid (inst_no tb hd W2)
    have hE : advE now tb = 2 := by unfold advE; rw [if_neg hd]
    have hN : advN now tb = now := by unfold advN; rw [if_neg hd]
    have hX : advX now tb X = X := by unfold advX; rw [if_neg hd]
    have hL : advL now tb X = [] := by unfold advL; rw [if_neg hd]
    have HE := Lib.hid hE
    have HN := Lib.hid hN
    have HX := Lib.hid hX
    have HL := Lib.hid hL
    clear hE hN hX hL hd
    go_wp2_with fail
    refine His.out.mono ?_
    rintro e W3 ⟨rfl, hW3⟩
    subst hW3
    go_wp2_with fail
    go_ret2
    rw [HE.out, HN.out, HX.out, HL.out]
    exact ⟨none, 0, rfl, Hkeep.out, World.ownsRow_nil _ _ _ _⟩
end Go.Proofs.Ytedlplkomfiahaa
namespace Go.Proofs.Ytedlplkomfiahaa
set_option linter.unusedVariables false
set_option linter.unusedSimpArgs false
set_option linter.unusedSectionVars false
open Go Go.RowKit Go.Maps
def pk (k : Nat) (rs : Nat → Nat) (j : Nat) : Value := .pointer (if j < k then some ⟨rs j, 0, none⟩ else none)
/-- a wheel that is being made: k rings are there -/
structure Nst (W V : World) (w pf mf : Nat) (now : Int) (k : Nat) (rs lo hi : Nat → Nat) : Prop where
  blk : V.heap[w]? = some (.cells #[.int .i64 now, pk k rs 0, pk k rs 1, pk k rs 2, pk k rs 3, .pointer (some ⟨pf, 0, none⟩)] whT (0, 0))
  fblk : V.heap[pf]? = some (.cells #[.map (some mf)] faT (0, 0))
  map : V.ownsMap Try.prog 28 thElem mf 0 (.map [])
  ring : ∀ j, j < k → Rng V (fun i => lo j ≤ i ∧ i < hi j) (rs j) 0 []
  low : ∀ j, j < k → w < lo j ∧ pf < lo j ∧ mf < lo j ∧ hi j ≤ V.heap.size
  ord : ∀ i j, i < j → j < k → hi i ≤ lo j
  base : W.heap.size ≤ w ∧ W.heap.size ≤ pf ∧ W.heap.size ≤ mf
  bel : Below W.heap.size W V
theorem Nst.lt {W V : World} {w pf mf : Nat} {now : Int} {k : Nat} {rs lo hi : Nat → Nat} (h : Nst W V w pf mf now k rs lo hi) : w < V.heap.size ∧ pf < V.heap.size ∧ mf < V.heap.size := ⟨(Array.getElem?_eq_some_iff.1 h.blk).1, (Array.getElem?_eq_some_iff.1 h.fblk).1, h.map.lt⟩
theorem Nst.ne {W V : World} {w pf mf : Nat} {now : Int} {k : Nat} {rs lo hi : Nat → Nat} (h : Nst W V w pf mf now k rs lo hi) : w ≠ pf ∧ w ≠ mf := by
  obtain ⟨es, clock, h1, _⟩ := h.map
  refine ⟨fun e => ?_, fun e => ?_⟩
  · have a := h.blk; rw [e, h.fblk] at a
    simp only [Option.some.injEq, Obj.cells.injEq] at a
    exact absurd a.2.1 (by decide)
  · have a := h.blk; rw [e, h1] at a; cases a
theorem Nst.cell {W V : World} {w pf mf : Nat} {now : Int} {k : Nat} {rs lo hi : Nat → Nat} (h : Nst W V w pf mf now k rs lo hi) (hk : k < 4) : V.cell? ⟨w, 1 + k, none⟩ = some (.pointer none) ∧ V.frozen? ⟨w, 1 + k, none⟩ = false := by
  refine ⟨?_, block_free h.blk _⟩
  have a := block_cell h.blk (1 + k)
  rw [a]
  rcases (by omega : k = 0 ∨ k = 1 ∨ k = 2 ∨ k = 3) with rfl | rfl | rfl | rfl <;> simp [pk]
theorem Nst.below {W V V' : World} {w pf mf : Nat} {now : Int} {k : Nat} {rs lo hi : Nat → Nat} (h : Nst W V w pf mf now k rs lo hi) (hb : Below V.heap.size V V') : Nst W V' w pf mf now k rs lo hi := by
  obtain ⟨l1, l2, l3⟩ := h.lt
  obtain ⟨es, clock, h1, h2⟩ := h.map
  exact ⟨(hb.block w l1).trans h.blk, (hb.block pf l2).trans h.fblk, ⟨es, clock, (hb.block mf l3).trans h1, h2⟩, fun j hj => (h.ring j hj).below hb, fun j hj => by have := h.low j hj; have := hb.size; omega, h.ord, h.base, below_on h.bel hb (Nat.le_refl _)⟩
theorem Nst.step {W V V' : World} {w pf mf : Nat} {now : Int} {k : Nat} {rs lo hi : Nat → Nat} (h : Nst W V w pf mf now k rs lo hi) (hk : k < 4) (r : Nat) (hr : Rng V' (More (fun _ => False) V V') r 0 []) (hb : Below V.heap.size V V') :
    Nst W (V'.setCell ⟨w, 1 + k, none⟩ (.pointer (some ⟨r, 0, none⟩))) w pf mf now (k + 1) (updF rs k r) (updF lo k V.heap.size) (updF hi k V'.heap.size) := by
  have h' := h.below hb
  obtain ⟨l1, l2, l3⟩ := h.lt
  have hne := h.ne
  have hgs := grown_set V' w (1 + k) (.pointer (some ⟨r, 0, none⟩))
  have hs := block_set h'.blk (1 + k) (.pointer (some ⟨r, 0, none⟩))
  have hoth : ∀ i, i ≠ w → (V'.setCell ⟨w, 1 + k, none⟩ (.pointer (some ⟨r, 0, none⟩))).heap[i]? = V'.heap[i]? := fun i hi => heap_setCell_other V' ⟨w, 1 + k, none⟩ i _ hi
  have hsz := hgs.size
  have hbs := hb.size
  refine ⟨?_, (hoth pf (Ne.symm hne.1)).trans h'.fblk, ?_, fun j hj => ?_, fun j hj => ?_, fun i j hij hj => ?_, h.base, below_grown h'.bel hgs h.base.1 h'.bel.size⟩
  · rw [hs]
    rcases (by omega : k = 0 ∨ k = 1 ∨ k = 2 ∨ k = 3) with rfl | rfl | rfl | rfl <;> simp [pk, updF]
  · obtain ⟨es, clock, h1, h2⟩ := h'.map
    exact ⟨es, clock, (hoth mf (Ne.symm hne.2)).trans h1, h2⟩
  · by_cases e : j = k
    · subst e
      simp only [updF, if_true]
      refine (hr.kept hsz fun i hi => hoth i (fun e => ?_)).widen (fun i hi => hi.elim (fun x => x.elim) id) (fun i hi => Nat.lt_of_lt_of_le hi.2 hsz)
      rcases hi with x | x
      · exact x
      · omega
    · have hj2 : j < k := by omega
      have hlow := h.low j hj2
      simp only [updF, if_neg e]
      exact (h'.ring j hj2).kept hsz fun i hi => hoth i (by omega)
  · by_cases e : j = k
    · subst e
      simp only [updF, if_true]
      omega
    · have hlow := h.low j (by omega)
      simp only [updF, if_neg e]
      omega
  · by_cases e : j = k
    · subst e
      have hlow := h.low i hij
      simp only [updF, if_true, if_neg (Nat.ne_of_lt hij)]
      omega
    · have := h.ord i j hij (by omega)
      simp only [updF, if_neg e, if_neg (show ¬ i = k from by omega)]
      exact this
theorem Nst.done {W V : World} {w pf mf : Nat} {now : Int} {rs lo hi : Nat → Nat} (h : Nst W V w pf mf now 4 rs lo hi) (hn : Inst now) : Whl V (fun i => W.heap.size ≤ i ∧ i < V.heap.size) w now [] := by
  obtain ⟨l1, l2, l3⟩ := h.lt
  refine ⟨fun j i => lo j ≤ i ∧ i < hi j, rs, pf, mf, fun _ => [], [], ⟨?_, h.fblk, fun k hk => (h.ring k hk).mono (Nat.zero_le _), fun j k hj hk hne i hi => ?_, fun k hk i hi => ?_, fun k hk => ?_, ⟨h.base.1, l1⟩, ⟨h.base.2.1, l2⟩, ⟨h.base.2.2, l3⟩, fun i hi => hi.2, .map [], h.map.mono (Nat.zero_le _), MapL.nil⟩, hn, WheelIs.nil now⟩
  · have := h.blk
    simpa [pk] using this
  · rcases Nat.lt_or_gt_of_ne hne with x | x
    · have := h.ord j k x hk; omega
    · have := h.ord k j x hj; omega
  · have := h.low k hk; have := h.base; omega
  · have := h.low k hk; omega
theorem Nst.start (W V : World) (now : Int) (hV : V = ((W.alloc (.map #[] 0)).alloc (.cells #[.map (some W.heap.size)] faT)).alloc (.cells #[.int .i64 now, .pointer none, .pointer none, .pointer none, .pointer none, .pointer (some ⟨W.heap.size + 1, 0, none⟩)] whT)) (rs lo hi : Nat → Nat) :
    Nst W V (W.heap.size + 1 + 1) (W.heap.size + 1) W.heap.size now 0 rs lo hi := by
  have e1 : (W.alloc (.map #[] 0)).heap.size = W.heap.size + 1 := by simp
  have e2 : ((W.alloc (.map #[] 0)).alloc (.cells #[.map (some W.heap.size)] faT)).heap.size = W.heap.size + 1 + 1 := by simp
  have b1 := below_new W (.map #[] 0)
  have b2 := below_new (W.alloc (.map #[] 0)) (.cells #[.map (some W.heap.size)] faT)
  have b3 := below_new ((W.alloc (.map #[] 0)).alloc (.cells #[.map (some W.heap.size)] faT)) (.cells #[.int .i64 now, .pointer none, .pointer none, .pointer none, .pointer none, .pointer (some ⟨W.heap.size + 1, 0, none⟩)] whT)
  have n2 := heap_alloc_new (W.alloc (.map #[] 0)) (.cells #[.map (some W.heap.size)] faT)
  have n3 := heap_alloc_new ((W.alloc (.map #[] 0)).alloc (.cells #[.map (some W.heap.size)] faT)) (.cells #[.int .i64 now, .pointer none, .pointer none, .pointer none, .pointer none, .pointer (some ⟨W.heap.size + 1, 0, none⟩)] whT)
  have hm := World.ownsMap_made W Try.prog 28 thElem (H := Unit)
  rw [e1] at n2
  rw [e2] at n3
  rw [← hV] at b3 n3
  refine ⟨by simpa [pk] using n3, (b3.block _ (by omega)).trans n2, ?_, fun j hj => by omega, fun j hj => by omega, fun i j hij hj => by omega, ⟨by omega, by omega, Nat.le_refl _⟩, below_on (below_on b1 b2 (Nat.le_refl _)) b3 (Nat.le_refl _)⟩
  rw [hV]
  exact (hm.alloc _).alloc _
def WNewIs (W : World) (now : Int) (e : Ending) (W' : World) : Prop := ∃ w F, e = .returned (.pointer (some ⟨w, 0, none⟩)) ∧ Whl W' F w now [] ∧ (∀ i, F i → W.heap.size ≤ i) ∧ Below W.heap.size W W'
set_option maxRecDepth 100000 in
set_option maxHeartbeats 4000000 in
theorem wnew_any (W : World) (now : Int) (h : Inst now) : Calls Try.prog 32 #[.int .i64 now] W fun e W' => WNewIs W now e W' := by
  have His := Lib.hid (inst_yes now h W)
  have Hn := Lib.hid h
  have hmk := @run_makeMap Try.prog
  have hzr : ∀ w, (zeroValue whT).run Try.prog w = .ok (.agg #[.int .i64 0, .pointer none, .pointer none, .pointer none, .pointer none, .pointer none]) w := fun w => by kernel_rfl
  have hzf : ∀ w, (zeroValue faT).run Try.prog w = .ok (.agg #[.map none]) w := fun w => by kernel_rfl
  go_enter Try.func32, Try.ntmps32
  go_wp2_with fail
  refine His.out.mono ?_
  rintro e W2 ⟨rfl, hW2⟩
  subst hW2
  go_wp2_with fail
  obtain ⟨V0, hV0⟩ : ∃ V0, V0 = ((W2.alloc (.map #[] 0)).alloc (.cells #[.map (some W2.heap.size)] faT)).alloc (.cells #[.int .i64 now, .pointer none, .pointer none, .pointer none, .pointer none, .pointer (some ⟨W2.heap.size + 1, 0, none⟩)] whT) := ⟨_, rfl⟩
  have hns := Nst.start W2 V0 now hV0 (fun _ => 0) (fun _ => 0) (fun _ => 0)
  obtain ⟨mf, hmf⟩ : ∃ x, x = W2.heap.size := ⟨_, rfl⟩
  obtain ⟨pf, hpf⟩ : ∃ x, x = mf + 1 := ⟨_, rfl⟩
  obtain ⟨w, hw⟩ : ∃ x, x = pf + 1 := ⟨_, rfl⟩
  rw [← hV0, ← hmf, ← hpf, ← hw]
  rw [← hmf, ← hpf, ← hw] at hns
  have Hns := Lib.hid hns
  clear hns hV0 hmf hpf hw hmk hzr hzf His
  go_loopw [14] (fun u wr => ∃ (i : Nat) (rs lo hi : Nat → Nat), u = .int .i64 (i : Nat) ∧ i ≤ 4 ∧ Hid (Nst W2 wr w pf mf now i rs lo hi)) (fun u _ => 4 - (intOf u).toNat)
  case atStart => exact ⟨0, _, _, _, rfl, by omega, Hns⟩
  case round =>
    obtain ⟨i, rs, lo, hi, rfl, hi4, hst⟩ := hrel
    by_cases hil : i < 4
    · have x1 : (i : Int) < 4 := by omega
      have w1 := wrap_k i 3 (Nat.le_of_lt_succ hil) (by decide)
      have Hil := Lib.hid hil
      have hwl := hst.out.lt.1
      clear hi4
      go_upto_region 7 with fail
      go_region_law (go_simp; go_at_call 65; refine (new_ring _).mono ?_; rintro e V ⟨rfl, hR, hB⟩; obtain ⟨ck, fk⟩ := (hst.out.below (below_on (Below.refl _ _).drew hB (Nat.le_refl _))).cell Hil.out)
      have hst2 := (hst.out.below (Below.refl _ wr).drew).step Hil.out _ hR hB
      have Hst2 := Lib.hid hst2
      clear hst2 hR hB ck fk
      go_wp2_with fail
      go_roundw
      case rel => exact ⟨i + 1, _, _, _, by first | rfl | rw [w1]; rfl, Hil.out, Hst2⟩
      case measure =>
        first | rw [w1] | skip
        exact meas4 i Hil.out
    · obtain rfl : i = 4 := by omega
      have hfin := hst.out.done Hn.out
      have Hfin := Lib.hid hfin
      have Hbel := Lib.hid hst.out.bel
      have Hbs := Lib.hid hst.out.base
      clear hfin
      go_wp2_with fail
      go_ret
      exact ⟨w, _, rfl, Hfin.out, fun i hi => hi.1, Hbel.out⟩
end Go.Proofs.Ytedlplkomfiahaa
namespace Go.Proofs.Ytedlplkomfiahaa
set_option linter.unusedVariables false
set_option linter.unusedSimpArgs false
set_option linter.unusedSectionVars false
open Go Go.RowKit Go.Maps
/-- a wheel that the call made -/
structure Wo (W wr : World) (F : Nat → Prop) (w : Nat) (now : Int) (X : List Th) : Prop where
  whl : Whl wr F w now X
  up : ∀ i, F i → W.heap.size ≤ i
  bel : Below W.heap.size W wr
/-- behind a call that wrote it -/
def Wnx (W wr : World) (F : Nat → Prop) (w : Nat) (now : Int) (X : List Th) (W' : World) : Prop := ∃ F', Wo W W' F' w now X ∧ Gr F wr W' ∧ ∀ i, F' i → F i ∨ wr.heap.size ≤ i
section
variable {W wr wr' : World} {F : Nat → Prop} {w : Nat} {now : Int} {X : List Th}
theorem Wo.below (h : Wo W wr F w now X) (hb : Below wr.heap.size wr wr') : Wo W wr' F w now X := ⟨h.whl.below hb, h.up, below_on h.bel hb (Nat.le_refl _)⟩
theorem Wo.bd (h : Wo W wr F w now X) : ∀ i, F i → i < wr.heap.size := h.whl.bd
theorem Wo.st (h : Wo W wr F w now X) {now' : Int} {X' : List Th} (hs : Wst wr F w now' X' wr') : Wnx W wr F w now' X' wr' := by
  obtain ⟨F', h1, h2, h3⟩ := hs
  exact ⟨F', ⟨h1, fun i hi => (h3 i hi).elim (h.up i) (fun x => Nat.le_trans h.bel.size x), h.bel.trans (h2.above h.bel.size h.up)⟩, h2, h3⟩
theorem Wo.okX (h : Wo W wr F w now X) : Inst now ∧ Asc X ∧ Ids X ∧ (∀ t ∈ X, Inst t.due ∧ IdOk t.id) ∧ X.length ≤ 256 := by
  obtain ⟨G, rs, pf, mf, R, far, h1, h2, h3⟩ := h.whl
  exact ⟨h2, h3.asc, h3.ids, h3.ok, h3.len⟩
/-- what another one's call wrote -/
theorem Wo.beside {H : Nat → Prop} (h : Wo W wr F w now X) (hg : Gr H wr wr') (hd : ∀ i, F i → ¬ H i) (hH : ∀ i, H i → W.heap.size ≤ i) : Wo W wr' F w now X := ⟨h.whl.beside hg hd, h.up, h.bel.trans (hg.above h.bel.size hH)⟩
theorem arm_o (h : Wo W wr F w now X) (t : Th) (hw : IdOk t.id) :
    Calls Try.prog 38 #[.pointer (some ⟨w, 0, none⟩), thVal t] wr fun e W' => e = .returned (.int .i64 (armE X t)) ∧ Wnx W wr F w now (armX X t) W' := by
  refine (arm_any wr F w now X t h.whl hw).mono ?_
  rintro e W' ⟨rfl, hs⟩
  exact ⟨rfl, h.st hs⟩
theorem cancel_o (h : Wo W wr F w now X) (id : Int) (hw : IdOk id) :
    Calls Try.prog 34 #[.pointer (some ⟨w, 0, none⟩), .int .u64 id] wr fun e W' => CancelIs X id e ∧ Wnx W wr F w now (lessId X id) W' := by
  refine (cancel_any wr F w now X id h.whl hw).mono ?_
  rintro e W' ⟨he, hs⟩
  exact ⟨he, h.st hs⟩
theorem get_o (h : Wo W wr F w now X) (id : Int) (hw : IdOk id) :
    Calls Try.prog 48 #[.pointer (some ⟨w, 0, none⟩), .int .u64 id] wr fun e W' => CancelIs X id e ∧ Below wr.heap.size wr W' := by
  obtain ⟨G, rs, pf, mf, R, far, hm, hn, hi⟩ := h.whl
  refine (wget_any wr F G w now rs pf mf 256 R far id hm hw (by decide)).mono ?_
  rintro e W' ⟨hor, hb⟩
  refine ⟨?_, hb⟩
  rcases hor with ⟨t, ht, e1, e2⟩ | ⟨h4, e2⟩
  · exact .inl ⟨t, hi.perm.mem_iff.2 ht, e1, e2⟩
  · exact .inr ⟨fun u hu => h4 u (hi.perm.mem_iff.1 hu), e2⟩
theorem len_o (h : Wo W wr F w now X) :
    Calls Try.prog 37 #[.pointer (some ⟨w, 0, none⟩)] wr fun e W' => e = .returned (.int .i64 (X.length : Nat)) ∧ Below wr.heap.size wr W' := by
  obtain ⟨G, rs, pf, mf, R, far, hm, hn, hi⟩ := h.whl
  have hl := hi.lenT
  refine (wlen_any wr F G w now rs pf mf 256 R far hm (by omega)).mono ?_
  rintro e W' ⟨rfl, hb⟩
  exact ⟨by rw [hi.perm.length_eq], hb⟩
end
theorem new_o (W wr : World) (now : Int) (h : Inst now) (hb : Below W.heap.size W wr) : Calls Try.prog 32 #[.int .i64 now] wr fun e W' => ∃ w F, e = .returned (.pointer (some ⟨w, 0, none⟩)) ∧ Wo W W' F w now [] ∧ Below wr.heap.size wr W' ∧ ∀ i, F i → wr.heap.size ≤ i := by
  refine (wnew_any wr now h).mono ?_
  rintro e W' ⟨w, F, rfl, h1, h2, h3⟩
  exact ⟨w, F, rfl, ⟨h1, fun i hi => Nat.le_trans hb.size (h2 i hi), below_on hb h3 (Nat.le_refl _)⟩, h3, h2⟩
end Go.Proofs.Ytedlplkomfiahaa
namespace Go.Proofs.Ytedlplkomfiahaa
set_option linter.unusedVariables false
set_option linter.unusedSimpArgs false
set_option linter.unusedSectionVars false
open Go Go.RowKit Go.Maps
theorem Ids.inj {X : List Th} (h : Ids X) : ∀ s ∈ X, ∀ t ∈ X, s.id = t.id → s = t := by
  induction X with
  | nil => intro s hs; cases hs
  | cons x X ih =>
    have hp := List.pairwise_cons.1 h
    intro s hs t ht e
    rcases List.mem_cons.1 hs with h1 | h1
    · rcases List.mem_cons.1 ht with h2 | h2
      · rw [h1, h2]
      · exact absurd (by rw [← h1]; exact e) (hp.1 t h2)
    · rcases List.mem_cons.1 ht with h2 | h2
      · exact absurd (by rw [← h2]; exact e.symm) (hp.1 s h1)
      · exact ih hp.2 s h1 t h2 e
theorem Ids.nodup {X : List Th} (h : Ids X) : X.Nodup := List.Pairwise.imp (fun {a b} hne (e : a = b) => hne (by rw [e])) h
theorem ids_less {X : List Th} (h : Ids X) {t : Th} (ht : t ∈ X) : (lessId X t.id).length + 1 = X.length := by
  have := (perm_less h.inj h.nodup ht).length_eq
  simpa using this.symm
theorem armX_in {X : List Th} {t : Th} (hd : Inst t.due) (hn : ∀ u ∈ X, u.id ≠ t.id) (hl : X.length < 256) : armE X t = 0 ∧ armX X t = insT X t := by
  have hne : ¬ ∃ u ∈ X, u.id = t.id := fun ⟨u, hu, e⟩ => hn u hu e
  constructor
  · unfold armE; rw [if_pos hd, if_neg hne, if_neg (by omega)]
  · unfold armX; rw [if_pos hd, if_neg hne, if_neg (by omega)]
theorem insT_mem {X : List Th} {t u : Th} : u ∈ insT X t ↔ u ∈ X ∨ u = t := by
  unfold insT
  rw [(Sta.srt_perm thLe (X ++ [t])).mem_iff]
  simp
theorem insT_len (X : List Th) (t : Th) : (insT X t).length = X.length + 1 := by
  unfold insT
  rw [Sta.srt_len]; simp
/-- ids 0 .. i - 1 -/
def Upto (X : List Th) (i : Nat) : Prop := X.length = i ∧ ∀ j : Int, (∃ u ∈ X, u.id = j) ↔ 0 ≤ j ∧ j < (i : Int)
theorem Upto.put {X : List Th} {i : Nat} (h : Upto X i) (g d : Int) : Upto (insT X ⟨(i : Nat), g, d⟩) (i + 1) := by
  refine ⟨by rw [insT_len, h.1], fun j => ?_⟩
  constructor
  · rintro ⟨u, hu, e⟩
    rcases insT_mem.1 hu with h1 | h1
    · have := (h.2 j).1 ⟨u, h1, e⟩; omega
    · subst h1; simp only at e; omega
  · intro hj
    by_cases e : j = (i : Int)
    · exact ⟨_, insT_mem.2 (.inr rfl), e.symm⟩
    · obtain ⟨u, hu, e2⟩ := (h.2 j).2 (by omega)
      exact ⟨u, insT_mem.2 (.inl hu), e2⟩
end Go.Proofs.Ytedlplkomfiahaa
namespace Go.Proofs.Ytedlplkomfiahaa
set_option linter.unusedVariables false
set_option linter.unusedSimpArgs false
set_option linter.unusedSectionVars false
open Go Go.ChangeShapes Go.WideShapes Go.ChangeAt Go.RowKit
theorem u8_list (zs : List Int) (h : ∀ n ∈ zs, (Lit.int .u8 n).wf = true) : zs.map (Value.int .u8) = (zs.map fun z => UInt8.ofNat z.toNat).map u8 := by
  rw [List.map_map]
  apply List.map_congr_left
  intro z hz
  have := bounds_u8 (h z hz)
  simp only [Function.comp, u8]
  congr 1
  simp only [UInt8.toNat_ofNat', Nat.reducePow]
  omega
theorem bs_of {w : World} {a : Option Addr} {len cap : Nat} {zs : List Int} (hl : len ≤ cap) (hm : cap ≤ maxLen) (hz : zs.length = cap) (hw : ∀ n ∈ zs, (Lit.int .u8 n).wf = true) (hn : a = none → cap = 0)
    (hc : ∀ x, a = some x → ∀ i, i < cap → w.cell? (x.add i) = some (.int .u8 (zs.getD i 0))) : ∃ l : List UInt8, len = l.length ∧ Bs w a cap l := by
  have hw' : ∀ n ∈ zs.take len, (Lit.int .u8 n).wf = true := fun n hn => hw n (List.mem_of_mem_take hn)
  refine ⟨(zs.take len).map fun z => UInt8.ofNat z.toNat, by simp; omega, ?_⟩
  unfold Bs
  rw [← u8_list _ hw']
  have hlen : (List.map (fun z => UInt8.ofNat z.toNat) (List.take len zs)).length = len := by simp; omega
  rw [hlen]
  refine ⟨by simp; omega, hl, hm, hn, fun j u hu => ?_⟩
  rw [List.getElem?_map] at hu
  have hj : j < len := by
    apply Classical.byContradiction
    intro h
    rw [List.getElem?_eq_none (by simp; omega)] at hu
    cases hu
  cases a with
  | none => have := hn rfl; omega
  | some x =>
    have h0 := hc x rfl 0 (by omega)
    obtain ⟨b, off, sp⟩ := x
    have hsp : sp = none := by simpa [Addr.add] using World.cell?_spot h0
    subst hsp
    refine ⟨b, off, rfl, ?_⟩
    have h1 := hc _ rfl j (by omega)
    rw [Addr.add_none] at h1
    rw [h1, ← hu, List.getElem?_take, if_pos hj, List.getElem?_eq_getElem (by omega)]
    simp [List.getD, List.getElem?_eq_getElem (show j < zs.length by omega)]
section
variable {H : Type} {enc : TypeId × Value → H} {P : Program} {w : World} {base : Nat} {held : Bool}
theorem open_bs {t e : TypeId} {fuel : Nat} {ao : Option Addr} {len cap : Nat} {x : DataW H × List MemPlace} (ht : P.underlying t = some (.slice e)) (he : P.underlying e = some (.int .u8)) (ce : P.cellsOf e = 1)
    (h : DataW.trod enc P w base (fun _ => true) held fuel t (Value.slice ao len cap).cells.toList = some x) : ∃ l : List UInt8, len = l.length ∧ Bs w ao cap l := by
  rcases open_ints ht he ce h with ⟨hcs, _⟩ | ⟨a, l, c, zs, hcs, _, hl, hm, hz, _, hcell, hwz⟩
  · simp [Value.cells] at hcs
    obtain ⟨rfl, rfl, rfl⟩ := hcs
    exact ⟨[], rfl, by simp, by simp, by decide, fun _ => rfl, fun j u hu => by simp at hu⟩
  · simp [Value.cells] at hcs
    obtain ⟨rfl, rfl, rfl⟩ := hcs
    simp only [if_true] at hz
    refine bs_of hl hm hz hwz (by simp) fun x hx i hi => ?_
    simp only [Option.some.injEq] at hx
    subst hx
    exact hcell i (by omega)
end
end Go.Proofs.Ytedlplkomfiahaa
namespace Go.Proofs.Ytedlplkomfiahaa
set_option linter.unusedVariables false
set_option linter.unusedSimpArgs false
set_option linter.unusedSectionVars false
open Go Go.ChangeShapes Go.WideShapes Go.ChangeAt Go.RowKit Go.Deep
theorem rows_len {α : Type} {cells : α → List Value} {k : Nat} (hl : ∀ a, (cells a).length = k) (l : List α) : (l.map cells).flatten.length = l.length * k := by
  induction l with
  | nil => simp
  | cons a l ih => simp only [List.map_cons, List.flatten_cons, List.length_append, ih, hl, List.length_cons, Nat.succ_mul]; omega
/-- what a cell of rows is -/
theorem rows_get {α : Type} {cells : α → List Value} {k : Nat} (hl : ∀ a, (cells a).length = k) (hk : 0 < k) (l : List α) (j : Nat) (u : Value) (h : (l.map cells).flatten[j]? = some u) :
    ∃ (hi : j / k < l.length), (cells l[j / k])[j % k]? = some u := by
  have hj : j < (l.map cells).flatten.length := (List.getElem?_eq_some_iff.1 h).1
  rw [rows_len hl] at hj
  have hi : j / k < l.length := Nat.div_lt_of_lt_mul (by rw [Nat.mul_comm]; exact hj)
  refine ⟨hi, ?_⟩
  have hm : j % k < k := Nat.mod_lt _ hk
  have := flatten_get (rows := l.map cells) (k := k) (by intro r hr; obtain ⟨x, _, rfl⟩ := List.mem_map.1 hr; exact hl x) (j / k) (j % k) (by simpa using hi) (by simp [hl]; exact hm)
  rw [show j / k * k + j % k = j from by rw [Nat.mul_comm]; exact Nat.div_add_mod j k, h] at this
  rw [this, List.getElem?_eq_getElem (by rw [hl]; exact hm)]
  simp
section
variable {H : Type} {enc : TypeId × Value → H} {P : Program} {w : World} {base : Nat} {held : Bool}
theorem open_rows {α : Type} [Inhabited α] (cells : α → List Value) (good : α → Prop) {k : Nat} (hl : ∀ a, (cells a).length = k) (hk : 0 < k) {t e : TypeId} {fuel : Nat} {ao : Option Addr} {len cap : Nat} {x : DataW H × List MemPlace}
    (ht : P.underlying t = some (.slice e)) (hC : P.cellsOf e = k)
    (hrow : ∀ (n : Nat) (cs : List Value) (y : DataW H × List MemPlace), cs.length = k → DataW.trod enc P w base (fun _ => true) held n e cs = some y → ∃ a, cs = cells a ∧ good a)
    (h : DataW.trod enc P w base (fun _ => true) held fuel t (Value.slice ao len cap).cells.toList = some x) : ∃ l : List α, len = l.length ∧ Sl w k ao l.length cap (l.map cells).flatten ∧ ∀ a ∈ l, good a := by
  rcases open_slice ht h with ⟨hcs, _⟩ | ⟨a, len', cap', m, n, D, Pl, hcs, _, hle, hmax, hmm, _, hx⟩
  · simp [Value.cells] at hcs
    obtain ⟨rfl, rfl, rfl⟩ := hcs
    exact ⟨[], rfl, ⟨by simp, by simp, by decide, fun _ => rfl, fun j u hu => by simp at hu⟩, by simp⟩
  · simp [Value.cells] at hcs
    obtain ⟨rfl, rfl, rfl⟩ := hcs
    simp only [if_true] at hmm
    subst hmm
    have each : ∀ i, i < len → ∃ q : α, (∀ j, j < k → w.cell? (a.add (i * k + j)) = (cells q)[j]?) ∧ good q := by
      intro i hi
      obtain ⟨cs', h1, h2⟩ := hx i (by omega)
      rw [hC] at h1
      obtain ⟨_, hlen, hcell⟩ := World.cells?_some h1
      obtain ⟨q, rfl, hq⟩ := hrow _ _ _ hlen h2
      refine ⟨q, fun j hj => ?_, hq⟩
      rw [← add_add]; exact hcell j hj
    obtain ⟨y, hy⟩ := choose_lt each
    refine ⟨(List.range len).map y, by simp, ⟨by simpa using rows_len hl ((List.range len).map y), by simpa using hle, hmax, by simp, fun j u hu => ?_⟩, ?_⟩
    · obtain ⟨hi, hu'⟩ := rows_get hl hk _ j u hu
      have hi' : j / k < len := by simpa using hi
      have hm : j % k < k := Nat.mod_lt _ hk
      have hc := (hy _ hi').1 _ hm
      rw [show j / k * k + j % k = j from by rw [Nat.mul_comm]; exact Nat.div_add_mod j k] at hc
      simp only [List.getElem_map, List.getElem_range] at hu'
      rw [hu'] at hc
      obtain ⟨b, off, sp⟩ := a
      have hcz := (hy 0 (Nat.lt_of_le_of_lt (Nat.zero_le _) hi')).1 0 hk
      rw [List.getElem?_eq_getElem (by rw [hl]; exact hk)] at hcz
      have hsp : sp = none := by simpa [Addr.add] using World.cell?_spot hcz
      subst hsp
      refine ⟨b, off, rfl, ?_⟩
      rwa [Addr.add_none] at hc
    · intro q hq
      obtain ⟨i, hi, rfl⟩ := List.mem_map.1 hq
      exact (hy i (List.mem_range.1 hi)).2
theorem row_ints3 {k0 k1 k2 : IntKind} {e : TypeId} {f0 f1 f2 : Field} (he : P.underlying e = some (.struct #[f0, f1, f2])) (hone : oneCellFields P #[f0, f1, f2] = true) (hC : P.cellsOf e = 3)
    (u0 : P.underlying f0.type = some (.int k0)) (u1 : P.underlying f1.type = some (.int k1)) (u2 : P.underlying f2.type = some (.int k2)) (n : Nat) (cs : List Value) (y : DataW H × List MemPlace) (hcs : cs.length = 3)
    (h : DataW.trod enc P w base (fun _ => true) held n e cs = some y) : ∃ a : Int × Int × Int, cs = [.int k0 a.1, .int k1 a.2.1, .int k2 a.2.2] ∧ (Lit.int k0 a.1).wf = true ∧ (Lit.int k1 a.2.1).wf = true ∧ (Lit.int k2 a.2.2).wf = true := by
  obtain ⟨o0, c0⟩ := hone_of hone 0 f0 rfl
  obtain ⟨o1, c1⟩ := hone_of hone 1 f1 rfl
  obtain ⟨o2, c2⟩ := hone_of hone 2 f2 rfl
  match cs, hcs with
  | [v0, v1, v2], _ =>
    obtain ⟨y0, y1, y2, m, _, _, h0, h1, h2⟩ := trod_struct3 he h
    rw [o0, c0] at h0
    rw [o1, c1] at h1
    rw [o2, c2] at h2
    simp at h0 h1 h2
    obtain ⟨n0, e0, _, w0⟩ := DataW.trod_int u0 h0
    obtain ⟨n1, e1, _, w1⟩ := DataW.trod_int u1 h1
    obtain ⟨n2, e2, _, w2⟩ := DataW.trod_int u2 h2
    simp only [List.cons.injEq, and_true] at e0 e1 e2
    subst e0; subst e1; subst e2
    exact ⟨(n0, n1, n2), rfl, w0, w1, w2⟩
end
/-- a slice of structs of three integers, read -/
abbrev I3 := Int × Int × Int
def i3 (k0 k1 k2 : IntKind) (a : I3) : List Value := [.int k0 a.1, .int k1 a.2.1, .int k2 a.2.2]
def I3s (w : World) (k0 k1 k2 : IntKind) (ao : Option Addr) (cap : Nat) (l : List I3) : Prop := Sl w 3 ao l.length cap (l.map (i3 k0 k1 k2)).flatten
theorem I3s.get {w : World} {k0 k1 k2 : IntKind} {ao : Option Addr} {cap : Nat} {l : List I3} (h : I3s w k0 k1 k2 ao cap l) (k : Nat) (hk : k < l.length) :
    ∃ b off, ao = some ⟨b, off, none⟩ ∧ w.cell? ⟨b, off + k * 3, none⟩ = some (.int k0 l[k].1) ∧ w.cell? ⟨b, off + k * 3 + 1, none⟩ = some (.int k1 l[k].2.1) ∧ w.cell? ⟨b, off + k * 3 + 2, none⟩ = some (.int k2 l[k].2.2) := by
  have key : ∀ j (hj : j < 3), (l.map (i3 k0 k1 k2)).flatten[k * 3 + j]? = (i3 k0 k1 k2 l[k])[j]? := by
    intro j hj
    have := flatten_get (rows := l.map (i3 k0 k1 k2)) (k := 3) (by intro r hr; obtain ⟨x, _, rfl⟩ := List.mem_map.1 hr; rfl) k j (by simpa using hk) (by simpa [i3] using hj)
    rw [this, List.getElem?_eq_getElem (by simpa [i3] using hj)]
    simp
  obtain ⟨b, off, e, c0⟩ := h.cell _ _ (key 0 (by omega))
  obtain ⟨b1, off1, e1, c1⟩ := h.cell _ _ (key 1 (by omega))
  obtain ⟨b2, off2, e2, c2⟩ := h.cell _ _ (key 2 (by omega))
  rw [e] at e1 e2
  simp only [Option.some.injEq, Addr.mk.injEq] at e1 e2
  obtain ⟨rfl, rfl, -⟩ := e1
  obtain ⟨rfl, rfl, -⟩ := e2
  exact ⟨b, off, e, by simpa using c0, by rw [Nat.add_assoc]; exact c1, by rw [Nat.add_assoc]; exact c2⟩
theorem I3s.below {w w' : World} {k0 k1 k2 : IntKind} {ao : Option Addr} {cap : Nat} {l : List I3} (h : I3s w k0 k1 k2 ao cap l) (hb : Below w.heap.size w w') : I3s w' k0 k1 k2 ao cap l := Sl.below h hb
end Go.Proofs.Ytedlplkomfiahaa
namespace Go.Proofs.Ytedlplkomfiahaa
set_option linter.unusedVariables false
set_option linter.unusedSimpArgs false
set_option linter.unusedSectionVars false
open Go Go.ChangeShapes Go.WideShapes Go.ChangeAt Go.RowKit Go.Deep
instance : Inhabited Th := ⟨⟨0, 0, 0⟩⟩
def ThOk (t : Th) : Prop := (Lit.int .u64 t.id).wf = true ∧ (Lit.int .u64 t.gen).wf = true ∧ (Lit.int .i64 t.due).wf = true
theorem ThOk.id {t : Th} (h : ThOk t) : IdOk t.id := by
  have := h.1
  simp [Lit.wf, IntKind.min, IntKind.max, IntKind.signed, IntKind.bits] at this
  exact ⟨this.1, by omega⟩
theorem ThOk.due {t : Th} (h : ThOk t) : -9223372036854775808 ≤ t.due ∧ t.due ≤ 9223372036854775807 := by
  have := h.2.2
  simp [Lit.wf, IntKind.min, IntKind.max, IntKind.signed, IntKind.bits] at this
  exact ⟨by omega, by omega⟩
set_option maxRecDepth 100000 in
theorem th_row {H : Type} {enc : TypeId × Value → H} {w : World} {base : Nat} {held : Bool} (n : Nat) (cs : List Value) (y : DataW H × List MemPlace) (hcs : cs.length = 3)
    (h : DataW.trod enc Try.prog w base (fun _ => true) held n 32 cs = some y) : ∃ t : Th, cs = thCells t ∧ ThOk t := by
  obtain ⟨a, e, w0, w1, w2⟩ := row_ints3 Try.underlying32 (by kernel_rfl) (by kernel_rfl) Try.underlying28 Try.underlying28 Try.underlying2 n cs y hcs h
  exact ⟨⟨a.1, a.2.1, a.2.2⟩, e, w0, w1, w2⟩
set_option maxRecDepth 100000 in
theorem open_ths {H : Type} {enc : TypeId × Value → H} {w : World} {base : Nat} {held : Bool} {fuel : Nat} {ao : Option Addr} {len cap : Nat} {x : DataW H × List MemPlace}
    (h : DataW.trod enc Try.prog w base (fun _ => true) held fuel 35 (Value.slice ao len cap).cells.toList = some x) : ∃ l : List Th, len = l.length ∧ Sl w 3 ao l.length cap (thFlat l) ∧ ∀ a ∈ l, ThOk a :=
  open_rows thCells ThOk (fun _ => rfl) (by decide) Try.underlying35 (by kernel_rfl) th_row h
end Go.Proofs.Ytedlplkomfiahaa
namespace Go.Proofs.Ytedlplkomfiahaa
set_option linter.unusedVariables false
set_option linter.unusedSimpArgs false
set_option linter.unusedSectionVars false
open Go Go.RowKit Go.Maps
section
variable {W wr wr' : World} {F : Nat → Prop} {w : Nat} {now : Int} {X : List Th}
theorem adv_r (h : Wo W wr F w now X) (tb : Int) :
    Calls Try.prog 35 #[.pointer (some ⟨w, 0, none⟩), .int .i64 tb] wr fun e W' => ∃ ao cap, e = .returned (.tuple #[.slice ao (advL now tb X).length cap, .int .i64 (advE now tb)]) ∧ Wnx W wr F w (advN now tb) (advX now tb X) W' ∧ W'.ownsRow wr.heap.size thT 3 (.slice ao (advL now tb X).length cap) (advL now tb X).length (thFlat (advL now tb X)) := by
  refine (adv_any wr F w now tb X h.whl).mono ?_
  rintro e W' ⟨ao, cap, rfl, hs, hrow⟩
  exact ⟨ao, cap, rfl, h.st hs, hrow⟩
end
/-- two wheels that the call made, apart from each other -/
structure Two (W wr : World) (F G : Nat → Prop) (v w : Nat) (a b : Int) (X Y : List Th) : Prop where
  fst : Wo W wr F v a X
  snd : Wo W wr G w b Y
  apart : ∀ i, F i → ¬ G i
section
variable {W wr wr' : World} {F G : Nat → Prop} {v w : Nat} {a b : Int} {X Y : List Th}
theorem Two.below (h : Two W wr F G v w a b X Y) (hb : Below wr.heap.size wr wr') : Two W wr' F G v w a b X Y := ⟨h.fst.below hb, h.snd.below hb, h.apart⟩
theorem Two.left {a' : Int} {X' : List Th} (h : Two W wr F G v w a b X Y) (hn : Wnx W wr F v a' X' wr') : ∃ F', Two W wr' F' G v w a' b X' Y ∧ Gr F wr wr' ∧ ∀ i, F' i → F i ∨ wr.heap.size ≤ i := by
  obtain ⟨F', h1, h2, h3⟩ := hn
  refine ⟨F', ⟨h1, h.snd.beside h2 (fun i hg hf => h.apart i hf hg) h.fst.up, fun i hi hg => ?_⟩, h2, h3⟩
  rcases h3 i hi with e | e
  · exact h.apart i e hg
  · have := h.snd.bd i hg; omega
theorem Two.right {b' : Int} {Y' : List Th} (h : Two W wr F G v w a b X Y) (hn : Wnx W wr G w b' Y' wr') : ∃ G', Two W wr' F G' v w a b' X Y' ∧ Gr G wr wr' ∧ ∀ i, G' i → G i ∨ wr.heap.size ≤ i := by
  obtain ⟨G', h1, h2, h3⟩ := hn
  refine ⟨G', ⟨h.fst.beside h2 h.apart h.snd.up, h1, fun i hf hg => ?_⟩, h2, h3⟩
  rcases h3 i hg with e | e
  · exact h.apart i hf e
  · have := h.fst.bd i hf; omega
end
end Go.Proofs.Ytedlplkomfiahaa
namespace Go.Proofs.Ytedlplkomfiahaa
set_option linter.unusedVariables false
set_option linter.unusedSimpArgs false
set_option linter.unusedSectionVars false
open Go Go.RowKit Go.Maps Go.Deep
def slot0 (X : List Th) : RLs := X.map (fun t => (t, 0))
theorem slot0_len (X : List Th) : (slot0 X).length = X.length := by simp [slot0]
theorem slot0_get (X : List Th) (i : Nat) (hi : i < X.length) : (slot0 X)[i]'(by rw [slot0_len]; exact hi) = (X[i], 0) := by simp [slot0]
theorem rx_cells {W : World} {ao : Option Addr} {cap : Nat} {X : List Th} (h : Rt W ao cap (slot0 X)) (i : Nat) (hi : i < X.length) : ∃ b off, ao = some ⟨b, off, .none⟩ ∧ b < W.heap.size ∧
    W.cell? ⟨b, off + i * 4, none⟩ = some (.int .u64 X[i].id) ∧ W.cell? ⟨b, off + i * 4 + 1, none⟩ = some (.int .u64 X[i].gen) ∧ W.cell? ⟨b, off + i * 4 + 2, none⟩ = some (.int .i64 X[i].due) ∧ W.cell? ⟨b, off + i * 4 + 3, none⟩ = some (.int .i64 0) := by
  obtain ⟨b, off, e, hb, c0, c1, c2, c3⟩ := Rt.cells h i (by rw [slot0_len]; exact hi)
  rw [slot0_get X i hi] at c0 c1 c2 c3
  exact ⟨b, off, e, hb, c0, c1, c2, c3⟩
theorem ldI {W : World} {b o : Nat} {x : Int} (h : W.cell? ⟨b, o, none⟩ = some (.int .i64 x)) : (Instr.loadAt 2 (.pointer (some ⟨b, o, none⟩))).run Try.prog W = .ok (.int .i64 x) W := by go_simp
theorem ldS {W : World} {b o : Nat} {ao : Option Addr} {n cap : Nat} (h : W.cell? ⟨b, o, none⟩ = some (.slice ao n cap)) : (Instr.loadAt rtsT (.pointer (some ⟨b, o, none⟩))).run Try.prog W = .ok (.slice ao n cap) W := by go_simp
end Go.Proofs.Ytedlplkomfiahaa
namespace Go.Proofs.Ytedlplkomfiahaa
set_option linter.unusedVariables false
set_option linter.unusedSimpArgs false
set_option linter.unusedSectionVars false
open Go Go.RowKit Go.Maps Go.Deep
theorem own_rt (w : World) (base : Nat) (p : Th × Nat) (hb : base ≤ w.heap.size) : (w.alloc (.cells #[.int .u64 p.1.id, .int .u64 p.1.gen, .int .i64 p.1.due, .int .i64 (p.2 : Nat)] rtT)).ownsRow base rtT 4 (.slice (some ⟨w.heap.size, 0, .none⟩) 1 1) 1 (rtFlat [p]) :=
  ⟨by simp [rtFlat, rtCells], .inr ⟨w.heap.size, 1, _, rfl, hb, heap_alloc_new w _, Nat.le_refl _, by unfold maxLen; omega, by simp, by simp [rtFlat, rtCells]⟩⟩
def Lie (W : World) (a : Option Addr) : Prop := ∀ x, a = some x → W.heap.size ≤ x.block
theorem rx_own {W : World} {E : Nat} {ao : Option Addr} {cap n : Nat} {l : RLs} (h : W.ownsRow E rtT 4 (.slice ao n cap) n (rtFlat l)) (hn : l.length = n) : Rt W ao cap l := by
  subst hn; exact Rt.of_own h
end Go.Proofs.Ytedlplkomfiahaa
namespace Go.Proofs.Ytedlplkomfiahaa
set_option linter.unusedVariables false
set_option linter.unusedSimpArgs false
set_option linter.unusedSectionVars false
open Go Go.RowKit Go.Maps Go.Deep
theorem sets_up {W V : World} {b : Nat} (h : Below W.heap.size W V) (hb : W.heap.size ≤ b) (i : Nat) (v : Value) : Below W.heap.size W (V.setCell ⟨b, i, none⟩ v) := below_grown h (grown_set V b i v) hb h.size
end Go.Proofs.Ytedlplkomfiahaa
namespace Go.Proofs.Ytedlplkomfiahaa
set_option linter.unusedVariables false
set_option linter.unusedSimpArgs false
set_option linter.unusedSectionVars false
open Go Go.RowKit Go.Maps Go.Deep
theorem bx_below {W V : World} {b : Nat} {o : Obj} (hb : Below W.heap.size W V) (h : W.heap[b]? = some o) : V.heap[b]? = some o := (hb.block b (Array.getElem?_eq_some_iff.1 h).1).trans h
end Go.Proofs.Ytedlplkomfiahaa
namespace Go.Proofs.Ytedlplkomfiahaa
set_option linter.unusedVariables false
set_option linter.unusedSimpArgs false
set_option linter.unusedSectionVars false
open Go Go.ChangeShapes Go.WideShapes Go.ChangeAt Go.RowKit Go.Deep
/-- a call of a wheel -/
structure WOp where
  kind : Int
  t : Th
deriving Inhabited
def wopCells (o : WOp) : List Value := [.int .i64 o.kind, .int .u64 o.t.id, .int .u64 o.t.gen, .int .i64 o.t.due]
def WOps (w : World) (ao : Option Addr) (cap : Nat) (l : List WOp) : Prop := Sl w 4 ao l.length cap (l.map wopCells).flatten
section
variable {H : Type} {enc : TypeId × Value → H} {w : World} {base : Nat} {held : Bool}
end
theorem WOps.get {w : World} {ao : Option Addr} {cap : Nat} {l : List WOp} (h : WOps w ao cap l) (i : Nat) (hi : i < l.length) :
    ∃ b off, ao = some ⟨b, off, none⟩ ∧ ∀ j (hj : j < 4), w.cell? ⟨b, off + i * 4 + j, none⟩ = some ((wopCells l[i])[j]'hj) := by
  have key : ∀ j (hj : j < 4), (l.map wopCells).flatten[i * 4 + j]? = some ((wopCells l[i])[j]'hj) := by
    intro j hj
    have := flatten_get (rows := l.map wopCells) (k := 4) (by intro r hr; obtain ⟨x, _, rfl⟩ := List.mem_map.1 hr; rfl) i j (by simpa using hi) (by rw [List.getElem_map]; exact hj)
    rw [this]; simp only [List.getElem_map]; rfl
  obtain ⟨b, off, e, _⟩ := h.cell _ _ (key 0 (by decide))
  refine ⟨b, off, e, fun j hj => ?_⟩
  obtain ⟨b', off', e', hc⟩ := h.cell _ _ (key j hj)
  rw [e] at e'
  simp only [Option.some.injEq, Addr.mk.injEq] at e'
  obtain ⟨rfl, rfl, -⟩ := e'
  rw [Nat.add_assoc]; exact hc
theorem WOps.below {w w' : World} {ao : Option Addr} {cap : Nat} {l : List WOp} (h : WOps w ao cap l) (hb : Below w.heap.size w w') : WOps w' ao cap l := Sl.below h hb
end Go.Proofs.Ytedlplkomfiahaa
namespace Go.Proofs.Ytedlplkomfiahaa
set_option linter.unusedVariables false
set_option linter.unusedSimpArgs false
set_option linter.unusedSectionVars false
open Go Go.RowKit Go.Maps Go.Deep
/-- the reference's row lies in no block of the wheel -/
def RAp (W : World) (F : Nat → Prop) (ao : Option Addr) : Prop := ∀ a, ao = some a → a.block < W.heap.size ∧ ¬ F a.block
theorem rt_gr {W W' : World} {F : Nat → Prop} {ao : Option Addr} {cap : Nat} {l : RLs} (h : Rt W ao cap l) (hg : Gr F W W') (hA : RAp W F ao) : Rt W' ao cap l := by
  refine ⟨h.num, h.each, ⟨h.sl.len, h.sl.le, h.sl.max, h.sl.none, fun j u hu => ?_⟩, fun b off s e => ?_⟩
  · obtain ⟨b, off, e, hc⟩ := h.sl.cell j u hu
    have := hA _ e
    exact ⟨b, off, e, (World.cell?_of_block (a := ⟨b, off + j, none⟩) (hg.block _ this.1 this.2)).trans hc⟩
  · have := hA _ e
    have ht := h.typ b off s e
    unfold elem? at ht ⊢
    rw [hg.block _ this.1 this.2]; exact ht
theorem Rt.lt {W : World} {ao : Option Addr} {cap : Nat} {l : RLs} (h : Rt W ao cap l) : ∀ a, ao = some a → a.block < W.heap.size := fun a e => by
  obtain ⟨b, off, s⟩ := a
  have ht := h.typ b off s e
  unfold elem? at ht
  cases hx : W.heap[b]? with
  | none => rw [hx] at ht; cases ht
  | some o => exact (Array.getElem?_eq_some_iff.1 hx).1
/-- where a new row lies -/
theorem RAp.new {W V Z : World} {F : Nat → Prop} {ao a : Option Addr} {cap : Nat} {l : RLs} (h : RAp W F ao) (hbd : ∀ i, F i → i < W.heap.size) (hV : W.heap.size ≤ V.heap.size) (hli : a = ao ∨ Lie V a) (hr : Rt Z a cap l) : RAp Z F a := fun x e => by
  refine ⟨hr.lt x e, fun hF => ?_⟩
  rcases hli with rfl | hli
  · exact (h x e).2 hF
  · have h1 := hbd _ hF
    have h2 := hli x e
    omega
theorem RAp.up {W W' : World} {F : Nat → Prop} {ao : Option Addr} (h : RAp W F ao) (hs : W.heap.size ≤ W'.heap.size) : RAp W' F ao := fun a e => ⟨Nat.lt_of_lt_of_le (h a e).1 hs, (h a e).2⟩
theorem eq_th (x : Th) (V : World) : (binOp .eql thT (thVal x) (thVal x)).run Try.prog V = .ok (.bool true) V := by
  unfold thVal
  rw [run_eql_struct, eqin_th]
  simp [Result.andThen]
theorem ldTb {W : World} {b : Nat} (t : Th) (h : W.heap[b]? = some (.cells #[.int .u64 t.id, .int .u64 t.gen, .int .i64 t.due] thT (0, 0))) : (Instr.loadAt thT (.pointer (some ⟨b, 0, none⟩))).run Try.prog W = .ok (thVal t) W := by
  obtain ⟨e0, e1, e2, -, -, -⟩ := set3_res h
  exact loadTh e0 e1 e2
theorem ldRt {W : World} {b o : Nat} (t : Th) (k : Nat) (h0 : W.cell? ⟨b, o, none⟩ = some (.int .u64 t.id)) (h1 : W.cell? ⟨b, o + 1, none⟩ = some (.int .u64 t.gen)) (h2 : W.cell? ⟨b, o + 2, none⟩ = some (.int .i64 t.due)) (h3 : W.cell? ⟨b, o + 3, none⟩ = some (.int .i64 (k : Nat))) : (Instr.loadAt rtT (.pointer (some ⟨b, o, none⟩))).run Try.prog W = .ok (rtVal (t, k)) W := by
  unfold rtVal
  go_simp
theorem ldRtb {W : World} {b : Nat} (t : Th) (h : W.heap[b]? = some (.cells #[.int .u64 t.id, .int .u64 t.gen, .int .i64 t.due, .int .i64 0] rtT (0, 0))) : (Instr.loadAt rtT (.pointer (some ⟨b, 0, none⟩))).run Try.prog W = .ok (rtVal (t, 0)) W := by
  have p0 := block_cell h 0
  have p1 := block_cell h 1
  have p2 := block_cell h 2
  have p3 := block_cell h 3
  simp at p0 p1 p2 p3
  exact ldRt t 0 p0 p1 p2 p3
/-- who is found by an id -/
def canT (X : List Th) (id : Int) : Th := (X.find? (fun u => decide (u.id = id))).getD ⟨0, 0, 0⟩
def canB (X : List Th) (id : Int) : Bool := (X.find? (fun u => decide (u.id = id))).isSome
theorem can_yes {X : List Th} (h : Ids X) {u : Th} (hu : u ∈ X) : canT X u.id = u ∧ canB X u.id = true := by
  unfold canT canB
  cases hf : X.find? (fun v => decide (v.id = u.id)) with
  | none => exact absurd (List.find?_eq_none.1 hf u hu) (by simp)
  | some v =>
    have h1 := List.mem_of_find?_eq_some hf
    have h2 := List.find?_some hf
    simp only [decide_eq_true_eq] at h2
    exact ⟨Ids.inj h _ h1 _ hu h2, rfl⟩
theorem can_no {X : List Th} {id : Int} (h : ∀ u ∈ X, u.id ≠ id) : canT X id = ⟨0, 0, 0⟩ ∧ canB X id = false := by
  have : X.find? (fun v => decide (v.id = id)) = none := List.find?_eq_none.2 fun u hu => by simpa using h u hu
  unfold canT canB
  rw [this]
  exact ⟨rfl, rfl⟩
theorem can_is {X : List Th} {id : Int} (h : Ids X) {e : Ending} (he : CancelIs X id e) : e = .returned (.tuple #[thVal (canT X id), .bool (canB X id)]) := by
  rcases he with ⟨u, hu, rfl, rfl⟩ | ⟨hno, rfl⟩
  · rw [(can_yes h hu).1, (can_yes h hu).2]
  · rw [(can_no hno).1, (can_no hno).2]
theorem canc_f {Wb W : World} {F : Nat → Prop} {w : Nat} {now : Int} {X : List Th} (h : Wo Wb W F w now X) (id : Int) (hw : IdOk id) :
    Calls Try.prog 34 #[.pointer (some ⟨w, 0, none⟩), .int .u64 id] W fun e W' => e = .returned (.tuple #[thVal (canT X id), .bool (canB X id)]) ∧ Wnx Wb W F w now (lessId X id) W' :=
  (cancel_o h id hw).mono fun e W' hp => ⟨can_is h.okX.2.2.1 hp.1, hp.2⟩
theorem get_f {Wb W : World} {F : Nat → Prop} {w : Nat} {now : Int} {X : List Th} (h : Wo Wb W F w now X) (id : Int) (hw : IdOk id) :
    Calls Try.prog 48 #[.pointer (some ⟨w, 0, none⟩), .int .u64 id] W fun e W' => e = .returned (.tuple #[thVal (canT X id), .bool (canB X id)]) ∧ Below W.heap.size W W' :=
  (get_o h id hw).mono fun e W' hp => ⟨can_is h.okX.2.2.1 hp.1, hp.2⟩
end Go.Proofs.Ytedlplkomfiahaa
