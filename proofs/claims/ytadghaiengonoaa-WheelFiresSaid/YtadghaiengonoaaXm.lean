/- wheel: a wheel as a row in order. Plain laws; no statement of the seat is proved here. -/
import Derived.Test.YtadghaiengonoaaXl
namespace Go.Proofs.Ytadghaiengonoaa
set_option linter.unusedVariables false
set_option linter.unusedSimpArgs false
set_option linter.unusedSectionVars false
open Go Go.RowKit Go.Maps

/-- in order -/
def Asc (l : List Th) : Prop := l.Pairwise (fun a b => thLt a b = true)
theorem thLt_le {a b : Th} (h : thLt a b = true) : thLe a b = true := by rw [thLe_iff]; rw [thLt_iff] at h; omega
theorem Asc.filter {l : List Th} (h : Asc l) (p : Th → Bool) : Asc (l.filter p) := List.Pairwise.filter p h
theorem asc_of {l : List Th} (h : thUp l) (hi : Ids l) : Asc l := by
  refine (List.pairwise_and_iff.2 ⟨h, hi⟩).imp fun {a b} hab => ?_
  have h1 := hab.1
  have h2 := hab.2
  rw [thLe_iff] at h1
  rw [thLt_iff]
  omega
theorem asc_srt {l : List Th} (h : Ids l) : Asc (Sta.srt thLe l) := asc_of (Sta.srt_up thLe thLe_trans thLe_total l) (h.perm (Sta.srt_perm thLe l).symm)
theorem asc_uniq {l m : List Th} (hl : Asc l) (hm : Asc m) (hp : l.Perm m) : l = m :=
  List.Perm.eq_of_pairwise (le := fun a b => thLt a b = true) (fun a b _ _ h1 h2 => by
    rw [thLt_iff] at h1 h2
    omega) hl hm hp
theorem srt_is {l m : List Th} (hm : Asc m) (hi : Ids m) (hp : l.Perm m) : Sta.srt thLe l = m :=
  asc_uniq (asc_srt (hi.perm hp.symm)) hm ((Sta.srt_perm thLe l).trans hp)
/-- what waits in a wheel, in order, and where it lies -/
structure WheelIs (now : Int) (R : Nat → RLs) (far X : List Th) : Prop where
  cls : Cls now R far
  perm : X.Perm (Tot R far)
  asc : Asc X
  ids : Ids X
  ok : ∀ t ∈ X, Inst t.due ∧ IdOk t.id
  len : X.length ≤ 256
def cntR (now : Int) (X : List Th) (k : Nat) : Nat := (X.filter (fun t => decide (ringN now t.due = k))).length
theorem Cls.cnt {now : Int} {R : Nat → RLs} {far : List Th} (h : Cls now R far) (k : Nat) (hk : k < 5) : cntR now (Tot R far) k = spr R far k := by
  unfold cntR Tot spr
  simp only [List.filter_append, List.length_append]
  have key : ∀ j, j < 4 → (((R j).map (·.1)).filter (fun t => decide (ringN now t.due = k))).length = if j = k then (R j).length else 0 := fun j hj => by
    by_cases e : j = k
    · rw [if_pos e, List.filter_eq_self.2 (fun t ht => ?_), List.length_map]
      obtain ⟨p, hp, rfl⟩ := List.mem_map.1 ht
      simp [(h.ring j hj p hp).1, e]
    · rw [if_neg e, List.filter_eq_nil_iff.2 (fun t ht => ?_), List.length_nil]
      obtain ⟨p, hp, rfl⟩ := List.mem_map.1 ht
      simp [(h.ring j hj p hp).1, e]
  have kf : (far.filter (fun t => decide (ringN now t.due = k))).length = if 4 = k then far.length else 0 := by
    by_cases e : 4 = k
    · rw [if_pos e, List.filter_eq_self.2 (fun t ht => by simp [h.far t ht, e])]
    · rw [if_neg e, List.filter_eq_nil_iff.2 (fun t ht => by simp [h.far t ht, e]), List.length_nil]
  rw [key 0 (by decide), key 1 (by decide), key 2 (by decide), key 3 (by decide), kf]
  rcases (by omega : k = 0 ∨ k = 1 ∨ k = 2 ∨ k = 3 ∨ k = 4) with rfl | rfl | rfl | rfl | rfl <;> simp
theorem cntR_perm {now : Int} {X Y : List Th} (h : X.Perm Y) (k : Nat) : cntR now X k = cntR now Y k := (h.filter _).length_eq
theorem WheelIs.cnt {now : Int} {R : Nat → RLs} {far X : List Th} (h : WheelIs now R far X) (k : Nat) (hk : k < 5) : spr R far k = cntR now X k := (h.cls.cnt k hk).symm.trans (cntR_perm h.perm.symm k)
theorem WheelIs.nil (now : Int) : WheelIs now (fun _ => []) [] [] := ⟨⟨fun k _ p hp => by simp at hp, by simp⟩, List.Perm.refl _, List.Pairwise.nil, List.Pairwise.nil, by simp, by simp⟩
theorem WheelIs.okT {now : Int} {R : Nat → RLs} {far X : List Th} (h : WheelIs now R far X) : ∀ t ∈ Tot R far, Inst t.due ∧ IdOk t.id := fun t ht => h.ok t (h.perm.mem_iff.2 ht)
theorem WheelIs.idsT {now : Int} {R : Nat → RLs} {far X : List Th} (h : WheelIs now R far X) : Ids (Tot R far) := h.ids.perm h.perm
theorem WheelIs.lenT {now : Int} {R : Nat → RLs} {far X : List Th} (h : WheelIs now R far X) : (Tot R far).length ≤ 256 := by rw [← h.perm.length_eq]; exact h.len
def insT (X : List Th) (t : Th) : List Th := Sta.srt thLe (X ++ [t])
theorem Ids.snoc {X : List Th} {t : Th} (h : Ids X) (hf : ∀ u ∈ X, u.id ≠ t.id) : Ids (X ++ [t]) := List.pairwise_append.2 ⟨h, by simp, fun a ha b hb => by simp at hb; subst hb; exact hf a ha⟩
/-- one more -/
theorem WheelIs.put {now : Int} {R : Nat → RLs} {far X : List Th} (h : WheelIs now R far X) (t : Th) (hf : ∀ u ∈ X, u.id ≠ t.id) (ht : Inst t.due ∧ IdOk t.id) (hl : X.length < 256) : WheelIs now (putR R now t) (putF far now t) (insT X t) := by
  have hids := h.ids.snoc hf
  have hp : (insT X t).Perm (X ++ [t]) := Sta.srt_perm _ _
  refine ⟨⟨fun k hk p hp => ?_, fun u hu => ?_⟩, (hp.trans (List.Perm.append h.perm (List.Perm.refl _))).trans (Tot.put R far now t).symm, asc_srt hids, hids.perm hp.symm, fun u hu => ?_, ?_⟩
  · unfold putR at hp
    by_cases e : ringN now t.due = k
    · simp only [if_pos e] at hp
      rcases List.mem_append.1 hp with h1 | h1
      · exact h.cls.ring k hk p h1
      · simp at h1; subst h1
        exact ⟨e, rfl⟩
    · simp only [if_neg e] at hp
      exact h.cls.ring k hk p hp
  · unfold putF at hu
    by_cases e : ringN now t.due = 4
    · rw [if_pos e] at hu
      rcases List.mem_append.1 hu with h1 | h1
      · exact h.cls.far u h1
      · simp at h1; subst h1; exact e
    · rw [if_neg e] at hu
      exact h.cls.far u hu
  · rcases List.mem_append.1 (hp.mem_iff.1 hu) with h1 | h1
    · exact h.ok u h1
    · simp at h1; subst h1; exact ht
  · rw [hp.length_eq]; simp; omega
theorem gone_fst (L : RLs) (i : Int) : (gone L i).map (·.1) = lessId (L.map (·.1)) i := by
  unfold gone lessId
  rw [List.filter_map]
  rfl
theorem Tot.less (R : Nat → RLs) (far : List Th) (i : Int) : Tot (fun k => gone (R k) i) (lessId far i) = lessId (Tot R far) i := by
  unfold Tot
  simp only [gone_fst]
  unfold lessId
  simp only [List.filter_append]
/-- one less -/
theorem WheelIs.less {now : Int} {R : Nat → RLs} {far X : List Th} (h : WheelIs now R far X) (i : Int) : WheelIs now (fun k => gone (R k) i) (lessId far i) (lessId X i) := by
  refine ⟨⟨fun k hk p hp => h.cls.ring k hk p (List.mem_filter.1 hp).1, fun u hu => h.cls.far u (List.mem_filter.1 hu).1⟩, ?_, h.asc.filter _, List.Pairwise.filter _ h.ids, fun t ht => h.ok t (List.mem_filter.1 ht).1, Nat.le_trans (List.length_filter_le _ _) h.len⟩
  rw [Tot.less]
  exact h.perm.filter _
/-- what an advance tells, what it leaves -/
def dueT (X : List Th) (b : Int) : List Th := X.filter (fun t => decide (t.due ≤ b))
def soonT (X : List Th) (b : Int) : List Th := X.filter (fun t => decide (b < t.due))
theorem WheelIs.adv {a b : Int} {R R' : Nat → RLs} {far far' far2 X l late : List Th} (h : WheelIs a R far X) (hab : a ≤ b) (hl : LateIs a far far' [] l) (hc : Cls b R' far2) (hf2 : ∀ t ∈ far2, b < t.due) (hp : (Tot R far').Perm (late ++ Tot R' far2)) (hla : ∀ t ∈ late, t.due ≤ b) :
    WheelIs b R' far2 (soonT X b) ∧ Sta.srt thLe (l ++ late) = dueT X b := by
  have hX : X.Perm ((l ++ late) ++ Tot R' far2) := of_cnt fun x => by
    have h1 := cnt_of h.perm x
    have h2 := cnt_of hl.perm x
    have h3 := cnt_of hp x
    rw [Tot.cnt] at h1 h3
    simp only [List.count_append] at h1 h2 h3 ⊢
    omega
  have hle : ∀ t ∈ l ++ late, t.due ≤ b := fun t ht => by
    rcases List.mem_append.1 ht with h1 | h1
    · have := hl.late t h1; omega
    · exact hla t h1
  have hgt : ∀ t ∈ Tot R' far2, b < t.due := fun t ht => by
    rcases Tot.mem ht with h1 | ⟨k, hk, p, hp, rfl⟩
    · exact hf2 t h1
    · exact hc.soon k hk p hp
  have e1 : (l ++ late).filter (fun t => decide (b < t.due)) = [] := List.filter_eq_nil_iff.2 fun t ht => by have := hle t ht; simp; omega
  have e2 : (Tot R' far2).filter (fun t => decide (b < t.due)) = Tot R' far2 := List.filter_eq_self.2 fun t ht => by simpa using hgt t ht
  have e3 : (l ++ late).filter (fun t => decide (t.due ≤ b)) = l ++ late := List.filter_eq_self.2 fun t ht => by simpa using hle t ht
  have e4 : (Tot R' far2).filter (fun t => decide (t.due ≤ b)) = [] := List.filter_eq_nil_iff.2 fun t ht => by have := hgt t ht; simp; omega
  have p1 := hX.filter (fun t => decide (b < t.due))
  have p2 := hX.filter (fun t => decide (t.due ≤ b))
  rw [List.filter_append, e1, e2, List.nil_append] at p1
  rw [List.filter_append, e3, e4, List.append_nil] at p2
  refine ⟨⟨hc, p1, h.asc.filter _, List.Pairwise.filter _ h.ids, fun t ht => h.ok t (List.mem_filter.1 ht).1, Nat.le_trans (List.length_filter_le _ _) h.len⟩, ?_⟩
  exact srt_is (h.asc.filter _) (List.Pairwise.filter _ h.ids) p2.symm
/-- all of it, whichever order it came in -/
theorem WheelIs.all {now : Int} {R : Nat → RLs} {far X l : List Th} (h : WheelIs now R far X) (hp : l.Perm (Tot R far)) : Sta.srt thLe l = X := srt_is h.asc h.ids (hp.trans h.perm.symm)

/-- a wheel in memory, at 'now', in which X waits -/
def Whl (W : World) (F : Nat → Prop) (w : Nat) (now : Int) (X : List Th) : Prop :=
  ∃ G rs pf mf R far, Whm W F G w now rs pf mf 256 R far ∧ Inst now ∧ WheelIs now R far X
/-- what a call that writes a wheel leaves -/
def Wst (W : World) (F : Nat → Prop) (w : Nat) (now : Int) (X : List Th) (W' : World) : Prop :=
  ∃ F', Whl W' F' w now X ∧ Gr F W W' ∧ ∀ i, F' i → F i ∨ W.heap.size ≤ i
theorem Whl.below {W W' : World} {F : Nat → Prop} {w : Nat} {now : Int} {X : List Th} (h : Whl W F w now X) (hb : Below W.heap.size W W') : Whl W' F w now X := by
  obtain ⟨G, rs, pf, mf, R, far, h1, h2, h3⟩ := h
  exact ⟨G, rs, pf, mf, R, far, h1.below hb, h2, h3⟩
theorem Whl.beside {W W' : World} {F H : Nat → Prop} {w : Nat} {now : Int} {X : List Th} (h : Whl W F w now X) (hg : Gr H W W') (hd : ∀ i, F i → ¬ H i) : Whl W' F w now X := by
  obtain ⟨G, rs, pf, mf, R, far, h1, h2, h3⟩ := h
  exact ⟨G, rs, pf, mf, R, far, h1.beside hg hd, h2, h3⟩
theorem Whl.bd {W : World} {F : Nat → Prop} {w : Nat} {now : Int} {X : List Th} (h : Whl W F w now X) : ∀ i, F i → i < W.heap.size := by
  obtain ⟨G, rs, pf, mf, R, far, h1, h2, h3⟩ := h
  exact h1.bd
theorem Wst.of {W W' : World} {F F' : Nat → Prop} {G : Nat → Nat → Prop} {w : Nat} {now : Int} {rs : Nat → Nat} {pf mf n : Nat} {R : Nat → RLs} {far X : List Th} (h : Whm W' F' G w now rs pf mf n R far) (hn : Inst now) (hi : WheelIs now R far X) (hg : Gr F W W') (hF : ∀ i, F' i → F i ∨ W.heap.size ≤ i) : Wst W F w now X W' :=
  ⟨F', ⟨G, rs, pf, mf, R, far, h.tight hi.lenT, hn, hi⟩, hg, hF⟩
end Go.Proofs.Ytadghaiengonoaa
