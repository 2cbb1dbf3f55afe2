/- wheel: what goes down in a turn. Plain laws; no statement of the seat is proved here. -/
import Derived.Test.YtadghaiengonoaaXh
namespace Go.Proofs.Ytadghaiengonoaa
set_option linter.unusedVariables false
set_option linter.unusedSimpArgs false
set_option linter.unusedSectionVars false
open Go Go.RowKit Go.Maps

def putsR (R : Nat → RLs) (b : Int) (l : List Th) : Nat → RLs := l.foldl (fun R t => if t.due ≤ b then R else putR R b t) R
def putsF (far : List Th) (b : Int) (l : List Th) : List Th := l.foldl (fun f t => if t.due ≤ b then f else putF f b t) far
def lateOf (b : Int) (l : List Th) : List Th := l.filter (fun t => decide (t.due ≤ b))
def soonOf (b : Int) (l : List Th) : List Th := l.filter (fun t => decide (b < t.due))
theorem putsR_snoc (R : Nat → RLs) (b : Int) (l : List Th) (t : Th) : putsR R b (l ++ [t]) = if t.due ≤ b then putsR R b l else putR (putsR R b l) b t := by
  unfold putsR; rw [List.foldl_append]; rfl
theorem putsF_snoc (far : List Th) (b : Int) (l : List Th) (t : Th) : putsF far b (l ++ [t]) = if t.due ≤ b then putsF far b l else putF (putsF far b l) b t := by
  unfold putsF; rw [List.foldl_append]; rfl
theorem lateOf_snoc (b : Int) (l : List Th) (t : Th) : lateOf b (l ++ [t]) = if t.due ≤ b then lateOf b l ++ [t] else lateOf b l := by
  unfold lateOf; rw [List.filter_append]
  by_cases h : t.due ≤ b <;> simp [h]
theorem soonOf_snoc (b : Int) (l : List Th) (t : Th) : soonOf b (l ++ [t]) = if t.due ≤ b then soonOf b l else soonOf b l ++ [t] := by
  unfold soonOf; rw [List.filter_append]
  by_cases h : t.due ≤ b
  · simp [h, Int.not_lt.2 h]
  · simp [h, Int.lt_of_not_ge h]
theorem split_late (b : Int) (l : List Th) : l.Perm (lateOf b l ++ soonOf b l) := by
  have h := (List.filter_append_perm (fun t : Th => decide (t.due ≤ b)) l).symm
  have e : soonOf b l = l.filter (fun t => !decide (t.due ≤ b)) := by
    unfold soonOf
    apply List.filter_congr
    intro t _
    rw [← decide_not, decide_eq_decide]; omega
  rw [e]; exact h
theorem perm_mid {α : Type} (A B : List α) (x : α) : (A ++ (B ++ [x])).Perm (A ++ B ++ [x]) := by rw [List.append_assoc]
theorem Tot.put (R : Nat → RLs) (far : List Th) (b : Int) (t : Th) : (Tot (putR R b t) (putF far b t)).Perm (Tot R far ++ [t]) := by
  have h4 := ringN_le b t.due
  have key : ∀ (A B C : List Th), (A ++ [t] ++ (B ++ C)).Perm (A ++ (B ++ C) ++ [t]) := fun A B C => by
    rw [List.append_assoc, List.append_assoc A]
    exact List.Perm.append (List.Perm.refl _) List.perm_append_comm
  have app : ∀ (A X Y : List Th), X.Perm (Y ++ [t]) → (A ++ X).Perm (A ++ Y ++ [t]) := fun A X Y h => by
    rw [List.append_assoc]; exact List.Perm.append (List.Perm.refl _) h
  have fr : ∀ (A B : List Th), (A ++ [t] ++ B).Perm (A ++ B ++ [t]) := fun A B => by
    rw [List.append_assoc, List.append_assoc]
    exact List.Perm.append (List.Perm.refl _) List.perm_append_comm
  unfold Tot putR putF
  rcases (by omega : ringN b t.due = 0 ∨ ringN b t.due = 1 ∨ ringN b t.due = 2 ∨ ringN b t.due = 3 ∨ ringN b t.due = 4) with e | e | e | e | e
  · rw [e]
    simp only [show ¬ ((0 : Nat) = 4) from by decide, show ¬ ((0 : Nat) = 1) from by decide, show ¬ ((0 : Nat) = 2) from by decide, show ¬ ((0 : Nat) = 3) from by decide, if_true, if_false, List.map_append, List.map_cons, List.map_nil]
    exact app _ _ _ (fr _ _)
  · rw [e]
    simp only [show ¬ ((1 : Nat) = 4) from by decide, show ¬ ((1 : Nat) = 0) from by decide, show ¬ ((1 : Nat) = 2) from by decide, show ¬ ((1 : Nat) = 3) from by decide, if_true, if_false, List.map_append, List.map_cons, List.map_nil]
    exact app _ _ _ (app _ _ _ (fr _ _))
  · rw [e]
    simp only [show ¬ ((2 : Nat) = 4) from by decide, show ¬ ((2 : Nat) = 0) from by decide, show ¬ ((2 : Nat) = 1) from by decide, show ¬ ((2 : Nat) = 3) from by decide, if_true, if_false, List.map_append, List.map_cons, List.map_nil]
    exact app _ _ _ (app _ _ _ (app _ _ _ (fr _ _)))
  · rw [e]
    simp only [show ¬ ((3 : Nat) = 4) from by decide, show ¬ ((3 : Nat) = 0) from by decide, show ¬ ((3 : Nat) = 1) from by decide, show ¬ ((3 : Nat) = 2) from by decide, if_true, if_false, List.map_append, List.map_cons, List.map_nil]
    exact app _ _ _ (app _ _ _ (app _ _ _ (app _ _ _ (List.Perm.refl _))))
  · rw [e]
    simp only [show ¬ ((4 : Nat) = 0) from by decide, show ¬ ((4 : Nat) = 1) from by decide, show ¬ ((4 : Nat) = 2) from by decide, show ¬ ((4 : Nat) = 3) from by decide, if_true, if_false]
    exact fr _ _
theorem Tot.puts (R : Nat → RLs) (far : List Th) (b : Int) (l : List Th) : (Tot (putsR R b l) (putsF far b l)).Perm (Tot R far ++ soonOf b l) := by
  induction l using Sta.snoc_ind with
  | h0 => simp [putsR, putsF, soonOf]
  | h1 l t ih =>
    rw [putsR_snoc, putsF_snoc, soonOf_snoc]
    by_cases h : t.due ≤ b
    · rw [if_pos h, if_pos h, if_pos h]; exact ih
    · rw [if_neg h, if_neg h, if_neg h]
      refine (Tot.put _ _ b t).trans ?_
      rw [← List.append_assoc]
      exact List.Perm.append ih (List.Perm.refl _)
theorem putsR_mem (R : Nat → RLs) (b : Int) (l : List Th) (k : Nat) : ∀ p ∈ putsR R b l k, p ∈ R k ∨ (p.1 ∈ l ∧ b < p.1.due ∧ ringN b p.1.due = k ∧ p.2 = slotN k p.1.due) := by
  induction l using Sta.snoc_ind with
  | h0 => intro p hp; exact .inl hp
  | h1 l t ih =>
    intro p hp
    rw [putsR_snoc] at hp
    by_cases h : t.due ≤ b
    · rw [if_pos h] at hp
      exact (ih p hp).imp id (fun q => ⟨by simp [q.1], q.2⟩)
    · rw [if_neg h] at hp
      unfold putR at hp
      by_cases e : ringN b t.due = k
      · simp only [if_pos e] at hp
        rcases List.mem_append.1 hp with h1 | h1
        · exact (ih p h1).imp id (fun q => ⟨by simp [q.1], q.2⟩)
        · simp at h1; subst h1
          exact .inr ⟨by simp, Int.lt_of_not_ge h, e, rfl⟩
      · simp only [if_neg e] at hp
        exact (ih p hp).imp id (fun q => ⟨by simp [q.1], q.2⟩)
theorem putsF_mem (far : List Th) (b : Int) (l : List Th) : ∀ t ∈ putsF far b l, t ∈ far ∨ (t ∈ l ∧ b < t.due ∧ ringN b t.due = 4) := by
  induction l using Sta.snoc_ind with
  | h0 => intro p hp; exact .inl hp
  | h1 l t ih =>
    intro p hp
    rw [putsF_snoc] at hp
    by_cases h : t.due ≤ b
    · rw [if_pos h] at hp
      exact (ih p hp).imp id (fun q => ⟨by simp [q.1], q.2⟩)
    · rw [if_neg h] at hp
      unfold putF at hp
      by_cases e : ringN b t.due = 4
      · rw [if_pos e] at hp
        rcases List.mem_append.1 hp with h1 | h1
        · exact (ih p h1).imp id (fun q => ⟨by simp [q.1], q.2⟩)
        · simp at h1; subst h1
          exact .inr ⟨by simp, Int.lt_of_not_ge h, e⟩
      · rw [if_neg e] at hp
        exact (ih p hp).imp id (fun q => ⟨by simp [q.1], q.2⟩)
/-- a ring to which nothing goes -/
theorem putsR_other (R : Nat → RLs) (b : Int) (l : List Th) (k : Nat) (h : ∀ t ∈ l, t.due ≤ b ∨ ringN b t.due ≠ k) : putsR R b l k = R k := by
  induction l using Sta.snoc_ind with
  | h0 => rfl
  | h1 l t ih =>
    rw [putsR_snoc]
    have ih := ih fun t ht => h t (by simp [ht])
    by_cases h1 : t.due ≤ b
    · rw [if_pos h1]; exact ih
    · rw [if_neg h1]
      unfold putR
      rcases h t (by simp) with h2 | h2
      · exact absurd h2 h1
      · simp only [if_neg h2]; exact ih
theorem putsF_other (far : List Th) (b : Int) (l : List Th) (h : ∀ t ∈ l, t.due ≤ b ∨ ringN b t.due ≠ 4) : putsF far b l = far := by
  induction l using Sta.snoc_ind with
  | h0 => rfl
  | h1 l t ih =>
    rw [putsF_snoc]
    have ih := ih fun t ht => h t (by simp [ht])
    by_cases h1 : t.due ≤ b
    · rw [if_pos h1]; exact ih
    · rw [if_neg h1]
      unfold putF
      rcases h t (by simp) with h2 | h2
      · exact absurd h2 h1
      · rw [if_neg h2]; exact ih
/-- no two have one id -/
def Ids (l : List Th) : Prop := l.Pairwise (fun a b => a.id ≠ b.id)
theorem Ids.perm {l m : List Th} (h : Ids l) (hp : l.Perm m) : Ids m := (hp.pairwise_iff (fun {_ _} hne => Ne.symm hne)).1 h
theorem Ids.of_app {l m : List Th} (h : Ids (l ++ m)) {s t : Th} (hs : s ∈ l) (ht : t ∈ m) : s.id ≠ t.id := (List.pairwise_append.1 h).2.2 s hs t ht
/-- who is there when the next one is put -/
theorem puts_apart {R : Nat → RLs} {far : List Th} {b : Int} {l : List Th} (h : Ids (Tot R far ++ l)) (i : Nat) (hi : i < l.length) : ∀ u ∈ Tot (putsR R b (l.take i)) (putsF far b (l.take i)), u.id ≠ l[i].id := by
  intro u hu
  have h1 := (Tot.puts R far b (l.take i)).mem_iff.1 hu
  have hs : l = l.take i ++ l[i] :: l.drop (i + 1) := by rw [List.getElem_cons_drop, List.take_append_drop]
  rw [hs, ← List.append_assoc] at h
  refine Ids.of_app h (t := l[i]) ?_ (List.mem_cons_self ..)
  rcases List.mem_append.1 h1 with h2 | h2
  · exact List.mem_append_left _ h2
  · exact List.mem_append_right _ (List.mem_filter.1 h2).1
end Go.Proofs.Ytadghaiengonoaa
