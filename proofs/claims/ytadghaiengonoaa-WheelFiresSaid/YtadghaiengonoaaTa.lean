/- slots: what waits in a ring, as a list; maps of ids as lists of pairs; bits. Plain laws; no statement of the seat is proved here. -/
import Derived.Test.YtadghaiengonoaaTst
import Derived.Maps.OwnSet
import Derived.Maps.OwnOps
namespace Go.Proofs.Ytadghaiengonoaa
set_option linter.unusedVariables false
set_option linter.unusedSimpArgs false
set_option linter.unusedSectionVars false
open Go Go.RowKit Go.Maps

/-- the map D, of ids, has just these pairs -/
structure MapL (D : DataW Unit) (E : List (Int × DataW Unit)) : Prop where
  tidy : Maps.Tidy D
  has : ∀ k : Int, Maps.has D (.int .u64 k) = true ↔ ∃ p ∈ E, p.1 = k
  at_ : ∀ p ∈ E, ∀ z, D.atKey (.int .u64 p.1) z = p.2
  size : Maps.size D = E.length
  ids : E.Pairwise (fun a b => a.1 ≠ b.1)
theorem MapL.nil : MapL (.map []) [] := ⟨tidy_empty, fun k => by simp [has_eq], by simp, rfl, List.Pairwise.nil⟩
theorem idk_ne {a b : Int} (h : a ≠ b) : (Lit.int .u64 a) ≠ Lit.int .u64 b := fun e => by cases e; exact h rfl
theorem MapL.hasnt {D : DataW Unit} {E : List (Int × DataW Unit)} (h : MapL D E) {k : Int} (hf : ∀ p ∈ E, p.1 ≠ k) : Maps.has D (.int .u64 k) = false := by
  cases hh : Maps.has D (.int .u64 k) with
  | false => rfl
  | true => obtain ⟨p, hp, e⟩ := (h.has k).1 hh; exact absurd e (hf p hp)
theorem MapL.put {D : DataW Unit} {E : List (Int × DataW Unit)} (h : MapL D E) (k : Int) (d : DataW Unit) (hf : ∀ p ∈ E, p.1 ≠ k) : MapL (D.put (.int .u64 k) d) (E ++ [(k, d)]) := by
  have hk : WideAt.IsKeyLit (.int .u64 k) := by trivial
  have hno := h.hasnt hf
  refine ⟨h.tidy.put hk _, fun j => ?_, fun p hp z => ?_, ?_, ?_⟩
  · by_cases e : j = k
    · subst e
      simp [has_put_same h.tidy.isMap hk]
    · rw [has_put_other (idk_ne e), h.has j]
      simp [Ne.symm e]
  · rcases List.mem_append.1 hp with hp | hp
    · rw [atKey_put_other (idk_ne (hf p hp))]; exact h.at_ p hp z
    · simp at hp; subst hp
      exact atKey_put_same h.tidy.isMap hk _ _
  · rw [size_put h.tidy, hno]; simp [h.size]
  · rw [List.pairwise_append]
    exact ⟨h.ids, by simp, fun a ha b hb => by simp at hb; subst hb; exact hf a ha⟩
theorem pairs_less (E : List (Int × DataW Unit)) (h : E.Pairwise (fun a b => a.1 ≠ b.1)) (k : Int) (hk : ∃ p ∈ E, p.1 = k) : (E.filter (fun p => decide (p.1 ≠ k))).length + 1 = E.length := by
  induction E with
  | nil => obtain ⟨p, hp, _⟩ := hk; cases hp
  | cons q E ih =>
    rw [List.pairwise_cons] at h
    by_cases hq : q.1 = k
    · have e : E.filter (fun p => decide (p.1 ≠ k)) = E := List.filter_eq_self.2 fun p hp => by simp only [decide_eq_true_eq]; rw [← hq]; exact Ne.symm (h.1 p hp)
      rw [List.filter_cons_of_neg (by simp [hq]), e, List.length_cons]
    · rw [List.filter_cons_of_pos (by simp [hq]), List.length_cons, List.length_cons, ih h.2]
      obtain ⟨p, hp, e⟩ := hk
      rcases List.mem_cons.1 hp with rfl | hp
      · exact absurd e hq
      · exact ⟨p, hp, e⟩
theorem MapL.del {D : DataW Unit} {E : List (Int × DataW Unit)} (h : MapL D E) (k : Int) : MapL (D.del (.int .u64 k)) (E.filter (fun p => decide (p.1 ≠ k))) := by
  refine ⟨h.tidy.del _, fun j => ?_, fun p hp z => ?_, ?_, h.ids.filter _⟩
  · by_cases e : j = k
    · subst e
      rw [has_del_same]
      constructor
      · intro h; cases h
      · rintro ⟨q, hq, e⟩; have := (List.mem_filter.1 hq).2; simp only [decide_eq_true_eq] at this; exact absurd e this
    · rw [has_del_other (idk_ne e), h.has j]
      constructor
      · rintro ⟨q, hq, rfl⟩; exact ⟨q, List.mem_filter.2 ⟨hq, by simpa using e⟩, rfl⟩
      · rintro ⟨q, hq, rfl⟩; exact ⟨q, (List.mem_filter.1 hq).1, rfl⟩
  · have hp2 := List.mem_filter.1 hp
    simp only [decide_eq_true_eq] at hp2
    rw [atKey_del_other (idk_ne hp2.2)]
    exact h.at_ p hp2.1 z
  · by_cases hk : ∃ p ∈ E, p.1 = k
    · have := size_del (k := .int .u64 k) h.tidy
      rw [(h.has k).2 hk] at this
      have h2 := pairs_less E h.ids k hk
      have h3 := h.size
      simp at this
      omega
    · have hf : ∀ p ∈ E, p.1 ≠ k := fun p hp e => hk ⟨p, hp, e⟩
      rw [del_of_not_has (h.hasnt hf), h.size, List.filter_eq_self.2 fun p hp => by simpa using hf p hp]
theorem MapL.atnt {D : DataW Unit} {E : List (Int × DataW Unit)} (h : MapL D E) {k : Int} (hf : ∀ p ∈ E, p.1 ≠ k) (z : DataW Unit) : D.atKey (.int .u64 k) z = z := atKey_of_not_has (h.hasnt hf) z

/-- what waits: a thing and its slot, in the order of Put -/
abbrev RLs := List (Th × Nat)
def rowOf (L : RLs) (k : Nat) : List Th := (L.filter (fun p => decide (p.2 = k))).map (·.1)
def gone (L : RLs) (id : Int) : RLs := L.filter (fun p => decide (p.1.id ≠ id))
def left (L : RLs) (k : Nat) : RLs := L.filter (fun p => decide (p.2 ≠ k))
def IdOk (i : Int) : Prop := 0 ≤ i ∧ i < 18446744073709551616
theorem IdOk.wf {i : Int} (h : IdOk i) : (Lit.int .u64 i).wf = true := by
  obtain ⟨h1, h2⟩ := h
  simp [Lit.wf, IntKind.min, IntKind.max, IntKind.signed, IntKind.bits]; omega
structure RLok (L : RLs) : Prop where
  slot : ∀ p ∈ L, p.2 < 64
  ids : L.Pairwise (fun a b => a.1.id ≠ b.1.id)
  wf : ∀ p ∈ L, IdOk p.1.id
theorem RLok.nil : RLok [] := ⟨by simp, List.Pairwise.nil, by simp⟩
theorem RLok.snoc {L : RLs} (h : RLok L) (t : Th) (k : Nat) (hk : k < 64) (hf : ∀ p ∈ L, p.1.id ≠ t.id) (hw : IdOk t.id) : RLok (L ++ [(t, k)]) := by
  refine ⟨fun p hp => ?_, ?_, fun p hp => ?_⟩
  · rcases List.mem_append.1 hp with hp | hp
    · exact h.slot p hp
    · simp at hp; subst hp; exact hk
  · rw [List.pairwise_append]
    exact ⟨h.ids, by simp, fun a ha b hb => by simp at hb; subst hb; exact hf a ha⟩
  · rcases List.mem_append.1 hp with hp | hp
    · exact h.wf p hp
    · simp at hp; subst hp; exact hw
theorem RLok.filter {L : RLs} (h : RLok L) (q : Th × Nat → Bool) : RLok (L.filter q) := ⟨fun p hp => h.slot p (List.mem_filter.1 hp).1, h.ids.filter _, fun p hp => h.wf p (List.mem_filter.1 hp).1⟩
theorem rowOf_nil (k : Nat) : rowOf [] k = [] := rfl
theorem rowOf_snoc (L : RLs) (t : Th) (s k : Nat) : rowOf (L ++ [(t, s)]) k = if s = k then rowOf L k ++ [t] else rowOf L k := by
  unfold rowOf
  rw [List.filter_append, List.map_append]
  by_cases h : s = k <;> simp [h]
theorem rowOf_left (L : RLs) (s k : Nat) : rowOf (left L s) k = if s = k then [] else rowOf L k := by
  unfold rowOf left
  rw [List.filter_filter]
  by_cases h : s = k
  · subst h
    rw [if_pos rfl]
    simp
  · rw [if_neg h]
    congr 1
    apply List.filter_congr
    intro p _
    by_cases hp : p.2 = k
    · have : p.2 ≠ s := fun e => h (e.symm.trans hp)
      simp [hp, Ne.symm h]
    · simp [hp]
theorem rowOf_gone (L : RLs) (id : Int) (k : Nat) : rowOf (gone L id) k = (rowOf L k).filter (fun t => decide (t.id ≠ id)) := by
  unfold rowOf gone
  rw [List.filter_filter, List.filter_map, List.filter_filter]
  congr 1
  apply List.filter_congr
  intro p _
  simp [Bool.and_comm]
theorem mem_rowOf {L : RLs} {k : Nat} {t : Th} : t ∈ rowOf L k ↔ (t, k) ∈ L := by
  unfold rowOf
  rw [List.mem_map]
  constructor
  · rintro ⟨⟨a, b⟩, hp, rfl⟩
    have := List.mem_filter.1 hp
    simp only [decide_eq_true_eq] at this
    rw [← this.2]; exact this.1
  · intro h; exact ⟨(t, k), List.mem_filter.2 ⟨h, by simp⟩, rfl⟩
theorem rowOf_len (L : RLs) (k : Nat) : (rowOf L k).length ≤ L.length := by
  unfold rowOf; rw [List.length_map]; exact List.length_filter_le _ _
theorem rowOf_ids {L : RLs} (h : RLok L) (k : Nat) : (rowOf L k).Pairwise (fun a b => a.id ≠ b.id) := by
  unfold rowOf
  rw [List.pairwise_map]
  exact h.ids.filter _
/-- the first of an id in a row -/
theorem first_of (l : List Th) (h : l.Pairwise (fun a b => a.id ≠ b.id)) (t : Th) (ht : t ∈ l) : ∃ i, ∃ hi : i < l.length, l[i] = t ∧ (∀ j (hj : j < i), l[j].id ≠ t.id) ∧ l.filter (fun x => decide (x.id ≠ t.id)) = l.take i ++ l.drop (i + 1) := by
  induction l with
  | nil => cases ht
  | cons q l ih =>
    rw [List.pairwise_cons] at h
    by_cases hq : q.id = t.id
    · have hqt : q = t := by
        rcases List.mem_cons.1 ht with e | e
        · exact e.symm
        · exact absurd hq (h.1 t e)
      refine ⟨0, by simp, hqt, fun j hj => by omega, ?_⟩
      rw [List.filter_cons_of_neg (by simp [hq])]
      simp
      intro x hx
      rw [← hq]; exact Ne.symm (h.1 x hx)
    · have ht' : t ∈ l := by
        rcases List.mem_cons.1 ht with e | e
        · exact absurd (by rw [e]) hq
        · exact e
      obtain ⟨i, hi, e1, e2, e3⟩ := ih h.2 ht'
      refine ⟨i + 1, by simpa using hi, by simpa using e1, fun j hj => ?_, ?_⟩
      · cases j with
        | zero => exact hq
        | succ j => exact e2 j (by omega)
      · rw [List.filter_cons_of_pos (by simp [hq]), e3]; simp
theorem ids_eq {L : RLs} (h : L.Pairwise (fun a b => a.1.id ≠ b.1.id)) {p q : Th × Nat} (hp : p ∈ L) (hq : q ∈ L) (e : p.1.id = q.1.id) : p = q := by
  induction L with
  | nil => cases hp
  | cons x L ih =>
    rw [List.pairwise_cons] at h
    rcases List.mem_cons.1 hp with h1 | h1
    · rcases List.mem_cons.1 hq with h2 | h2
      · rw [h1, h2]
      · exact absurd (by rw [← h1]; exact e) (h.1 q h2)
    · rcases List.mem_cons.1 hq with h2 | h2
      · exact absurd (by rw [← h2]; exact e.symm) (h.1 p h1)
      · exact ih h.2 h1 h2
/-- the pairs of the ring's map -/
def pairs (L : RLs) : List (Int × DataW Unit) := L.map (fun p => (p.1.id, .lit (.int .i64 (p.2 : Nat))))
theorem pairs_gone (L : RLs) (id : Int) : pairs (gone L id) = (pairs L).filter (fun p => decide (p.1 ≠ id)) := by
  unfold pairs gone
  rw [List.filter_map]
  rfl
theorem pairs_snoc (L : RLs) (t : Th) (k : Nat) : pairs (L ++ [(t, k)]) = pairs L ++ [(t.id, .lit (.int .i64 (k : Nat)))] := by simp [pairs]
theorem gone_many (L : RLs) (k : Nat) (ids : List Th) (h : RLok L) (hp : ids.Perm (rowOf L k)) : ids.foldl (fun M t => gone M t.id) L = left L k := by
  have key : ∀ (ids : List Th) (M : RLs), ids.foldl (fun M t => gone M t.id) M = M.filter (fun p => decide (∀ t ∈ ids, p.1.id ≠ t.id)) := by
    intro ids
    induction ids with
    | nil => intro M; exact (List.filter_eq_self.2 fun p _ => by simp).symm
    | cons t ids ih =>
      intro M
      rw [List.foldl_cons, ih]
      unfold gone
      rw [List.filter_filter]
      apply List.filter_congr
      intro p _
      simp only [List.mem_cons, forall_eq_or_imp, ← Bool.decide_and]
      congr 1
      simp only [eq_iff_iff]
      exact And.comm
  rw [key]
  unfold left
  apply List.filter_congr
  intro p hpL
  congr 1
  simp only [eq_iff_iff]
  constructor
  · intro h1 e
    exact h1 p.1 (hp.mem_iff.2 (mem_rowOf.2 (by rw [← e]; exact hpL))) rfl
  · intro h1 t ht e
    have h2 := mem_rowOf.1 (hp.mem_iff.1 ht)
    exact h1 (congrArg Prod.snd (ids_eq h.ids hpL h2 e))

/-- which slots have something -/
structure UsedIs (u : Nat) (L : RLs) : Prop where
  lt : u < 18446744073709551616
  bit : ∀ k, k < 64 → (u.testBit k = true ↔ ∃ p ∈ L, p.2 = k)
theorem UsedIs.nil : UsedIs 0 [] := ⟨by decide, fun k _ => by simp⟩
def onBit (u k : Nat) : Nat := (BitVec.ofNat 64 u ||| BitVec.ofNat 64 (2 ^ k)).toNat
def offBit (u k : Nat) : Nat := (BitVec.ofNat 64 u &&& ~~~ BitVec.ofNat 64 (2 ^ k)).toNat
theorem onBit_bit (u k j : Nat) (hk : k < 64) (hj : j < 64) : (onBit u k).testBit j = (u.testBit j || decide (k = j)) := by
  unfold onBit
  rw [BitVec.testBit_toNat, BitVec.getLsbD_or, BitVec.getLsbD_ofNat, BitVec.getLsbD_ofNat, Nat.testBit_two_pow]
  simp [hj]
theorem offBit_bit (u k j : Nat) (hk : k < 64) (hj : j < 64) : (offBit u k).testBit j = (u.testBit j && !decide (k = j)) := by
  unfold offBit
  rw [BitVec.testBit_toNat, BitVec.getLsbD_and, BitVec.getLsbD_not, BitVec.getLsbD_ofNat, BitVec.getLsbD_ofNat, Nat.testBit_two_pow]
  simp [hj]
theorem onBit_lt (u k : Nat) : onBit u k < 18446744073709551616 := by unfold onBit; exact BitVec.isLt _
theorem offBit_lt (u k : Nat) : offBit u k < 18446744073709551616 := by unfold offBit; exact BitVec.isLt _
theorem UsedIs.put {u : Nat} {L : RLs} (h : UsedIs u L) (t : Th) (k : Nat) (hk : k < 64) : UsedIs (onBit u k) (L ++ [(t, k)]) := by
  refine ⟨onBit_lt u k, fun j hj => ?_⟩
  rw [onBit_bit u k j hk hj, Bool.or_eq_true, h.bit j hj]
  simp only [decide_eq_true_eq, List.mem_append, List.mem_singleton]
  constructor
  · rintro (⟨p, hp, e⟩ | e)
    · exact ⟨p, .inl hp, e⟩
    · exact ⟨(t, k), .inr rfl, e⟩
  · rintro ⟨p, hp | hp, e⟩
    · exact .inl ⟨p, hp, e⟩
    · subst hp; exact .inr e
theorem UsedIs.left {u : Nat} {L : RLs} (h : UsedIs u L) (k : Nat) (hk : k < 64) : UsedIs (offBit u k) (left L k) := by
  refine ⟨offBit_lt u k, fun j hj => ?_⟩
  rw [offBit_bit u k j hk hj, Bool.and_eq_true, h.bit j hj]
  simp only [Bool.not_eq_true', decide_eq_false_iff_not]
  constructor
  · rintro ⟨⟨p, hp, e⟩, hne⟩
    exact ⟨p, List.mem_filter.2 ⟨hp, by simp; omega⟩, e⟩
  · rintro ⟨p, hp, e⟩
    have h2 := List.mem_filter.1 hp
    simp only [decide_eq_true_eq] at h2
    exact ⟨⟨p, h2.1, e⟩, by omega⟩
/-- behind Drop of the only one in a slot, of one of many -/
theorem UsedIs.gone_off {u : Nat} {L : RLs} (h : UsedIs u L) (id : Int) (k : Nat) (hk : k < 64) (he : rowOf (gone L id) k = []) (ho : ∀ p ∈ L, p.1.id = id → p.2 = k) : UsedIs (offBit u k) (gone L id) := by
  refine ⟨offBit_lt u k, fun j hj => ?_⟩
  rw [offBit_bit u k j hk hj, Bool.and_eq_true, h.bit j hj]
  simp only [Bool.not_eq_true', decide_eq_false_iff_not]
  constructor
  · rintro ⟨⟨p, hp, e⟩, hne⟩
    exact ⟨p, List.mem_filter.2 ⟨hp, by simp only [decide_eq_true_eq]; intro h2; have := ho p hp h2; omega⟩, e⟩
  · rintro ⟨p, hp, e⟩
    have h2 := List.mem_filter.1 hp
    refine ⟨⟨p, h2.1, e⟩, fun e2 => ?_⟩
    have h3 : p.1 ∈ rowOf (gone L id) k := mem_rowOf.2 (by rw [e2, ← e]; exact hp)
    rw [he] at h3; cases h3
theorem UsedIs.gone_same {u : Nat} {L : RLs} (h : UsedIs u L) (id : Int) (k : Nat) (he : rowOf (gone L id) k ≠ []) (ho : ∀ p ∈ L, p.1.id = id → p.2 = k) : UsedIs u (gone L id) := by
  refine ⟨h.lt, fun j hj => ?_⟩
  rw [h.bit j hj]
  constructor
  · rintro ⟨p, hp, e⟩
    by_cases h2 : p.1.id = id
    · have h3 := ho p hp h2
      obtain ⟨t, ht⟩ := List.exists_mem_of_ne_nil _ he
      have h4 := mem_rowOf.1 ht
      exact ⟨_, h4, by simp; omega⟩
    · exact ⟨p, List.mem_filter.2 ⟨hp, by simpa using h2⟩, e⟩
  · rintro ⟨p, hp, e⟩
    exact ⟨p, (List.mem_filter.1 hp).1, e⟩
theorem UsedIs.uniq {u v : Nat} {L : RLs} (h : UsedIs u L) (h2 : UsedIs v L) : u = v := by
  apply Nat.eq_of_testBit_eq
  intro j
  by_cases hj : j < 64
  · rw [Bool.eq_iff_iff, h.bit j hj, h2.bit j hj]
  · have e : ∀ x : Nat, x < 18446744073709551616 → x.testBit j = false := fun x hx => Nat.testBit_lt_two_pow (Nat.lt_of_lt_of_le hx (Nat.pow_le_pow_right (n := 2) (by decide) (by omega : 64 ≤ j)))
    rw [e u h.lt, e v h2.lt]
end Go.Proofs.Ytadghaiengonoaa
