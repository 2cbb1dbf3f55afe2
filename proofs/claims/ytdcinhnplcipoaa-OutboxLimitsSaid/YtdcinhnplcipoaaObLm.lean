/- Plain law of OutboxLimits: how often each notice was tried, which are over. No program in sight, no statement of the seat is proved here. -/
import Derived.Test.YtdcinhnplcipoaaObM
import Derived.Test.YtdcinhnplcipoaaObBl
namespace Go.Proofs.Ytdcinhnplcipoaa
set_option linter.unusedVariables false
set_option linter.unusedSimpArgs false
set_option linter.unusedSectionVars false
open Go Go.RowKit

def upd (T : Int → Int) (k x : Int) : Int → Int := fun j => if j = k then x else T j
theorem upd_same (T : Int → Int) (k x : Int) : upd T k x k = x := by simp [upd]
theorem upd_other (T : Int → Int) {k j : Int} (x : Int) (h : j ≠ k) : upd T k x j = T j := by simp [upd, h]
/-- what the law's two maps say of the box -/
structure Lim (last : Int) (l : List No) (T O : Int → Int) : Prop where
  sound : soundS last l = true
  low : 0 ≤ last
  tr : ∀ n ∈ l, n.tr = T n.id
  st : ∀ n ∈ l, O n.id ≠ 0 → n.st = O n.id
  wait : ∀ n ∈ l, O n.id = 0 → n.st = 1
  new : ∀ k, last < k → T k = 0 ∧ O k = 0
  vals : ∀ k, O k = 0 ∨ O k = 2 ∨ O k = 3
theorem soundF_gt {top : Int} (l : List No) : ∀ {last : Int}, soundF top last l = true → ∀ n ∈ l, last < n.id := by
  induction l with
  | nil => intro last _ n hn; cases hn
  | cons m l ih =>
    intro last h n hn
    obtain ⟨h1, h2, h3, h4, h5⟩ := soundF_cons.1 h
    rcases List.mem_cons.1 hn with rfl | hn
    · exact h1
    · have := ih h5 n hn; omega
theorem soundF_ne {top : Int} (l : List No) : ∀ {last : Int}, soundF top last l = true → ∀ (i j : Nat) (hi : i < l.length) (hj : j < l.length), l[i].id = l[j].id → i = j := by
  induction l with
  | nil => intro last _ i j hi; simp at hi
  | cons m l ih =>
    intro last h i j hi hj e
    obtain ⟨h1, h2, h3, h4, h5⟩ := soundF_cons.1 h
    have hg := soundF_gt l h5
    cases i with
    | zero =>
      cases j with
      | zero => rfl
      | succ j =>
        have := hg (l[j]'(by simpa using hj)) (List.getElem_mem _)
        simp at e; omega
    | succ i =>
      cases j with
      | zero =>
        have := hg (l[i]'(by simpa using hi)) (List.getElem_mem _)
        simp at e; omega
      | succ j =>
        have := ih h5 i j (by simpa using hi) (by simpa using hj) (by simpa using e)
        omega
theorem Lim.start : Lim 0 [] (fun _ => 0) (fun _ => 0) := ⟨by decide, by omega, by simp, by simp, by simp, fun _ _ => ⟨rfl, rfl⟩, fun _ => .inl rfl⟩
/-- one notice changed, its ID kept -/
theorem Lim.set {last : Int} {l : List No} {T O T' O' : Int → Int} (h : Lim last l T O) (i : Nat) (hi : i < l.length) (n : No) (hs : soundS last (l.set i n) = true) (hid : n.id = l[i].id)
    (hT : ∀ j, j ≠ n.id → T' j = T j) (hO : ∀ j, j ≠ n.id → O' j = O j) (h1 : n.tr = T' n.id) (h2 : O' n.id ≠ 0 → n.st = O' n.id) (h3 : O' n.id = 0 → n.st = 1) (h4 : O' n.id = 0 ∨ O' n.id = 2 ∨ O' n.id = 3) : Lim last (l.set i n) T' O' := by
  have hne : ∀ m ∈ l.set i n, m = n ∨ (m ∈ l ∧ m.id ≠ n.id) := by
    intro m hm
    obtain ⟨j, hj, rfl⟩ := List.mem_iff_getElem.1 hm
    rw [List.getElem_set]
    split
    · exact .inl rfl
    · rename_i hij
      have hj' : j < l.length := by simpa using hj
      refine .inr ⟨List.getElem_mem hj', fun e => hij ?_⟩
      rw [hid] at e
      exact (soundF_ne l (soundS_iff.1 h.sound).2.2 j i hj' hi e).symm
  have hlast : n.id ≤ last := by rw [hid]; exact (soundF_ids l i hi (soundS_iff.1 h.sound).2.2).2
  refine ⟨hs, h.low, fun m hm => ?_, fun m hm e => ?_, fun m hm e => ?_, fun k hk => ?_, fun k => ?_⟩
  · rcases hne m hm with rfl | ⟨hm, he⟩
    · exact h1
    · rw [hT _ he]; exact h.tr m hm
  · rcases hne m hm with rfl | ⟨hm, he⟩
    · exact h2 e
    · rw [hO _ he] at e ⊢; exact h.st m hm e
  · rcases hne m hm with rfl | ⟨hm, he⟩
    · exact h3 e
    · rw [hO _ he] at e; exact h.wait m hm e
  · rw [hT k (by omega), hO k (by omega)]; exact h.new k hk
  · by_cases e : k = n.id
    · subst e; exact h4
    · rw [hO k e]; exact h.vals k
/-- a waiting one is not over -/
theorem Lim.open_ {last : Int} {l : List No} {T O : Int → Int} (h : Lim last l T O) (n : No) (hn : n ∈ l) (hw : n.st = 1) : O n.id = 0 := by
  rcases h.vals n.id with e | e | e
  · exact e
  · have := h.st n hn (by omega); omega
  · have := h.st n hn (by omega); omega
theorem Lim.try_ {last : Int} {l : List No} {T O : Int → Int} (h : Lim last l T O) (i : Nat) (hi : i < l.length) (now : Int) (he : tryErr l[i] now = 0) :
    Lim last (l.set i (tryN l[i] now)) (upd T l[i].id (T l[i].id + 1)) O ∧ O l[i].id = 0 ∧ T l[i].id + 1 ≤ l[i].rt ∧ 0 ≤ T l[i].id ∧ l[i].tr = T l[i].id := by
  have hm := List.getElem_mem hi
  have hw : l[i].st = 1 ∧ l[i].tr < l[i].rt := by
    unfold tryErr waitsB at he
    split at he
    · cases he
    · rename_i hh; simp at hh; exact hh
  have ho := h.open_ _ hm hw.1
  have ht := h.tr _ hm
  have h0 := (sound_at h.sound i hi).2.1
  refine ⟨h.set i hi _ (sound_try i hi now h.sound he) rfl (fun j hj => upd_other T _ hj) (fun _ _ => rfl) ?_ ?_ ?_ ?_, ho, by omega, by omega, ht⟩
  · show l[i].tr + 1 = upd T l[i].id (T l[i].id + 1) l[i].id
    rw [upd_same]; omega
  · intro e; exact absurd ho e
  · intro _; exact hw.1
  · exact .inl ho
theorem Lim.ack {last : Int} {l : List No} {T O : Int → Int} (h : Lim last l T O) (i : Nat) (hi : i < l.length) (he : ackBad l[i] = false) :
    Lim last (l.set i (setSt l[i] 2)) T (upd O l[i].id 2) ∧ O l[i].id = 0 := by
  have hm := List.getElem_mem hi
  have hw : l[i].st = 1 := by unfold ackBad waitsB at he; simp at he; exact he.1
  have ho := h.open_ _ hm hw
  refine ⟨h.set i hi _ (sound_ack i hi h.sound he) rfl (fun _ _ => rfl) (fun j hj => upd_other O _ hj) (show (setSt l[i] 2).tr = T l[i].id from h.tr l[i] hm) ?_ ?_ ?_, ho⟩
  · intro _; show (2 : Int) = upd O l[i].id 2 l[i].id; rw [upd_same]
  · intro e; have : upd O l[i].id 2 l[i].id = 2 := upd_same _ _ _; simp only [setSt] at e; omega
  · right; left; exact upd_same _ _ _
theorem Lim.put {last : Int} {l : List No} {T O : Int → Int} (h : Lim last l T O) (n : No) (now : Int) (he : putErr last l n now = 0) : Lim (last + 1) (roomL l ++ [putN last n now]) T O := by
  have hsub : ∀ m ∈ roomL l, m ∈ l := by
    intro m hm
    unfold roomL at hm
    split at hm
    · exact hm
    · exact List.mem_of_mem_eraseIdx hm
  have hnew := h.new (last + 1) (by omega)
  have hlow := h.low
  refine ⟨sound_put n now h.low h.sound he, by omega, fun m hm => ?_, fun m hm e => ?_, fun m hm e => ?_, fun k hk => h.new k (by omega), h.vals⟩
  · rcases List.mem_append.1 hm with hm | hm
    · exact h.tr m (hsub m hm)
    · simp at hm; subst hm; exact hnew.1.symm
  · rcases List.mem_append.1 hm with hm | hm
    · exact h.st m (hsub m hm) e
    · simp at hm; subst hm; exact absurd hnew.2 e
  · rcases List.mem_append.1 hm with hm | hm
    · exact h.wait m (hsub m hm) e
    · simp at hm; subst hm; rfl
/-- over those of a row of IDs -/
def updL (O : Int → Int) (ks : List Int) : Int → Int := fun j => if j ∈ ks then 3 else O j
theorem updL_nil (O : Int → Int) : updL O [] = O := by funext j; simp [updL]
theorem updL_snoc (O : Int → Int) (ks : List Int) (k : Int) : upd (updL O ks) k 3 = updL O (ks ++ [k]) := by
  funext j
  unfold upd updL
  by_cases h : j = k
  · simp [h]
  · simp [h]
theorem spent_st {now : Int} {n : No} (h : spentB now n = true) : n.st = 1 := by
  unfold spentB waitsB at h
  simp at h
  exact h.1.1
theorem soundF_nodup {top : Int} (l : List No) : ∀ {last : Int}, soundF top last l = true → (l.map No.id).Nodup := by
  induction l with
  | nil => intro last _; simp
  | cons m l ih =>
    intro last h
    obtain ⟨h1, h2, h3, h4, h5⟩ := soundF_cons.1 h
    rw [List.map_cons, List.nodup_cons]
    refine ⟨fun hm => ?_, ih h5⟩
    obtain ⟨n, hn, e⟩ := List.mem_map.1 hm
    have := soundF_gt l h5 n hn
    omega
theorem Lim.nodup {last : Int} {l : List No} {T O : Int → Int} (h : Lim last l T O) (now : Int) : (ids (l.filter (spentB now))).Nodup :=
  (soundF_nodup l (soundS_iff.1 h.sound).2.2).sublist ((List.filter_sublist (l := l)).map No.id)
/-- the one whose turn it is, is not over yet -/
theorem Lim.turn {last : Int} {l : List No} {T O : Int → Int} (h : Lim last l T O) (now : Int) (j : Nat) (hj : j < (ids (l.filter (spentB now))).length) : updL O ((ids (l.filter (spentB now))).take j) (ids (l.filter (spentB now)))[j] = 0 := by
  obtain ⟨ks, hks⟩ : ∃ ks, ks = ids (l.filter (spentB now)) := ⟨_, rfl⟩
  have hnd := h.nodup now
  have hmem : ∀ k ∈ ks, O k = 0 := by
    intro k hk
    rw [hks] at hk
    obtain ⟨n, hn, rfl⟩ := List.mem_map.1 hk
    obtain ⟨h1, h2⟩ := List.mem_filter.1 hn
    exact h.open_ n h1 (spent_st h2)
  simp only [← hks] at hj hnd ⊢
  unfold updL
  rw [if_neg, hmem _ (List.getElem_mem hj)]
  intro hm
  obtain ⟨i, hi, e⟩ := List.mem_iff_getElem.1 hm
  rw [List.getElem_take] at e
  have hij : i < j := by simp at hi; omega
  exact absurd ((List.getElem_inj hnd).1 e) (by omega)
theorem Lim.tick {last : Int} {l : List No} {T O : Int → Int} (h : Lim last l T O) (now : Int) : Lim last (l.map (tickN now)) T (updL O (ids (l.filter (spentB now)))) := by
  have hin : ∀ n ∈ l, (n.id ∈ ids (l.filter (spentB now)) ↔ spentB now n = true) := by
    intro n hn
    constructor
    · intro hm
      obtain ⟨m, hm, e⟩ := List.mem_map.1 hm
      obtain ⟨h1, h2⟩ := List.mem_filter.1 hm
      obtain ⟨i, hi, rfl⟩ := List.mem_iff_getElem.1 hn
      obtain ⟨j, hj, rfl⟩ := List.mem_iff_getElem.1 h1
      obtain rfl := soundF_ne l (soundS_iff.1 h.sound).2.2 j i hj hi e
      exact h2
    · intro hs
      exact List.mem_map.2 ⟨n, List.mem_filter.2 ⟨hn, hs⟩, rfl⟩
  have key : ∀ m ∈ l.map (tickN now), ∃ n ∈ l, m = tickN now n ∧ m.id = n.id ∧ m.tr = n.tr ∧ (m.st = if spentB now n then 3 else n.st) := by
    intro m hm
    obtain ⟨n, hn, rfl⟩ := List.mem_map.1 hm
    refine ⟨n, hn, rfl, ?_⟩
    unfold tickN
    split <;> simp_all [setSt]
  refine ⟨sound_tick now h.sound, h.low, fun m hm => ?_, fun m hm e => ?_, fun m hm e => ?_, fun k hk => ?_, fun k => ?_⟩
  · obtain ⟨n, hn, -, e1, e2, -⟩ := key m hm
    rw [e1, e2]; exact h.tr n hn
  · obtain ⟨n, hn, -, e1, -, e3⟩ := key m hm
    rw [e1] at e ⊢
    unfold updL at e ⊢
    by_cases hs : spentB now n = true
    · rw [if_pos ((hin n hn).2 hs), e3, if_pos hs]
    · rw [if_neg (fun hm => hs ((hin n hn).1 hm))] at e ⊢
      rw [e3, if_neg hs]; exact h.st n hn e
  · obtain ⟨n, hn, -, e1, -, e3⟩ := key m hm
    rw [e1] at e
    unfold updL at e
    by_cases hs : spentB now n = true
    · rw [if_pos ((hin n hn).2 hs)] at e; omega
    · rw [if_neg (fun hm => hs ((hin n hn).1 hm))] at e
      rw [e3, if_neg hs]; exact h.wait n hn e
  · refine ⟨(h.new k hk).1, ?_⟩
    unfold updL
    rw [if_neg]
    · exact (h.new k hk).2
    · intro hm
      obtain ⟨n, hn, e⟩ := List.mem_map.1 hm
      obtain ⟨h1, -⟩ := List.mem_filter.1 hn
      obtain ⟨i, hi, rfl⟩ := List.mem_iff_getElem.1 h1
      have := (soundF_ids l i hi (soundS_iff.1 h.sound).2.2).2
      omega
  · unfold updL
    split
    · exact .inr (.inr rfl)
    · exact h.vals k
end Go.Proofs.Ytdcinhnplcipoaa
