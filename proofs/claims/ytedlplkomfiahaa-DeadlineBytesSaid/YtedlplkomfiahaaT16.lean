/- Lemmas for DeadlineBytes (Xk). No statement of the seat is proved here. -/
import Derived.Test.YtedlplkomfiahaaT15
namespace Go.Proofs.Ytedlplkomfiahaa
set_option linter.unusedVariables false
set_option linter.unusedSimpArgs false
set_option linter.unusedSectionVars false
open Go Go.RowKit Go.Maps
theorem ownsMap_tight {W : World} {R : Value → Option (DataW Unit × List MemPlace)} {b n m : Nat} {D : DataW Unit} (h : W.ownsMap Try.prog 28 R b n D) (hm : Maps.size D ≤ m) : W.ownsMap Try.prog 28 R b m D := by
  obtain ⟨es, clock, hb, F, hs, rfl⟩ := h
  refine ⟨es, clock, hb, F, ?_, rfl⟩
  simpa [Maps.size, length_sorted] using hm
theorem Rng.tight {W : World} {F : Nat → Prop} {r n m : Nat} {L : RLs} (h : Rng W F r n L) (hm : L.length ≤ m) : Rng W F r m L := by
  obtain ⟨mb, sv, u, h1, h2⟩ := h.mem
  obtain ⟨D, h3, h4⟩ := h1.map
  exact ⟨h.ok, hm, h.bd, mb, sv, u, ⟨h1.blk, h1.len, h1.rows, h1.apart, ⟨D, ownsMap_tight h3 (by rw [h4.size]; simpa [pairs] using hm), h4⟩, h1.footR, h1.footM⟩, h2⟩
theorem Tot.len_ring (R : Nat → RLs) (far : List Th) (k : Nat) (hk : k < 4) : (R k).length ≤ (Tot R far).length := by
  have e : (Tot R far).length = far.length + ((R 0).length + ((R 1).length + ((R 2).length + (R 3).length))) := by simp [Tot]
  rcases (by omega : k = 0 ∨ k = 1 ∨ k = 2 ∨ k = 3) with rfl | rfl | rfl | rfl <;> omega
theorem Tot.len_far (R : Nat → RLs) (far : List Th) : far.length ≤ (Tot R far).length := by simp [Tot]
theorem Whm.tight {W : World} {F : Nat → Prop} {G : Nat → Nat → Prop} {w : Nat} {now : Int} {rs : Nat → Nat} {pf mf n m : Nat} {R : Nat → RLs} {far : List Th} (h : Whm W F G w now rs pf mf n R far) (hm : (Tot R far).length ≤ m) : Whm W F G w now rs pf mf m R far := by
  obtain ⟨D, h1, h2⟩ := h.map
  exact ⟨h.blk, h.fblk, fun k hk => (h.ring k hk).tight (Nat.le_trans (Tot.len_ring R far k hk) hm), h.apart, h.sub, h.out, h.fw, h.ff, h.fm, h.bd, D, ownsMap_tight h1 (by rw [h2.size]; simpa [fpairs] using Nat.le_trans (Tot.len_far R far) hm), h2⟩
/-- a ring's call that writes only what the ring had -/
theorem Whm.stepS {W W' : World} {F : Nat → Prop} {G : Nat → Nat → Prop} {w : Nat} {now : Int} {rs : Nat → Nat} {pf mf n : Nat} {R : Nat → RLs} {far : List Th} (h : Whm W F G w now rs pf mf n R far) (k : Nat) (hk : k < 4) (L' : RLs)
    (hr : Rng W' (G k) (rs k) n L') (hg : Gr (G k) W W') : Whm W' F G w now rs pf mf n (updF R k L') far ∧ Gr F W W' := by
  have hgF : Gr F W W' := hg.mono (h.sub k hk)
  have hkw := h.out k hk
  refine ⟨⟨(hg.block w (h.bd w h.fw) hkw.1).trans h.blk, (hg.block pf (h.bd pf h.ff) hkw.2.1).trans h.fblk, fun j hj => ?_, h.apart, h.sub, h.out, h.fw, h.ff, h.fm, fun i hi => Nat.lt_of_lt_of_le (h.bd i hi) hg.size, ?_⟩, hgF⟩
  · unfold updF
    by_cases e : j = k
    · subst e; simp only [if_true]; exact hr
    · simp only [if_neg e]
      exact (h.ring j hj).beside hg fun i hi => h.apart j k hj hk e i hi
  · obtain ⟨D, ⟨es, clock, h1, h2⟩, h3⟩ := h.map
    exact ⟨D, ⟨es, clock, (hg.block mf (h.bd mf h.fm) hkw.2.2).trans h1, h2⟩, h3⟩
/-- the map beyond is another one: a new one -/
theorem Whm.newMap {W W' : World} {F : Nat → Prop} {G : Nat → Nat → Prop} {w : Nat} {now : Int} {rs : Nat → Nat} {pf mf n mg : Nat} {R : Nat → RLs} {far : List Th} (h : Whm W F G w now rs pf mf n R far)
    (hmg : mg = W.heap.size) (hW : W' = (W.setCell ⟨pf, 0, none⟩ (.map (some mg))).alloc (.map #[] 0)) :
    Whm W' (fun i => (F i ∧ i ≠ mf) ∨ i = mg) G w now rs pf mg n R [] ∧ Gr F W W' ∧ ∃ D, W'.ownsMap Try.prog 28 thElem mf n D ∧ MapL D (fpairs far) := by
  have hne := h.ne
  have hpl := h.bd pf h.ff
  have hwl := h.bd w h.fw
  have hml := h.bd mf h.fm
  have hgs := grown_set W pf 0 (.map (some mg))
  have hsz : (W.setCell ⟨pf, 0, none⟩ (.map (some mg))).heap.size = W.heap.size := by simp
  have hB : Below W.heap.size (W.setCell ⟨pf, 0, none⟩ (.map (some mg))) W' := by rw [hW, ← hsz]; exact below_new _ _
  have hoth : ∀ i, i ≠ pf → (W.setCell ⟨pf, 0, none⟩ (.map (some mg))).heap[i]? = W.heap[i]? := fun i hi => heap_setCell_other _ ⟨pf, 0, none⟩ i _ hi
  have hfs := block_set h.fblk 0 (.map (some mg))
  simp only [List.setIfInBounds_toArray, List.set_cons_zero] at hfs
  have hfs := (hB.block pf hpl).trans hfs
  have hkeep : ∀ i, i < W.heap.size → i ≠ pf → W'.heap[i]? = W.heap[i]? := fun i hi hp => (hB.block i hi).trans (hoth i hp)
  have hz2 : W.heap.size ≤ W'.heap.size := by rw [← hsz]; exact hB.size
  have hz3 : mg < W'.heap.size := by rw [hmg, hW]; simp
  have hnew : W'.ownsMap Try.prog 28 thElem mg n (.map []) := by
    have h0 := World.ownsMap_made (W.setCell ⟨pf, 0, none⟩ (.map (some mg))) Try.prog 28 thElem (H := Unit)
    rw [hsz, ← hmg, ← hW] at h0
    exact h0.mono (Nat.zero_le _)
  refine ⟨⟨(hkeep w hwl hne.1).trans h.blk, hfs, fun k hk => (h.ring k hk).kept hz2 fun i hi => hkeep i (h.bd i (h.sub k hk i hi)) (fun e => (h.out k hk).2.1 (e ▸ hi)), h.apart, fun k hk i hi => .inl ⟨h.sub k hk i hi, fun e => (h.out k hk).2.2 (e ▸ hi)⟩, fun k hk => ⟨(h.out k hk).1, (h.out k hk).2.1, fun e => ?_⟩, .inl ⟨h.fw, hne.2.1⟩, .inl ⟨h.ff, hne.2.2⟩, .inr rfl, fun i hi => ?_, .map [], hnew, MapL.nil⟩, ?_, ?_⟩
  · have := h.bd mg (h.sub k hk mg e); omega
  · rcases hi with hi | hi
    · exact Nat.lt_of_lt_of_le (h.bd i hi.1) hz2
    · rw [hi]; exact hz3
  · refine ⟨hB.os.trans hgs.os, hB.tape.trans hgs.tape, hB.output.trans hgs.output, hz2, fun i hi hn => hkeep i hi (fun e => hn (e ▸ h.ff))⟩
  · obtain ⟨D, ⟨es, clock, h1, h2⟩, h3⟩ := h.map
    exact ⟨D, ⟨es, clock, (hkeep mf hml (Ne.symm hne.2.2)).trans h1, h2⟩, h3⟩
/-- each thing lies where it must -/
structure Cls (now : Int) (R : Nat → RLs) (far : List Th) : Prop where
  ring : ∀ k, k < 4 → ∀ p ∈ R k, ringN now p.1.due = k ∧ p.2 = slotN k p.1.due
  far : ∀ t ∈ far, ringN now t.due = 4
theorem cnt_of {l m : List Th} (h : l.Perm m) (a : Th) : l.count a = m.count a := h.count_eq a
theorem of_cnt {l m : List Th} (h : ∀ a, l.count a = m.count a) : l.Perm m := List.perm_iff_count.2 h
theorem Tot.cnt (R : Nat → RLs) (far : List Th) (a : Th) : (Tot R far).count a = far.count a + (((R 0).map (·.1)).count a + (((R 1).map (·.1)).count a + (((R 2).map (·.1)).count a + ((R 3).map (·.1)).count a))) := by
  unfold Tot; simp only [List.count_append]
theorem left_cnt (L : RLs) (k : Nat) (a : Th) : (L.map (·.1)).count a = (rowOf L k).count a + ((left L k).map (·.1)).count a := by
  have h := (List.filter_append_perm (fun p : Th × Nat => decide (p.2 = k)) L).map (·.1)
  have h2 := cnt_of h a
  rw [List.map_append, List.count_append] at h2
  rw [← h2]
  unfold rowOf left
  congr 3
  apply List.filter_congr
  intro p _
  simp
theorem Tot.taken (R : Nat → RLs) (far : List Th) (i k : Nat) (hi : i < 4) (a : Th) : (Tot R far).count a = (rowOf (R i) k).count a + (Tot (updF R i (left (R i) k)) far).count a := by
  rw [Tot.cnt, Tot.cnt]
  have h := left_cnt (R i) k a
  rcases (by omega : i = 0 ∨ i = 1 ∨ i = 2 ∨ i = 3) with rfl | rfl | rfl | rfl <;> simp only [updF, if_true, show ¬ ((0 : Nat) = 1) from by decide, show ¬ ((0 : Nat) = 2) from by decide, show ¬ ((0 : Nat) = 3) from by decide, show ¬ ((1 : Nat) = 0) from by decide, show ¬ ((1 : Nat) = 2) from by decide, show ¬ ((1 : Nat) = 3) from by decide, show ¬ ((2 : Nat) = 0) from by decide, show ¬ ((2 : Nat) = 1) from by decide, show ¬ ((2 : Nat) = 3) from by decide, show ¬ ((3 : Nat) = 0) from by decide, show ¬ ((3 : Nat) = 1) from by decide, show ¬ ((3 : Nat) = 2) from by decide, if_false] <;> omega
/-- a turn under way: the rings below i are done, of ring i the slots below k -/
structure Stg (b : Int) (R0 : Nat → RLs) (far0 : List Th) (i k : Nat) (R : Nat → RLs) (late : List Th) : Prop where
  lo : ∀ j, j < i → ∀ p ∈ R j, ringN b p.1.due = j ∧ p.2 = slotN j p.1.due
  cur : i < 4 → R i = (R0 i).filter (fun p => decide (k ≤ p.2))
  hi : ∀ j, i < j → j < 4 → R j = R0 j
  perm : (Tot R0 far0).Perm (late ++ Tot R far0)
  late : ∀ t ∈ late, t.due ≤ b
theorem filter_zero (L : RLs) : L.filter (fun p => decide (0 ≤ p.2)) = L := List.filter_eq_self.2 fun p _ => by simp
theorem Stg.start (b : Int) (R0 : Nat → RLs) (far0 : List Th) : Stg b R0 far0 0 0 R0 [] := ⟨fun j hj => by omega, fun _ => (filter_zero _).symm, fun _ _ _ => rfl, List.Perm.refl _, by simp⟩
theorem Stg.jump {b : Int} {R0 : Nat → RLs} {far0 : List Th} {i : Nat} {R : Nat → RLs} {late : List Th} (h : Stg b R0 far0 i 0 R late) (k : Nat) (hk : ∀ p ∈ R0 i, k ≤ p.2) : Stg b R0 far0 i k R late :=
  ⟨h.lo, fun hi => (h.cur hi).trans (by rw [filter_zero]; exact (List.filter_eq_self.2 fun p hp => by simpa using hk p hp).symm), h.hi, h.perm, h.late⟩
theorem Stg.next {b : Int} {R0 : Nat → RLs} {far0 : List Th} {i : Nat} {R : Nat → RLs} {late : List Th} (h : Stg b R0 far0 i 64 R late) (hi4 : i < 4) (hk : ∀ p ∈ R0 i, p.2 < 64) : Stg b R0 far0 (i + 1) 0 R late := by
  have he : R i = [] := by
    rw [h.cur hi4, List.filter_eq_nil_iff]
    intro p hp; have := hk p hp; simp; omega
  refine ⟨fun j hj p hp => ?_, fun hi => ?_, fun j hj hj4 => h.hi j (by omega) hj4, h.perm, h.late⟩
  · rcases Nat.lt_or_ge j i with h1 | h1
    · exact h.lo j h1 p hp
    · obtain rfl : j = i := by omega
      rw [he] at hp; cases hp
  · rw [h.hi (i + 1) (by omega) hi, filter_zero]
/-- the row that is taken next -/
theorem Stg.row_mem {b : Int} {R0 : Nat → RLs} {far0 : List Th} {i k : Nat} {R : Nat → RLs} {late : List Th} (h : Stg b R0 far0 i k R late) (hi : i < 4) {t : Th} (ht : t ∈ Sta.srt thLe (rowOf (R i) k)) : (t, k) ∈ R0 i := by
  have h1 := mem_rowOf.1 ((Sta.srt_perm thLe (rowOf (R i) k)).mem_iff.1 ht)
  rw [h.cur hi] at h1
  exact (List.mem_filter.1 h1).1
theorem Stg.step {b : Int} {R0 : Nat → RLs} {far0 : List Th} {i k : Nat} {R : Nat → RLs} {late : List Th} (h : Stg b R0 far0 i k R late) (hi : i < 4) (hd : ∀ t ∈ Sta.srt thLe (rowOf (R i) k), t.due ≤ b ∨ ringN b t.due < i) :
    Stg b R0 far0 i (k + 1) (putsR (updF R i (left (R i) k)) b (Sta.srt thLe (rowOf (R i) k))) (late ++ lateOf b (Sta.srt thLe (rowOf (R i) k))) ∧ putsF far0 b (Sta.srt thLe (rowOf (R i) k)) = far0 := by
  have hpm := Sta.srt_perm thLe (rowOf (R i) k)
  obtain ⟨l, hl⟩ : ∃ l, l = Sta.srt thLe (rowOf (R i) k) := ⟨_, rfl⟩
  rw [← hl] at hd hpm ⊢
  have hF : putsF far0 b l = far0 := putsF_other far0 b l fun t ht => (hd t ht).imp id (fun x => by omega)
  refine ⟨⟨fun j hj p hp => ?_, fun _ => ?_, fun j hj hj4 => ?_, of_cnt fun a => ?_, fun t ht => ?_⟩, hF⟩
  · rcases putsR_mem _ b l j p hp with h1 | ⟨-, -, h3, h4⟩
    · unfold updF at h1
      rw [if_neg (by omega)] at h1
      exact h.lo j hj p h1
    · exact ⟨h3, h4⟩
  · rw [putsR_other _ b l i fun t ht => (hd t ht).imp id (fun x => by omega)]
    simp only [updF, if_true]
    rw [h.cur hi]
    unfold left
    rw [List.filter_filter]
    apply List.filter_congr
    intro p _
    rw [Bool.eq_iff_iff]
    simp only [Bool.and_eq_true, decide_eq_true_eq, ne_eq]
    omega
  · rw [putsR_other _ b l j fun t ht => (hd t ht).imp id (fun x => by omega)]
    unfold updF
    rw [if_neg (by omega)]
    exact h.hi j hj hj4
  · have h1 := cnt_of h.perm a
    have h2 := Tot.taken R far0 i k hi a
    have h3 := cnt_of hpm a
    have h4 := cnt_of (Tot.puts (updF R i (left (R i) k)) far0 b l) a
    have h5 := cnt_of (split_late b l) a
    rw [hF] at h4
    simp only [List.count_append] at h1 h4 h5 ⊢
    omega
  · rcases List.mem_append.1 ht with h1 | h1
    · exact h.late t h1
    · have := (List.mem_filter.1 h1).2
      simpa using this
/-- the ring that stands is done -/
theorem Stg.done {a b : Int} {R0 : Nat → RLs} {far0 : List Th} {i : Nat} {R : Nat → RLs} {late : List Th} (h : Stg b R0 far0 i (slotN i b + 1) R late) (hi : i < 4) (hc : Cls a R0 far0) (hf : ∀ t ∈ far0, a < t.due) (h0 : 0 ≤ a) (h1 : a ≤ b) (he : a / wid (i + 1) = b / wid (i + 1)) (hr : ∀ k, k < 4 → ∀ p ∈ R0 k, a < p.1.due) : Cls b R far0 ∧ ∀ t ∈ far0, b < t.due := by
  refine ⟨⟨fun j hj p hp => ?_, fun t ht => (turn_high i 4 a b t.due (by omega) (by omega) (by omega) h0 h1 he (hc.far t ht) (hf t ht)).2⟩, fun t ht => (turn_high i 4 a b t.due (by omega) (by omega) (by omega) h0 h1 he (hc.far t ht) (hf t ht)).1⟩
  rcases Nat.lt_trichotomy j i with hji | hji | hji
  · exact h.lo j hji p hp
  · subst hji
    rw [h.cur hi] at hp
    have hp2 := List.mem_filter.1 hp
    simp only [decide_eq_true_eq] at hp2
    have hq := hc.ring j hj p hp2.1
    refine ⟨(turn_stay j a b p.1.due (by omega) h0 h1 he hq.1 (by omega)).2, hq.2⟩
  · rw [h.hi j hji hj] at hp
    have hq := hc.ring j hj p hp
    exact ⟨(turn_high i j a b p.1.due (by omega) hji (by omega) h0 h1 he hq.1 (hr j hj p hp)).2, hq.2⟩
theorem Cls.soon {now : Int} {R : Nat → RLs} {far : List Th} (h : Cls now R far) : ∀ k, k < 4 → ∀ p ∈ R k, now < p.1.due := fun k hk p hp => by
  have := (h.ring k hk p hp).1
  have hc := ring_cases now p.1.due
  omega
end Go.Proofs.Ytedlplkomfiahaa
