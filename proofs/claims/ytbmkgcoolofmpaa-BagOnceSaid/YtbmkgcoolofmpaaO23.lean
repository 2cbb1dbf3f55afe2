/- Lemmas for BagOnce (Cp). No statement of the seat is proved here. -/
import Derived.Test.YtbmkgcoolofmpaaO21
import Derived.Test.YtbmkgcoolofmpaaO22
namespace Go.Proofs.Ytbmkgcoolofmpaa
set_option linter.unusedVariables false
set_option linter.unusedSimpArgs false
set_option linter.unusedSectionVars false
open Go Go.RowKit Go.Maps Go.Shelf
theorem perm_out {α : Type} (l : List α) (k : Nat) (hk : k < l.length) : l.Perm (l[k] :: (l.take k ++ l.drop (k + 1))) := by
  have e : l = l.take k ++ l[k] :: l.drop (k + 1) := by rw [List.getElem_cons_drop, List.take_append_drop]
  have : (l.take k ++ l[k] :: l.drop (k + 1)).Perm (l[k] :: (l.take k ++ l.drop (k + 1))) := List.perm_middle
  rw [← e] at this
  exact this
theorem once_take {α : Type} {l R V : List α} (h : (l ++ R).Perm V) (k a : Nat) (hk : k < l.length) (ha : a < V.length) (he : V[a] = l[k]) : ((l.take k ++ l.drop (k + 1)) ++ R).Perm (V.take a ++ V.drop (a + 1)) := by
  have h1 : (l[k] :: ((l.take k ++ l.drop (k + 1)) ++ R)).Perm (V[a] :: (V.take a ++ V.drop (a + 1))) := (((perm_out l k hk).append_right R).symm.trans h).trans (perm_out V a ha)
  rw [he] at h1
  exact List.Perm.cons_inv h1
theorem once_move {α : Type} (l : List α) (k t : Int) : (moveLk l k t).Perm l := by
  unfold moveLk
  split
  · rename_i h
    have hk : k.toNat < l.length := by omega
    unfold moveL
    obtain ⟨L, hL⟩ : ∃ L, L = l.take k.toNat ++ l.drop (k.toNat + 1) := ⟨_, rfl⟩
    rw [← hL]
    have h1 : (L.take t.toNat ++ [l[k.toNat]] ++ L.drop t.toNat).Perm (l[k.toNat] :: (L.take t.toNat ++ L.drop t.toNat)) := by
      rw [List.append_assoc, List.singleton_append]; exact List.perm_middle
    rw [List.take_append_drop] at h1
    exact h1.trans (by rw [hL]; exact (perm_out l k.toNat hk).symm)
  · exact List.Perm.refl _
theorem perm_filter {α : Type} (p : α → Bool) (l : List α) : ∃ R, (l.filter p ++ R).Perm l := by
  induction l with
  | nil => exact ⟨[], List.Perm.refl _⟩
  | cons x l ih =>
    obtain ⟨R, hR⟩ := ih
    by_cases h : p x = true
    · refine ⟨R, ?_⟩
      rw [List.filter_cons_of_pos h, List.cons_append]
      exact hR.cons x
    · refine ⟨x :: R, ?_⟩
      rw [List.filter_cons_of_neg h]
      exact List.perm_middle.trans (hR.cons x)
/-- the letters are among what was put in -/
def Among (ll V : List Ms) : Prop := ∃ R, (ll ++ R).Perm V
theorem Among.start : Among [] [] := ⟨[], List.Perm.refl _⟩
theorem Among.take {l V : List Ms} (h : Among l V) (k a : Nat) (hk : k < l.length) (ha : a < V.length) (he : V[a] = l[k]) : Among (l.take k ++ l.drop (k + 1)) (V.take a ++ V.drop (a + 1)) := by
  obtain ⟨R, hR⟩ := h
  exact ⟨R, once_take hR k a hk ha he⟩
theorem Among.perm {l l' V : List Ms} (h : Among l V) (hp : l'.Perm l) : Among l' V := by
  obtain ⟨R, hR⟩ := h
  exact ⟨R, (hp.append_right R).trans hR⟩
theorem Among.less {l l' R' V : List Ms} (h : Among l V) (hp : (l' ++ R').Perm l) : Among l' V := by
  obtain ⟨R, hR⟩ := h
  refine ⟨R' ++ R, ?_⟩
  rw [← List.append_assoc]
  exact (hp.append_right R).trans hR
theorem Among.put {l V : List Ms} (h : Among l V) (m : Ms) : Among (l ++ [m]) (V ++ [m]) := by
  obtain ⟨R, hR⟩ := h
  refine ⟨R, ?_⟩
  have h1 : (l ++ [m] ++ R).Perm (m :: (l ++ R)) := by rw [List.append_assoc, List.singleton_append]; exact List.perm_middle
  exact (h1.trans (hR.cons m)).trans (List.perm_append_comm (l₁ := [m]) (l₂ := V))
theorem Among.mem {l V : List Ms} (h : Among l V) {m : Ms} (hm : m ∈ l) : m ∈ V := by
  obtain ⟨R, hR⟩ := h
  exact hR.subset (List.mem_append_left R hm)
theorem among_wall {D : List Lt} {V : List Ms} (h : Among (D.map Lt.m) V) (T : Int → Bool) : Among ((keepL T D).map Lt.m) V := by
  obtain ⟨R, hR⟩ := perm_filter (fun x => !crB T x) D
  refine h.less (R' := R.map Lt.m) ?_
  have := hR.map Lt.m
  rw [List.map_append] at this
  exact this
/-- no letter crosses -/
def NoCr (T : Int → Bool) (l : List Lt) : Prop := ∀ x ∈ l, T x.m.frm = T x.m.dst
theorem NoCr.wall (T : Int → Bool) (l : List Lt) : NoCr T (keepL T l) := fun x hx => by
  unfold keepL at hx
  have := (List.mem_filter.1 hx).2
  unfold crB at this
  simpa using this
theorem NoCr.sub {T : Int → Bool} {l l' : List Lt} (h : NoCr T l) (hs : ∀ x ∈ l', x ∈ l) : NoCr T l' := fun x hx => h x (hs x hx)
theorem takeL_sub {α : Type} (l : List α) (k : Int) : ∀ x ∈ takeL l k, x ∈ l := by
  intro x hx
  unfold takeL at hx
  split at hx
  · rcases List.mem_append.1 hx with h | h
    · exact List.mem_of_mem_take h
    · exact List.mem_of_mem_drop h
  · exact hx
/-- pieces of a row of messages -/
theorem MgRow.hiG {W : World} {ao : Option Addr} {cap : Nat} {X : List Mp} (h : MgRow W mgT ao cap X) (k : Nat) (hk : k ≤ X.length) : ∃ aL cL, (∀ V, (Instr.sliceAt 58 (.slice ao X.length cap) none (some (.int .i64 (k : Nat))) none).run Try.prog V = .ok (.slice aL k cL) V) ∧ Sl W 15 aL k cL (mFlat (X.take k)) := by
  have hsz : (Try.prog.info? mgT).map (·.size) = some 15 := by kernel_rfl
  have hle := h.sl.le
  have hrun := fun V => run_slice_sl (P := Try.prog) (w := V) Try.underlying58 hsz ao X.length cap none (some (.int .i64 (k : Nat))) 0 k (.inr ⟨rfl, rfl⟩) (.inl rfl) (Nat.zero_le _) (Nat.le_trans hk hle)
  have hcut := Sl.cut h.sl 0 k (Nat.zero_le _) hk (by decide)
  have e : ((mFlat X).take (k * 15)).drop (0 * 15) = mFlat (X.take k) := by
    have e1 : mFlat X = mFlat (X.take k) ++ mFlat (X.drop k) := by rw [← mFlat_two, List.take_append_drop]
    rw [Nat.zero_mul, List.drop_zero, e1]
    exact List.take_left' (by rw [mFlat_len, List.length_take, Nat.min_eq_left hk])
  rw [show ((X.map mRow).flatten.take (k * 15)).drop (0 * 15) = mFlat (X.take k) from e] at hcut
  exact ⟨_, _, hrun, hcut⟩
theorem MgRow.loG {W : World} {ao : Option Addr} {cap : Nat} {X : List Mp} (h : MgRow W mgT ao cap X) (k : Nat) (hk : k ≤ X.length) : ∃ aR cR, (∀ V, (Instr.sliceAt 58 (.slice ao X.length cap) (some (.int .i64 (k : Nat))) none none).run Try.prog V = .ok (.slice aR (X.length - k) cR) V) ∧ Sl W 15 aR (X.length - k) cR (mFlat (X.drop k)) := by
  have hsz : (Try.prog.info? mgT).map (·.size) = some 15 := by kernel_rfl
  have hle := h.sl.le
  have hrun := fun V => run_slice_sl (P := Try.prog) (w := V) Try.underlying58 hsz ao X.length cap (some (.int .i64 (k : Nat))) none k X.length (.inl rfl) (.inr ⟨rfl, rfl⟩) hk hle
  have hcut := Sl.cut h.sl k X.length hk (Nat.le_refl _) (by decide)
  have e : ((mFlat X).take (X.length * 15)).drop (k * 15) = mFlat (X.drop k) := by
    have e1 : mFlat X = mFlat (X.take k) ++ mFlat (X.drop k) := by rw [← mFlat_two, List.take_append_drop]
    rw [List.take_of_length_le (by rw [mFlat_len]; exact Nat.le_refl _), e1]
    exact List.drop_left' (by rw [mFlat_len, List.length_take, Nat.min_eq_left hk])
  rw [show ((X.map mRow).flatten.take (X.length * 15)).drop (k * 15) = mFlat (X.drop k) from e] at hcut
  exact ⟨_, _, hrun, hcut⟩
theorem MgRow.of_ownG {W : World} {base cap : Nat} {ao : Option Addr} {X : List Mp} (h : W.ownsRow base mgT 15 (.slice ao X.length cap) X.length (mFlat X)) : MgRow W mgT ao cap X :=
  Rw.of_own h (by simp) (fun r hr => by obtain ⟨x, _, rfl⟩ := List.mem_map.1 hr; rfl)
theorem own_msg1G (w : World) (base : Nat) (x : Mp) (hb : base ≤ w.heap.size) : (w.alloc (.cells (mC x) mgT)).ownsRow base mgT 15 (.slice (some ⟨w.heap.size, 0, none⟩) 1 1) 1 (mFlat [x]) :=
  ⟨by simp [mFlat, mRow, mC], .inr ⟨w.heap.size, 1, _, rfl, hb, heap_alloc_new w _, Nat.le_refl _, by unfold maxLen; omega, rfl, by simp [mFlat, mRow, mC]⟩⟩
theorem lens_of {y x : Mp} (h : y.v = x.v) : y.el.length = x.el.length ∧ y.ml.length = x.ml.length := by
  refine ⟨?_, ?_⟩
  · have := congrArg (fun m => (Ms.es m).length) h
    simpa [Mp.v] using this
  · have := congrArg (fun m => (Sn.members (Ms.sn m)).length) h
    simpa [Mp.v] using this
/-- where the law of the statement stands after a call -/
structure OSt (Wb : World) (b : Nat) (ai : Option Addr) (ci : Nat) (I : List Mp) (aA : Option Addr) (cA : Nat) (A : List Int) (n : Nat) (W : World) : Prop where
  bag : ∃ F l, Bg Wb.heap.size W F b 512 (inL A) l ∧ Among (l.map Lt.m) (I.map Mp.v) ∧ NoCr (inL A) l
  low : Below Wb.heap.size Wb W
  iz : Iz Wb .i64 aA cA A
  own : W.ownsRow Wb.heap.size mgT 15 (.slice ai I.length ci) I.length (mFlat I)
  arg : ∀ x ∈ I, MgA Wb x
  few : I.length ≤ n
theorem OSt.below {Wb W W' : World} {b : Nat} {ai : Option Addr} {ci : Nat} {I : List Mp} {aA : Option Addr} {cA : Nat} {A : List Int} {n : Nat} (h : OSt Wb b ai ci I aA cA A n W) (hb : Below W.heap.size W W') : OSt Wb b ai ci I aA cA A n W' := by
  obtain ⟨F, l, h1, h2, h3⟩ := h.bag
  exact ⟨⟨F, l, h1.below hb, h2, h3⟩, below_on h.low hb (Nat.le_refl _), h.iz, own_gr h.own (Gr.below hb) (fun _ _ h => h), h.arg, h.few⟩
theorem OSt.more {Wb W : World} {b : Nat} {ai : Option Addr} {ci : Nat} {I : List Mp} {aA : Option Addr} {cA : Nat} {A : List Int} {n : Nat} (h : OSt Wb b ai ci I aA cA A n W) : OSt Wb b ai ci I aA cA A (n + 1) W := ⟨h.bag, h.low, h.iz, h.own, h.arg, Nat.le_succ_of_le h.few⟩
theorem once_start {Wb W : World} {F : Nat → Prop} {b : Nat} (h : Bg Wb.heap.size W F b 512 (fun _ => false) []) (hb : Below Wb.heap.size Wb W) : OSt Wb b none 0 [] none 0 [] 0 W := by
  have e : inL [] = (fun _ => false) := by funext j; simp [inL]
  refine ⟨⟨F, [], by rw [e]; exact h, Among.start, fun x hx => by cases hx⟩, hb, Iz.nil _ _, ⟨by simp, .inl ⟨rfl, rfl⟩⟩, by simp, Nat.le_refl _⟩
/-- a call on the bag leaves the row of what was put in -/
theorem own_beside {Wb W W' : World} {F : Nat → Prop} {b room : Nat} {T : Int → Bool} {l : List Lt} {ai : Option Addr} {n ci : Nat} {xs : List Value} (h : Bg Wb.heap.size W F b room T l) (ho : W.ownsRow Wb.heap.size mgT 15 (.slice ai n ci) n xs) (hg : Gr F W W') : W'.ownsRow Wb.heap.size mgT 15 (.slice ai n ci) n xs :=
  own_gr ho hg (fun g hgg => h.off (E := mgT) (by decide) (by decide) (own_elemL ho g hgg))
theorem OSt.call {Wb W W' : World} {b : Nat} {ai : Option Addr} {ci : Nat} {I : List Mp} {aA aA' : Option Addr} {cA cA' : Nat} {A A' : List Int} {n : Nat} {F : Nat → Prop} {l l' : List Lt} (h : OSt Wb b ai ci I aA cA A n W) (hb : Bg Wb.heap.size W F b 512 (inL A) l) (hx : Bgx Wb.heap.size W F b 512 (inL A') l' W') (hi : Iz Wb .i64 aA' cA' A') (ha : Among (l'.map Lt.m) (I.map Mp.v)) (hn : NoCr (inL A') l') : OSt Wb b ai ci I aA' cA' A' n W' := by
  obtain ⟨F', h1, h2, h3⟩ := hx
  exact ⟨⟨F', l', h1, ha, hn⟩, h.low.trans (h2.above h.low.size (fun i hi => (hb.elem i hi).2.1)), hi, own_beside hb h.own h2, h.arg, h.few⟩
theorem NoCr.of_map {T : Int → Bool} {l : List Lt} (h : ∀ m ∈ l.map Lt.m, T m.frm = T m.dst) : NoCr T l := fun x hx => h x.m (List.mem_map.2 ⟨x, hx, rfl⟩)
theorem NoCr.to_map {T : Int → Bool} {l : List Lt} (h : NoCr T l) : ∀ m ∈ l.map Lt.m, T m.frm = T m.dst := fun m hm => by
  obtain ⟨x, hx, rfl⟩ := List.mem_map.1 hm
  exact h x hx
theorem putsM_one (room : Nat) (T : Int → Bool) (L : List Ms) (m : Ms) : putsM room T L [m] = if putOk room T L.length m = true then L ++ [m] else L := rfl
theorem putOk_wall {room k : Nat} {T : Int → Bool} {m : Ms} (h : putOk room T k m = true) : T m.frm = T m.dst := by
  unfold putOk at h
  simp only [Bool.and_eq_true, beq_iff_eq] at h
  exact h.1.2
theorem once_nums {n i : Nat} (h : n ≤ i) (h2 : i ≤ 80) : n + 1 ≤ maxLen ∧ (n + 1) * 160 ≤ 140737488355328 := by unfold maxLen; omega
/-- a write to the row of what was put in leaves the bag -/
theorem bag_app {Wb W W' : World} {F : Nat → Prop} {b room : Nat} {T : Int → Bool} {l : List Lt} {ai : Option Addr} {n ci : Nat} {xs : List Value} (h : Bg Wb.heap.size W F b room T l) (ho : W.ownsRow Wb.heap.size mgT 15 (.slice ai n ci) n xs) (hg : W.grownBy W' (Value.slice ai n ci).ownBlock) : Bg Wb.heap.size W' F b room T l :=
  h.beside (H := fun i => (Value.slice ai n ci).ownBlock = some i) (Gr.one hg (fun b e => e)) (fun i hi hh => h.off (E := mgT) (by decide) (by decide) (own_elemL ho i hh) hi) (fun i hh e => by
    rw [own_elemL ho i hh] at e
    exact absurd (Option.some.inj e) (by decide))
theorem inR_at {ll : List Lt} {k : Int} (h : inR ll k = true) : ∃ n : Nat, k = (n : Int) ∧ ∃ hn : n < ll.length, lookM ll k = ll[n].m := by
  have hk : 0 ≤ k ∧ k < (ll.length : Nat) := of_decide_eq_true h
  obtain ⟨n, rfl⟩ : ∃ n : Nat, k = (n : Int) := ⟨k.toNat, by omega⟩
  have hn : n < ll.length := by omega
  exact ⟨n, rfl, hn, lookM_yes hn⟩
theorem among_take {ll : List Lt} {I : List Mp} {k : Int} {n : Nat} (h : Among (ll.map Lt.m) (I.map Mp.v)) (hin : inR ll k = true) (hn : n < I.length) (he : I[n].v = lookM ll k) : Among ((takeL ll k).map Lt.m) ((I.take n ++ I.drop (n + 1)).map Mp.v) := by
  obtain ⟨m, rfl, hm, hl⟩ := inR_at hin
  unfold takeL
  rw [if_pos hin, Int.toNat_natCast, List.map_append, List.map_append, List.map_take, List.map_drop, List.map_take, List.map_drop]
  exact h.take m n (by simpa using hm) (by simpa using hn) (by rw [List.getElem_map, List.getElem_map, he, hl])
theorem take_not {ll : List Lt} {k : Int} (h : inR ll k = false) : takeL ll k = ll := by
  unfold takeL
  rw [h, if_neg (by simp)]
theorem take_in {ll : List Lt} {I : List Mp} {k : Int} (h : Among (ll.map Lt.m) (I.map Mp.v)) (hin : inR ll k = true) : ∃ x ∈ I, x.v = lookM ll k := by
  obtain ⟨m, rfl, hm, hl⟩ := inR_at hin
  have := h.mem (List.mem_map.2 ⟨_, List.getElem_mem hm, rfl⟩)
  rw [← hl] at this
  exact List.mem_map.1 this
theorem take_lens {ll : List Lt} {I : List Mp} {k : Int} {Wb : World} {y : Mp} (h : Among (ll.map Lt.m) (I.map Mp.v)) (hI : ∀ x ∈ I, MgA Wb x) (hy : y.v = lookM ll k) : y.el.length ≤ 1000000 ∧ y.ml.length ≤ 1000000 := by
  by_cases hin : inR ll k = true
  · obtain ⟨x, hx, he⟩ := take_in h hin
    obtain ⟨h1, h2⟩ := lens_of (hy.trans he.symm)
    have := (hI x hx).el
    have := (hI x hx).ml
    rw [h1, h2]
    exact ⟨by omega, by omega⟩
  · have hk : ¬ (0 ≤ k ∧ k < (ll.length : Nat)) := fun e => hin (decide_eq_true e)
    rw [lookM_no hk] at hy
    obtain ⟨h1, h2⟩ := lens_of (x := mp0) (hy.trans mp0_v.symm)
    rw [h1, h2]
    exact ⟨by decide, by decide⟩
/-- what the law has found among what was put in -/
def Found (I : List Mp) (m : Ms) (j : Nat) (a : Int) : Prop := (a = -1 ∧ ∀ i, i < j → ∀ h : i < I.length, I[i].v ≠ m) ∨ ∃ n : Nat, a = (n : Int) ∧ ∃ h : n < I.length, I[n].v = m
theorem Found.start (I : List Mp) (m : Ms) : Found I m 0 (-1) := .inl ⟨rfl, fun i h => absurd h (Nat.not_lt_zero i)⟩
theorem Found.hit {I : List Mp} {m : Ms} {j : Nat} (hj : j < I.length) (he : I[j].v = m) : Found I m (j + 1) (j : Int) := .inr ⟨j, rfl, hj, he⟩
theorem Found.miss {I : List Mp} {m : Ms} {j : Nat} {a : Int} (h : Found I m j a) (hj : j < I.length) (he : I[j].v ≠ m) : Found I m (j + 1) a := by
  rcases h with ⟨h1, h2⟩ | h
  · refine .inl ⟨h1, fun i hi hl => ?_⟩
    by_cases e : i = j
    · subst e; exact he
    · exact h2 i (by omega) hl
  · exact .inr h
theorem Found.there {I : List Mp} {m : Ms} {a : Int} (h : Found I m I.length a) (hx : ∃ x ∈ I, x.v = m) : ∃ n : Nat, a = (n : Int) ∧ ∃ h : n < I.length, I[n].v = m := by
  rcases h with ⟨h1, h2⟩ | h
  · obtain ⟨x, hx, he⟩ := hx
    obtain ⟨i, hi, rfl⟩ := List.mem_iff_getElem.1 hx
    exact absurd he (h2 i hi hi)
  · exact h
theorem same2_o (x y : Mp) (w : World) (h1 : MpAt w x) (h2 : MpAt w y) (hx1 : x.el.length ≤ 1000000) (hx2 : x.ml.length ≤ 1000000) (hy1 : y.el.length ≤ 1000000) (hy2 : y.ml.length ≤ 1000000) :
    Calls Try.prog 20 #[.agg (mC x), .agg (mC y)] w fun e w' => e = .returned (.bool (decide (x.v = y.v))) ∧ Below w.heap.size w w' := wireSame_any x y w h1 h2 hx1 hx2 hy1 hy2
theorem once_out {n N i : Nat} (h : n < N) (h1 : N ≤ i) (h2 : i ≤ 80) : n ≤ 10000 ∧ ¬ ((n : Int) < 0) ∧ n + (N - (n + 1)) ≤ maxLen ∧ (n + (N - (n + 1))) * 160 ≤ 140737488355328 ∧ 0 + n ≤ maxLen ∧ (0 + n) * 160 ≤ 140737488355328 ∧ n + (N - (n + 1)) ≤ i + 1 ∧ n ≤ N ∧ n + 1 ≤ N := by
  unfold maxLen; omega
end Go.Proofs.Ytbmkgcoolofmpaa
