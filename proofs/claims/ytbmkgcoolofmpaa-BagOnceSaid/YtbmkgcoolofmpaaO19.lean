/- Lemmas for BagOnce (Bi). No statement of the seat is proved here. -/
import Derived.Test.YtbmkgcoolofmpaaO18
namespace Go.Proofs.Ytbmkgcoolofmpaa
set_option linter.unusedVariables false
set_option linter.unusedSimpArgs false
set_option linter.unusedSectionVars false
open Go Go.RowKit Go.Maps Go.Shelf
def mRow (x : Mp) : List Value := (mC x).toList
theorem mRow_len (x : Mp) : (mRow x).length = 15 := rfl
theorem mRow_one (x : Mp) : ∀ u ∈ mRow x, u.oneCell' = true := by
  have := mC_one x
  rw [Array.all_eq_true'] at this
  intro u hu
  exact this u (by unfold mRow at hu; simpa using hu)
theorem mRows_one (X : List Mp) : ∀ u ∈ (X.map mRow).flatten, u.oneCell' = true := by
  intro u hu
  obtain ⟨r, hr, hu⟩ := List.mem_flatten.1 hu
  obtain ⟨x, _, rfl⟩ := List.mem_map.1 hr
  exact mRow_one x u hu
theorem Rw.gr {W W' : World} {E : TypeId} {k n cap : Nat} {ao : Option Addr} {rows : List (List Value)} {H : Nat → Prop} (h : Rw W E k ao n cap rows) (hg : Gr H W W') (hH : ∀ i, H i → elem? W i ≠ some E) : Rw W' E k ao n cap rows := by
  have key : ∀ b off s, ao = some ⟨b, off, s⟩ → W'.heap[b]? = W.heap[b]? := fun b off s e => by
    have ht := h.typ b off s e
    exact hg.block b (elem?_lt ht) fun e2 => hH b e2 ht
  refine ⟨h.num, h.each, ⟨h.sl.len, h.sl.le, h.sl.max, h.sl.none, fun j u hu => ?_⟩, fun b off s e => ?_⟩
  · obtain ⟨b, off, e, hc⟩ := h.sl.cell j u hu
    exact ⟨b, off, e, by rw [World.cell?_of_block (w := W) (key b off .none e)]; exact hc⟩
  · rw [elem?_same (key b off s e)]; exact h.typ b off s e
/-- a row of messages -/
def MgRow (W : World) (E : TypeId) (ao : Option Addr) (cap : Nat) (X : List Mp) : Prop := Rw W E 15 ao X.length cap (X.map mRow)
theorem MgRow.load {W : World} {E : TypeId} {ao : Option Addr} {cap : Nat} {X : List Mp} (h : MgRow W E ao cap X) (i : Nat) (hi : i < X.length) (T : TypeId) (hT : T = mgT ∨ T = rmT) : ∃ g o, ao = some ⟨g, o, none⟩ ∧ g < W.heap.size ∧ elem? W g = some E ∧ ∀ V, V.heap[g]? = W.heap[g]? → (Instr.loadAt T (.pointer (some ⟨g, o + i * 15, none⟩))).run Try.prog V = .ok (.agg (mC X[i])) V := by
  obtain ⟨g, o, rfl, hc⟩ := Rw.get h (by decide) i hi
  have ht := h.typ g o none rfl
  refine ⟨g, o, rfl, elem?_lt ht, ht, fun V hV => ld_mg (p := 0) T hT fun j u hu => ?_⟩
  have e0 : (X.map mRow)[i]'(by simpa using hi) = mRow X[i] := by simp
  have e : ((X.map mRow)[i]'(by simpa using hi))[j]? = some u := by rw [e0]; unfold mRow mC; rw [Array.getElem?_toList]; exact hu
  obtain ⟨hj, e1⟩ := List.getElem?_eq_some_iff.1 e
  rw [World.cell?_of_block (w := W) hV, hc j hj, e1]
/-- a message that came as an argument -/
structure MgA (Wb : World) (x : Mp) : Prop where
  at_ : MpAt Wb x
  el : x.el.length ≤ 20
  ml : x.ml.length ≤ 30
  num : MsgOk x
def putOk (room : Nat) (T : Int → Bool) (k : Nat) (m : Ms) : Bool := soundM m && (T m.frm == T m.dst) && decide (k < room)
def putsM (room : Nat) (T : Int → Bool) (L X : List Ms) : List Ms := X.foldl (fun L m => if putOk room T L.length m = true then L ++ [m] else L) L
theorem putsM_next (room : Nat) (T : Int → Bool) (L : List Ms) (X : List Mp) (i : Nat) (hi : i < X.length) : putsM room T L ((X.take (i + 1)).map Mp.v) = if putOk room T (putsM room T L ((X.take i).map Mp.v)).length X[i].v = true then putsM room T L ((X.take i).map Mp.v) ++ [X[i].v] else putsM room T L ((X.take i).map Mp.v) := by
  unfold putsM
  rw [List.take_succ_eq_append_getElem hi, List.map_append, List.foldl_append]
  rfl
theorem BsT.of_own {W : World} {base cap : Nat} {ao : Option Addr} {l : List UInt8} (h : W.ownsRow base 5 1 (.slice ao l.length cap) l.length (l.map u8)) : BsT W ao cap l :=
  ⟨Bs.of_own h, fun b off s e => own_elemL h b (by subst e; rfl)⟩
theorem len_max {n r : Nat} (h : n ≤ r ∧ r ≤ 512) : n + 1 ≤ maxLen := by unfold maxLen; omega
theorem len_bytes {n r : Nat} (h : n ≤ r ∧ r ≤ 512) : (n + 1) * 40 ≤ 140737488355328 := by omega
theorem n_le {a n k r : Nat} (h : a + n = k) (h1 : k ≤ r ∧ r ≤ 512) : n ≤ 10000 := by omega
theorem n_next {a n k k' : Nat} (h : a + n = k) (h1 : k' = k + 1) : Hid (a + (n + 1) = k') := (by omega : a + (n + 1) = k')
theorem wrap_n10 {n : Nat} (h : n ≤ 10000) : wrap64 ((n : Int) + 1) = (n : Int) + 1 := by rw [IntWalk.wrap64_in _ (by omega)]
theorem put_yes {room k : Nat} {T : Int → Bool} {m : Ms} (h1 : soundM m = true) (h2 : T m.frm = T m.dst) (h3 : k < room) : putOk room T k m = true := by
  unfold putOk
  rw [h1, h2]; simp [h3]
theorem put_mem {base : Nat} {U1 U2 : World} {b m n room : Nat} {T : Int → Bool} {a1 a2 : Option Addr} {c1 c2 : Nat} {l : List Lt} {x9 : Lt} (h1 : U1.heap[b]? = some (.cells #[.int .i64 (room : Nat), .map (some m), .slice a1 l.length c1] bgT (0, 0)))
    (h2 : U1.ownsRow base ltT 3 (.slice a1 l.length c1) l.length (ltFlat l)) (h3 : Ap U1 m n T ∧ n ≤ 1000) (h4 : ∀ x ∈ l, LtOk U1 x) (h9x : LtOk U1 x9) (h6 : base ≤ b) (h7 : base ≤ m) (hlt : l.length < room) (hr : room ≤ 512)
    (own2 : U2.ownsRow base ltT 3 (.slice a2 (l.length + 1) c2) (l.length + 1) (ltFlat l ++ ltFlat [x9])) (hgr : U1.grownBy U2 (Value.slice a1 l.length c1).ownBlock) (hat : ∀ g, (Value.slice a2 (l.length + 1) c2).ownBlock = some g → (Value.slice a1 l.length c1).ownBlock = some g ∨ g = U1.heap.size) :
    Bg base (U2.setCell ⟨b, 2, none⟩ (.slice a2 (l.length + 1) c2)) (fun i => i = b ∨ i = m ∨ (Value.slice a2 (l.length + 1) c2).ownBlock = some i) b room T (l ++ [x9]) ∧ Gr (fun i => i = b ∨ i = m ∨ (Value.slice a1 l.length c1).ownBlock = some i) U1 (U2.setCell ⟨b, 2, none⟩ (.slice a2 (l.length + 1) c2)) ∧ (∀ i, (i = b ∨ i = m ∨ (Value.slice a2 (l.length + 1) c2).ownBlock = some i) → (i = b ∨ i = m ∨ (Value.slice a1 l.length c1).ownBlock = some i) ∨ U1.heap.size ≤ i) ∧ U2.heap[b]? = U1.heap[b]? := by
  have hrow : ∀ g, (Value.slice a1 l.length c1).ownBlock = some g → elem? U1 g = some ltT := own_elemL h2
  have hbU : U2.heap[b]? = U1.heap[b]? := hgr.block b (bx_lt h1) (fun e => by
    have := hrow b e.symm
    rw [elem?_of h1] at this
    exact absurd this (by decide))
  have hmU : U2.heap[m]? = U1.heap[m]? := hgr.block m h3.1.lt (fun e => h3.1.elem ltT (hrow m e.symm))
  have hdat : ∀ x, LtOk U1 x → LtOk U2 x := fun x hx => ⟨hx.dat.kept (fun i hi => hgr.block i (elem?_lt hi) (fun e => by
    have := hrow i e.symm
    rw [hi] at this
    exact absurd this (by decide))), hx.fit⟩
  have hl9 : (l ++ [x9]).length = l.length + 1 := by simp
  have e2 : ltFlat l ++ ltFlat [x9] = ltFlat (l ++ [x9]) := by simp [ltFlat]
  rw [e2] at own2
  have hbg := bg_setrow (base := base) (W := U2) (b := b) (m := m) (n := n) (room := room) (T := T) (v := .slice a1 l.length c1) (ao := a2) (cap := c2) (l := l ++ [x9]) (hbU.trans h1) (by rw [hl9]; exact own2) (h3.1.kept hmU) h3.2 (fun x hx => by
    rcases List.mem_append.1 hx with hx | hx
    · exact hdat x (h4 x hx)
    · simp only [List.mem_singleton] at hx; subst hx; exact hdat _ h9x) h6 h7 (by rw [hl9]; exact hlt) hr
  rw [hl9] at hbg
  refine ⟨hbg, (Gr.one hgr (fun g hg => .inr (.inr hg))).trans (Gr.one (grown_set U2 b 2 _) (fun g hg => .inl (Option.some.inj hg).symm)), fun i hi => ?_, hbU⟩
  rcases hi with hi | hi | hi
  · exact .inl (.inl hi)
  · exact .inl (.inr (.inl hi))
  · rcases hat i hi with h | h
    · exact .inl (.inr (.inr h))
    · exact .inr (by omega)
section
variable {Wb W W' : World} {F : Nat → Prop} {b room : Nat} {T : Int → Bool} {l : List Lt}
theorem Bg.up (h : Bg Wb.heap.size W F b room T l) (hb : Below Wb.heap.size Wb W) (hg : Gr F W W') : Below Wb.heap.size Wb W' := by
  refine hb.trans (hg.above hb.size (fun i hi => (h.elem i hi).2.1))
set_option maxRecDepth 100000 in
set_option maxHeartbeats 4000000 in
theorem bput_o (h : Bg Wb.heap.size W F b room T l) (hwb : Below Wb.heap.size Wb W) (X : List Mp) (ao : Option Addr) (cap : Nat) (hX : MgRow W mgT ao cap X) (hA : ∀ x ∈ X, MgA Wb x) (hl : X.length ≤ 1000) :
    Calls Try.prog 14 #[.pointer (some ⟨b, 0, none⟩), .slice ao X.length cap] W fun e W' => ∃ (l' : List Lt) (n : Nat), e = .returned (.int .i64 (n : Nat)) ∧ l'.map Lt.m = putsM room T (l.map Lt.m) (X.map Mp.v) ∧ l.length + n = l'.length ∧ Bgx Wb.heap.size W F b room T l' W' := by
  have Hno : Hid (Calls Try.prog 28 #[.pointer (some ⟨b, 0, none⟩)] W fun e W' => e = .returned (.bool false) ∧ W' = W) := by
    obtain ⟨m, n, a1, c1, h1, -⟩ := h
    have e1 := block_cell h1 1
    simp at e1
    exact bnone_no W b m e1 (bx_lt h1)
  have HBG := Lib.hid h
  have HWB := Lib.hid hwb
  have HX := Lib.hid hX
  have HA := Lib.hid hA
  have HF0 : Hid (∀ i, F i → elem? W i ≠ some mgT) := (fun i hi e => h.off (by decide) (by decide) e hi : ∀ i, F i → elem? W i ≠ some mgT)
  clear h hwb hX hA
  go_enter Try.func14, Try.ntmps14
  go_wp2_with fail
  refine Hno.out.mono ?_
  rintro e V1 ⟨rfl, hv⟩
  subst V1
  go_wp2_with fail
  go_loopw [14, 4] (fun u v wr => ∃ (i n : Nat) (l' : List Lt), u = .int .i64 (i : Nat) ∧ v = .int .i64 (n : Nat) ∧ i ≤ X.length ∧ Hid (l'.map Lt.m = putsM room T (l.map Lt.m) ((X.take i).map Mp.v)) ∧ Hid (l.length + n = l'.length) ∧ Hid (Bgx Wb.heap.size W F b room T l' wr)) (fun u _ _ => X.length - (intOf u).toNat)
  case atStart => exact ⟨0, 0, l, rfl, rfl, Nat.zero_le _, Lib.hid (by simp [putsM]), Lib.hid rfl, Lib.hid (Bgx.same HBG.out (Below.refl _ _))⟩
  case round =>
    obtain ⟨i, n, l', rfl, rfl, hi, Hinv, Hn, Hbg⟩ := hrel
    by_cases hlt : i < X.length
    · obtain ⟨F', hb', hg', hF'⟩ := Hbg.out
      have hwr := HBG.out.up HWB.out hg'
      obtain ⟨g, o, hao, hgl, hge, hld⟩ := MgRow.load (show MgRow wr mgT ao cap X from Rw.gr HX.out hg' HF0.out) i hlt mgT (.inl rfl)
      subst hao
      have hma := HA.out _ (List.getElem_mem hlt)
      have hnx := putsM_next room T (l.map Lt.m) X i hlt
      obtain ⟨x, hx⟩ : ∃ x, x = X[i] := ⟨_, rfl⟩
      rw [← hx] at hld hma hnx
      rw [← Hinv.out, List.length_map] at hnx
      have l16 := hld wr rfl
      have i0 : (0 : Int) ≤ (i : Int) := by omega
      have i1 : (i : Int) < (X.length : Int) := by omega
      have Hmsg := Lib.hid (And.intro hb' (And.intro hg' (And.intro hF' (And.intro hwr (And.intro hma hnx)))))
      clear hx hld hma hnx hb' hg' hF' hwr hge
      go_upto_region 6 with (first | ((with_reducible show wpList _ _ _ (⟨_, Op.load _ _, _, _, _, _⟩ :: _) _ _); refine wpl_ldT rfl rfl rfl (by assumption) ?_) | (refine wpl_alM rfl (.inl rfl) rfl ?_; intro p6 V2 hp6 hb2 hx2 hz2; clear hz2; have hp6' := Lib.hid (Nat.le_of_eq hp6.symm); clear hp6) | (refine wpl_stM rfl (.inl rfl) rfl rfl rfl hx2 rfl ?_; intro V3 hx3 hg3 hz3; clear hz3))
      have hB3w : Below wr.heap.size wr V3 := below_grown hb2 hg3 hp6'.out hb2.size
      have HWV3 := Lib.hid (below_on Hmsg.out.2.2.2.1 hB3w (Nat.le_refl _))
      have HB3 := Lib.hid hB3w
      clear hB3w hb2 hg3 hx2 hp6' l16
      have l19 := ld_mbox mgT mgT (.inl rfl) hx3
      go_wp2_with ((with_reducible show wpList _ _ _ (⟨_, Op.load _ _, _, _, _, _⟩ :: _) _ _); refine wpl_ldT rfl rfl rfl (by assumption) ?_)
      clear l19
      by_cases hsd : soundM x.v = false
      · refine (show Calls _ _ _ _ _ from wireBytes_bad x V3 (Hmsg.out.2.2.2.2.1.at_.below HWV3.out) (by have := Hmsg.out.2.2.2.2.1.el; omega) (by have := Hmsg.out.2.2.2.2.1.ml; omega) Hmsg.out.2.2.2.2.1.num.1 hsd).mono ?_
        rintro e V4 ⟨rfl, hb4⟩
        have q6 := bx_below hb4 hx3
        have q1 : V4.cell? ⟨p6, 1, none⟩ = some (.int .i64 x.frm) := by rw [block_cell q6 1]; rfl
        have q2 : V4.cell? ⟨p6, 2, none⟩ = some (.int .i64 x.dst) := by rw [block_cell q6 2]; rfl
        have ql := bx_lt q6
        obtain ⟨V5, hV5⟩ : ∃ V, V = V4.alloc (.cells #[.int .i64 x.frm, .int .i64 x.dst, .slice none 0 0] ltT) := ⟨_, rfl⟩
        obtain ⟨p9, hp9⟩ : ∃ p, p = V4.heap.size := ⟨_, rfl⟩
        have hb5 : Below V4.heap.size V4 V5 := by rw [hV5]; exact below_new _ _
        have hx9 : V5.heap[p9]? = some (.cells #[.int .i64 x.frm, .int .i64 x.dst, .slice none 0 0] ltT (0, 0)) := by rw [hV5, hp9]; exact heap_alloc_new _ _
        have HB5 := Lib.hid (below_on HB3.out (below_on hb4 hb5 (Nat.le_refl _)) (Nat.le_refl _))
        have HX9 := Lib.hid hx9
        have Hb45 := Lib.hid hb5
        have Hp9w : Hid (wr.heap.size ≤ p9) := (by rw [hp9]; exact Nat.le_trans HB3.out.size hb4.size : wr.heap.size ≤ p9)
        clear hb5 hx9 q6 hb4
        go_upto_region 8 with fail
        rw [← hV5, ← hp9]
        clear hV5 hp9 q1 q2 ql hx3
        refine wp_region_held_drew (S := fun _ => True) (by kernel_rfl) trivial (fun hHeld => ?_)
        refine wpAnyH_take (i := 0) (v := ?_) rfl (by kernel_rfl) (by kernel_rfl) (by kernel_rfl) (fun _ _ _ h => h) (Or.inl ⟨by rfl, ?_⟩) (by assumption) ?_
        rotate_left
        · intro w8 hSw; clear hSw; go_simp; (try with_reducible rfl)
        simp only [Act.put, List.getElem_toArray, List.getElem_cons_zero, List.getElem_cons_succ, List.setIfInBounds_toArray, List.set_cons_zero, List.set_cons_succ]
        refine wpAnyH_take (i := 1) (v := ?_) rfl (by kernel_rfl) (by kernel_rfl) (by kernel_rfl) (fun _ _ _ h => h) (Or.inl ⟨by rfl, ?_⟩) (by assumption) ?_
        rotate_left
        · intro w8 hSw; clear hSw; go_simp; (try with_reducible rfl)
        simp only [Act.put, List.getElem_toArray, List.getElem_cons_zero, List.getElem_cons_succ, List.setIfInBounds_toArray, List.set_cons_zero, List.set_cons_succ]
        refine wpAnyH_take (i := 2) (v := ?_) rfl (by kernel_rfl) (by kernel_rfl) (by kernel_rfl) (fun _ _ _ h => h) (Or.inl ⟨by rfl, ?_⟩) (by assumption) ?_
        rotate_left
        · intro w8 hSw; clear hSw; go_simp; (try with_reducible rfl)
        simp only [Act.put, List.getElem_toArray, List.getElem_cons_zero, List.getElem_cons_succ, List.setIfInBounds_toArray, List.set_cons_zero, List.set_cons_succ]
        refine wpAnyH_take (i := 3) rfl (by kernel_rfl) (by kernel_rfl) (by kernel_rfl) (fun _ _ _ h => h) (Or.inr ⟨by rfl, rfl⟩) (by assumption) ?_
        simp only [Act.put, List.getElem_toArray, List.getElem_cons_zero, List.getElem_cons_succ, List.setIfInBounds_toArray, List.set_cons_zero, List.set_cons_succ]
        refine wpAnyH_take (i := 4) rfl (by kernel_rfl) (by kernel_rfl) (by kernel_rfl) (fun _ _ _ h => h) (Or.inr ⟨by rfl, rfl⟩) (by assumption) ?_
        simp only [Act.put, List.getElem_toArray, List.getElem_cons_zero, List.getElem_cons_succ, List.setIfInBounds_toArray, List.set_cons_zero, List.set_cons_succ]
        refine wpAnyH_take (i := 5) rfl (by kernel_rfl) (by kernel_rfl) (by kernel_rfl) (fun _ _ _ h => h) (Or.inr ⟨by rfl, rfl⟩) (by assumption) ?_
        simp only [Act.put, List.getElem_toArray, List.getElem_cons_zero, List.getElem_cons_succ, List.setIfInBounds_toArray, List.set_cons_zero, List.set_cons_succ]
        refine wpAnyH_take (i := 6) (v := ?_) rfl (by kernel_rfl) (by kernel_rfl) (by kernel_rfl) (fun _ _ _ h => h) (Or.inl ⟨by rfl, ?_⟩) (by assumption) ?_
        rotate_left
        · intro w8 hSw; clear hSw; go_simp; (try with_reducible rfl)
        simp only [Act.put, List.getElem_toArray, List.getElem_cons_zero, List.getElem_cons_succ, List.setIfInBounds_toArray, List.set_cons_zero, List.set_cons_succ]
        refine wpAnyH_take (i := 7) (v := ?_) rfl (by kernel_rfl) (by kernel_rfl) (by kernel_rfl) (fun _ _ _ h => h) (Or.inl ⟨by rfl, ?_⟩) (by assumption) ?_
        rotate_left
        · intro w8 hSw; clear hSw; go_simp; (try with_reducible rfl)
        simp only [Act.put, List.getElem_toArray, List.getElem_cons_zero, List.getElem_cons_succ, List.setIfInBounds_toArray, List.set_cons_zero, List.set_cons_succ]
        refine wpAnyH_take (i := 8) rfl (by kernel_rfl) (by kernel_rfl) (by kernel_rfl) (fun _ _ _ h => h) (Or.inr ⟨by rfl, rfl⟩) (by assumption) ?_
        simp only [Act.put, List.getElem_toArray, List.getElem_cons_zero, List.getElem_cons_succ, List.setIfInBounds_toArray, List.set_cons_zero, List.set_cons_succ]
        refine wpAnyH_take (i := 9) rfl (by kernel_rfl) (by kernel_rfl) (by kernel_rfl) (fun _ _ _ h => h) (Or.inr ⟨by rfl, rfl⟩) (by assumption) ?_
        simp only [Act.put, List.getElem_toArray, List.getElem_cons_zero, List.getElem_cons_succ, List.setIfInBounds_toArray, List.set_cons_zero, List.set_cons_succ]
        refine wpAnyH_take (i := 10) rfl (by kernel_rfl) (by kernel_rfl) (by kernel_rfl) (fun _ _ _ h => h) (Or.inr ⟨by rfl, rfl⟩) (by assumption) ?_
        simp only [Act.put, List.getElem_toArray, List.getElem_cons_zero, List.getElem_cons_succ, List.setIfInBounds_toArray, List.set_cons_zero, List.set_cons_succ]
        refine wpAnyH_take (i := 11) rfl (by kernel_rfl) (by kernel_rfl) (by kernel_rfl) (fun _ _ _ h => h) (Or.inr ⟨by rfl, rfl⟩) (by assumption) ?_
        simp only [Act.put, List.getElem_toArray, List.getElem_cons_zero, List.getElem_cons_succ, List.setIfInBounds_toArray, List.set_cons_zero, List.set_cons_succ]
        refine wpAnyH_take (i := 12) rfl (by kernel_rfl) (by kernel_rfl) (by kernel_rfl) (fun _ _ _ h => h) (Or.inr ⟨by rfl, rfl⟩) (by assumption) ?_
        simp only [Act.put, List.getElem_toArray, List.getElem_cons_zero, List.getElem_cons_succ, List.setIfInBounds_toArray, List.set_cons_zero, List.set_cons_succ]
        refine wpAnyH_take (i := 13) rfl (by kernel_rfl) (by kernel_rfl) (by kernel_rfl) (fun _ _ _ h => h) (Or.inr ⟨by rfl, rfl⟩) (by assumption) ?_
        simp only [Act.put, List.getElem_toArray, List.getElem_cons_zero, List.getElem_cons_succ, List.setIfInBounds_toArray, List.set_cons_zero, List.set_cons_succ]
        refine wpAnyH_take (i := 14) rfl (by kernel_rfl) (by kernel_rfl) (by kernel_rfl) (fun _ _ _ h => h) (Or.inr ⟨by rfl, rfl⟩) (by assumption) ?_
        simp only [Act.put, List.getElem_toArray, List.getElem_cons_zero, List.getElem_cons_succ, List.setIfInBounds_toArray, List.set_cons_zero, List.set_cons_succ]
        refine wpAnyH_take (i := 15) rfl (by kernel_rfl) (by kernel_rfl) (by kernel_rfl) (fun _ _ _ h => h) (Or.inr ⟨by rfl, rfl⟩) (by assumption) ?_
        simp only [Act.put, List.getElem_toArray, List.getElem_cons_zero, List.getElem_cons_succ, List.setIfInBounds_toArray, List.set_cons_zero, List.set_cons_succ]
        refine wpAnyH_take (i := 16) rfl (by kernel_rfl) (by kernel_rfl) (by kernel_rfl) (fun _ _ _ h => h) (Or.inr ⟨by rfl, rfl⟩) (by assumption) ?_
        simp only [Act.put, List.getElem_toArray, List.getElem_cons_zero, List.getElem_cons_succ, List.setIfInBounds_toArray, List.set_cons_zero, List.set_cons_succ]
        refine wpAnyH_take (i := 17) rfl (by kernel_rfl) (by kernel_rfl) (by kernel_rfl) (fun _ _ _ h => h) (Or.inr ⟨by rfl, rfl⟩) (by assumption) ?_
        simp only [Act.put, List.getElem_toArray, List.getElem_cons_zero, List.getElem_cons_succ, List.setIfInBounds_toArray, List.set_cons_zero, List.set_cons_succ]
        refine wpAnyH_take (i := 18) (v := ?_) rfl (by kernel_rfl) (by kernel_rfl) (by kernel_rfl) (fun _ _ _ h => h) (Or.inl ⟨by rfl, ?_⟩) (by assumption) ?_
        rotate_left
        · intro w8 hSw; clear hSw; go_simp; (try with_reducible rfl)
        simp only [Act.put, List.getElem_toArray, List.getElem_cons_zero, List.getElem_cons_succ, List.setIfInBounds_toArray, List.set_cons_zero, List.set_cons_succ]
        refine wpAnyH_done (by kernel_rfl) ?_ _
        have HSD := Lib.hid hsd
        clear hsd
        go_wp2_with fail
        go_roundw
        case rel => exact ⟨i + 1, n, l', by simp, rfl, by omega, (by rw [Hmsg.out.2.2.2.2.2, if_neg (by unfold putOk; rw [HSD.out]; simp)]; exact Lib.hid rfl : Hid (l'.map Lt.m = putsM room T (l.map Lt.m) ((X.take (i + 1)).map Mp.v))), Hn, (Bgx.below Hbg.out HB5.out.drew : Bgx Wb.heap.size W F b room T l' _)⟩
        case measure => simp [intOf]; omega
      · have hsd2 : soundM x.v = true := by cases h : soundM x.v with | true => rfl | false => exact absurd h hsd
        refine (show Calls _ _ _ _ _ from wireBytes_ok x V3 (Hmsg.out.2.2.2.2.1.at_.below HWV3.out) Hmsg.out.2.2.2.2.1.num (by have := Hmsg.out.2.2.2.2.1.ml; omega) hsd2).mono ?_
        rintro e V4 ⟨a, c, rfl, hf4⟩
        have hb4 := hf4.bel
        have Hdat := Lib.hid (BsT.of_own hf4.own)
        have Hfit : Hid (MsFit x.v) := (⟨hsd2, Hmsg.out.2.2.2.2.1.num⟩ : MsFit x.v)
        clear hf4 hsd2 hsd
        have q6 := bx_below hb4 hx3
        have q1 : V4.cell? ⟨p6, 1, none⟩ = some (.int .i64 x.frm) := by rw [block_cell q6 1]; rfl
        have q2 : V4.cell? ⟨p6, 2, none⟩ = some (.int .i64 x.dst) := by rw [block_cell q6 2]; rfl
        have ql := bx_lt q6
        obtain ⟨V5, hV5⟩ : ∃ V, V = V4.alloc (.cells #[.int .i64 x.frm, .int .i64 x.dst, .slice a (wireB x.v).length c] ltT) := ⟨_, rfl⟩
        obtain ⟨p9, hp9⟩ : ∃ p, p = V4.heap.size := ⟨_, rfl⟩
        have hb5 : Below V4.heap.size V4 V5 := by rw [hV5]; exact below_new _ _
        have hx9 : V5.heap[p9]? = some (.cells #[.int .i64 x.frm, .int .i64 x.dst, .slice a (wireB x.v).length c] ltT (0, 0)) := by rw [hV5, hp9]; exact heap_alloc_new _ _
        have HB5 := Lib.hid (below_on HB3.out (below_on hb4 hb5 (Nat.le_refl _)) (Nat.le_refl _))
        have HX9 := Lib.hid hx9
        have Hb45 := Lib.hid hb5
        have Hp9w : Hid (wr.heap.size ≤ p9) := (by rw [hp9]; exact Nat.le_trans HB3.out.size hb4.size : wr.heap.size ≤ p9)
        clear hb5 hx9 q6 hb4
        go_upto_region 8 with fail
        rw [← hV5, ← hp9]
        clear hV5 hp9 q1 q2 ql hx3
        obtain ⟨m, n2, a1, c1, h1, h2, h3, h4, h5, h6, h7, h8, h9⟩ := Hmsg.out.1
        have Hbl := Lib.hid (bx_lt h1)
        have Hld9 := Lib.hid (fun (V : World) (hv : V.heap[p9]? = V5.heap[p9]?) => ldLt (hv.trans HX9.out))
        have Hldb : Hid (∀ V : World, V.heap[b]? = wr.heap[b]? → (Instr.loadAt 3 (.pointer (some ⟨b, 0, none⟩))).run Try.prog V = .ok (.int .i64 (room : Nat)) V ∧ (Instr.loadAt ltsT (.pointer (some ⟨b, 2, none⟩))).run Try.prog V = .ok (.slice a1 l'.length c1) V) := fun V hv => by
          have p0 := block_cell (hv.trans h1) 0
          have p2 := block_cell (hv.trans h1) 2
          simp at p0 p2
          exact ⟨ldI p0, ldSl p2⟩
        have Hcr := Lib.hid (bcross_o (Hmsg.out.1.below (HB5.out.drew)) x.frm x.dst (.slice a (wireB x.v).length c) rfl Hfit.out.keys.1 Hfit.out.keys.2)
        obtain ⟨cr, hcr⟩ : ∃ cr, cr = (T x.frm != T x.dst) := ⟨_, rfl⟩
        rw [← hcr] at Hcr
        have HCR := Lib.hid hcr
        have Hh := Lib.hid (And.intro h1 (And.intro h2 (And.intro h3 (And.intro h4 (And.intro h5 (And.intro h6 (And.intro h7 (And.intro h8 h9))))))))
        clear hcr h1 h2 h3 h4 h5 h6 h7 h8 h9
        refine wp_region_held_drew (S := fun V => V.heap[p9]? = V5.heap[p9]? ∧ V.heap[b]? = wr.heap[b]?) (by kernel_rfl) ⟨rfl, HB5.out.block b Hbl.out⟩ (fun hHeld => ?_)
        refine wpAnyH_take (i := 0) (v := ?_) rfl (by kernel_rfl) (by kernel_rfl) (by kernel_rfl) (fun _ _ _ h => h) (Or.inl ⟨by rfl, ?_⟩) (by assumption) ?_
        rotate_left
        · intro w8 hSw; clear hSw; go_simp; (try with_reducible rfl)
        simp only [Act.put, List.getElem_toArray, List.getElem_cons_zero, List.getElem_cons_succ, List.setIfInBounds_toArray, List.set_cons_zero, List.set_cons_succ]
        refine wpAnyH_take (i := 1) (v := ?_) rfl (by kernel_rfl) (by kernel_rfl) (by kernel_rfl) (fun _ _ _ h => h) (Or.inl ⟨by rfl, ?_⟩) (by assumption) ?_
        rotate_left
        · intro w8 hSw; clear hSw; go_simp; (try with_reducible rfl)
        simp only [Act.put, List.getElem_toArray, List.getElem_cons_zero, List.getElem_cons_succ, List.setIfInBounds_toArray, List.set_cons_zero, List.set_cons_succ]
        refine wpAnyH_take (i := 2) (v := ?_) rfl (by kernel_rfl) (by kernel_rfl) (by kernel_rfl) (fun _ _ _ h => h) (Or.inl ⟨by rfl, ?_⟩) (by assumption) ?_
        rotate_left
        · intro w8 hSw; clear hSw; go_simp; (try with_reducible rfl)
        simp only [Act.put, List.getElem_toArray, List.getElem_cons_zero, List.getElem_cons_succ, List.setIfInBounds_toArray, List.set_cons_zero, List.set_cons_succ]
        refine wpAnyH_take (i := 3) (v := ?_) rfl (by kernel_rfl) (by kernel_rfl) (by kernel_rfl) (fun _ _ _ h => h) (Or.inl ⟨by rfl, ?_⟩) (by assumption) ?_
        rotate_left
        · intro w8 hSw; clear hSw; go_simp; (try with_reducible rfl)
        simp only [Act.put, List.getElem_toArray, List.getElem_cons_zero, List.getElem_cons_succ, List.setIfInBounds_toArray, List.set_cons_zero, List.set_cons_succ]
        refine wpAnyH_take (i := 4) (v := .agg #[.int .i64 x.frm, .int .i64 x.dst, .slice a (wireB x.v).length c]) rfl (by kernel_rfl) (by kernel_rfl) (by kernel_rfl) (fun _ _ _ h => h) (Or.inl ⟨by rfl, ?_⟩) (by assumption) ?_
        · intro w8 hSw; exact ld_takeT rfl (Hld9.out w8 hSw.1) rfl
        simp only [Act.put, List.getElem_toArray, List.getElem_cons_zero, List.getElem_cons_succ, List.setIfInBounds_toArray, List.set_cons_zero, List.set_cons_succ]
        cases cr with
        | true =>
          refine wpAnyH_ready (rs := [5]) (by kernel_rfl) (by simp) ?_
          refine AllReadyH.cons rfl (fun K hK => ?_) AllReadyH.nil
          go_simp
          go_at_call 34
          refine ((show Calls _ _ _ _ _ from Hcr.out)).mono ?_
          rintro e V6 ⟨rfl, hb6⟩
          refine hK.out _ _ ⟨hb6.block p9 (bx_lt HX9.out), (hb6.block b (Nat.lt_of_lt_of_le Hbl.out HB5.out.size)).trans (HB5.out.block b Hbl.out)⟩ (fun hHeld => ?_)
          clear hK K
          try simp only [Act.put, List.getElem_toArray, List.getElem_cons_zero, List.getElem_cons_succ, List.setIfInBounds_toArray, List.set_cons_zero, List.set_cons_succ]
          refine wpAnyH_take (i := 6) (v := ?_) rfl (by kernel_rfl) (by kernel_rfl) (by kernel_rfl) (fun _ _ _ h => h) (Or.inl ⟨by rfl, ?_⟩) (by assumption) ?_
          rotate_left
          · intro w8 hSw; clear hSw; go_simp; (try with_reducible rfl)
          simp only [Act.put, List.getElem_toArray, List.getElem_cons_zero, List.getElem_cons_succ, List.setIfInBounds_toArray, List.set_cons_zero, List.set_cons_succ]
          refine wpAnyH_take (i := 7) (v := ?_) rfl (by kernel_rfl) (by kernel_rfl) (by kernel_rfl) (fun _ _ _ h => h) (Or.inl ⟨by rfl, ?_⟩) (by assumption) ?_
          rotate_left
          · intro w8 hSw; clear hSw; go_simp; (try with_reducible rfl)
          simp only [Act.put, List.getElem_toArray, List.getElem_cons_zero, List.getElem_cons_succ, List.setIfInBounds_toArray, List.set_cons_zero, List.set_cons_succ]
          refine wpAnyH_take (i := 8) rfl (by kernel_rfl) (by kernel_rfl) (by kernel_rfl) (fun _ _ _ h => h) (Or.inr ⟨by rfl, rfl⟩) (by assumption) ?_
          simp only [Act.put, List.getElem_toArray, List.getElem_cons_zero, List.getElem_cons_succ, List.setIfInBounds_toArray, List.set_cons_zero, List.set_cons_succ]
          refine wpAnyH_take (i := 9) rfl (by kernel_rfl) (by kernel_rfl) (by kernel_rfl) (fun _ _ _ h => h) (Or.inr ⟨by rfl, rfl⟩) (by assumption) ?_
          simp only [Act.put, List.getElem_toArray, List.getElem_cons_zero, List.getElem_cons_succ, List.setIfInBounds_toArray, List.set_cons_zero, List.set_cons_succ]
          refine wpAnyH_take (i := 10) rfl (by kernel_rfl) (by kernel_rfl) (by kernel_rfl) (fun _ _ _ h => h) (Or.inr ⟨by rfl, rfl⟩) (by assumption) ?_
          simp only [Act.put, List.getElem_toArray, List.getElem_cons_zero, List.getElem_cons_succ, List.setIfInBounds_toArray, List.set_cons_zero, List.set_cons_succ]
          refine wpAnyH_take (i := 11) rfl (by kernel_rfl) (by kernel_rfl) (by kernel_rfl) (fun _ _ _ h => h) (Or.inr ⟨by rfl, rfl⟩) (by assumption) ?_
          simp only [Act.put, List.getElem_toArray, List.getElem_cons_zero, List.getElem_cons_succ, List.setIfInBounds_toArray, List.set_cons_zero, List.set_cons_succ]
          refine wpAnyH_take (i := 12) rfl (by kernel_rfl) (by kernel_rfl) (by kernel_rfl) (fun _ _ _ h => h) (Or.inr ⟨by rfl, rfl⟩) (by assumption) ?_
          simp only [Act.put, List.getElem_toArray, List.getElem_cons_zero, List.getElem_cons_succ, List.setIfInBounds_toArray, List.set_cons_zero, List.set_cons_succ]
          refine wpAnyH_take (i := 13) rfl (by kernel_rfl) (by kernel_rfl) (by kernel_rfl) (fun _ _ _ h => h) (Or.inr ⟨by rfl, rfl⟩) (by assumption) ?_
          simp only [Act.put, List.getElem_toArray, List.getElem_cons_zero, List.getElem_cons_succ, List.setIfInBounds_toArray, List.set_cons_zero, List.set_cons_succ]
          refine wpAnyH_take (i := 14) rfl (by kernel_rfl) (by kernel_rfl) (by kernel_rfl) (fun _ _ _ h => h) (Or.inr ⟨by rfl, rfl⟩) (by assumption) ?_
          simp only [Act.put, List.getElem_toArray, List.getElem_cons_zero, List.getElem_cons_succ, List.setIfInBounds_toArray, List.set_cons_zero, List.set_cons_succ]
          refine wpAnyH_take (i := 15) rfl (by kernel_rfl) (by kernel_rfl) (by kernel_rfl) (fun _ _ _ h => h) (Or.inr ⟨by rfl, rfl⟩) (by assumption) ?_
          simp only [Act.put, List.getElem_toArray, List.getElem_cons_zero, List.getElem_cons_succ, List.setIfInBounds_toArray, List.set_cons_zero, List.set_cons_succ]
          refine wpAnyH_take (i := 16) rfl (by kernel_rfl) (by kernel_rfl) (by kernel_rfl) (fun _ _ _ h => h) (Or.inr ⟨by rfl, rfl⟩) (by assumption) ?_
          simp only [Act.put, List.getElem_toArray, List.getElem_cons_zero, List.getElem_cons_succ, List.setIfInBounds_toArray, List.set_cons_zero, List.set_cons_succ]
          refine wpAnyH_take (i := 17) rfl (by kernel_rfl) (by kernel_rfl) (by kernel_rfl) (fun _ _ _ h => h) (Or.inr ⟨by rfl, rfl⟩) (by assumption) ?_
          simp only [Act.put, List.getElem_toArray, List.getElem_cons_zero, List.getElem_cons_succ, List.setIfInBounds_toArray, List.set_cons_zero, List.set_cons_succ]
          refine wpAnyH_take (i := 18) (v := ?_) rfl (by kernel_rfl) (by kernel_rfl) (by kernel_rfl) (fun _ _ _ h => h) (Or.inl ⟨by rfl, ?_⟩) (by assumption) ?_
          rotate_left
          · intro w8 hSw; clear hSw; go_simp; (try with_reducible rfl)
          simp only [Act.put, List.getElem_toArray, List.getElem_cons_zero, List.getElem_cons_succ, List.setIfInBounds_toArray, List.set_cons_zero, List.set_cons_succ]
          refine wpAnyH_done (by kernel_rfl) ?_ _
          have HB6 := Lib.hid (below_on HB5.out.drew hb6 (Nat.le_refl _))
          clear hb6
          go_wp2_with fail
          go_roundw
          case rel => exact ⟨i + 1, n, l', by simp, rfl, by omega, (by rw [Hmsg.out.2.2.2.2.2, if_neg (by unfold putOk; have := HCR.out; simp only [Bool.and_eq_true, beq_iff_eq]; rintro ⟨⟨-, e⟩, -⟩; simp only [show x.v.frm = x.frm from rfl, show x.v.dst = x.dst from rfl] at e; rw [e] at this; simp at this)]; exact Lib.hid rfl : Hid (l'.map Lt.m = putsM room T (l.map Lt.m) ((X.take (i + 1)).map Mp.v))), Hn, (Bgx.below Hbg.out HB6.out : Bgx Wb.heap.size W F b room T l' _)⟩
          case measure => simp [intOf]; omega
        | false =>
          by_cases hrm : l'.length < room
          · have hrm1 : ¬ ((room : Nat) : Int) ≤ (l'.length : Nat) := by omega
            have Hrm := Lib.hid hrm
            clear hrm
            refine wpAnyH_ready (rs := [5]) (by kernel_rfl) (by simp) ?_
            refine AllReadyH.cons rfl (fun K hK => ?_) AllReadyH.nil
            go_simp
            go_at_call 34
            refine ((show Calls _ _ _ _ _ from Hcr.out)).mono ?_
            rintro e V6 ⟨rfl, hb6⟩
            refine hK.out _ _ ⟨hb6.block p9 (bx_lt HX9.out), (hb6.block b (Nat.lt_of_lt_of_le Hbl.out HB5.out.size)).trans (HB5.out.block b Hbl.out)⟩ (fun hHeld => ?_)
            clear hK K
            try simp only [Act.put, List.getElem_toArray, List.getElem_cons_zero, List.getElem_cons_succ, List.setIfInBounds_toArray, List.set_cons_zero, List.set_cons_succ]
            refine wpAnyH_take (i := 6) (v := ?_) rfl (by kernel_rfl) (by kernel_rfl) (by kernel_rfl) (fun _ _ _ h => h) (Or.inl ⟨by rfl, ?_⟩) (by assumption) ?_
            rotate_left
            · intro w8 hSw; clear hSw; go_simp; (try with_reducible rfl)
            simp only [Act.put, List.getElem_toArray, List.getElem_cons_zero, List.getElem_cons_succ, List.setIfInBounds_toArray, List.set_cons_zero, List.set_cons_succ]
            refine wpAnyH_take (i := 7) (v := ?_) rfl (by kernel_rfl) (by kernel_rfl) (by kernel_rfl) (fun _ _ _ h => h) (Or.inl ⟨by rfl, ?_⟩) (by assumption) ?_
            rotate_left
            · intro w8 hSw; clear hSw; go_simp; (try with_reducible rfl)
            simp only [Act.put, List.getElem_toArray, List.getElem_cons_zero, List.getElem_cons_succ, List.setIfInBounds_toArray, List.set_cons_zero, List.set_cons_succ]
            refine wpAnyH_take (i := 8) (v := ?_) rfl (by kernel_rfl) (by kernel_rfl) (by kernel_rfl) (fun _ _ _ h => h) (Or.inl ⟨by rfl, ?_⟩) (by assumption) ?_
            rotate_left
            · intro w8 hSw; clear hSw; go_simp; (try with_reducible rfl)
            simp only [Act.put, List.getElem_toArray, List.getElem_cons_zero, List.getElem_cons_succ, List.setIfInBounds_toArray, List.set_cons_zero, List.set_cons_succ]
            refine wpAnyH_take (i := 9) (v := ?_) rfl (by kernel_rfl) (by kernel_rfl) (by kernel_rfl) (fun _ _ _ h => h) (Or.inl ⟨by rfl, ?_⟩) (by assumption) ?_
            rotate_left
            · intro w8 hSw; clear hSw; go_simp; (try with_reducible rfl)
            simp only [Act.put, List.getElem_toArray, List.getElem_cons_zero, List.getElem_cons_succ, List.setIfInBounds_toArray, List.set_cons_zero, List.set_cons_succ]
            refine wpAnyH_take (i := 10) (v := ?_) rfl (by kernel_rfl) (by kernel_rfl) (by kernel_rfl) (fun _ _ _ h => h) (Or.inl ⟨by rfl, ?_⟩) (by assumption) ?_
            rotate_left
            · intro w8 hSw; clear hSw; go_simp; (try with_reducible rfl)
            simp only [Act.put, List.getElem_toArray, List.getElem_cons_zero, List.getElem_cons_succ, List.setIfInBounds_toArray, List.set_cons_zero, List.set_cons_succ]
            refine wpAnyH_take (i := 11) (v := .slice a1 l'.length c1) rfl (by kernel_rfl) (by kernel_rfl) (by kernel_rfl) (fun _ _ _ h => h) (Or.inl ⟨by rfl, ?_⟩) (by assumption) ?_
            · intro w8 hSw; exact ld_takeT rfl (Hldb.out w8 hSw.2).2 rfl
            simp only [Act.put, List.getElem_toArray, List.getElem_cons_zero, List.getElem_cons_succ, List.setIfInBounds_toArray, List.set_cons_zero, List.set_cons_succ]
            refine wpAnyH_take (i := 12) (v := ?_) rfl (by kernel_rfl) (by kernel_rfl) (by kernel_rfl) (fun _ _ _ h => h) (Or.inl ⟨by rfl, ?_⟩) (by assumption) ?_
            rotate_left
            · intro w8 hSw; clear hSw; go_simp; (try with_reducible rfl)
            simp only [Act.put, List.getElem_toArray, List.getElem_cons_zero, List.getElem_cons_succ, List.setIfInBounds_toArray, List.set_cons_zero, List.set_cons_succ]
            refine wpAnyH_take (i := 13) (v := ?_) rfl (by kernel_rfl) (by kernel_rfl) (by kernel_rfl) (fun _ _ _ h => h) (Or.inl ⟨by rfl, ?_⟩) (by assumption) ?_
            rotate_left
            · intro w8 hSw; clear hSw; go_simp; (try with_reducible rfl)
            simp only [Act.put, List.getElem_toArray, List.getElem_cons_zero, List.getElem_cons_succ, List.setIfInBounds_toArray, List.set_cons_zero, List.set_cons_succ]
            refine wpAnyH_take (i := 14) (v := ?_) rfl (by kernel_rfl) (by kernel_rfl) (by kernel_rfl) (fun _ _ _ h => h) (Or.inl ⟨by rfl, ?_⟩) (by assumption) ?_
            rotate_left
            · intro w8 hSw; clear hSw; go_simp; (try with_reducible rfl)
            simp only [Act.put, List.getElem_toArray, List.getElem_cons_zero, List.getElem_cons_succ, List.setIfInBounds_toArray, List.set_cons_zero, List.set_cons_succ]
            refine wpAnyH_take (i := 15) (v := ?_) rfl (by kernel_rfl) (by kernel_rfl) (by kernel_rfl) (fun _ _ _ h => h) (Or.inl ⟨by rfl, ?_⟩) (by assumption) ?_
            rotate_left
            · intro w8 hSw; clear hSw; go_simp; (try with_reducible rfl)
            simp only [Act.put, List.getElem_toArray, List.getElem_cons_zero, List.getElem_cons_succ, List.setIfInBounds_toArray, List.set_cons_zero, List.set_cons_succ]
            refine wpAnyH_take (i := 16) (v := .int .i64 (room : Nat)) rfl (by kernel_rfl) (by kernel_rfl) (by kernel_rfl) (fun _ _ _ h => h) (Or.inl ⟨by rfl, ?_⟩) (by assumption) ?_
            · intro w8 hSw; exact ld_takeT rfl (Hldb.out w8 hSw.2).1 rfl
            simp only [Act.put, List.getElem_toArray, List.getElem_cons_zero, List.getElem_cons_succ, List.setIfInBounds_toArray, List.set_cons_zero, List.set_cons_succ]
            refine wpAnyH_take (i := 17) (v := ?_) rfl (by kernel_rfl) (by kernel_rfl) (by kernel_rfl) (fun _ _ _ h => h) (Or.inl ⟨by rfl, ?_⟩) (by assumption) ?_
            rotate_left
            · intro w8 hSw; clear hSw; go_simp; (try with_reducible rfl)
            simp only [Act.put, List.getElem_toArray, List.getElem_cons_zero, List.getElem_cons_succ, List.setIfInBounds_toArray, List.set_cons_zero, List.set_cons_succ]
            refine wpAnyH_take (i := 18) (v := ?_) rfl (by kernel_rfl) (by kernel_rfl) (by kernel_rfl) (fun _ _ _ h => h) (Or.inl ⟨by rfl, ?_⟩) (by assumption) ?_
            rotate_left
            · intro w8 hSw; clear hSw; go_simp; (try with_reducible rfl)
            simp only [Act.put, List.getElem_toArray, List.getElem_cons_zero, List.getElem_cons_succ, List.setIfInBounds_toArray, List.set_cons_zero, List.set_cons_succ]
            refine wpAnyH_done (by kernel_rfl) ?_ _
            have HB6 := Lib.hid (below_on HB5.out.drew hb6 (Nat.le_refl _))
            have Hb6 := Lib.hid (And.intro (hb6.block p9 (bx_lt HX9.out)) ((hb6.block b (Nat.lt_of_lt_of_le Hbl.out HB5.out.size)).trans (HB5.out.block b Hbl.out)))
            have Hdat6 : Hid (BsT V6 a c (wireB x.v)) := (by
              have h9 : BsT V5 a c (wireB x.v) := Hdat.out.below Hb45.out
              exact h9.below (below_on (Below.refl _ V5).drew hb6 (Nat.le_refl _)) : BsT V6 a c (wireB x.v))
            clear hb6
            go_upto_region 9 with fail
            obtain ⟨h1, h2, h3, h4, h5, h6, h7, h8, h9⟩ := Hh.out
            have hB6 : Below wr.heap.size wr V6.drew := HB6.out.drew
            obtain ⟨U0, hU0⟩ : ∃ U0, U0 = V6.drew := ⟨_, rfl⟩
            rw [← hU0] at hB6
            have hs0 : U0.heap[p9]? = V5.heap[p9]? ∧ U0.heap[b]? = wr.heap[b]? := by rw [hU0]; exact Hb6.out
            have hd0 : LtOk U0 ⟨x.v, a, c⟩ := ⟨by rw [hU0]; exact Hdat6.out.below (Below.refl _ V6).drew, Hfit.out⟩
            obtain ⟨U1, hU1⟩ : ∃ U1, U1 = U0.alloc (.cells #[.int .i64 x.frm, .int .i64 x.dst, .slice a (wireB x.v).length c] ltT) := ⟨_, rfl⟩
            obtain ⟨g1, hg1⟩ : ∃ g, g = U0.heap.size := ⟨_, rfl⟩
            have hbU : Below U0.heap.size U0 U1 := by rw [hU1]; exact below_new _ _
            have hxg : U1.heap[g1]? = some (.cells #[.int .i64 x.frm, .int .i64 x.dst, .slice a (wireB x.v).length c] ltT (0, 0)) := by rw [hU1, hg1]; exact heap_alloc_new _ _
            have hs1 : U1.heap[p9]? = V5.heap[p9]? ∧ U1.heap[b]? = wr.heap[b]? := ⟨(hbU.block p9 (bx_lt (hs0.1.trans HX9.out))).trans hs0.1, (hbU.block b (Nat.lt_of_lt_of_le Hbl.out hB6.size)).trans hs0.2⟩
            have hBU : Below wr.heap.size wr U1 := below_on hB6 hbU (Nat.le_refl _)
            have hsl : Sl U1 3 (some ⟨g1, 0, none⟩) 1 1 (ltFlat [⟨x.v, a, c⟩]) := ⟨rfl, Nat.le_refl _, by decide, (fun h => by cases h), fun j u hu => ⟨g1, 0, rfl, by rw [block_cell hxg]; simpa [ltFlat, ltCells, Mp.v] using hu⟩⟩
            have hwu : Wb.heap.size ≤ U1.heap.size := Nat.le_trans Hmsg.out.2.2.2.1.size hBU.size
            have Hpm := Lib.hid (fun a2 c2 U2 o2 g2 t2 => put_mem (base := Wb.heap.size) (U1 := U1) (U2 := U2) (T := T) (a2 := a2) (c2 := c2) (x9 := ⟨x.v, a, c⟩) (bx_below hBU h1) (own_below h2 hBU) ⟨h3.1.below hBU, h3.2⟩ (fun y hy => ⟨(h4 y hy).dat.below hBU, (h4 y hy).fit⟩) ⟨hd0.dat.below hbU, hd0.fit⟩ h6 h7 Hrm.out h9 o2 g2 t2)
            have Hown := Lib.hid (own_below h2 hBU)
            have Hs := Lib.hid (And.intro hs0 hs1)
            have HU1 := Lib.hid hU1
            have HG1 := Lib.hid hg1
            have Hsl := Lib.hid hsl
            have Hwu := Lib.hid hwu
            have HBU := Lib.hid hBU
            have Hlen := Lib.hid (And.intro h8 h9)
            have H5 := Lib.hid h5
            clear h1 h2 h3 h4 h5 h6 h7 h8 h9 hB6 hs0 hd0 hU1 hg1 hbU hxg hs1 hBU hsl hwu
            refine wp_region_late 10 (S := fun V => V.heap[p9]? = V5.heap[p9]? ∧ V.heap[b]? = wr.heap[b]?) (by kernel_rfl) Hb6.out (fun hHeld => ?_)
            rw [← hU0]
            rw [← hU0] at hHeld
            clear hU0
            refine wpLate_pure (i := 0) (v := ?_) rfl (by kernel_rfl) (by kernel_rfl) (by kernel_rfl) (by kernel_rfl) (fun _ _ _ h => h) (Or.inl ⟨by rfl, ?_⟩) (fun _ => by assumption) ?_
            rotate_left
            · intro w8 hSw; clear hSw; go_simp; (try with_reducible rfl)
            simp only [Act.put, List.getElem_toArray, List.getElem_cons_zero, List.getElem_cons_succ, List.setIfInBounds_toArray, List.set_cons_zero, List.set_cons_succ]
            refine wpLate_pure (i := 1) (v := ?_) rfl (by kernel_rfl) (by kernel_rfl) (by kernel_rfl) (by kernel_rfl) (fun _ _ _ h => h) (Or.inl ⟨by rfl, ?_⟩) (fun _ => by assumption) ?_
            rotate_left
            · intro w8 hSw; clear hSw; go_simp; (try with_reducible rfl)
            simp only [Act.put, List.getElem_toArray, List.getElem_cons_zero, List.getElem_cons_succ, List.setIfInBounds_toArray, List.set_cons_zero, List.set_cons_succ]
            refine wpLate_pure (i := 2) (v := ?_) rfl (by kernel_rfl) (by kernel_rfl) (by kernel_rfl) (by kernel_rfl) (fun _ _ _ h => h) (Or.inl ⟨by rfl, ?_⟩) (fun _ => by assumption) ?_
            rotate_left
            · intro w8 hSw; clear hSw; go_simp; (try with_reducible rfl)
            simp only [Act.put, List.getElem_toArray, List.getElem_cons_zero, List.getElem_cons_succ, List.setIfInBounds_toArray, List.set_cons_zero, List.set_cons_succ]
            refine wpLate_pure (i := 3) (v := ?_) rfl (by kernel_rfl) (by kernel_rfl) (by kernel_rfl) (by kernel_rfl) (fun _ _ _ h => h) (Or.inl ⟨by rfl, ?_⟩) (fun _ => by assumption) ?_
            rotate_left
            · intro w8 hSw; clear hSw; go_simp; (try with_reducible rfl)
            simp only [Act.put, List.getElem_toArray, List.getElem_cons_zero, List.getElem_cons_succ, List.setIfInBounds_toArray, List.set_cons_zero, List.set_cons_succ]
            refine wpLate_take [7, 10] (i := 4) (v := .slice a1 l'.length c1) rfl (by kernel_rfl) (by kernel_rfl) (by kernel_rfl) (by kernel_rfl) (by kernel_rfl) (fun _ _ _ h => h) (Or.inl ⟨by rfl, ?_⟩) (by assumption) ?_
            · intro w8 hSw; exact ld_takeT rfl (Hldb.out w8 hSw.2).2 rfl
            simp only [Act.put, List.getElem_toArray, List.getElem_cons_zero, List.getElem_cons_succ, List.setIfInBounds_toArray, List.set_cons_zero, List.set_cons_succ]
            refine wpLate_take [6, 7, 10] (i := 5) (v := .agg #[.int .i64 x.frm, .int .i64 x.dst, .slice a (wireB x.v).length c]) rfl (by kernel_rfl) (by kernel_rfl) (by kernel_rfl) (by kernel_rfl) (by kernel_rfl) (fun _ _ _ h => h) (Or.inl ⟨by rfl, ?_⟩) (by assumption) ?_
            · intro w8 hSw; exact ld_takeT rfl (Hld9.out w8 hSw.1) rfl
            simp only [Act.put, List.getElem_toArray, List.getElem_cons_zero, List.getElem_cons_succ, List.setIfInBounds_toArray, List.set_cons_zero, List.set_cons_succ]
            refine wpLate_ready (rs := [6]) (by kernel_rfl) (by simp) ?_
            refine AllLate.cons rfl (fun K hK => ?_) AllLate.nil
            go_simp
            rw [← HU1.out, ← HG1.out]
            refine hK.out _ _ Hs.out.2 (fun hHeld => ?_)
            clear hK K
            try simp only [Act.put, List.getElem_toArray, List.getElem_cons_zero, List.getElem_cons_succ, List.setIfInBounds_toArray, List.set_cons_zero, List.set_cons_succ]
            refine wpLate_ready (rs := [7]) (by kernel_rfl) (by simp) ?_
            refine AllLate.cons rfl (fun K hK => ?_) AllLate.nil
            rw [if_pos (by rfl)]
            refine wpo_append_lie (.tmp 52) (.tmp 54) ltsT rfl Wb.heap.size ltT infoLt Try.underlying46 rfl (by decide) _ l'.length _ rfl Hown.out _ 1 1 _ rfl Hsl.out (lts_one _) (len_max Hlen.out) (len_bytes Hlen.out) Hwu.out fun a2 c2 U2 own2 hgr hat => ?_
            obtain ⟨hpm1, hpm2, hpm3, hpm4⟩ := Hpm.out a2 c2 U2 own2 hgr hat
            have hb2x := hpm4.trans Hs.out.2.2
            obtain ⟨U3, hU3⟩ : ∃ U3, U3 = U2.setCell ⟨b, 2, none⟩ (.slice a2 (l'.length + 1) c2) := ⟨_, rfl⟩
            rw [← hU3] at hpm1 hpm2
            have HU3 := Lib.hid hU3
            have hp9 : U2.heap[p9]? = V5.heap[p9]? := (hgr.block p9 (bx_lt (Hs.out.2.1.trans HX9.out)) (fun e => Nat.lt_irrefl _ (Nat.lt_of_lt_of_le (Hh.out.2.1.lt p9 e.symm).2 Hp9w.out))).trans Hs.out.2.1
            have Hfin := Lib.hid (And.intro hpm1 (And.intro hpm2 hpm3))
            clear hpm1 hpm2 hpm3 hpm4 own2 hgr hat hU3
            refine hK.out _ _ ⟨hp9, hb2x⟩ (fun hHeld => ?_)
            clear hK K hp9
            try simp only [Act.put, List.getElem_toArray, List.getElem_cons_zero, List.getElem_cons_succ, List.setIfInBounds_toArray, List.set_cons_zero, List.set_cons_succ]
            refine wpLate_pure (i := 8) (v := ?_) rfl (by kernel_rfl) (by kernel_rfl) (by kernel_rfl) (by kernel_rfl) (fun _ _ _ h => h) (Or.inl ⟨by rfl, ?_⟩) (fun _ => by assumption) ?_
            rotate_left
            · intro w8 hSw; clear hSw; go_simp; (try with_reducible rfl)
            simp only [Act.put, List.getElem_toArray, List.getElem_cons_zero, List.getElem_cons_succ, List.setIfInBounds_toArray, List.set_cons_zero, List.set_cons_succ]
            refine wpLate_pure (i := 9) (v := ?_) rfl (by kernel_rfl) (by kernel_rfl) (by kernel_rfl) (by kernel_rfl) (fun _ _ _ h => h) (Or.inl ⟨by rfl, ?_⟩) (fun _ => by assumption) ?_
            rotate_left
            · intro w8 hSw; clear hSw; go_simp; (try with_reducible rfl)
            simp only [Act.put, List.getElem_toArray, List.getElem_cons_zero, List.getElem_cons_succ, List.setIfInBounds_toArray, List.set_cons_zero, List.set_cons_succ]
            obtain ⟨h1, -⟩ := Hh.out
            have y2 := block_cell (hb2x.trans h1) 2
            have f2 := block_free (hb2x.trans h1) 2
            have lx := bx_lt (hb2x.trans h1)
            simp at y2 f2
            clear h1 hb2x
            refine wpLate_ready (rs := [10]) (by kernel_rfl) (by simp) ?_
            refine AllLate.store rfl (fun K hK => ?_)
            go_simp
            rw [← HU3.out]
            refine hK.out _ _ ?_
            clear hK K y2 f2 lx
            try simp only [Act.put, List.getElem_toArray, List.getElem_cons_zero, List.getElem_cons_succ, List.setIfInBounds_toArray, List.set_cons_zero, List.set_cons_succ]
            refine wpLate_done (by kernel_rfl) ?_ _
            have wn := wrap_n10 (n_le Hn.out Hlen.out)
            go_wp2_with fail
            go_roundw
            case rel =>
              obtain ⟨hb', hg', hF', -⟩ := Hmsg.out
              refine ⟨i + 1, n + 1, l' ++ [⟨x.v, a, c⟩], by simp, by rw [wn]; simp, by omega, ?_, n_next Hn.out (by simp), ⟨_, Hfin.out.1, (hg'.trans (Gr.below HBU.out)).then Hfin.out.2.1 (fun j hj => hF' j ((H5.out j).2 hj)), fun j hj => ?_⟩⟩
              · show _ = _
                rw [Hmsg.out.2.2.2.2.2, if_pos (put_yes Hfit.out.snd (show T x.frm = T x.dst by have := HCR.out; simpa using this) Hrm.out)]
                simp
              · rcases Hfin.out.2.2 j hj with h | h
                · exact hF' j ((H5.out j).2 h)
                · exact .inr (Nat.le_trans hg'.size (Nat.le_trans HBU.out.size h))
            case measure => simp [intOf]; omega
          · have hrm1 : ((room : Nat) : Int) ≤ (l'.length : Nat) := by omega
            have Hrm := Lib.hid hrm
            clear hrm
            refine wpAnyH_ready (rs := [5]) (by kernel_rfl) (by simp) ?_
            refine AllReadyH.cons rfl (fun K hK => ?_) AllReadyH.nil
            go_simp
            go_at_call 34
            refine ((show Calls _ _ _ _ _ from Hcr.out)).mono ?_
            rintro e V6 ⟨rfl, hb6⟩
            refine hK.out _ _ ⟨hb6.block p9 (bx_lt HX9.out), (hb6.block b (Nat.lt_of_lt_of_le Hbl.out HB5.out.size)).trans (HB5.out.block b Hbl.out)⟩ (fun hHeld => ?_)
            clear hK K
            try simp only [Act.put, List.getElem_toArray, List.getElem_cons_zero, List.getElem_cons_succ, List.setIfInBounds_toArray, List.set_cons_zero, List.set_cons_succ]
            refine wpAnyH_take (i := 6) (v := ?_) rfl (by kernel_rfl) (by kernel_rfl) (by kernel_rfl) (fun _ _ _ h => h) (Or.inl ⟨by rfl, ?_⟩) (by assumption) ?_
            rotate_left
            · intro w8 hSw; clear hSw; go_simp; (try with_reducible rfl)
            simp only [Act.put, List.getElem_toArray, List.getElem_cons_zero, List.getElem_cons_succ, List.setIfInBounds_toArray, List.set_cons_zero, List.set_cons_succ]
            refine wpAnyH_take (i := 7) (v := ?_) rfl (by kernel_rfl) (by kernel_rfl) (by kernel_rfl) (fun _ _ _ h => h) (Or.inl ⟨by rfl, ?_⟩) (by assumption) ?_
            rotate_left
            · intro w8 hSw; clear hSw; go_simp; (try with_reducible rfl)
            simp only [Act.put, List.getElem_toArray, List.getElem_cons_zero, List.getElem_cons_succ, List.setIfInBounds_toArray, List.set_cons_zero, List.set_cons_succ]
            refine wpAnyH_take (i := 8) (v := ?_) rfl (by kernel_rfl) (by kernel_rfl) (by kernel_rfl) (fun _ _ _ h => h) (Or.inl ⟨by rfl, ?_⟩) (by assumption) ?_
            rotate_left
            · intro w8 hSw; clear hSw; go_simp; (try with_reducible rfl)
            simp only [Act.put, List.getElem_toArray, List.getElem_cons_zero, List.getElem_cons_succ, List.setIfInBounds_toArray, List.set_cons_zero, List.set_cons_succ]
            refine wpAnyH_take (i := 9) (v := ?_) rfl (by kernel_rfl) (by kernel_rfl) (by kernel_rfl) (fun _ _ _ h => h) (Or.inl ⟨by rfl, ?_⟩) (by assumption) ?_
            rotate_left
            · intro w8 hSw; clear hSw; go_simp; (try with_reducible rfl)
            simp only [Act.put, List.getElem_toArray, List.getElem_cons_zero, List.getElem_cons_succ, List.setIfInBounds_toArray, List.set_cons_zero, List.set_cons_succ]
            refine wpAnyH_take (i := 10) (v := ?_) rfl (by kernel_rfl) (by kernel_rfl) (by kernel_rfl) (fun _ _ _ h => h) (Or.inl ⟨by rfl, ?_⟩) (by assumption) ?_
            rotate_left
            · intro w8 hSw; clear hSw; go_simp; (try with_reducible rfl)
            simp only [Act.put, List.getElem_toArray, List.getElem_cons_zero, List.getElem_cons_succ, List.setIfInBounds_toArray, List.set_cons_zero, List.set_cons_succ]
            refine wpAnyH_take (i := 11) (v := .slice a1 l'.length c1) rfl (by kernel_rfl) (by kernel_rfl) (by kernel_rfl) (fun _ _ _ h => h) (Or.inl ⟨by rfl, ?_⟩) (by assumption) ?_
            · intro w8 hSw; exact ld_takeT rfl (Hldb.out w8 hSw.2).2 rfl
            simp only [Act.put, List.getElem_toArray, List.getElem_cons_zero, List.getElem_cons_succ, List.setIfInBounds_toArray, List.set_cons_zero, List.set_cons_succ]
            refine wpAnyH_take (i := 12) (v := ?_) rfl (by kernel_rfl) (by kernel_rfl) (by kernel_rfl) (fun _ _ _ h => h) (Or.inl ⟨by rfl, ?_⟩) (by assumption) ?_
            rotate_left
            · intro w8 hSw; clear hSw; go_simp; (try with_reducible rfl)
            simp only [Act.put, List.getElem_toArray, List.getElem_cons_zero, List.getElem_cons_succ, List.setIfInBounds_toArray, List.set_cons_zero, List.set_cons_succ]
            refine wpAnyH_take (i := 13) (v := ?_) rfl (by kernel_rfl) (by kernel_rfl) (by kernel_rfl) (fun _ _ _ h => h) (Or.inl ⟨by rfl, ?_⟩) (by assumption) ?_
            rotate_left
            · intro w8 hSw; clear hSw; go_simp; (try with_reducible rfl)
            simp only [Act.put, List.getElem_toArray, List.getElem_cons_zero, List.getElem_cons_succ, List.setIfInBounds_toArray, List.set_cons_zero, List.set_cons_succ]
            refine wpAnyH_take (i := 14) (v := ?_) rfl (by kernel_rfl) (by kernel_rfl) (by kernel_rfl) (fun _ _ _ h => h) (Or.inl ⟨by rfl, ?_⟩) (by assumption) ?_
            rotate_left
            · intro w8 hSw; clear hSw; go_simp; (try with_reducible rfl)
            simp only [Act.put, List.getElem_toArray, List.getElem_cons_zero, List.getElem_cons_succ, List.setIfInBounds_toArray, List.set_cons_zero, List.set_cons_succ]
            refine wpAnyH_take (i := 15) (v := ?_) rfl (by kernel_rfl) (by kernel_rfl) (by kernel_rfl) (fun _ _ _ h => h) (Or.inl ⟨by rfl, ?_⟩) (by assumption) ?_
            rotate_left
            · intro w8 hSw; clear hSw; go_simp; (try with_reducible rfl)
            simp only [Act.put, List.getElem_toArray, List.getElem_cons_zero, List.getElem_cons_succ, List.setIfInBounds_toArray, List.set_cons_zero, List.set_cons_succ]
            refine wpAnyH_take (i := 16) (v := .int .i64 (room : Nat)) rfl (by kernel_rfl) (by kernel_rfl) (by kernel_rfl) (fun _ _ _ h => h) (Or.inl ⟨by rfl, ?_⟩) (by assumption) ?_
            · intro w8 hSw; exact ld_takeT rfl (Hldb.out w8 hSw.2).1 rfl
            simp only [Act.put, List.getElem_toArray, List.getElem_cons_zero, List.getElem_cons_succ, List.setIfInBounds_toArray, List.set_cons_zero, List.set_cons_succ]
            refine wpAnyH_take (i := 17) (v := ?_) rfl (by kernel_rfl) (by kernel_rfl) (by kernel_rfl) (fun _ _ _ h => h) (Or.inl ⟨by rfl, ?_⟩) (by assumption) ?_
            rotate_left
            · intro w8 hSw; clear hSw; go_simp; (try with_reducible rfl)
            simp only [Act.put, List.getElem_toArray, List.getElem_cons_zero, List.getElem_cons_succ, List.setIfInBounds_toArray, List.set_cons_zero, List.set_cons_succ]
            refine wpAnyH_take (i := 18) (v := ?_) rfl (by kernel_rfl) (by kernel_rfl) (by kernel_rfl) (fun _ _ _ h => h) (Or.inl ⟨by rfl, ?_⟩) (by assumption) ?_
            rotate_left
            · intro w8 hSw; clear hSw; go_simp; (try with_reducible rfl)
            simp only [Act.put, List.getElem_toArray, List.getElem_cons_zero, List.getElem_cons_succ, List.setIfInBounds_toArray, List.set_cons_zero, List.set_cons_succ]
            refine wpAnyH_done (by kernel_rfl) ?_ _
            have HB6 := Lib.hid (below_on HB5.out.drew hb6 (Nat.le_refl _))
            clear hb6
            go_wp2_with fail
            go_roundw
            case rel => exact ⟨i + 1, n, l', by simp, rfl, by omega, (by rw [Hmsg.out.2.2.2.2.2, if_neg (by unfold putOk; have := Hrm.out; simp only [Bool.and_eq_true, decide_eq_true_eq]; rintro ⟨-, e⟩; exact this e)]; exact Lib.hid rfl : Hid (l'.map Lt.m = putsM room T (l.map Lt.m) ((X.take (i + 1)).map Mp.v))), Hn, (Bgx.below Hbg.out HB6.out : Bgx Wb.heap.size W F b room T l' _)⟩
            case measure => simp [intOf]; omega
    · have hii : i = X.length := by omega
      subst hii
      have Hend : Hid (l'.map Lt.m = putsM room T (l.map Lt.m) (X.map Mp.v)) := (by have h := Hinv.out; rw [List.take_length] at h; exact h : l'.map Lt.m = putsM room T (l.map Lt.m) (X.map Mp.v))
      clear hlt Hinv
      go_wp2_with fail
      go_ret
      exact ⟨l', n, rfl, Hend.out, Hn.out, Hbg.out⟩
end
end Go.Proofs.Ytbmkgcoolofmpaa
