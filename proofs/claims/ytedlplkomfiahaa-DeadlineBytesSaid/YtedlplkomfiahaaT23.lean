/- Lemmas for DeadlineBytes (Dn). No statement of the seat is proved here. -/
import Derived.Test.YtedlplkomfiahaaT22
namespace Go.Proofs.Ytedlplkomfiahaa
set_option linter.unusedVariables false
set_option linter.unusedSimpArgs false
set_option linter.unusedSectionVars false
open Go Go.RowKit Go.Maps Go.Deep
abbrev bmT : TypeId := 27
theorem plainElem_bool_inv13 {P : Program} {e : TypeId} (he : P.underlying e = some .bool) {v : Value} {z : DataW Unit × List MemPlace} (h : plainElem P e v = some z) : ∃ a, v = .bool a ∧ z = (.lit (.bool a), []) := by
  unfold plainElem at h
  rw [he] at h
  cases v <;> simp at h
  exact ⟨_, rfl, h.symm⟩
/-- a map to bool as a function -/
def BSet (D : DataW Unit) (T : Int → Bool) : Prop := Maps.Tidy D ∧ ∀ k : Int, D.atKey (.int .u64 k) (.lit (.bool false)) = .lit (.bool (T k))
theorem BSet.start : BSet (.map []) (fun _ => false) := ⟨tidy_empty, fun _ => rfl⟩
theorem keyU_ne13 {a b : Int} (h : a ≠ b) : (Lit.int .u64 a) ≠ Lit.int .u64 b := fun e => by cases e; exact h rfl
theorem BSet.put {D : DataW Unit} {T : Int → Bool} (h : BSet D T) (k : Int) : BSet (D.put (.int .u64 k) (.lit (.bool true))) (fun j => T j || k == j) := by
  obtain ⟨h1, h2⟩ := h
  have hk : WideAt.IsKeyLit (.int .u64 k) := by trivial
  refine ⟨h1.put hk _, fun j => ?_⟩
  by_cases e : j = k
  · subst e
    rw [atKey_put_same h1.isMap hk]
    simp
  · have e2 : (k == j) = false := by simp; exact fun h => e h.symm
    have h3 : (T j || k == j) = T j := by rw [e2, Bool.or_false]
    simp only [h3]
    rw [atKey_put_other (keyU_ne13 e)]
    exact h2 j
def Bp (w : World) (b n : Nat) (T : Int → Bool) : Prop := ∃ D : DataW Unit, w.ownsMap Try.prog 28 (plainElem Try.prog 4) b n D ∧ BSet D T
theorem Bp.kept {w w' : World} {b n : Nat} {T : Int → Bool} (h : Bp w b n T) (hb : w'.heap[b]? = w.heap[b]?) : Bp w' b n T := by
  obtain ⟨D, ⟨es, clock, h1, h2⟩, h3⟩ := h
  exact ⟨D, ⟨es, clock, hb.trans h1, h2⟩, h3⟩
theorem Bp.lt {w : World} {b n : Nat} {T : Int → Bool} (h : Bp w b n T) : b < w.heap.size := by
  obtain ⟨D, h1, h3⟩ := h
  exact h1.lt
theorem Bp.below {w w' : World} {b n : Nat} {T : Int → Bool} (h : Bp w b n T) (hB : Below w.heap.size w w') : Bp w' b n T := h.kept (hB.block b h.lt)
theorem zeroB13 (w : World) : (zeroValue 4).run Try.prog w = .ok (.bool false) w := by kernel_rfl
theorem Bp.look {w : World} {b n : Nat} {T : Int → Bool} (h : Bp w b n T) (k : Int) (hk : IdOk k) : (Instr.lookup bmT (.map (some b)) (.int .u64 k) false).run Try.prog w = .ok (.bool (T k)) w := by
  obtain ⟨D, h1, h2⟩ := h
  obtain ⟨v, ps, hrun, hat⟩ := h1.lookup u64law Try.underlying27 (zeroB13 w) (plainElem_bool Try.underlying4 false) (keyOf_int_mk Try.underlying28 hk.wf)
  rw [h2.2 k] at hat
  obtain ⟨a, rfl, ha⟩ := plainElem_bool_inv13 Try.underlying4 hat
  simp only [Prod.mk.injEq, DataW.lit.injEq, Lit.bool.injEq] at ha
  rw [← ha.1] at hrun
  exact hrun
theorem Bp.set {w : World} {b n : Nat} {T : Int → Bool} (h : Bp w b n T) (hn : n < 1000000) (k : Int) (hk : IdOk k) : ∃ w', (Instr.mapUpdate bmT (.map (some b)) (.int .u64 k) (.bool true)).run Try.prog w = .ok () w' ∧ Bp w' b (n + 1) (fun j => T j || k == j) ∧ w.grownBy w' (some b) := by
  obtain ⟨D, h1, h2⟩ := h
  obtain ⟨w', hrun, ho, hg⟩ := h1.update u64law Try.underlying27 (by unfold maxLen; omega) (keyOf_int_mk Try.underlying28 hk.wf) (plainElem_bool Try.underlying4 true)
  exact ⟨w', hrun, ⟨_, ho, h2.put k⟩, hg⟩
theorem met_any (W : World) (m n : Nat) (T : Int → Bool) (k : Int) (h : Bp W m n T) (hn : n < 1000000) (hk : IdOk k) :
    Calls Try.prog 49 #[.map (some m), .int .u64 k] W fun e W' => e = .returned (.bool (T k)) ∧ Bp W' m (n + 1) (fun j => T j || k == j) ∧ W.grownBy W' (some m) := by
  have hlk := h.look k hk
  obtain ⟨w', hrun, hb, hg⟩ := h.set hn k hk
  have Hb := Lib.hid hb
  have Hg := Lib.hid hg
  clear hb hg h
  go_enter Try.func49, Try.ntmps49
  go_wp2_with fail
  go_ret
  exact ⟨rfl, Hb.out, Hg.out⟩
theorem ldS35 {W : World} {b o : Nat} {ao : Option Addr} {n cap : Nat} (h : W.cell? ⟨b, o, none⟩ = some (.slice ao n cap)) : (Instr.loadAt 35 (.pointer (some ⟨b, o, none⟩))).run Try.prog W = .ok (.slice ao n cap) W := by go_simp
/-- the ids, the numbers of the first i -/
def idsS (X : List Th) (i : Nat) : Int → Bool := fun j => (X.take i).any (fun u => u.id == j)
def gensS (X : List Th) (i : Nat) : Int → Bool := fun j => (X.take i).any (fun u => u.gen == j)
theorem idsS_next (X : List Th) (i : Nat) (hi : i < X.length) : (fun j => idsS X i j || X[i].id == j) = idsS X (i + 1) := by
  funext j; unfold idsS
  rw [List.take_add_one, List.getElem?_eq_getElem hi, Option.toList_some, List.any_append]; simp
theorem gensS_next (X : List Th) (i : Nat) (hi : i < X.length) : (fun j => gensS X i j || X[i].gen == j) = gensS X (i + 1) := by
  funext j; unfold gensS
  rw [List.take_add_one, List.getElem?_eq_getElem hi, Option.toList_some, List.any_append]; simp
theorem idsS_no {X : List Th} {i : Nat} {j : Int} (h : idsS X i j = false) : ∀ k (hk : k < X.length), k < i → X[k].id ≠ j := fun k hk hi e => by
  unfold idsS at h
  rw [List.any_eq_false] at h
  have := h X[k] (List.mem_take_iff_getElem.2 ⟨k, by omega, rfl⟩)
  exact this (by simpa using e)
theorem gensS_no {X : List Th} {i : Nat} {j : Int} (h : gensS X i j = false) : ∀ k (hk : k < X.length), k < i → X[k].gen ≠ j := fun k hk hi e => by
  unfold gensS at h
  rw [List.any_eq_false] at h
  have := h X[k] (List.mem_take_iff_getElem.2 ⟨k, by omega, rfl⟩)
  exact this (by simpa using e)
theorem idsS_yes {X : List Th} {i : Nat} {j : Int} (h : idsS X i j = true) : ∃ k, ∃ hk : k < X.length, k < i ∧ X[k].id = j := by
  unfold idsS at h
  rw [List.any_eq_true] at h
  obtain ⟨u, hu, e⟩ := h
  obtain ⟨k, hk, rfl⟩ := List.getElem_of_mem hu
  rw [List.length_take] at hk
  exact ⟨k, by omega, by omega, by simpa using e⟩
theorem gensS_yes {X : List Th} {i : Nat} {j : Int} (h : gensS X i j = true) : ∃ k, ∃ hk : k < X.length, k < i ∧ X[k].gen = j := by
  unfold gensS at h
  rw [List.any_eq_true] at h
  obtain ⟨u, hu, e⟩ := h
  obtain ⟨k, hk, rfl⟩ := List.getElem_of_mem hu
  rw [List.length_take] at hk
  exact ⟨k, by omega, by omega, by simpa using e⟩
set_option maxRecDepth 100000 in
set_option maxHeartbeats 16000000 in
theorem dsound_any (W : World) (now last : Int) (ao : Option Addr) (cap : Nat) (X : List Th) (h : ThR W ao cap X) (hl : X.length ≤ 1000) (hok : ∀ t ∈ X, IdOk t.id ∧ IdOk t.gen) :
    Calls Try.prog 22 #[dsV now last ao X.length cap] W (SndIs W now last X) := by
  unfold dsV
  obtain ⟨W1, hW1⟩ : ∃ W1, W1 = W.alloc (.cells #[.int .i64 now, .int .u64 last, .slice ao X.length cap] dsT) := ⟨_, rfl⟩
  obtain ⟨b1, hb1⟩ : ∃ b, b = W.heap.size := ⟨_, rfl⟩
  have hB1 : Below W.heap.size W W1 := by rw [hW1]; exact below_new _ _
  have t1 : W1.heap[b1]? = some (.cells #[.int .i64 now, .int .u64 last, .slice ao X.length cap] dsT (0, 0)) := by rw [hW1, hb1]; exact heap_alloc_new _ _
  have p0 := block_cell t1 0
  have p1 := block_cell t1 1
  have p2 := block_cell t1 2
  have l1 := (Array.getElem?_eq_some_iff.1 t1).1
  simp at p0 p1 p2
  have hz1 : W1.heap.size = W.heap.size + 1 := by rw [hW1]; simp
  have hbz : b1 = W.heap.size := hb1
  have HB1 := Lib.hid hB1
  have T1 := Lib.hid t1
  have HR := Lib.hid h
  have HL := Lib.hid hl
  have HO := Lib.hid hok
  clear h hl hB1 t1 hok
  by_cases hbad : (¬ Inst now) ∨ (Inst now ∧ last > 1152921504606846976) ∨ (Inst now ∧ ¬ last > 1152921504606846976 ∧ (X.length : Int) > 256)
  · have hno : ¬ SoundP now last X := by
      rintro ⟨h0, h3, h4, -⟩
      rcases hbad with h | h | h
      · exact h h0
      · omega
      · omega
    have Hno := Lib.hid hno
    clear hno hz1 hbz
    rcases hbad with h0 | ⟨h0, x3⟩ | ⟨h0, x3, x4⟩
    · have Hin := Lib.hid (dinst_no now h0 W1)
      clear h0
      go_enter Try.func22, Try.ntmps22
      go_upto_region 1 with fail
      rw [← hW1, ← hb1]
      clear hW1 hb1
      go_wp2_with fail
      refine Hin.out.mono ?_
      rintro e V1 ⟨rfl, hv⟩
      subst V1
      go_wp2_with fail
      go_ret
      exact snd_no Hno.out HB1.out
    · have Hin := Lib.hid (dinst_yes now h0 W1)
      clear h0
      go_enter Try.func22, Try.ntmps22
      go_upto_region 1 with fail
      rw [← hW1, ← hb1]
      clear hW1 hb1
      go_wp2_with fail
      refine Hin.out.mono ?_
      rintro e V1 ⟨rfl, hv⟩
      subst V1
      go_wp2_with fail
      go_ret
      exact snd_no Hno.out HB1.out
    · have Hin := Lib.hid (dinst_yes now h0 W1)
      clear h0
      go_enter Try.func22, Try.ntmps22
      go_upto_region 1 with fail
      rw [← hW1, ← hb1]
      clear hW1 hb1
      go_wp2_with fail
      refine Hin.out.mono ?_
      rintro e V1 ⟨rfl, hv⟩
      subst V1
      go_wp2_with fail
      go_ret
      exact snd_no Hno.out HB1.out
  · have h0 : Inst now := Decidable.by_contra fun h => hbad (.inl h)
    have x3 : ¬ last > 1152921504606846976 := fun h => hbad (.inr (.inl ⟨h0, h⟩))
    have x4 : ¬ (X.length : Int) > 256 := fun h => hbad (.inr (.inr ⟨h0, x3, h⟩))
    have Hhead : Hid (Inst now ∧ last ≤ 1152921504606846976 ∧ X.length ≤ 256) := (⟨h0, by omega, by omega⟩ : Inst now ∧ last ≤ 1152921504606846976 ∧ X.length ≤ 256)
    have Hin := Lib.hid (dinst_yes now h0 W1)
    have hmk := @run_makeMap Try.prog
    obtain ⟨W2, hW2⟩ : ∃ W2, W2 = W1.alloc (.map #[] 0) := ⟨_, rfl⟩
    obtain ⟨W3, hW3⟩ : ∃ W3, W3 = W2.alloc (.map #[] 0) := ⟨_, rfl⟩
    obtain ⟨m1, hm1⟩ : ∃ b, b = W1.heap.size := ⟨_, rfl⟩
    obtain ⟨m2, hm2⟩ : ∃ b, b = W1.heap.size + 1 := ⟨_, rfl⟩
    have z2 : W2.heap.size = W1.heap.size + 1 := by rw [hW2]; simp
    have B2 : Below W1.heap.size W1 W2 := by rw [hW2]; exact below_new _ _
    have B3 : Below W2.heap.size W2 W3 := by rw [hW3]; exact below_new _ _
    have a1 : Bp W3 m1 0 (idsS X 0) := by
      have h1 : Bp W2 m1 0 (fun _ => false) := by rw [hW2, hm1]; exact ⟨_, World.ownsMap_made _ _ _ _, BSet.start⟩
      exact h1.below B3
    have a2 : Bp W3 m2 0 (gensS X 0) := by rw [hW3, hm2, ← z2]; exact ⟨_, World.ownsMap_made _ _ _ _, BSet.start⟩
    have hB13 := below_on B2 B3 (Nat.le_refl _)
    have HB13 := Lib.hid hB13
    have A1 := Lib.hid a1
    have A2 := Lib.hid a2
    have Hm : Hid (m1 ≠ m2 ∧ b1 ≠ m1 ∧ b1 ≠ m2 ∧ W.heap.size ≤ m1 ∧ W.heap.size ≤ m2 ∧ W1.heap.size ≤ m1 ∧ W1.heap.size ≤ m2) := (⟨by omega, by omega, by omega, by omega, by omega, by omega, by omega⟩ : m1 ≠ m2 ∧ b1 ≠ m1 ∧ b1 ≠ m2 ∧ W.heap.size ≤ m1 ∧ W.heap.size ≤ m2 ∧ W1.heap.size ≤ m1 ∧ W1.heap.size ≤ m2)
    clear hbad h0 z2 B2 B3 a1 a2 hB13 hz1 hbz
    go_enter Try.func22, Try.ntmps22
    go_upto_region 1 with fail
    rw [← hW1, ← hb1]
    clear hW1 hb1
    go_wp2_with fail
    refine Hin.out.mono ?_
    rintro e V1 ⟨rfl, hv⟩
    subst V1
    have T3 := Lib.hid (bx_below HB13.out T1.out)
    have p2 := block_cell T3.out 2
    have l1 := (Array.getElem?_eq_some_iff.1 T3.out).1
    simp at p2
    go_upto_region 5 with fail
    rw [← hW2, ← hW3, ← hm2, ← hm1]
    clear hW2 hW3 hm1 hm2 p0 p1 x3 x4 hmk
    go_wp2_with fail
    clear p2 l1
    go_loopw [28] (fun u wr => ∃ i : Nat, u = .int .i64 (i : Nat) ∧ i ≤ X.length ∧ Hid (sndTo last X i) ∧ Hid (Bp wr m1 i (idsS X i)) ∧ Hid (Bp wr m2 i (gensS X i)) ∧ Hid (Gr (fun j => j = m1 ∨ j = m2) W3 wr)) (fun u _ => X.length - (intOf u).toNat)
    case atStart => exact ⟨0, rfl, Nat.zero_le _, (fun i h h0 => absurd h0 (Nat.not_lt_zero _) : sndTo last X 0), A1, A2, Gr.refl _ _⟩
    case round =>
      obtain ⟨i, rfl, hi, hsn, ha1, ha2, hg⟩ := hrel
      have hBw : Below W.heap.size W wr := (below_on HB1.out HB13.out (Nat.le_refl _)).trans (hg.out.above (below_on HB1.out HB13.out (Nat.le_refl _)).size (fun j h => by rcases h with rfl | rfl; exact Hm.out.2.2.2.1; exact Hm.out.2.2.2.2.1))
      have HBw := Lib.hid hBw
      by_cases hil : i < X.length
      · obtain ⟨x1, x2⟩ := i_nums i X.length hil
        obtain ⟨bx, fx, rfl, hbx, c0, c1, c2⟩ := ThR.cells (ThR.below HR.out hBw) i hil
        have hioo := HO.out X[i] (List.getElem_mem hil)
        have hnx1 := idsS_next X i hil
        have hnx2 := gensS_next X i hil
        obtain ⟨⟨ti, tg, td⟩, hy⟩ : ∃ y, y = X[i] := ⟨_, rfl⟩
        rw [← hy] at c0 c1 c2 hioo hnx1 hnx2
        simp only at c0 c1 c2 hioo hnx1 hnx2
        obtain ⟨V, hV⟩ : ∃ V, V = wr.alloc (.cells #[.int .u64 ti, .int .u64 tg, .int .i64 td] thT) := ⟨_, rfl⟩
        obtain ⟨p, hp⟩ : ∃ p, p = wr.heap.size := ⟨_, rfl⟩
        have hBV : Below wr.heap.size wr V := by rw [hV]; exact below_new _ _
        have hxp : V.heap[p]? = some (.cells #[.int .u64 ti, .int .u64 tg, .int .i64 td] thT (0, 0)) := by rw [hV, hp]; exact heap_alloc_new _ _
        have hx1 := bx_below hBV ((hg.out.block b1 (Array.getElem?_eq_some_iff.1 T3.out).1 (fun h => h.elim Hm.out.2.1 Hm.out.2.2.1)).trans T3.out)
        have hpm : p ≠ m1 ∧ p ≠ m2 := by have h1 := ha1.out.lt; have h2 := ha2.out.lt; exact ⟨by omega, by omega⟩
        have Xp := Lib.hid hxp
        have X1 := Lib.hid hx1
        have Hpm := Lib.hid hpm
        have Hy := Lib.hid hy
        have Hi := Lib.hid hil
        have HV := Lib.hid (And.intro hV hp)
        have HBV := Lib.hid hBV
        have Hoo := Lib.hid hioo
        have Hnx := Lib.hid (And.intro hnx1 hnx2)
        have hBWV : Below W.heap.size W V := below_on hBw hBV (Nat.le_refl _)
        have HBE := Lib.hid hBWV
        clear hy hBV hxp hx1 hV hp hBw hi hpm hioo hnx1 hnx2 hBWV
        have hz1 := ((hg.out.block b1 (Array.getElem?_eq_some_iff.1 T3.out).1 (fun h => h.elim Hm.out.2.1 Hm.out.2.2.1)).trans T3.out)
        have p2 := block_cell hz1 2
        have l1 := (Array.getElem?_eq_some_iff.1 hz1).1
        simp at p2
        clear hz1
        go_upto_region 8 with fail
        rw [← HV.out.1, ← HV.out.2]
        clear c0 c1 c2 hbx p2 l1
        have q0 := block_cell Xp.out 0
        have q1 := block_cell Xp.out 1
        have q2 := block_cell Xp.out 2
        have ql := (Array.getElem?_eq_some_iff.1 Xp.out).1
        have p1 := block_cell X1.out 1
        have l1 := (Array.getElem?_eq_some_iff.1 X1.out).1
        simp at q0 q1 q2 p1
        by_cases g1 : tg < 1
        · have Hno : Hid (¬ SoundP now last X) := (fun h => by
            have h1 := (h.2.2.2 i Hi.out Hi.out).1.1
            rw [← Hy.out] at h1; simp only at h1; omega : ¬ SoundP now last X)
          go_wp2_with fail
          go_ret
          exact snd_no Hno.out HBE.out
        by_cases g2 : tg > last
        · have Hno : Hid (¬ SoundP now last X) := (fun h => by
            have h1 := (h.2.2.2 i Hi.out Hi.out).1.2.1
            rw [← Hy.out] at h1; simp only at h1; omega : ¬ SoundP now last X)
          go_wp2_with fail
          go_ret
          exact snd_no Hno.out HBE.out
        by_cases g3 : Inst td
        · have Hin2 := Lib.hid (dinst_yes td g3 V)
          have Hin3 : Hid (1 ≤ tg ∧ tg ≤ last ∧ Inst td) := (⟨by omega, by omega, g3⟩ : 1 ≤ tg ∧ tg ≤ last ∧ Inst td)
          have Hm1 := Lib.hid (met_any V m1 i (idsS X i) ti (ha1.out.below HBV.out) (by have := HL.out; have := Hi.out; omega) Hoo.out.1)
          clear g3
          go_wp2_with fail
          refine Hin2.out.mono ?_
          rintro e V1 ⟨rfl, hv⟩
          subst V1
          go_wp2_with fail
          refine (show Calls _ _ _ _ _ from Hm1.out).mono ?_
          rintro e V1 ⟨rfl, hbp1, hgr1⟩
          have hxp1 := (hgr1.block p (Array.getElem?_eq_some_iff.1 Xp.out).1 (fun e => Hpm.out.1 (Option.some.inj e))).trans Xp.out
          have hx11 := (hgr1.block b1 (Array.getElem?_eq_some_iff.1 X1.out).1 (fun e => Hm.out.2.1 (Option.some.inj e))).trans X1.out
          have hbp2 := (ha2.out.below HBV.out).kept (hgr1.block m2 (Nat.lt_of_lt_of_le ha2.out.lt HBV.out.size) (fun e => Hm.out.1 (Option.some.inj e).symm))
          have hB1 : Below W.heap.size W V1 := below_grown HBE.out hgr1 Hm.out.2.2.2.1 HBE.out.size
          have hG1 : Gr (fun j => j = m1 ∨ j = m2) W3 V1 := (hg.out.trans (Gr.below HBV.out)).trans (Gr.one hgr1 (fun b e => .inl (Option.some.inj e).symm))
          cases hc1 : idsS X i ti with
          | true =>
            have Hno : Hid (¬ SoundP now last X) := (fun h => by
              obtain ⟨k, hk, hki, e⟩ := idsS_yes hc1
              have h1 := ((h.2.2.2 i Hi.out Hi.out).2 k hk hki).1
              rw [← Hy.out] at h1; exact h1 e : ¬ SoundP now last X)
            have HBE := Lib.hid hB1
            clear hbp1 hgr1 hxp1 hx11 hbp2 hB1 hG1 hc1
            go_wp2_with fail
            go_ret
            exact snd_no Hno.out HBE.out
          | false =>
            rw [Hnx.out.1] at hbp1
            have Hm2 := Lib.hid (met_any V1 m2 i (gensS X i) tg hbp2 (by have := HL.out; have := Hi.out; omega) Hoo.out.2)
            have Hc1 := Lib.hid hc1
            have Hbp1 := Lib.hid hbp1
            have Xp1 := Lib.hid hxp1
            have X11 := Lib.hid hx11
            have HBE1 := Lib.hid hB1
            have HG1 := Lib.hid hG1
            clear q0 q1 q2 ql p1 l1
            have q1 := block_cell Xp1.out 1
            have ql := (Array.getElem?_eq_some_iff.1 Xp1.out).1
            simp at q1
            clear hbp1 hgr1 hxp1 hx11 hbp2 hB1 hG1 hc1
            go_wp2_with fail
            refine (show Calls _ _ _ _ _ from Hm2.out).mono ?_
            rintro e V2 ⟨rfl, hbp2, hgr2⟩
            have hxp1 := (hgr2.block p (Array.getElem?_eq_some_iff.1 Xp1.out).1 (fun e => Hpm.out.2 (Option.some.inj e))).trans Xp1.out
            have hx11 := (hgr2.block b1 (Array.getElem?_eq_some_iff.1 X11.out).1 (fun e => Hm.out.2.2.1 (Option.some.inj e))).trans X11.out
            have hbp1 := Hbp1.out.kept (hgr2.block m1 Hbp1.out.lt (fun e => Hm.out.1 (Option.some.inj e)))
            have hB1 : Below W.heap.size W V2 := below_grown HBE1.out hgr2 Hm.out.2.2.2.2.1 HBE1.out.size
            have hG1 : Gr (fun j => j = m1 ∨ j = m2) W3 V2 := HG1.out.trans (Gr.one hgr2 (fun b e => .inr (Option.some.inj e).symm))
            cases hc2 : gensS X i tg with
            | true =>
              have Hno : Hid (¬ SoundP now last X) := (fun h => by
                obtain ⟨k, hk, hki, e⟩ := gensS_yes hc2
                have h1 := ((h.2.2.2 i Hi.out Hi.out).2 k hk hki).2
                rw [← Hy.out] at h1; exact h1 e : ¬ SoundP now last X)
              have HBE := Lib.hid hB1
              clear hbp1 hgr2 hxp1 hx11 hbp2 hB1 hG1 hc2
              go_wp2_with fail
              go_ret
              exact snd_no Hno.out HBE.out
            | false =>
              rw [Hnx.out.2] at hbp2
              have Hc2 := Lib.hid hc2
              have Hbp12 := Lib.hid hbp1
              have Hbp22 := Lib.hid hbp2
              have HBE2 := Lib.hid hB1
              have HG2 := Lib.hid hG1
              have HRV := Lib.hid (show ThR _ _ _ _ from ThR.below HR.out hB1)
              have hld : ∀ W', Below V2.heap.size V2 W' → (Instr.loadAt thT (.pointer (some ⟨p, 0, none⟩))).run Try.prog W' = .ok (thVal ⟨ti, tg, td⟩) W' ∧ (Instr.loadAt 35 (.pointer (some ⟨b1, 2, none⟩))).run Try.prog W' = .ok (.slice (some ⟨bx, fx, none⟩) X.length cap) W' := fun W' hw => by
                have r := bx_below hw hx11
                have r2 := block_cell r 2
                simp at r2
                exact ⟨ldTb ⟨ti, tg, td⟩ (bx_below hw hxp1), ldS35 r2⟩
              have Hld := Lib.hid hld
              have w9 : wrap64 ((i : Int) + 1) = (i : Int) + 1 := IntWalk.wrap64_in _ (by have := HL.out; have := Hi.out; omega)
              have HW9 := Lib.hid w9
              clear hbp1 hgr2 hxp1 hx11 hbp2 hB1 hG1 hc2 hld q1 ql w9
              go_upto_region 10 with fail
              go_cut [75] (fun v wx => ∃ bad : Bool, v = .bool bad ∧ Hid (bad = false ↔ ∀ k (h : k < X.length), k + 1 = i → thLt X[k] ⟨ti, tg, td⟩ = true) ∧ Below V2.heap.size V2 wx)
              case first =>
                by_cases g5 : 0 < i
                · obtain ⟨w1, w2, w3, w4⟩ := i_pred i X.length Hi.out g5 HL.out
                  obtain ⟨bq, fq, eq, hbq, d0, d1, d2⟩ := ThR.cells HRV.out (i - 1) w3
                  simp only [Option.some.injEq, Addr.mk.injEq] at eq
                  obtain ⟨rfl, rfl, -⟩ := eq
                  obtain ⟨z, hz⟩ : ∃ z, z = X[i - 1] := ⟨_, rfl⟩
                  rw [← hz] at d0 d1 d2
                  have hlz : ∀ W', Below V2.heap.size V2 W' → (Instr.loadAt thT (.pointer (some ⟨bx, fx + (i - 1) * 3, none⟩))).run Try.prog W' = .ok (thVal z) W' := fun W' hw => loadTh ((hw.cell (p := ⟨bx, fx + (i - 1) * 3, none⟩) hbq).trans d0) ((hw.cell (p := ⟨bx, fx + (i - 1) * 3 + 1, none⟩) hbq).trans d1) ((hw.cell (p := ⟨bx, fx + (i - 1) * 3 + 2, none⟩) hbq).trans d2)
                  have Hlz := Lib.hid hlz
                  have Hz := Lib.hid hz
                  have Hw := Lib.hid (And.intro w3 w4)
                  have v1 : (0 : Int) < (i : Int) := by omega
                  obtain ⟨j, hj⟩ : ∃ j, j = i - 1 := ⟨_, rfl⟩
                  rw [← hj] at Hlz w1 w2 d0 d1 d2
                  have Hj := Lib.hid hj
                  clear hlz hz d0 d1 d2 w4 hbq hj
                  refine wp_region_held_drew (S := fun W' => Below V2.heap.size V2 W') (by kernel_rfl) (Below.refl _ V2).drew (fun hHeld => ?_)
                  refine wpAnyH_take (i := 0) (v := ?_) rfl (by kernel_rfl) (by kernel_rfl) (by kernel_rfl) (fun _ _ _ h => h) (Or.inl ⟨by rfl, ?_⟩) (by assumption) ?_
                  rotate_left
                  · intro w8 hSw; clear hSw; go_simp; (try with_reducible rfl)
                  simp only [Act.put, List.getElem_toArray, List.getElem_cons_zero, List.getElem_cons_succ, List.setIfInBounds_toArray, List.set_cons_zero, List.set_cons_succ]
                  refine wpAnyH_take (i := 1) (v := ?_) rfl (by kernel_rfl) (by kernel_rfl) (by kernel_rfl) (fun _ _ _ h => h) (Or.inl ⟨by rfl, ?_⟩) (by assumption) ?_
                  rotate_left
                  · intro w8 hSw; clear hSw; go_simp; (try with_reducible rfl)
                  simp only [Act.put, List.getElem_toArray, List.getElem_cons_zero, List.getElem_cons_succ, List.setIfInBounds_toArray, List.set_cons_zero, List.set_cons_succ]
                  refine wpAnyH_take (i := 2) (v := ?_) rfl (by kernel_rfl) (by kernel_rfl) (by kernel_rfl) (fun _ _ _ h => h) (Or.inl ⟨by rfl, ?_⟩) (by assumption) ?_
                  rotate_left
                  · intro w8 hSw; clear hSw; go_simp; (try with_reducible rfl)
                  simp only [Act.put, List.getElem_toArray, List.getElem_cons_zero, List.getElem_cons_succ, List.setIfInBounds_toArray, List.set_cons_zero, List.set_cons_succ]
                  refine wpAnyH_take (i := 3) (v := ?_) rfl (by kernel_rfl) (by kernel_rfl) (by kernel_rfl) (fun _ _ _ h => h) (Or.inl ⟨by rfl, ?_⟩) (by assumption) ?_
                  rotate_left
                  · intro w8 hSw; clear hSw; go_simp; (try with_reducible rfl)
                  simp only [Act.put, List.getElem_toArray, List.getElem_cons_zero, List.getElem_cons_succ, List.setIfInBounds_toArray, List.set_cons_zero, List.set_cons_succ]
                  refine wpAnyH_take (i := 4) (v := .slice (some ⟨bx, fx, none⟩) X.length cap) rfl (by kernel_rfl) (by kernel_rfl) (by kernel_rfl) (fun _ _ _ h => h) (Or.inl ⟨by rfl, ?_⟩) (by assumption) ?_
                  · intro w8 hSw; exact ld_takeT rfl (Hld.out w8 hSw).2 rfl
                  simp only [Act.put, List.getElem_toArray, List.getElem_cons_zero, List.getElem_cons_succ, List.setIfInBounds_toArray, List.set_cons_zero, List.set_cons_succ]
                  refine wpAnyH_take (i := 5) (v := ?_) rfl (by kernel_rfl) (by kernel_rfl) (by kernel_rfl) (fun _ _ _ h => h) (Or.inl ⟨by rfl, ?_⟩) (by assumption) ?_
                  rotate_left
                  · intro w8 hSw; clear hSw; go_simp; (try with_reducible rfl)
                  simp only [Act.put, List.getElem_toArray, List.getElem_cons_zero, List.getElem_cons_succ, List.setIfInBounds_toArray, List.set_cons_zero, List.set_cons_succ]
                  refine wpAnyH_take (i := 6) (v := .int .i64 (j : Nat)) rfl (by kernel_rfl) (by kernel_rfl) (by kernel_rfl) (fun _ _ _ h => h) (Or.inl ⟨by rfl, ?_⟩) (by assumption) ?_
                  · intro w8 hSw; clear hSw; go_simp
                  simp only [Act.put, List.getElem_toArray, List.getElem_cons_zero, List.getElem_cons_succ, List.setIfInBounds_toArray, List.set_cons_zero, List.set_cons_succ]
                  refine wpAnyH_take (i := 7) (v := ?_) rfl (by kernel_rfl) (by kernel_rfl) (by kernel_rfl) (fun _ _ _ h => h) (Or.inl ⟨by rfl, ?_⟩) (by assumption) ?_
                  rotate_left
                  · intro w8 hSw; clear hSw; go_simp; (try with_reducible rfl)
                  simp only [Act.put, List.getElem_toArray, List.getElem_cons_zero, List.getElem_cons_succ, List.setIfInBounds_toArray, List.set_cons_zero, List.set_cons_succ]
                  refine wpAnyH_take (i := 8) (v := thVal z) rfl (by kernel_rfl) (by kernel_rfl) (by kernel_rfl) (fun _ _ _ h => h) (Or.inl ⟨by rfl, ?_⟩) (by assumption) ?_
                  · intro w8 hSw; exact ld_takeT rfl (Hlz.out w8 hSw) rfl
                  simp only [Act.put, List.getElem_toArray, List.getElem_cons_zero, List.getElem_cons_succ, List.setIfInBounds_toArray, List.set_cons_zero, List.set_cons_succ]
                  refine wpAnyH_take (i := 9) (v := thVal ⟨ti, tg, td⟩) rfl (by kernel_rfl) (by kernel_rfl) (by kernel_rfl) (fun _ _ _ h => h) (Or.inl ⟨by rfl, ?_⟩) (by assumption) ?_
                  · intro w8 hSw; exact ld_takeT rfl (Hld.out w8 hSw).1 rfl
                  simp only [Act.put, List.getElem_toArray, List.getElem_cons_zero, List.getElem_cons_succ, List.setIfInBounds_toArray, List.set_cons_zero, List.set_cons_succ]
                  refine wpAnyH_ready (rs := [10]) (by kernel_rfl) (by simp) ?_
                  refine AllReadyH.cons rfl (fun K hK => ?_) AllReadyH.nil
                  go_simp
                  go_at_call 50
                  refine (sbefore_any z ⟨ti, tg, td⟩ V2.drew).mono ?_
                  rintro e V3 ⟨rfl, hb3⟩; have hB3 := below_on (Below.refl _ V2).drew hb3 (Nat.le_refl _)
                  refine hK.out _ _ hB3 (fun hHeld => ?_)
                  clear hK K
                  try simp only [Act.put, List.getElem_toArray, List.getElem_cons_zero, List.getElem_cons_succ, List.setIfInBounds_toArray, List.set_cons_zero, List.set_cons_succ]
                  refine wpAnyH_take (i := 11) (v := ?_) rfl (by kernel_rfl) (by kernel_rfl) (by kernel_rfl) (fun _ _ _ h => h) (Or.inl ⟨by rfl, ?_⟩) (by assumption) ?_
                  rotate_left
                  · intro w8 hSw; clear hSw; go_simp; (try with_reducible rfl)
                  simp only [Act.put, List.getElem_toArray, List.getElem_cons_zero, List.getElem_cons_succ, List.setIfInBounds_toArray, List.set_cons_zero, List.set_cons_succ]
                  refine wpAnyH_take (i := 12) (v := ?_) rfl (by kernel_rfl) (by kernel_rfl) (by kernel_rfl) (fun _ _ _ h => h) (Or.inl ⟨by rfl, ?_⟩) (by assumption) ?_
                  rotate_left
                  · intro w8 hSw; clear hSw; go_simp; (try with_reducible rfl)
                  simp only [Act.put, List.getElem_toArray, List.getElem_cons_zero, List.getElem_cons_succ, List.setIfInBounds_toArray, List.set_cons_zero, List.set_cons_succ]
                  refine wpAnyH_done (by kernel_rfl) ?_ _
                  go_wp2_with fail
                  go_meet
                  refine ⟨!thLt z ⟨ti, tg, td⟩, rfl, (?_ : _ ↔ _), hB3⟩
                  constructor
                  · intro e k hk hki
                    have hkj : k = i - 1 := by omega
                    subst hkj
                    rw [← Hz.out]
                    simpa using e
                  · intro h
                    have := h (i - 1) Hw.out.1 Hw.out.2
                    rw [← Hz.out] at this
                    rw [this]; rfl
                · have Hg5 := Lib.hid g5
                  have v1 : ¬ (0 : Int) < (i : Int) := by omega
                  clear g5
                  refine wp_region_held_drew (S := fun W' => Below V2.heap.size V2 W') (by kernel_rfl) (Below.refl _ V2).drew (fun hHeld => ?_)
                  refine wpAnyH_take (i := 0) (v := ?_) rfl (by kernel_rfl) (by kernel_rfl) (by kernel_rfl) (fun _ _ _ h => h) (Or.inl ⟨by rfl, ?_⟩) (by assumption) ?_
                  rotate_left
                  · intro w8 hSw; clear hSw; go_simp; (try with_reducible rfl)
                  simp only [Act.put, List.getElem_toArray, List.getElem_cons_zero, List.getElem_cons_succ, List.setIfInBounds_toArray, List.set_cons_zero, List.set_cons_succ]
                  refine wpAnyH_take (i := 1) (v := .bool false) rfl (by kernel_rfl) (by kernel_rfl) (by kernel_rfl) (fun _ _ _ h => h) (Or.inl ⟨by rfl, ?_⟩) (by assumption) ?_
                  · intro w8 hSw; clear hSw; go_simp; (try omega)
                  simp only [Act.put, List.getElem_toArray, List.getElem_cons_zero, List.getElem_cons_succ, List.setIfInBounds_toArray, List.set_cons_zero, List.set_cons_succ]
                  refine wpAnyH_take (i := 2) (v := ?_) rfl (by kernel_rfl) (by kernel_rfl) (by kernel_rfl) (fun _ _ _ h => h) (Or.inl ⟨by rfl, ?_⟩) (by assumption) ?_
                  rotate_left
                  · intro w8 hSw; clear hSw; go_simp; (try with_reducible rfl)
                  simp only [Act.put, List.getElem_toArray, List.getElem_cons_zero, List.getElem_cons_succ, List.setIfInBounds_toArray, List.set_cons_zero, List.set_cons_succ]
                  refine wpAnyH_take (i := 3) rfl (by kernel_rfl) (by kernel_rfl) (by kernel_rfl) (fun _ _ _ h => h) (Or.inr ⟨by rfl, rfl⟩) (by assumption) ?_
                  simp only [Act.put, List.getElem_toArray, List.getElem_cons_zero, List.getElem_cons_succ, List.setIfInBounds_toArray, List.set_cons_zero, List.set_cons_succ]
                  refine wpAnyH_take (i := 4) rfl (by kernel_rfl) (by kernel_rfl) (by kernel_rfl) (fun _ _ _ h => h) (Or.inr ⟨by rfl, rfl⟩) (by assumption) ?_
                  simp only [Act.put, List.getElem_toArray, List.getElem_cons_zero, List.getElem_cons_succ, List.setIfInBounds_toArray, List.set_cons_zero, List.set_cons_succ]
                  refine wpAnyH_take (i := 5) rfl (by kernel_rfl) (by kernel_rfl) (by kernel_rfl) (fun _ _ _ h => h) (Or.inr ⟨by rfl, rfl⟩) (by assumption) ?_
                  simp only [Act.put, List.getElem_toArray, List.getElem_cons_zero, List.getElem_cons_succ, List.setIfInBounds_toArray, List.set_cons_zero, List.set_cons_succ]
                  refine wpAnyH_take (i := 6) rfl (by kernel_rfl) (by kernel_rfl) (by kernel_rfl) (fun _ _ _ h => h) (Or.inr ⟨by rfl, rfl⟩) (by assumption) ?_
                  simp only [Act.put, List.getElem_toArray, List.getElem_cons_zero, List.getElem_cons_succ, List.setIfInBounds_toArray, List.set_cons_zero, List.set_cons_succ]
                  refine wpAnyH_take (i := 7) rfl (by kernel_rfl) (by kernel_rfl) (by kernel_rfl) (fun _ _ _ h => h) (Or.inr ⟨by rfl, rfl⟩) (by assumption) ?_
                  simp only [Act.put, List.getElem_toArray, List.getElem_cons_zero, List.getElem_cons_succ, List.setIfInBounds_toArray, List.set_cons_zero, List.set_cons_succ]
                  refine wpAnyH_take (i := 8) rfl (by kernel_rfl) (by kernel_rfl) (by kernel_rfl) (fun _ _ _ h => h) (Or.inr ⟨by rfl, rfl⟩) (by assumption) ?_
                  simp only [Act.put, List.getElem_toArray, List.getElem_cons_zero, List.getElem_cons_succ, List.setIfInBounds_toArray, List.set_cons_zero, List.set_cons_succ]
                  refine wpAnyH_take (i := 9) rfl (by kernel_rfl) (by kernel_rfl) (by kernel_rfl) (fun _ _ _ h => h) (Or.inr ⟨by rfl, rfl⟩) (by assumption) ?_
                  simp only [Act.put, List.getElem_toArray, List.getElem_cons_zero, List.getElem_cons_succ, List.setIfInBounds_toArray, List.set_cons_zero, List.set_cons_succ]
                  refine wpAnyH_take (i := 10) rfl (by kernel_rfl) (by kernel_rfl) (by kernel_rfl) (fun _ _ _ h => h) (Or.inr ⟨by rfl, rfl⟩) (by assumption) ?_
                  simp only [Act.put, List.getElem_toArray, List.getElem_cons_zero, List.getElem_cons_succ, List.setIfInBounds_toArray, List.set_cons_zero, List.set_cons_succ]
                  refine wpAnyH_take (i := 11) rfl (by kernel_rfl) (by kernel_rfl) (by kernel_rfl) (fun _ _ _ h => h) (Or.inr ⟨by rfl, rfl⟩) (by assumption) ?_
                  simp only [Act.put, List.getElem_toArray, List.getElem_cons_zero, List.getElem_cons_succ, List.setIfInBounds_toArray, List.set_cons_zero, List.set_cons_succ]
                  refine wpAnyH_take (i := 12) (v := ?_) rfl (by kernel_rfl) (by kernel_rfl) (by kernel_rfl) (fun _ _ _ h => h) (Or.inl ⟨by rfl, ?_⟩) (by assumption) ?_
                  rotate_left
                  · intro w8 hSw; clear hSw; go_simp; (try with_reducible rfl)
                  simp only [Act.put, List.getElem_toArray, List.getElem_cons_zero, List.getElem_cons_succ, List.setIfInBounds_toArray, List.set_cons_zero, List.set_cons_succ]
                  refine wpAnyH_done (by kernel_rfl) ?_ _
                  go_wp2_with fail
                  go_meet
                  exact ⟨false, rfl, (⟨fun _ k hk hki => by have := Hg5.out; omega, fun _ => rfl⟩ : false = false ↔ ∀ k (h : k < X.length), k + 1 = i → thLt X[k] ⟨ti, tg, td⟩ = true), (Below.refl _ V2).drew⟩
              case rest =>
                obtain ⟨bad, rfl, hbad, hBc⟩ := hcut
                have HBE := Lib.hid (below_on HBE2.out hBc (Nat.le_refl _))
                have HBc := Lib.hid hBc
                clear hBc
                cases bad with
                | true =>
                  have Hno : Hid (¬ SoundP now last X) := (fun h => by
                    have h1 := (h.2.2.2 i Hi.out Hi.out).1.2.2.2
                    rw [← Hy.out] at h1
                    exact Bool.noConfusion (hbad.out.2 h1) : ¬ SoundP now last X)
                  clear hbad
                  go_wp2_with fail
                  go_ret
                  exact snd_no Hno.out HBE.out
                | false =>
                  have Hlast := Lib.hid (hbad.out.1 rfl)
                  have w1 := HW9.out
                  clear hbad
                  go_wp2_with fail
                  go_roundw
                  case rel => exact ⟨i + 1, by first | rfl | rw [w1]; rfl, Hi.out, (fun j hj hj1 => by
                    rcases Nat.lt_or_ge j i with h | h
                    · exact hsn.out j hj h
                    · have : j = i := by omega
                      subst this
                      rw [← Hy.out]
                      exact ⟨⟨Hin3.out.1, Hin3.out.2.1, Hin3.out.2.2, Hlast.out⟩, fun k hk hkj => ⟨idsS_no Hc1.out k hk hkj, gensS_no Hc2.out k hk hkj⟩⟩ : sndTo last X (i + 1)), Hbp12.out.below HBc.out, Hbp22.out.below HBc.out, HG2.out.trans (Gr.below HBc.out)⟩
                  case measure =>
                    first | rw [w1] | skip
                    exact ts_meas X.length i Hi.out
        · have Hin2 := Lib.hid (dinst_no td g3 V)
          have Hno : Hid (¬ SoundP now last X) := (fun h => by
            have h1 := (h.2.2.2 i Hi.out Hi.out).1.2.2.1
            rw [← Hy.out] at h1; exact g3 h1 : ¬ SoundP now last X)
          clear g3
          go_wp2_with fail
          refine Hin2.out.mono ?_
          rintro e V1 ⟨rfl, hv⟩
          subst V1
          go_wp2_with fail
          go_ret
          exact snd_no Hno.out HBE.out
      · obtain rfl : i = X.length := Nat.le_antisymm hi (Nat.le_of_not_lt hil)
        have x1 : ¬ (X.length : Int) < (X.length : Int) := Int.lt_irrefl _
        have hY : SoundP now last X := ⟨Hhead.out.1, Hhead.out.2.1, Hhead.out.2.2, hsn.out⟩
        have HY := Lib.hid hY
        clear hBw hi hil hY
        go_wp2_with fail
        go_ret
        exact snd_yes HY.out HBw.out
end Go.Proofs.Ytedlplkomfiahaa
