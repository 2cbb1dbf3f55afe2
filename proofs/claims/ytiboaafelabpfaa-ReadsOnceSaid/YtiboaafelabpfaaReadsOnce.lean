/- The walk of the law ReadsOnce. -/
import Derived.Test.YtiboaafelabpfaaReadsO
namespace Go.Proofs.Ytiboaafelabpfaa
set_option linter.unusedVariables false
set_option linter.unusedSimpArgs false
set_option linter.unusedSectionVars false
open Go Go.RowKit Go.Maps
attribute [local go_sem ↓] Go.wp_at_zero Go.wp_at_succ

/-- what each round keeps -/
def OSt (w w1 wx : World) (k : Nat) (sure : Int) : Prop := ∃ (begun : Int) (lr : List Rd) (aq : Option Addr) (cq : Nat) (D : DataW Unit), 0 ≤ begun ∧ begun ≤ 1152921504606846976 ∧ lr.length ≤ 32 ∧ Q wx w.heap.size true begun sure aq lr.length cq ∧ Wait wx aq cq lr ∧ Lft wx w1.heap.size k D ∧
  MapIs D lr ∧ Ord lr begun ∧ Below w.heap.size w wx
/-- behind the call of a round: what it told is in 'out' -/
def OMid (w w1 : World) (o k : Nat) (n x : Int) (v5 v8 : Value) (wx : World) : Prop := ∃ (begun sure : Int) (lr out : List Rd) (aq : Option Addr) (cq : Nat) (ao : Option Addr) (co : Nat) (D : DataW Unit), 0 ≤ begun ∧ begun ≤ 1152921504606846976 ∧ lr.length ≤ 32 ∧ out.length ≤ 32 ∧ v5 = .int .u64 sure ∧ v8 = .slice ao out.length co ∧
  Q wx w.heap.size true begun sure aq lr.length cq ∧ Wait wx aq cq lr ∧ Wait wx ao co out ∧ Lft wx w1.heap.size (k + 1) D ∧ MapIs D (out ++ lr) ∧ Ord lr begun ∧ Ord out begun ∧ (n = 3 → ∀ r ∈ out, r.round ≤ sure ∧ r.index ≤ x) ∧ Below w.heap.size w wx ∧
  wx.cell? ⟨o, 0, none⟩ = some (.int .i64 n) ∧ wx.cell? ⟨o, 1, none⟩ = some (.int .u64 x)
/-- nothing was told -/
theorem omid_none {w w1 wx : World} {o k k' : Nat} {n x begun sure : Int} {lr : List Rd} {aq : Option Addr} {cq : Nat} {D : DataW Unit} (g0 : 0 ≤ begun) (g1 : begun ≤ 1152921504606846976) (gl : lr.length ≤ 32) (hQ : Q wx w.heap.size true begun sure aq lr.length cq) (hW : Wait wx aq cq lr) (hD : Lft wx w1.heap.size k' D) (hk : k' ≤ k + 1) (hM : MapIs D lr) (hO : Ord lr begun)
    (hB : Below w.heap.size w wx) (c0 : wx.cell? ⟨o, 0, none⟩ = some (.int .i64 n)) (c1 : wx.cell? ⟨o, 1, none⟩ = some (.int .u64 x)) : OMid w w1 o k n x (.int .u64 sure) (.slice none 0 0) wx :=
  ⟨begun, sure, lr, [], aq, cq, none, 0, D, g0, g1, gl, by simp, rfl, rfl, hQ, hW, Rw.nil _ _ _, hD.mono hk, hM, hO, ⟨List.Pairwise.nil, by simp⟩, by simp, hB, c0, c1⟩
theorem OMid.drew {w w1 wx : World} {o k : Nat} {n x : Int} {v5 v8 : Value} (h : OMid w w1 o k n x v5 v8 wx) (m : Nat) : OMid w w1 o k n x v5 v8 (wx.drewN m) := by
  have hb : Below wx.heap.size wx (wx.drewN m) := below_drewN (Below.refl _ _) m
  obtain ⟨begun, sure, lr, out, aq, cq, ao, co, D, h1, h2, h3, h4, h5, h6, h7, h8, h9, h10, h11, h12, h13, h14, h15, h16, h17⟩ := h
  exact ⟨begun, sure, lr, out, aq, cq, ao, co, D, h1, h2, h3, h4, h5, h6, qq_below h7 hb, Rw.below h8 hb, Rw.below h9 hb, h10.below hb, h11, h12, h13, h14, below_drewN h15 m, (hb.cell (p := ⟨o, 0, none⟩) (cell?_lt h16)).trans h16, (hb.cell (p := ⟨o, 1, none⟩) (cell?_lt h17)).trans h17⟩
theorem wf_round {x begun : Int} (h0 : 1 ≤ x) (h1 : x ≤ begun) (h2 : begun ≤ 1152921504606846976) : (Lit.int .u64 x).wf = true := WalkArith.wf_u64 (by omega)
/-- the object of a method was changed -/
theorem Lft.grown {w w' : World} {b n g : Nat} {D : DataW Unit} (h : Lft w b n D) (hg : w.grownBy w' (some g)) (hne : b ≠ g) : Lft w' b n D := h.kept hg (by simpa using hne)
theorem cell_grown {w w' : World} {p : Addr} {g : Nat} {v : Value} (h : w.cell? p = some v) (hg : w.grownBy w' (some g)) (hne : p.block ≠ g) : w'.cell? p = some v := by
  rw [World.cell?_of_block (w := w) (hg.block p.block (cell?_lt h) (by simpa using hne))]; exact h

set_option maxHeartbeats 4000000 in
set_option maxRecDepth 100000 in
theorem readsOnce_far (ao : Option Addr) (cap : Nat) (l : List I3) (w : World) (hs : I3s w .i64 .u64 .u64 ao cap l) (h : 200 < l.length) :
    Calls Try.prog 4 #[.slice ao l.length cap] w fun e w' => e = .returned (.bool true) ∧ Below w.heap.size w w' := by
  go_enter Try.func4, Try.ntmps4
  go_wp2_with fail
  refine (lives_true _).mono ?_
  rintro e w1 ⟨rfl, hB⟩
  go_wp2_with fail
  go_ret
  exact ⟨rfl, hB⟩

set_option maxHeartbeats 8000000 in
set_option maxRecDepth 100000 in
theorem readsOnce_near (ao : Option Addr) (cap : Nat) (l : List I3) (w : World) (hs : I3s w .i64 .u64 .u64 ao cap l) (hok : I3ok .i64 .u64 .u64 l) (h : ¬ 200 < l.length) :
    Calls Try.prog 4 #[.slice ao l.length cap] w fun e w' => e = .returned (.bool true) ∧ Below w.heap.size w w' := by
  have hmm := @run_makeMap Try.prog
  go_enter Try.func4, Try.ntmps4
  go_wp2_with fail
  refine (new_any _).mono ?_
  rintro e w1 ⟨rfl, hq, hB⟩
  go_wp2_with fail
  clear hmm
  go_loopw [5, 25] (fun v5 i wx => ∃ k : Nat, k ≤ l.length ∧ i = .int .i64 k ∧ ∃ sure : Int, v5 = .int .u64 sure ∧ OSt w w1 wx k sure) (fun _ i _ => l.length - (intOf i).toNat)
  case atStart =>
    have hbz : w.heap.size < w1.heap.size := (Array.getElem?_eq_some_iff.1 hq).1
    exact ⟨0, Nat.zero_le _, rfl, 0, rfl, 0, [], none, 0, .map [], by omega, by omega, by simp, (heap_alloc_old _ _ hbz).trans hq, Rw.nil _ _ _, World.ownsMap_made _ _ _ _, MapIs.nil, ⟨List.Pairwise.nil, by simp⟩, below_on hB (below_new _ _) (Nat.le_refl _)⟩
  case round =>
    obtain ⟨k, hk, rfl, sure, rfl, begun, lr, aq, cq, D, g0, g1, gl, hQ, hW, hD, hM, hO, hB2⟩ := hrel
    have hlt := hD.lt
    by_cases hkl : k < l.length
    · obtain ⟨b', off, rfl, d0, d1, d2⟩ := I3s.get (I3s.below hs hB2) k hkl
      have hw0 := hok _ (List.getElem_mem hkl)
      obtain ⟨o, ho⟩ : ∃ o, o = l[k] := ⟨_, rfl⟩
      rw [← ho] at d0 d1 d2 hw0
      clear ho
      obtain ⟨n, x, y⟩ := o
      simp only at d0 d1 d2 hw0
      have z1 := cell?_lt d0
      go_upto_block 2 with fail
      go_cut [3, 4, 5, 7, 8] (fun v3 v4 v5 v7 v8 wx => v3 = .pointer (some ⟨w.heap.size, 0, none⟩) ∧ v4 = .map (some w1.heap.size) ∧ v7 = .pointer (some ⟨wr.heap.size, 0, none⟩) ∧ OMid w w1 wr.heap.size k n x v5 v8 wx)
      case first =>
        have hbm : w.heap.size < w1.heap.size := (Array.getElem?_eq_some_iff.1 hq).1
        have hblt : w.heap.size < wr.heap.size := (Array.getElem?_eq_some_iff.1 hQ).1
        have hB0 : Below wr.heap.size wr (wr.alloc (.cells #[.int .i64 n, .int .u64 x, .int .u64 y] 31)) := below_new _ _
        have o0 := cell?_new wr #[.int .i64 n, .int .u64 x, .int .u64 y] 31 (0, 0) 0
        have o1 := cell?_new wr #[.int .i64 n, .int .u64 x, .int .u64 y] 31 (0, 0) 1
        have o2 := cell?_new wr #[.int .i64 n, .int .u64 x, .int .u64 y] 31 (0, 0) 2
        simp only [List.getElem?_toArray, List.getElem?_cons_zero, List.getElem?_cons_succ] at o0 o1 o2
        have hQ0 := qq_below hQ hB0
        have hW0 := Rw.below hW hB0
        have hD0 := hD.below hB0
        have hBw := below_on hB2 hB0 (Nat.le_refl _)
        have O0 := Lib.hid o0
        have O1 := Lib.hid o1
        have O2 := Lib.hid o2
        clear o0 o1 o2
        rcases (show n = 1 ∨ n = 2 ∨ n = 3 ∨ n = 4 ∨ (n ≠ 1 ∧ n ≠ 2 ∧ n ≠ 3 ∧ n ≠ 4) by omega) with rfl | rfl | rfl | rfl | ⟨n1, n2, n3, n4⟩
        · go_wp2_with fail
          refine (begin_at _ w.heap.size begun sure aq _ cq hQ0 g0 g1).mono ?_
          rintro e w2 ⟨rfl, hw2⟩
          have hQ1 : Q w2 w.heap.size true (min (begun + 1) 1152921504606846976) sure aq lr.length cq := by rw [hw2]; exact block_set hQ0 1 _
          have hg : (wr.alloc (.cells #[.int .i64 1, .int .u64 x, .int .u64 y] 31)).grownBy w2 (some w.heap.size) := by rw [hw2]; exact grown_set _ _ _ _
          clear hw2
          go_wp2_with fail
          go_meet
          exact ⟨rfl, rfl, rfl, omid_none (begun := min (begun + 1) 1152921504606846976) (by omega) (by omega) gl hQ1 (Rw.grown hW0 hg (elem?_of hQ0) (by decide)) (hD0.grown hg (by omega)) (by omega) hM (hO.mono (by omega)) (below_grown hBw hg (Nat.le_refl _) hBw.size) (cell_grown O0.out hg (by simp; omega)) (cell_grown O1.out hg (by simp; omega))⟩
        · go_wp2_with fail
          refine (confirm_at _ w.heap.size begun sure x aq _ cq hQ0).mono ?_
          rintro e w2 ⟨rfl, hQ1, hg⟩
          have p1 := cell_grown O1.out hg (by simp; omega)
          have R5 := fun n => (round_at (World.drewN _ n) w.heap.size true begun (max sure (min x begun)) aq lr.length cq hQ1).mono fun e w' (h : e = _ ∧ _ = w') => And.intro h.1 h.2.symm
          simp only [cond_true] at R5
          have HR5 := Lib.hid R5
          clear R5
          have fin : ∀ s, s = max sure (min x begun) → OMid w w1 wr.heap.size k 2 x (.int .u64 s) (.slice none 0 0) w2 := by
            rintro s rfl
            exact omid_none g0 g1 gl hQ1 (Rw.grown hW0 hg (elem?_of hQ0) (by decide)) (hD0.grown hg (by omega)) (by omega) hM hO (below_grown hBw hg (Nat.le_refl _) hBw.size) (cell_grown O0.out hg (by simp; omega)) p1
          have Fin := Lib.hid fin
          have HQ1 := Lib.hid hQ1
          clear fin hQ1
          rcases Int.le_total x begun with h1 | h1 <;> rcases Int.le_total sure (min x begun) with h2 | h2
          all_goals
            go_wp2_with fail
            go_quiet ((go_at_call 19; exact Calls.quiet_of_same (HR5.out _)))
            go_wp2_with fail
            all_goals
              go_meet
              refine ⟨rfl, rfl, rfl, (Fin.out _ ?_).drew _⟩
              omega
        · go_wp2_with fail
          refine (take_at _ w.heap.size begun sure x aq cq lr hQ0 hW0 (by omega)).mono ?_
          intro e w2 hp
          obtain ⟨a1, c1, a2, c2, rfl, r1, r2, r3, hg⟩ := hp
          have f1 := List.length_filter_le (ripe sure x) lr
          have f2 := List.length_filter_le (fun r => !ripe sure x r) lr
          go_wp2_with fail
          go_meet
          refine ⟨rfl, rfl, rfl, begun, sure, _, _, a2, c2, a1, c1, D, g0, g1, by omega, by omega, rfl, rfl, r2, r3, r1, (hD0.grown hg (by omega)).mono (by omega), hM.perm (filter_perm _ _), hO.filter _, hO.filter _, fun _ r hr => ?_, below_grown hBw hg (Nat.le_refl _) hBw.size, cell_grown O0.out hg (by simp; omega), cell_grown O1.out hg (by simp; omega)⟩
          have := (List.mem_filter.1 hr).2
          simpa [ripe] using this
        · go_wp2_with fail
          refine (drop_at _ w.heap.size begun sure aq cq lr hQ0 hW0 (by omega)).mono ?_
          intro e w2 hp
          obtain ⟨a1, c1, a2, c2, rfl, r1, r2, r3, hg⟩ := hp
          have f1 := List.length_filter_le (fun _ => true) lr
          have f2 := List.length_filter_le (fun r => !(fun (_ : Rd) => true) r) lr
          obtain ⟨q1, hq1⟩ : ∃ q, q = lr.filter (fun _ => true) := ⟨_, rfl⟩
          obtain ⟨q2, hq2⟩ : ∃ q, q = lr.filter (fun r => !(fun (_ : Rd) => true) r) := ⟨_, rfl⟩
          have hM2 := hM.perm (filter_perm (fun _ => true) lr)
          have hO1 := hO.filter (fun _ => true)
          have hO2 := hO.filter (fun r => !(fun (_ : Rd) => true) r)
          rw [← hq1] at r1 f1 hM2 hO1 ⊢
          rw [← hq2] at r2 r3 f2 hM2 hO2
          clear hq1 hq2
          go_wp2_with fail
          go_meet
          exact ⟨rfl, rfl, rfl, begun, sure, _, _, a2, c2, a1, c1, D, g0, g1, by omega, by omega, rfl, rfl, r2, r3, r1, (hD0.grown hg (by omega)).mono (by omega), hM2, hO2, hO1, fun h => by omega, below_grown hBw hg (Nat.le_refl _) hBw.size, cell_grown O0.out hg (by simp; omega), cell_grown O1.out hg (by simp; omega)⟩
        · go_wp2_with fail
          refine (round_at _ w.heap.size true begun sure aq _ cq hQ0).mono ?_
          rintro e w2 ⟨rfl, rfl⟩
          rcases (show 32 ≤ lr.length ∨ (lr.length < 32 ∧ 1152921504606846976 ≤ begun) ∨ (lr.length < 32 ∧ begun < 1152921504606846976) by omega) with hf | ⟨hf, hg⟩ | ⟨hf, hg⟩
          · go_wp2_with fail
            refine (ask_full _ w.heap.size begun sure x y aq _ cq hQ0 hf).mono ?_
            rintro e w3 ⟨rfl, rfl⟩
            go_wp2_with fail
            go_meet
            exact ⟨rfl, rfl, rfl, omid_none g0 g1 gl hQ0 hW0 hD0 (by omega) hM hO hBw O0.out O1.out⟩
          · go_wp2_with fail
            refine (ask_big _ w.heap.size begun sure x y aq _ cq hQ0 hf hg).mono ?_
            rintro e w3 ⟨rfl, rfl⟩
            go_wp2_with fail
            go_meet
            exact ⟨rfl, rfl, rfl, omid_none g0 g1 gl hQ0 hW0 hD0 (by omega) hM hO hBw O0.out O1.out⟩
          · go_wp2_with fail
            refine (ask_ok _ w.heap.size begun sure x y aq cq lr hQ0 hW0 hf g0 hg).mono ?_
            intro e w3 hp
            obtain ⟨rfl, aq', cq', q1, q2, q3⟩ := hp
            have p0 := cell_grown O0.out q3 (by simp; omega)
            have p1 := cell_grown O1.out q3 (by simp; omega)
            have hD1 := hD0.grown q3 (by omega)
            have hB3 := below_grown hBw q3 (Nat.le_refl _) hBw.size
            have hkey := keyOf_int_mk (P := Try.prog) Try.underlying26 (a := begun + 1) (wf_round (begun := begun + 1) (by omega) (Int.le_refl _) (by omega))
            have Hkey := Lib.hid hkey
            have P0 := Lib.hid p0
            have Q1 := Lib.hid q1
            clear hkey p0 q1
            go_wp2_with (at_mapUpdate; refine wpList_mapUpdate_own _ rfl _ _ _ ML rfl 26 26 u64law Try.underlying51 _ w1.heap.size k _ rfl hD1 (by unfold maxLen; omega) _ _ _ rfl rfl Hkey.out _ [] (plainElem_int Try.underlying26 hw0.2.1) ?_; intro w4 hD4 hg4)
            go_meet
            have e1 : (lr ++ [(⟨x, y, begun + 1⟩ : Rd)]).length = lr.length + 1 := by simp
            have hel := Lft.elem hD1 53
            have hw4 : Wait w4 aq' cq' (lr ++ [⟨x, y, begun + 1⟩]) := Rw.grown_ne q2 hg4 hel
            refine ⟨rfl, rfl, rfl, omid_none (begun := begun + 1) (lr := lr ++ [⟨x, y, begun + 1⟩]) (by omega) (by omega) (by omega) ?_ hw4 hD4 (by omega) (hM.put x y (begun + 1) (fun r hr => by have := (hO.2 r hr).2; omega)) (hO.snoc g0) (below_grown hB3 hg4 (by omega) hB3.size) (cell_grown P0.out hg4 (by simp; omega)) (cell_grown p1 hg4 (by simp; omega))⟩
            rw [e1]
            exact (hg4.block _ (Array.getElem?_eq_some_iff.1 Q1.out).1 (by simp; omega)).trans Q1.out
      case rest =>
        obtain ⟨rfl, rfl, rfl, begun, sure, lr, out, aq, cq, ao, co, D, g0, g1, gl, go1, rfl, rfl, hQ5, hW5, hV5, hD5, hM5, hO5, hP5, hr5, hB5, c0, c1⟩ := hcut
        have hbm : w.heap.size < w1.heap.size := (Array.getElem?_eq_some_iff.1 hq).1
        have z0 := cell?_lt c0
        obtain ⟨wo, rfl⟩ : ∃ wo : World, wo = wr := ⟨_, rfl⟩
        have Hr5 := Lib.hid hr5
        clear hr5
        go_wp2_with fail
        go_loopw [12, 80] (fun v12 i wx => ∃ j : Nat, j ≤ out.length ∧ i = .int .i64 j ∧ ∃ (last : Int) (D' : DataW Unit), v12 = .int .u64 last ∧ (∀ r ∈ out.drop j, last < r.round) ∧ Lft wx w1.heap.size (k + 1) D' ∧ MapIs D' (out.drop j ++ lr) ∧ Q wx w.heap.size true begun sure aq lr.length cq ∧ Wait wx aq cq lr ∧ Wait wx ao co out ∧ Below w.heap.size w wx ∧ wx.cell? ⟨wo.heap.size, 0, none⟩ = some (.int .i64 n) ∧ wx.cell? ⟨wo.heap.size, 1, none⟩ = some (.int .u64 x)) (fun _ i _ => out.length - (intOf i).toNat)
        case atStart => exact ⟨0, Nat.zero_le _, rfl, 0, D, rfl, fun r hr => by have := (hP5.2 r (List.mem_of_mem_drop hr)).1; omega, hD5, by simpa using hM5, hQ5, hW5, hV5, hB5, c0, c1⟩
        case round =>
          obtain ⟨j, hj, rfl, last, D', rfl, hl, hD6, hM6, hQ6, hW6, hV6, hB6, e0, e1⟩ := hrel
          by_cases hjl : j < out.length
          · obtain ⟨b2, off2, rfl, f0, f1, f2⟩ := Wait.get hV6 j hjl
            have hd : out.drop j = out[j] :: out.drop (j + 1) := List.drop_eq_getElem_cons hjl
            have hpw : (out.drop j).Pairwise (fun a b => a.round < b.round) := hP5.1.drop
            have hmem : out[j] ∈ out := List.getElem_mem hjl
            rw [hd] at hl hM6 hpw
            obtain ⟨r, hr⟩ : ∃ r, r = out[j] := ⟨_, rfl⟩
            rw [← hr] at hl hM6 hpw hmem f0 f1 f2
            have hlast : last < r.round := hl r (by simp)
            have hnext := (List.pairwise_cons.1 hpw).1
            have hrr := hP5.2 r hmem
            have hwf := wf_round hrr.1 hrr.2 g1
            have h3 := fun h => Hr5.out h r hmem
            have z2 := cell?_lt f0
            have z3 := cell?_lt e0
            have hDx := hD6.alloc (.cells #[.int .u64 r.id, .int .u64 r.index, .int .u64 r.round] 53)
            have hBx : Below wr.heap.size wr (wr.alloc (.cells #[.int .u64 r.id, .int .u64 r.index, .int .u64 r.round] 53)) := below_new _ _
            have Hn := Lib.hid hnext
            have Hwf := Lib.hid hwf
            clear hl hpw hd hr hnext hwf hmem
            by_cases hn : n = 3
            · obtain ⟨s1, s2⟩ := h3 hn
              subst hn
              clear h3
              go_wp2_with (first
                | (at_lookup; refine wpl_look rfl (.tmp 85) (.tmp 87) rfl w1.heap.size (k + 1) D' (out.drop (j + 1) ++ lr) r hM6 rfl hDx rfl Hwf.out ?_)
                | (at_delete; refine wpList_delete_own _ rfl _ _ ML 26 rfl 26 u64law Try.underlying51 _ w1.heap.size (k + 1) D' rfl hDx _ _ rfl (keyOf_int_mk Try.underlying26 Hwf.out) ?_; intro w9 hD9 ht9))
              have hg9 := ht9.grown
              have hel := Lft.elem hDx 53
              go_roundw
              case rel =>
                refine ⟨j + 1, by omega, by go_num, r.round, _, rfl, Hn.out, hD9, hM6.del, ?_, Rw.grown_ne (Rw.below hW6 hBx) hg9 hel, Rw.grown_ne (Rw.below hV6 hBx) hg9 hel, below_grown (below_on hB6 hBx (Nat.le_refl _)) hg9 (by omega) (below_on hB6 hBx (Nat.le_refl _)).size, cell_grown ((hBx.cell (p := ⟨wo.heap.size, 0, none⟩) z3).trans e0) hg9 (by simp; omega), cell_grown ((hBx.cell (p := ⟨wo.heap.size, 1, none⟩) z3).trans e1) hg9 (by simp; omega)⟩
                have hq9 := qq_below hQ6 hBx
                exact (hg9.block _ (Array.getElem?_eq_some_iff.1 hq9).1 (by simp; omega)).trans hq9
              case measure => simp [intOf]; omega
            · clear h3
              go_wp2_with (first
                | (at_lookup; refine wpl_look rfl (.tmp 85) (.tmp 87) rfl w1.heap.size (k + 1) D' (out.drop (j + 1) ++ lr) r hM6 rfl hDx rfl Hwf.out ?_)
                | (at_delete; refine wpList_delete_own _ rfl _ _ ML 26 rfl 26 u64law Try.underlying51 _ w1.heap.size (k + 1) D' rfl hDx _ _ rfl (keyOf_int_mk Try.underlying26 Hwf.out) ?_; intro w9 hD9 ht9))
              have hg9 := ht9.grown
              have hel := Lft.elem hDx 53
              go_roundw
              case rel =>
                refine ⟨j + 1, by omega, by go_num, r.round, _, rfl, Hn.out, hD9, hM6.del, ?_, Rw.grown_ne (Rw.below hW6 hBx) hg9 hel, Rw.grown_ne (Rw.below hV6 hBx) hg9 hel, below_grown (below_on hB6 hBx (Nat.le_refl _)) hg9 (by omega) (below_on hB6 hBx (Nat.le_refl _)).size, cell_grown ((hBx.cell (p := ⟨wo.heap.size, 0, none⟩) z3).trans e0) hg9 (by simp; omega), cell_grown ((hBx.cell (p := ⟨wo.heap.size, 1, none⟩) z3).trans e1) hg9 (by simp; omega)⟩
                have hq9 := qq_below hQ6 hBx
                exact (hg9.block _ (Array.getElem?_eq_some_iff.1 hq9).1 (by simp; omega)).trans hq9
              case measure => simp [intOf]; omega
          · obtain rfl : j = out.length := by omega
            rw [List.drop_length, List.nil_append] at hM6
            clear hl
            go_wp2_with fail
            go_roundw
            case rel => exact ⟨k + 1, by omega, by go_num, sure, rfl, begun, lr, aq, cq, D', g0, g1, gl, hQ6, hW6, hD6, hM6, hO5, hB6⟩
            case measure => simp [intOf]; omega
    · obtain rfl : k = l.length := by omega
      have L5 := len_at _ w.heap.size true begun sure aq lr.length cq hQ
      simp only [cond_true] at L5
      have HL5 := Lib.hid L5
      clear L5
      go_wp2_with (first
        | (at_len; refine wpl_len rfl (.tmp 130) rfl w1.heap.size _ D lr hM rfl hD ?_)
        | (go_at_call 20; refine HL5.out.mono ?_; rintro e w2 ⟨rfl, rfl⟩)
        | (go_at_call 6; refine (lives_true _).mono ?_; rintro e w3 ⟨rfl, hB3⟩))
      go_ret
      exact ⟨by simp, below_on hB2 hB3 (Nat.le_refl _)⟩

theorem readsOnce_walk (ao : Option Addr) (cap : Nat) (l : List I3) (w : World) (hs : I3s w .i64 .u64 .u64 ao cap l) (hok : I3ok .i64 .u64 .u64 l) :
    Calls Try.prog 4 #[.slice ao l.length cap] w fun e w' => e = .returned (.bool true) ∧ Below w.heap.size w w' := by
  by_cases h : 200 < l.length
  · exact readsOnce_far ao cap l w hs h
  · exact readsOnce_near ao cap l w hs hok h
end Go.Proofs.Ytiboaafelabpfaa
