/- slots: New, Put. No statement of the seat is proved here. -/
import Derived.Test.YtadghaiengonoaaTc
import Derived.Carry
namespace Go.Proofs.Ytadghaiengonoaa
set_option linter.unusedVariables false
set_option linter.unusedSimpArgs false
set_option linter.unusedSectionVars false
open Go Go.RowKit Go.Maps

/-- a look at the map -/
theorem Rm.look_yes {W : World} {F : Nat → Prop} {r n mb : Nat} {sv : List Value} {u : Nat} {ρ : Nat → List Th} {L : RLs} (h : Rm W F r n mb sv u ρ (pairs L)) {p : Th × Nat} (hp : p ∈ L) (hw : IdOk p.1.id) {W' : World} (hb : W'.heap[mb]? = W.heap[mb]?) :
    (Instr.lookup mwT (.map (some mb)) (.int .u64 p.1.id) true).run Try.prog W' = .ok (.tuple #[.int .i64 (p.2 : Nat), .bool true]) W' := by
  obtain ⟨D, ⟨es, clock, h1, h1'⟩, h2⟩ := h.map
  have ho : W'.ownsMap Try.prog 28 (plainElem Try.prog 3) mb n D := ⟨es, clock, hb.trans h1, h1'⟩
  obtain ⟨v, ps, hrun, hv⟩ := ho.look_ok u64law Try.underlying94 (zeroI W') (plainElem_int (a := 0) Try.underlying3 (by decide)) (keyOf_int_mk Try.underlying28 hw.wf)
  have hm : (p.1.id, (DataW.lit (.int .i64 (p.2 : Nat)) : DataW Unit)) ∈ pairs L := List.mem_map.2 ⟨p, hp, rfl⟩
  rw [(h2.has p.1.id).2 ⟨_, hm, rfl⟩] at hrun
  rw [h2.at_ _ hm] at hv
  obtain ⟨c, rfl, hc, -⟩ := plainElem_int_inv Try.underlying3 hv
  simp only [Prod.mk.injEq, DataW.lit.injEq, Lit.int.injEq, true_and] at hc
  rw [hrun, ← hc.1]
theorem Rm.look_no {W : World} {F : Nat → Prop} {r n mb : Nat} {sv : List Value} {u : Nat} {ρ : Nat → List Th} {L : RLs} (h : Rm W F r n mb sv u ρ (pairs L)) {id : Int} (hf : ∀ p ∈ L, p.1.id ≠ id) (hw : IdOk id) {W' : World} (hb : W'.heap[mb]? = W.heap[mb]?) :
    (Instr.lookup mwT (.map (some mb)) (.int .u64 id) true).run Try.prog W' = .ok (.tuple #[.int .i64 0, .bool false]) W' := by
  obtain ⟨D, ⟨es, clock, h1, h1'⟩, h2⟩ := h.map
  have ho : W'.ownsMap Try.prog 28 (plainElem Try.prog 3) mb n D := ⟨es, clock, hb.trans h1, h1'⟩
  obtain ⟨v, ps, hrun, hv⟩ := ho.look_ok u64law Try.underlying94 (zeroI W') (plainElem_int (a := 0) Try.underlying3 (by decide)) (keyOf_int_mk Try.underlying28 hw.wf)
  have hm : ∀ q ∈ pairs L, q.1 ≠ id := fun q hq => by
    obtain ⟨p, hp, rfl⟩ := List.mem_map.1 hq
    exact hf p hp
  rw [h2.hasnt hm] at hrun
  rw [h2.atnt hm] at hv
  obtain ⟨c, rfl, hc, -⟩ := plainElem_int_inv Try.underlying3 hv
  simp only [Prod.mk.injEq, DataW.lit.injEq, Lit.int.injEq, true_and] at hc
  rw [hrun, ← hc.1]
/-- a ring in new memory -/
theorem Rng.new (W : World) (cs : Array Value) (hcs : cs = (List.replicate 64 (Value.slice none 0 0) ++ [Value.int .u64 ((0 : Nat) : Int), Value.map (some W.heap.size)]).toArray) :
    Rng ((W.alloc (.map #[] 0)).alloc (.cells cs rgT)) (More (fun _ => False) W ((W.alloc (.map #[] 0)).alloc (.cells cs rgT))) (W.heap.size + 1) 0 [] ∧ Below W.heap.size W ((W.alloc (.map #[] 0)).alloc (.cells cs rgT)) := by
  have hB : Below W.heap.size W ((W.alloc (.map #[] 0)).alloc (.cells cs rgT)) := below_on (below_new W _) (below_new _ _) (Nat.le_refl _)
  refine ⟨⟨RLok.nil, Nat.le_refl _, More.bd (fun _ h => h.elim) hB.size, W.heap.size, List.replicate 64 (Value.slice none 0 0), 0, ⟨?_, by simp, fun k hk => ?_, fun i j hi hj hij g hg => ?_, ⟨_, (World.ownsMap_made W Try.prog _ _).alloc _, MapL.nil⟩, .inr (by simp), .inr ⟨Nat.le_refl _, by simp; omega⟩⟩, UsedIs.nil⟩, hB⟩
  · have := heap_alloc_new (W.alloc (.map #[] 0)) (.cells cs rgT)
    rw [hcs] at this ⊢
    simpa using this
  · rw [List.getElem_replicate]; exact TR.nil _ _
  · rw [List.getElem_replicate] at hg; cases hg
theorem new_ring (W : World) :
    Calls Try.prog 24 #[] W fun e W' => e = .returned (.pointer (some ⟨W.heap.size + 1, 0, none⟩)) ∧ Rng W' (More (fun _ => False) W W') (W.heap.size + 1) 0 [] ∧ Below W.heap.size W W' := by
  have hmk := @run_makeMap Try.prog
  have hzr : ∀ w, (zeroValue 97).run Try.prog w = .ok (.agg (List.replicate 64 (Value.slice none 0 0) ++ [Value.int .u64 0, Value.map none]).toArray) w := fun w => by kernel_rfl
  go_enter Try.func24, Try.ntmps24
  go_wp2_with fail
  go_ret
  exact ⟨rfl, Rng.new W _ (by rfl)⟩
/-- behind an append to a slot's row -/
theorem Rm.row_app {W W4 w4 : World} {F : Nat → Prop} {r n mb : Nat} {sv : List Value} {u : Nat} {ρ : Nat → List Th} {E : List (Int × DataW Unit)} (h : Rm W F r n mb sv u ρ E) (k : Nat) (hk : k < sv.length) {v : Value} (hv : sv[k] = v) (hB : Below W.heap.size W W4) (hg : W4.grownBy w4 v.ownBlock) :
    w4.cell? ⟨r, k, none⟩ = some v ∧ w4.frozen? ⟨r, k, none⟩ = false ∧ W.grownBy w4 v.ownBlock := by
  subst hv
  have hl := h.lt
  have h1 : w4.heap[r]? = W.heap[r]? := (hg.block r (Nat.lt_of_lt_of_le hl.1 hB.size) (fun e => (h.row_ne hk e.symm).1 rfl)).trans (hB.block r hl.1)
  have h2 : w4.heap[r]? = some (.cells (sv ++ [Value.int .u64 (u : Nat), Value.map (some mb)]).toArray rgT (0, 0)) := h1.trans h.blk
  exact ⟨(World.cell?_of_block h1).trans (h.cell k hk), block_free h2 k, grown_trans (grown_below hB) hg⟩
theorem Rm.put_row {W W3 w4 : World} {F : Nat → Prop} {r n mb g c4 X cp : Nat} {ao : Option Addr} {sv : List Value} {u : Nat} {ρ : Nat → List Th} {E : List (Int × DataW Unit)} (h : Rm W3 F r n mb sv u ρ E) (hB : Below W.heap.size W W3) (k : Nat) (hk : k < sv.length) (t : Th)
    (hsv : sv[k] = .slice ao (ρ k).length cp) (hg : W3.grownBy w4 (Value.slice ao (ρ k).length cp).ownBlock) (ho : w4.ownsRow 0 thT 3 (.slice (some ⟨g, 0, none⟩) ((ρ k).length + 1) c4) ((ρ k).length + 1) ((ρ k).map thCells ++ [thCells t]).flatten)
    (hlie : (Value.slice ao (ρ k).length cp).ownBlock = some g ∨ g = X) (hX : W3.heap.size ≤ X) :
    ∃ v', Rm (w4.setCell ⟨r, k, none⟩ (.slice (some ⟨g, 0, none⟩) ((ρ k).length + 1) c4)) (More F W (w4.setCell ⟨r, k, none⟩ (.slice (some ⟨g, 0, none⟩) ((ρ k).length + 1) c4))) r n mb (sv.set k v') u (updR ρ k (ρ k ++ [t])) E ∧ Gr F W3 (w4.setCell ⟨r, k, none⟩ (.slice (some ⟨g, 0, none⟩) ((ρ k).length + 1) c4)) := by
  have hg4 := (ho.lt g rfl).2
  have hlie2 : ∀ g', (Value.slice (some ⟨g, 0, none⟩) ((ρ k).length + 1) c4).ownBlock = some g' → sv[k].ownBlock = some g' ∨ W3.heap.size ≤ g' := fun g' hg' => by
    simp only [Value.ownBlock, Option.some.injEq] at hg'
    subst hg'
    rw [hsv]
    exact hlie.imp id (fun e => by omega)
  have hlen : (ρ k ++ [t]).length = (ρ k).length + 1 := by simp
  have hstep := h.setRow (G := More F W (w4.setCell ⟨r, k, none⟩ (.slice (some ⟨g, 0, none⟩) ((ρ k).length + 1) c4))) k hk (.slice (some ⟨g, 0, none⟩) ((ρ k).length + 1) c4) (ρ k ++ [t]) (by rw [hsv]; exact hg) (by rw [hlen, ← thFlat_app]; exact ho) hlie2 (fun i hi => .inl hi) (fun g' hg' => by
    have := hlie2 g' hg'
    rcases this with h1 | h1
    · exact .inl ((h.rows k hk).foot g' h1)
    · simp only [Value.ownBlock, Option.some.injEq] at hg'
      subst hg'
      exact .inr ⟨Nat.le_trans hB.size h1, by simpa using hg4⟩)
  exact ⟨_, hstep.1, hstep.2⟩
theorem mapset_run {W : World} {b n : Nat} {D : DataW Unit} (h : W.ownsMap Try.prog 28 (plainElem Try.prog 3) b n D) (hn : n < 1000000) (id : Int) (hw : IdOk id) (k : Nat) (hk : k < 64) :
    ∃ W', (Instr.mapUpdate mwT (.map (some b)) (.int .u64 id) (.int .i64 (k : Nat))).run Try.prog W = .ok () W' ∧ W'.ownsMap Try.prog 28 (plainElem Try.prog 3) b (n + 1) (D.put (.int .u64 id) (.lit (.int .i64 (k : Nat)))) ∧ W.grownBy W' (some b) :=
  h.update u64law Try.underlying94 (by unfold maxLen; omega) (keyOf_int_mk Try.underlying28 hw.wf) (plainElem_int Try.underlying3 (by simp [Lit.wf, IntKind.min, IntKind.max, IntKind.signed, IntKind.bits]; omega))
theorem pow_in (k : Nat) (hk : k < 64) : IntKind.u64.wrap (2 ^ k) = ((2 ^ k : Nat) : Int) := by
  have h5 : 2 ^ k < 18446744073709551616 := Nat.pow_lt_pow_right (a := 2) (n := 64) (by decide) hk
  have h4 : (2 : Int) ^ k = ((2 ^ k : Nat) : Int) := (Int.natCast_pow 2 k).symm
  rw [h4]
  generalize 2 ^ k = m at h5 ⊢
  simp [IntKind.wrap, IntKind.signed, IntKind.bits]; omega
theorem wrapU (m : Nat) (h : m < 18446744073709551616) : IntKind.u64.wrap (m : Int) = (m : Int) := by
  simp [IntKind.wrap, IntKind.signed, IntKind.bits]; omega
theorem bits_on (u k : Nat) (hk : k < 64) : bits .or .u64 (u : Nat) (IntKind.u64.wrap (2 ^ k)) = (onBit u k : Nat) := by
  rw [pow_in k hk]
  exact wrapU _ (onBit_lt u k)
theorem bits_off (u k : Nat) (hk : k < 64) : bits .andNot .u64 (u : Nat) (IntKind.u64.wrap (2 ^ k)) = (offBit u k : Nat) := by
  rw [pow_in k hk]
  exact wrapU _ (offBit_lt u k)
set_option maxRecDepth 100000 in
set_option maxHeartbeats 4000000 in
theorem put_ok (W : World) (F : Nat → Prop) (r n k : Nat) (L : RLs) (t : Th) (h : Rng W F r n L) (hk : k < 64) (hf : ∀ p ∈ L, p.1.id ≠ t.id) (hw : IdOk t.id) (hn : n < 1000000) :
    Calls Try.prog 44 #[.pointer (some ⟨r, 0, none⟩), .int .i64 (k : Nat), thVal t] W fun e W' => e = .returned (.int .i64 0) ∧ Rng W' (More F W W') r (n + 1) (L ++ [(t, k)]) ∧ Gr F W W' := by
  obtain ⟨mb, sv, u, hm, hu⟩ := h.mem
  have hok := h.ok
  have hfew := h.few
  obtain ⟨ti, tg, td⟩ := t
  have hkl : k < sv.length := by rw [hm.len]; exact hk
  obtain ⟨W1, hW1⟩ : ∃ W1, W1 = W.alloc (.cells #[.int .u64 ti, .int .u64 tg, .int .i64 td] thT) := ⟨_, rfl⟩
  have hB1 : Below W.heap.size W W1 := by rw [hW1]; exact below_new _ _
  have hm1 := hm.below hB1
  have hz1 : W1.heap.size = W.heap.size + 1 := by rw [hW1]; simp
  have ht1 : W1.heap[W.heap.size]? = some (.cells #[.int .u64 ti, .int .u64 tg, .int .i64 td] thT (0, 0)) := by rw [hW1]; exact heap_alloc_new _ _
  have t0 := block_cell ht1 0
  have t1 := block_cell ht1 1
  have t2 := block_cell ht1 2
  simp at t0 t1 t2
  have hc := hm1.cellM
  have hr := hm1.lt.1
  have htl : W.heap.size < W1.heap.size := by omega
  have Hno := Lib.hid (none_no W1 r mb hc hr)
  have k1 : ¬ (k : Int) < 0 := by omega
  have k2 : ¬ (64 : Int) ≤ (k : Int) := by omega
  have hlk := fun n => hm1.look_no (id := ti) hf hw (W' := W1.drewN n) (by simp)
  have Hz1 := Lib.hid hz1
  have Ht1 := Lib.hid ht1
  have Hm1 := Lib.hid hm1
  clear hm1 ht1
  unfold thVal
  go_enter Try.func44, Try.ntmps44
  go_wp2_with fail
  rw [← hW1]
  clear hz1 hW1
  refine Hno.out.mono ?_
  rintro e W2 ⟨rfl, hW2⟩
  subst hW2
  go_wp2_with fail
  go_quiet (fail)
  go_wp2_with fail
  obtain ⟨W3, hW3⟩ : ∃ W3, W3 = W2.drewN nq := ⟨_, rfl⟩
  have hm3 : Rm W3 F r n mb sv u (rowOf L) (pairs L) := by rw [hW3]; exact Hm1.out.kept (fun _ _ _ => by simp)
  have hB3 : Below W.heap.size W W3 := by rw [hW3]; exact ⟨hB1.os, hB1.tape, hB1.output, hB1.size, hB1.block⟩
  have t03 : W3.cell? ⟨W.heap.size, 0, none⟩ = some (.int .u64 ti) := by rw [hW3]; simpa using t0
  have t13 : W3.cell? ⟨W.heap.size, 1, none⟩ = some (.int .u64 tg) := by rw [hW3]; simpa using t1
  have t23 : W3.cell? ⟨W.heap.size, 2, none⟩ = some (.int .i64 td) := by rw [hW3]; simpa using t2
  have tl3 : W.heap.size < W3.heap.size := by rw [hW3]; simpa using htl
  have hr3 := hm3.lt.1
  have hrow := (hm3.rows k hkl).own
  obtain ⟨ao, cp, hsv⟩ := own_slice hrow
  have hck := hm3.cell k hkl
  rw [hsv] at hck hrow
  have hfr := hm3.free k
  have hlr : (rowOf L k).length ≤ 1000000 := by have := rowOf_len L k; omega
  have hblk := hm3.blk
  have Hblk := Lib.hid hblk
  have hzz : 0 ≤ W3.heap.size := Nat.zero_le _
  rw [← hW3]
  clear hW3 hB1 t0 t1 t2 hc hr htl Hno hlk hblk
  have Hm3 := Lib.hid hm3
  have Hrow := Lib.hid hrow
  clear hm3 hrow
  go_cut [6] (fun v wx => v = .int .i64 0 ∧ ∃ v', Rm wx (More F W wx) r n mb (sv.set k v') u (updR (rowOf L) k (rowOf L k ++ [⟨ti, tg, td⟩])) (pairs L) ∧ Gr F W3 wx)
  case first =>
    go_region_law (refine step_append_one rfl (.tmp 37) (.tmp 39) 32 rfl 0 30 infoTh Try.underlying32 rfl (by decide) (.slice ao (rowOf L k).length cp) (rowOf L k).length ((rowOf L k).map thCells) rfl (Hrow.out.alloc _) _ 1 (thCells ⟨ti, tg, td⟩) rfl rfl (news_at _ rfl) (th_one _) ?_ ?_ ?_ ?_; omega; (unfold maxLen; omega); (simp); intro g c4 w4 hown4 hg4 hlie; obtain ⟨ck4, fk4, gr4⟩ := Hm3.out.row_app k hkl hsv (by first | exact below_new W3 _ | exact (below_new W3 _).drew | exact below_on ((Below.refl W3.heap.size W3).drew) (below_new _ _) (Nat.le_refl _)) hg4)
    all_goals
      have hfin := Hm3.out.put_row hB3 k hkl ⟨ti, tg, td⟩ hsv gr4 hown4 hlie (by simp)
      go_wp2_with fail
      go_meet
      exact ⟨rfl, hfin⟩
  case rest =>
    obtain ⟨rfl, v', hmw, hgw⟩ := hcut
    have hcu := hmw.cellU
    have hfu := hmw.free 64
    have hrw := hmw.lt.1
    have hbo := bits_on u k hk
    have Hmw := Lib.hid hmw
    clear hmw hck hfr
    have htw : wc.cell? ⟨W.heap.size, 0, none⟩ = some (.int .u64 ti) := by
      rw [← t03]
      exact World.cell?_of_block (hgw.block W.heap.size tl3 (fun e => Nat.lt_irrefl _ (h.bd _ e)))
    have htwl := Nat.lt_of_lt_of_le tl3 hgw.size
    go_wp2_with fail
    go_region
    all_goals
      go_wp2_with fail
      obtain ⟨W5, hW5⟩ : ∃ W5, W5 = (wc.setCell ⟨r, 64, none⟩ (.int .u64 (onBit u k : Nat))).drew := ⟨_, rfl⟩
      rw [← hW5]
      have hst := Hmw.out.setU (onBit u k)
      have hm5 : Rm W5.drew (More F W wc) r n mb (sv.set k v') (onBit u k) (updR (rowOf L) k (rowOf L k ++ [⟨ti, tg, td⟩])) (pairs L) := by rw [hW5]; exact hst.1.kept (fun _ _ _ => rfl)
      have hg5 : Gr F wc W5.drew := by
        rw [hW5]
        exact ((Gr.one (grown_set wc r 64 _) fun b hb => by simp only [Option.some.injEq] at hb; subst hb; exact hm.footR).drew).drew
      have ht5 : W5.cell? ⟨W.heap.size, 0, none⟩ = some (.int .u64 ti) := by
        rw [hW5, ← htw]
        exact World.cell?_of_block (heap_setCell_other wc ⟨r, 64, none⟩ W.heap.size _ (fun e => Nat.lt_irrefl _ (by have := hm.lt.1; rw [← (show W.heap.size = r from e)] at this; exact this)))
      have hz5 : wc.heap.size = W5.heap.size := by rw [hW5]; simp
      have htl5 : W.heap.size < W5.heap.size := by rw [← hz5]; exact htwl
      have hcm5 : W5.cell? ⟨r, 65, none⟩ = some (.map (some mb)) := hm5.cellM
      have hr5 : r < W5.heap.size := hm5.lt.1
      obtain ⟨D, hD, hE⟩ := hm5.map
      obtain ⟨W6, hupd, hD6, hg6⟩ := mapset_run hD hn ti hw k hk
      have hE6 : MapL (D.put (.int .u64 ti) (.lit (.int .i64 (k : Nat)))) (pairs (L ++ [((⟨ti, tg, td⟩ : Th), k)])) := by
        rw [pairs_snoc]
        exact hE.put ti _ (fun p hp => by
          obtain ⟨q, hq, rfl⟩ := List.mem_map.1 hp
          exact hf q hq)
      have hm6 := hm5.turn hg6 hD6 hE6
      have hsz : W.heap.size ≤ wc.heap.size := Nat.le_trans (Nat.le_of_lt tl3) hgw.size
      have hgr : Gr F W W6 := (((Gr.below hB3).trans hgw).trans hg5).trans (Gr.one hg6 fun b hb => by simp only [Option.some.injEq] at hb; subst hb; exact hm.footM)
      have hfin : Rng W6 (More F W W6) r (n + 1) (L ++ [((⟨ti, tg, td⟩ : Th), k)]) := by
        refine ⟨hok.snoc _ k hk hf hw, by simp; omega, More.bd h.bd hgr.size, mb, sv.set k v', onBit u k, (hm6.1.refoot fun i hi hl => ?_).same (fun j hj => ?_) rfl, hu.put _ k hk⟩
        · exact hi.imp id (fun h1 => ⟨h1.1, hl⟩)
        · rw [rowOf_snoc]
          unfold updR
          by_cases e : j = k
          · subst e; simp
          · rw [if_neg e, if_neg (Ne.symm e)]
      have Hfin := Lib.hid (⟨hfin, hgr⟩ : Rng W6 (More F W W6) r (n + 1) (L ++ [((⟨ti, tg, td⟩ : Th), k)]) ∧ Gr F W W6)
      clear hst hm5 hg5 hz5 hD hE hD6 hg6 hE6 hm6 hsz hgr hfin hW5 hbo hcu hfu hgw htw htwl hrw
      go_region
      all_goals
        go_wp2_with fail
        go_ret
        exact ⟨rfl, Hfin.out⟩
end Go.Proofs.Ytadghaiengonoaa
