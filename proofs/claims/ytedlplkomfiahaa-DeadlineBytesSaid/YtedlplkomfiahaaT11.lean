/- Lemmas for DeadlineBytes (Te Tf Tg). No statement of the seat is proved here. -/
import Derived.Test.YtedlplkomfiahaaT10
namespace Go.Proofs.Ytedlplkomfiahaa
set_option linter.unusedVariables false
set_option linter.unusedSimpArgs false
set_option linter.unusedSectionVars false
open Go Go.RowKit Go.Maps
/-- the closure of at -/
theorem same_id (W : World) (t : Th) (pb : Nat) (id : Int) (hc : W.cell? ⟨pb, 0, none⟩ = some (.int .u64 id)) (hl : pb < W.heap.size) :
    Calls Try.prog 100 #[thVal t, .pointer (some ⟨pb, 0, none⟩)] W fun e W' => e = .returned (.bool (decide (t.id = id))) ∧ Below W.heap.size W W' := by
  obtain ⟨ti, tg, td⟩ := t
  have hB1 := below_new W (.cells #[.int .u64 ti, .int .u64 tg, .int .i64 td] thT)
  obtain ⟨W1, hW1⟩ : ∃ W1, W1 = W.alloc (.cells #[.int .u64 ti, .int .u64 tg, .int .i64 td] thT) := ⟨_, rfl⟩
  have ht1 : W1.heap[W.heap.size]? = some (.cells #[.int .u64 ti, .int .u64 tg, .int .i64 td] thT (0, 0)) := by rw [hW1]; exact heap_alloc_new _ _
  have hz1 : W.heap.size < W1.heap.size := by rw [hW1]; simp
  rw [← hW1] at hB1
  have t0 := block_cell ht1 0
  simp at t0
  have c1 : W1.cell? ⟨pb, 0, none⟩ = some (.int .u64 id) := (hB1.cell (p := ⟨pb, 0, none⟩) hl).trans hc
  unfold thVal
  go_enter Try.func100, Try.ntmps100
  go_wp2_with fail
  rw [← hW1]
  clear hW1
  go_ret
  exact ⟨rfl, hB1⟩
theorem idx_any (W : World) (g cap : Nat) (l : List Th) (id : Int) (pb : Nat) (ho : W.ownsRow 0 thT 3 (.slice (some ⟨g, 0, none⟩) l.length cap) l.length (thFlat l)) (hl : l.length ≤ 1000000) (hc : W.cell? ⟨pb, 0, none⟩ = some (.int .u64 id)) (hpl : pb < W.heap.size)
    (i0 : Nat) (hi0 : i0 < l.length) (heq : l[i0].id = id) (hne : ∀ j (hj : j < i0), l[j].id ≠ id) :
    Calls Try.prog 99 #[.slice (some ⟨g, 0, none⟩) l.length cap, .func (.func 100) #[] #[.pointer (some ⟨pb, 0, none⟩)]] W fun e W' => e = .returned (.int .i64 (i0 : Nat)) ∧ Below W.heap.size W W' := by
  have hs : SR thT W W 0 g l.length cap l := ⟨ho, World.grownBy.refl _ _, rfl⟩
  have Hs := Lib.hid hs
  have Hne := Lib.hid hne
  clear hs ho hne
  go_enter Try.func99, Try.ntmps99
  go_wp2_with fail
  go_loopw [8] (fun u wr => ∃ j : Nat, u = .int .i64 (j : Nat) ∧ j ≤ i0 ∧ Below W.heap.size W wr) (fun u _ => i0 - (intOf u).toNat)
  case atStart => exact ⟨0, rfl, Nat.zero_le _, Below.refl _ _⟩
  case round =>
    obtain ⟨j, rfl, hj, hb⟩ := hrel
    have hjl : j < l.length := by omega
    have x1 : (j : Int) < (l.length : Int) := by omega
    have hsr := Hs.out.below hb
    have hld := ld_th hsr j hjl
    have hcc := hsr.cells j hjl
    obtain ⟨c0, c1, c2⟩ := hcc
    have hcb : wr.cell? ⟨pb, 0, none⟩ = some (.int .u64 id) := (hb.cell (p := ⟨pb, 0, none⟩) hpl).trans hc
    have hsid := same_id wr l[j] pb id hcb (Nat.lt_of_lt_of_le hpl hb.size)
    have w1 := IntWalk.wrap64_in ((j : Int) + 1) (by omega)
    have Hsid := Lib.hid hsid
    have hgl := hsr.lt
    clear hsid hsr
    go_wp2_with fail
    refine (show Calls _ _ _ _ _ from Hsid.out).mono ?_
    rintro e W2 ⟨rfl, hb2⟩
    by_cases hji : j = i0
    · subst hji
      have hd : decide (l[j].id = id) = true := by simp [heq]
      rw [hd]
      clear hd
      go_wp2_with fail
      go_ret
      exact ⟨rfl, below_on hb hb2 (Nat.le_refl _)⟩
    · have hd : decide (l[j].id = id) = false := by simp [Hne.out j (by omega)]
      rw [hd]
      clear hd
      go_wp2_with fail
      go_roundw
      case rel => exact ⟨j + 1, by simp, by omega, below_on hb hb2 (Nat.le_refl _)⟩
      case measure =>
        simp only [intOf, Int.toNat_natCast]
        omega
/-- where a thing of a ring stands -/
structure AtIs (L : RLs) (p : Th × Nat) (i : Nat) : Prop where
  lt : i < (rowOf L p.2).length
  eq : (rowOf L p.2)[i] = p.1
  rest : rowOf (gone L p.1.id) p.2 = (rowOf L p.2).take i ++ (rowOf L p.2).drop (i + 1)
set_option maxRecDepth 100000 in
theorem at_yes (W : World) (F : Nat → Prop) (r n : Nat) (L : RLs) (h : Rng W F r n L) (p : Th × Nat) (hp : p ∈ L) (hn : n ≤ 1000000) :
    Calls Try.prog 85 #[.pointer (some ⟨r, 0, none⟩), .int .u64 p.1.id] W fun e W' => ∃ i, AtIs L p i ∧ e = .returned (.tuple #[.int .i64 (p.2 : Nat), .int .i64 (i : Nat), .bool true]) ∧ Below W.heap.size W W' := by
  obtain ⟨mb, sv, u, hm, hu⟩ := h.mem
  have hk := h.ok.slot p hp
  have hpw := h.ok.wf p hp
  have hmem : p.1 ∈ rowOf L p.2 := mem_rowOf.2 hp
  obtain ⟨i, hi, e1, e2, e3⟩ := first_of (rowOf L p.2) (rowOf_ids h.ok p.2) p.1 hmem
  have hat : AtIs L p i := ⟨hi, e1, by rw [rowOf_gone]; exact e3⟩
  have hkl : p.2 < sv.length := by rw [hm.len]; exact hk
  obtain ⟨W1, hW1⟩ : ∃ W1, W1 = W.alloc (.cells #[.int .u64 p.1.id] 28) := ⟨_, rfl⟩
  have hB1 : Below W.heap.size W W1 := by rw [hW1]; exact below_new _ _
  have ht1 : W1.heap[W.heap.size]? = some (.cells #[.int .u64 p.1.id] 28 (0, 0)) := by rw [hW1]; exact heap_alloc_new _ _
  have hz1 : W.heap.size < W1.heap.size := by rw [hW1]; simp
  have t0 := block_cell ht1 0
  simp at t0
  have hm1 := hm.below hB1
  have Hno := Lib.hid (none_no W1 r mb hm1.cellM hm1.lt.1)
  have hlk := fun n => hm1.look_yes hp hpw (W' := W1.drewN n) (by simp)
  have hcm := hm1.cellM
  have hr1 := hm1.lt.1
  have k1 : ¬ (p.2 : Int) < 0 := by omega
  have k2 : (p.2 : Int) < 64 := by omega
  have hrow := (hm1.rows p.2 hkl).own
  have hck := hm1.cell p.2 hkl
  obtain ⟨g, cap, hsv⟩ : ∃ g cap, sv[p.2] = .slice (some ⟨g, 0, none⟩) (rowOf L p.2).length cap := by
    rcases hrow.2 with ⟨_, h0⟩ | ⟨g, cap, cur, hv, _⟩
    · omega
    · exact ⟨g, cap, hv⟩
  rw [hsv] at hck hrow
  have hlr : (rowOf L p.2).length ≤ 1000000 := by have := rowOf_len L p.2; have := h.few; omega
  have hix := fun n => idx_any (W1.drewN n) g cap (rowOf L p.2) p.1.id W.heap.size hrow hlr t0 hz1 i hi (by rw [e1]) e2
  have Hix := Lib.hid hix
  have Hat := Lib.hid hat
  clear hm1 hm ht1 hix hrow hat e3 e2 e1
  obtain ⟨⟨pi, pg, pd⟩, k⟩ := p
  simp only at *
  go_enter Try.func85, Try.ntmps85
  go_wp2_with fail
  rw [← hW1]
  clear hW1
  refine Hno.out.mono ?_
  rintro e W2 ⟨rfl, hW2⟩
  subst hW2
  go_wp2_with fail
  go_quiet (fail)
  go_wp2_with fail
  refine (Hix.out _).mono ?_
  rintro e W3 ⟨rfl, hb3⟩
  go_wp2_with fail
  go_ret3
  exact ⟨i, Hat.out, rfl, below_on (show Below W.heap.size W (W2.drewN nq) from ⟨hB1.os, hB1.tape, hB1.output, hB1.size, hB1.block⟩) hb3 (Nat.le_refl _)⟩
set_option maxRecDepth 100000 in
theorem at_no (W : World) (F : Nat → Prop) (r n : Nat) (L : RLs) (h : Rng W F r n L) (id : Int) (hw : IdOk id) (hf : ∀ p ∈ L, p.1.id ≠ id) :
    Calls Try.prog 85 #[.pointer (some ⟨r, 0, none⟩), .int .u64 id] W fun e W' => e = .returned (.tuple #[.int .i64 0, .int .i64 0, .bool false]) ∧ Below W.heap.size W W' := by
  obtain ⟨mb, sv, u, hm, hu⟩ := h.mem
  obtain ⟨W1, hW1⟩ : ∃ W1, W1 = W.alloc (.cells #[.int .u64 id] 28) := ⟨_, rfl⟩
  have hB1 : Below W.heap.size W W1 := by rw [hW1]; exact below_new _ _
  have ht1 : W1.heap[W.heap.size]? = some (.cells #[.int .u64 id] 28 (0, 0)) := by rw [hW1]; exact heap_alloc_new _ _
  have hz1 : W.heap.size < W1.heap.size := by rw [hW1]; simp
  have t0 := block_cell ht1 0
  simp at t0
  have hm1 := hm.below hB1
  have Hno := Lib.hid (none_no W1 r mb hm1.cellM hm1.lt.1)
  have hlk := fun n => hm1.look_no hf hw (W' := W1.drewN n) (by simp)
  have hcm := hm1.cellM
  have hr1 := hm1.lt.1
  clear hm1 hm ht1
  go_enter Try.func85, Try.ntmps85
  go_wp2_with fail
  rw [← hW1]
  clear hW1
  refine Hno.out.mono ?_
  rintro e W2 ⟨rfl, hW2⟩
  subst hW2
  go_wp2_with fail
  go_quiet (fail)
  go_wp2_with fail
  go_ret3
  exact ⟨rfl, hB1.os, hB1.tape, hB1.output, hB1.size, hB1.block⟩
def set3 (W : World) (b : Nat) (t : Th) : World := ((W.setCell ⟨b, 0, none⟩ (.int .u64 t.id)).setCell ⟨b, 1, none⟩ (.int .u64 t.gen)).setCell ⟨b, 2, none⟩ (.int .i64 t.due)
theorem set3_blk {W : World} {b : Nat} {x y z : Value} {T : TypeId} (h : W.heap[b]? = some (.cells #[x, y, z] T (0, 0))) (t : Th) : (set3 W b t).heap[b]? = some (.cells #[.int .u64 t.id, .int .u64 t.gen, .int .i64 t.due] T (0, 0)) := by
  have := block_set (block_set (block_set h 0 (.int .u64 t.id)) 1 (.int .u64 t.gen)) 2 (.int .i64 t.due)
  simpa [set3] using this
theorem set3_grown (W : World) (b : Nat) (t : Th) : W.grownBy (set3 W b t) (some b) := grown_trans (grown_trans (grown_set _ _ _ _) (grown_set _ _ _ _)) (grown_set _ _ _ _)
theorem set3_below {B : Nat} {W0 W : World} {b : Nat} (h : Below B W0 W) (hb : B ≤ b) (hz : B ≤ W.heap.size) (t : Th) : Below B W0 (set3 W b t) := below_grown h (set3_grown W b t) hb hz
theorem set3_res {W : World} {b : Nat} {t : Th} (h : W.heap[b]? = some (.cells #[.int .u64 t.id, .int .u64 t.gen, .int .i64 t.due] thT (0, 0))) : W.cell? ⟨b, 0, none⟩ = some (.int .u64 t.id) ∧ W.cell? ⟨b, 1, none⟩ = some (.int .u64 t.gen) ∧ W.cell? ⟨b, 2, none⟩ = some (.int .i64 t.due) ∧ W.frozen? ⟨b, 0, none⟩ = false ∧ W.frozen? ⟨b, 1, none⟩ = false ∧ W.frozen? ⟨b, 2, none⟩ = false := by
  have c0 := block_cell h 0
  have c1 := block_cell h 1
  have c2 := block_cell h 2
  simp at c0 c1 c2
  exact ⟨c0, c1, c2, block_free h 0, block_free h 1, block_free h 2⟩
/-- Get -/
theorem get_no' (W : World) (q : Option Addr) (id : Int) (hat : ∀ W', Below W.heap.size W W' → Calls Try.prog 85 #[.pointer q, .int .u64 id] W' fun e W'' => e = .returned (.tuple #[.int .i64 0, .int .i64 0, .bool false]) ∧ Below W'.heap.size W' W'') :
    Calls Try.prog 79 #[.pointer q, .int .u64 id] W fun e W' => e = .returned (.tuple #[thVal ⟨0, 0, 0⟩, .int .i64 0, .bool false]) ∧ Below W.heap.size W W' := by
  obtain ⟨W1, hW1⟩ : ∃ W1, W1 = W.alloc (.cells #[.int .u64 0, .int .u64 0, .int .i64 0] thT) := ⟨_, rfl⟩
  have hB1 : Below W.heap.size W W1 := by rw [hW1]; exact below_new _ _
  have ht1 : W1.heap[W.heap.size]? = some (.cells #[.int .u64 0, .int .u64 0, .int .i64 0] thT (0, 0)) := by rw [hW1]; exact heap_alloc_new _ _
  have hz1 : W.heap.size < W1.heap.size := by rw [hW1]; simp
  have Hat := Lib.hid (hat W1 hB1)
  have Ht1 := Lib.hid ht1
  clear ht1
  go_enter Try.func79, Try.ntmps79
  go_wp2_with fail
  rw [← hW1]
  clear hW1
  refine Hat.out.mono ?_
  rintro e W2 ⟨rfl, hb2⟩
  have ht2 := (hb2.block _ hz1).trans Ht1.out
  obtain ⟨c0, c1, c2, f0, f1, f2⟩ := set3_res (t := ⟨0, 0, 0⟩) ht2
  have hz2 : W.heap.size < W2.heap.size := Nat.lt_of_lt_of_le hz1 hb2.size
  have hb3 := set3_below (below_on hB1 hb2 (Nat.le_refl _)) (Nat.le_refl _) (Nat.le_of_lt hz2) ⟨0, 0, 0⟩
  obtain ⟨d0, d1, d2, -, -, -⟩ := set3_res (set3_blk ht2 ⟨0, 0, 0⟩)
  simp only [set3] at hb3 d0 d1 d2
  have Hd := Lib.hid (⟨d0, d1, d2⟩ : _ ∧ _ ∧ _)
  have Hb := Lib.hid hb3
  clear d0 d1 d2 hb3
  go_wp2_with fail
  refine bodyPost_ret (v := .tuple #[thVal ⟨0, 0, 0⟩, .int .i64 0, .bool false]) ?_ rfl ⟨rfl, Hb.out⟩
  obtain ⟨d0, d1, d2⟩ := Hd.out
  simp [results, Try.results79, go_sem, thVal, d0, d1, d2]
theorem get_no (W : World) (F : Nat → Prop) (r n : Nat) (L : RLs) (h : Rng W F r n L) (id : Int) (hw : IdOk id) (hf : ∀ p ∈ L, p.1.id ≠ id) :
    Calls Try.prog 79 #[.pointer (some ⟨r, 0, none⟩), .int .u64 id] W fun e W' => e = .returned (.tuple #[thVal ⟨0, 0, 0⟩, .int .i64 0, .bool false]) ∧ Below W.heap.size W W' :=
  get_no' W _ id fun W' hb => at_no W' F r n L (h.below hb) id hw hf
set_option maxRecDepth 100000 in
theorem get_yes (W : World) (F : Nat → Prop) (r n : Nat) (L : RLs) (h : Rng W F r n L) (p : Th × Nat) (hp : p ∈ L) (hn : n ≤ 1000000) :
    Calls Try.prog 79 #[.pointer (some ⟨r, 0, none⟩), .int .u64 p.1.id] W fun e W' => e = .returned (.tuple #[thVal p.1, .int .i64 (p.2 : Nat), .bool true]) ∧ Below W.heap.size W W' := by
  obtain ⟨W1, hW1⟩ : ∃ W1, W1 = W.alloc (.cells #[.int .u64 0, .int .u64 0, .int .i64 0] thT) := ⟨_, rfl⟩
  have hB1 : Below W.heap.size W W1 := by rw [hW1]; exact below_new _ _
  have ht1 : W1.heap[W.heap.size]? = some (.cells #[.int .u64 0, .int .u64 0, .int .i64 0] thT (0, 0)) := by rw [hW1]; exact heap_alloc_new _ _
  have hz1 : W.heap.size < W1.heap.size := by rw [hW1]; simp
  have Hat := Lib.hid (at_yes W1 F r n L (h.below hB1) p hp hn)
  have Ht1 := Lib.hid ht1
  have hk := h.ok.slot p hp
  have k1 : ¬ (p.2 : Int) < 0 := by omega
  have k2 : (p.2 : Int) < 64 := by omega
  clear ht1
  obtain ⟨⟨pi, pg, pd⟩, k⟩ := p
  simp only at *
  go_enter Try.func79, Try.ntmps79
  go_wp2_with fail
  rw [← hW1]
  clear hW1
  refine Hat.out.mono ?_
  rintro e W2 ⟨i, hi, rfl, hb2⟩
  have ht2 := (hb2.block _ hz1).trans Ht1.out
  obtain ⟨c0, c1, c2, f0, f1, f2⟩ := set3_res (t := ⟨0, 0, 0⟩) ht2
  have hz2 : W.heap.size < W2.heap.size := Nat.lt_of_lt_of_le hz1 hb2.size
  have hb3 := set3_below (below_on hB1 hb2 (Nat.le_refl _)) (Nat.le_refl _) (Nat.le_of_lt hz2) ⟨pi, pg, pd⟩
  obtain ⟨d0, d1, d2, -, -, -⟩ := set3_res (set3_blk ht2 ⟨pi, pg, pd⟩)
  simp only [set3] at hb3 d0 d1 d2
  have Hd := Lib.hid (⟨d0, d1, d2⟩ : _ ∧ _ ∧ _)
  have Hb := Lib.hid hb3
  have hr2 := (h.below hB1).below hb2
  obtain ⟨mb, sv, u, hm, hu⟩ := hr2.mem
  have hkl : k < sv.length := by rw [hm.len]; exact hk
  have hck := hm.cell k hkl
  have hrow := (hm.rows k hkl).own
  have hil := hi.lt
  simp only at hil
  obtain ⟨g, cap, hsv⟩ : ∃ g cap, sv[k] = .slice (some ⟨g, 0, none⟩) (rowOf L k).length cap := by
    rcases hrow.2 with ⟨_, h0⟩ | ⟨g, cap, cur, hv, _⟩
    · omega
    · exact ⟨g, cap, hv⟩
  rw [hsv] at hck hrow
  have hsr : SR thT W2 W2 0 g (rowOf L k).length cap (rowOf L k) := ⟨hrow, World.grownBy.refl _ _, rfl⟩
  obtain ⟨e0, e1, e2⟩ := hsr.cells i hil
  have he := hi.eq
  simp only at he
  rw [he] at e0 e1 e2
  have x1 : (i : Int) < ((rowOf L k).length : Int) := by omega
  have hrl := hm.lt.1
  have hgl := hsr.lt
  clear d0 d1 d2 hb3 ht2 hsr hrow hm hr2
  go_wp2_with fail
  refine bodyPost_ret (v := .tuple #[thVal ⟨pi, pg, pd⟩, .int .i64 (k : Nat), .bool true]) ?_ rfl ⟨rfl, Hb.out⟩
  obtain ⟨d0, d1, d2⟩ := Hd.out
  simp [results, Try.results79, go_sem, thVal, d0, d1, d2]
end Go.Proofs.Ytedlplkomfiahaa
namespace Go.Proofs.Ytedlplkomfiahaa
set_option linter.unusedVariables false
set_option linter.unusedSimpArgs false
set_option linter.unusedSectionVars false
open Go Go.RowKit Go.Maps
/-- a row that a call handed over -/
def Handed (W W' : World) (v : Value) (l : List Th) : Prop := W'.ownsRow W.heap.size thT 3 v l.length (thFlat l) ∧ Below W.heap.size W W'
set_option maxRecDepth 100000 in
theorem look_ok (W : World) (F : Nat → Prop) (r n k : Nat) (L : RLs) (h : Rng W F r n L) (hk : k < 64) (hn : n ≤ 1000000) :
    Calls Try.prog 75 #[.pointer (some ⟨r, 0, none⟩), .int .i64 (k : Nat)] W fun e W' => ∃ v, e = .returned v ∧ Handed W W' v (Sta.srt thLe (rowOf L k)) := by
  obtain ⟨mb, sv, u, hm, hu⟩ := h.mem
  have Hno := Lib.hid (none_no W r mb hm.cellM hm.lt.1)
  have hkl : k < sv.length := by rw [hm.len]; exact hk
  have hck := hm.cell k hkl
  have hrow := hm.rows k hkl
  have hlr : (rowOf L k).length ≤ 1000000 := by have := rowOf_len L k; have := h.few; omega
  have Hcl := Lib.hid (cloneTh_any W F sv[k] (rowOf L k) hrow hlr)
  obtain ⟨ao, cp, hsv⟩ := own_slice hrow.own
  rw [hsv] at hck Hcl
  have hrl := hm.lt.1
  have k1 : ¬ (k : Int) < 0 := by omega
  have k2 : ¬ (64 : Int) ≤ (k : Int) := by omega
  have k3 : (k : Int) < 64 := by omega
  clear hm hrow
  go_enter Try.func75, Try.ntmps75
  go_wp2_with fail
  refine Hno.out.mono ?_
  rintro e W2 ⟨rfl, hW2⟩
  subst hW2
  go_wp2_with fail
  refine Hcl.out.mono ?_
  rintro e W3 ⟨⟨v, rfl, ho⟩, hb3⟩
  have hst := sort_any W3 (fun i => W2.heap.size ≤ i) v (rowOf L k) ⟨own_base ho (Nat.zero_le _), fun g hg => (ho.lt g hg).1⟩ hlr
  have Hst := Lib.hid hst
  have hvb : ∀ g, v.ownBlock = some g → W2.heap.size ≤ g := fun g hg => (ho.lt g hg).1
  obtain ⟨a2, c2, rfl⟩ := own_slice ho
  clear hst ho
  go_wp2_with fail
  refine Hst.out.mono ?_
  rintro e W4 ⟨rfl, hr4, hg4⟩
  go_wp2_with fail
  go_ret
  refine ⟨_, rfl, ⟨hr4.own.1, ?_⟩, hb3.grown hg4 hb3.size (fun q hq => hvb q hq)⟩
  rcases hr4.own.2 with h1 | ⟨g, cap, cur, h1, _, rest⟩
  · exact .inl h1
  · exact .inr ⟨g, cap, cur, h1, hvb g (by rw [h1]; rfl), rest⟩
end Go.Proofs.Ytedlplkomfiahaa
namespace Go.Proofs.Ytedlplkomfiahaa
set_option linter.unusedVariables false
set_option linter.unusedSimpArgs false
set_option linter.unusedSectionVars false
open Go Go.RowKit Go.Maps
theorem mapdel_run {W : World} {b n : Nat} {D : DataW Unit} (h : W.ownsMap Try.prog 28 (plainElem Try.prog 3) b n D) (id : Int) (hw : IdOk id) (ty : TypeId) :
    ∃ W', (Builtin.delete_ #[mwT, 28] ty #[.map (some b), .int .u64 id]).run Try.prog W = .ok (.tuple #[]) W' ∧ W'.ownsMap Try.prog 28 (plainElem Try.prog 3) b n (D.del (.int .u64 id)) ∧ W.grownBy W' (some b) := by
  obtain ⟨W', h1, h2, h3⟩ := h.drop u64law Try.underlying146 (keyOf_int_mk Try.underlying28 hw.wf) ty
  exact ⟨W', h1, h2, h3.grown⟩
theorem own_gr {W W' : World} {F : Nat → Prop} {base e size n : Nat} {v : Value} {xs : List Value} (h : W.ownsRow base e size v n xs) (hg : Gr F W W') (hd : ∀ i, F i → i < base) : W'.ownsRow base e size v n xs := by
  have hl := h.lt
  obtain ⟨h1, h2⟩ := h
  refine ⟨h1, ?_⟩
  rcases h2 with h2 | ⟨g, cap, cur, hv, hb, hh, rest⟩
  · exact .inl h2
  · exact .inr ⟨g, cap, cur, hv, hb, (hg.block g (hl g (by rw [hv]; rfl)).2 (fun e => by have := hd g e; omega)).trans hh, rest⟩
theorem meas_i (n j : Nat) (h : j < n) : n - (intOf (.int .i64 ((j : Int) + 1))).toNat < n - (intOf (.int .i64 (j : Nat))).toNat := by
  simp only [intOf]
  omega
/-- ids gone one by one -/
def goneUp (L : RLs) (l : List Th) : RLs := l.foldl (fun M t => gone M t.id) L
theorem goneUp_snoc (L : RLs) (l : List Th) (t : Th) : goneUp L (l ++ [t]) = gone (goneUp L l) t.id := by simp [goneUp]
theorem goneUp_take (L : RLs) (l : List Th) (j : Nat) (hj : j < l.length) : goneUp L (l.take (j + 1)) = gone (goneUp L (l.take j)) l[j].id := by
  rw [← goneUp_snoc, ← List.take_append_getElem hj]
set_option maxRecDepth 100000 in
set_option maxHeartbeats 4000000 in
theorem take_ok (W : World) (F : Nat → Prop) (r n k : Nat) (L : RLs) (h : Rng W F r n L) (hk : k < 64) (hn : n ≤ 1000000) :
    Calls Try.prog 87 #[.pointer (some ⟨r, 0, none⟩), .int .i64 (k : Nat)] W fun e W' => ∃ v, e = .returned v ∧ W'.ownsRow W.heap.size thT 3 v (rowOf L k).length (thFlat (Sta.srt thLe (rowOf L k))) ∧ Rng W' F r n (left L k) ∧ Gr F W W' := by
  obtain ⟨mb, sv, u, hm, hu⟩ := h.mem
  have Hno := Lib.hid (none_no W r mb hm.cellM hm.lt.1)
  have hkl : k < sv.length := by rw [hm.len]; exact hk
  have hlr : (rowOf L k).length ≤ 1000000 := by have := rowOf_len L k; have := h.few; omega
  have Hlo := Lib.hid (look_ok W F r n k L h hk hn)
  have hrl := hm.lt.1
  have k1 : ¬ (k : Int) < 0 := by omega
  have k2 : ¬ (64 : Int) ≤ (k : Int) := by omega
  have k3 : (k : Int) < 64 := by omega
  obtain ⟨l, hl⟩ : ∃ l, l = Sta.srt thLe (rowOf L k) := ⟨_, rfl⟩
  have hll : l.length = (rowOf L k).length := by rw [hl, Sta.srt_len]
  rw [← hl] at Hlo
  go_enter Try.func87, Try.ntmps87
  go_wp2_with fail
  refine Hno.out.mono ?_
  rintro e W2 ⟨rfl, hW2⟩
  subst hW2
  go_wp2_with fail
  refine Hlo.out.mono ?_
  rintro e W3 ⟨v, rfl, ho3, hb3⟩
  have hm3 := hm.below hb3
  have hck := hm3.cell k hkl
  have hfk := hm3.free k
  have hr3 := hm3.lt.1
  obtain ⟨ao, cp, rfl⟩ := own_slice ho3
  obtain ⟨ao2, cp2, hsv⟩ := own_slice (hm3.rows k hkl).own
  rw [hsv] at hck
  have hst := hm3.setRow (G := F) k hkl (.slice none 0 0) [] (World.grownBy.refl _ _) (World.ownsRow_nil _ _ _ _) (fun g hg => by cases hg) (fun _ hi => hi) (fun g hg => by cases hg)
  obtain ⟨W4, hW4⟩ : ∃ W4, W4 = W3.setCell ⟨r, k, none⟩ (.slice none 0 0) := ⟨_, rfl⟩
  rw [← hW4] at hst
  have Hst := Lib.hid hst
  have Hb3 := Lib.hid hb3
  have Ho3 := Lib.hid ho3
  have hcu := hst.1.cellU
  have hfu := hst.1.free 64
  have hr4 := hst.1.lt.1
  have hbo := bits_off u k hk
  have Hll := Lib.hid hll
  have Hl := Lib.hid hl
  clear hst hb3 ho3 hm3 hll hl hm
  go_wp2_with fail
  rw [← hW4]
  clear hW4 hck hfk
  go_region
  all_goals
    go_wp2_with fail
    have hs5 := Hst.out.1.setU (offBit u k)
    obtain ⟨W5, hW5⟩ : ∃ W5, W5 = (W4.setCell ⟨r, 64, none⟩ (.int .u64 (offBit u k : Nat))).drew := ⟨_, rfl⟩
    have hm5 : Rm W5 F r n mb (sv.set k (.slice none 0 0)) (offBit u k) (updR (rowOf L) k []) (pairs L) := by rw [hW5]; exact hs5.1.kept (fun _ _ _ => rfl)
    have hg5 : Gr F W3 W5 := by rw [hW5]; exact (Hst.out.2.trans hs5.2).drew
    rw [← hW5]
    clear hW5 hs5 hcu hfu hbo
    have Hm5 := Lib.hid hm5
    have Hg5 := Lib.hid hg5
    clear hm5 hg5
    go_loopw [37] (fun u37 wr => ∃ j : Nat, u37 = .int .i64 (j : Nat) ∧ j ≤ l.length ∧ Rm wr F r n mb (sv.set k (.slice none 0 0)) (offBit u k) (updR (rowOf L) k []) (pairs (goneUp L (l.take j))) ∧ Gr F W3 wr) (fun u37 _ => l.length - (intOf u37).toNat)
    case atStart => exact ⟨0, rfl, Nat.zero_le _, Hm5.out, Hg5.out⟩
    case round =>
      obtain ⟨j, rfl, hj, hmj, hgj⟩ := hrel
      by_cases hjl : j < l.length
      · have x1 : (j : Int) < (l.length : Int) := by omega
        have hbd : ∀ i, F i → i < W2.heap.size := h.bd
        have hoj := own_gr Ho3.out hgj hbd
        obtain ⟨g, cap, hgc⟩ : ∃ g cap, Value.slice ao l.length cp = .slice (some ⟨g, 0, none⟩) l.length cap := by
          rcases hoj.2 with ⟨_, h0⟩ | ⟨g, cap, cur, hv, _⟩
          · omega
          · exact ⟨g, cap, hv⟩
        simp only [Value.slice.injEq, true_and] at hgc
        obtain ⟨rfl, rfl⟩ := hgc
        have hsr : SR thT wr wr W2.heap.size g l.length cp l := ⟨hoj, World.grownBy.refl _ _, rfl⟩
        obtain ⟨e0, e1, e2⟩ := hsr.cells j hjl
        have hglt := hsr.lt
        have w1 := IntWalk.wrap64_in ((j : Int) + 1) (by have := Hll.out; omega)
        clear hsr hoj
        have Hmj := Lib.hid hmj
        have Hgj := Lib.hid hgj
        clear hmj hgj
        obtain ⟨x, hx⟩ : ∃ x, x = l[j] := ⟨_, rfl⟩
        rw [← hx] at e0 e1 e2
        have Hx := Lib.hid hx
        clear hx
        go_wp2_with fail
        obtain ⟨W6, hW6⟩ : ∃ W6, W6 = wr.alloc (.cells #[.int .u64 x.id, .int .u64 x.gen, .int .i64 x.due] thT) := ⟨_, rfl⟩
        have hb6 : Below wr.heap.size wr W6 := by rw [hW6]; exact below_new _ _
        have ht6 : W6.heap[wr.heap.size]? = some (.cells #[.int .u64 x.id, .int .u64 x.gen, .int .i64 x.due] thT (0, 0)) := by rw [hW6]; exact heap_alloc_new _ _
        have hz6 : wr.heap.size < W6.heap.size := by rw [hW6]; simp
        have hm6 : Rm W6.drew F r n mb (sv.set k (.slice none 0 0)) (offBit u k) (updR (rowOf L) k []) (pairs (goneUp L (l.take j))) := (Hmj.out.below hb6).kept (fun _ _ _ => rfl)
        obtain ⟨t0, -⟩ := set3_res (t := x) ht6
        have hcm := hm6.cellM
        have hrm := hm6.lt.1
        have hcm' : W6.cell? ⟨r, 65, none⟩ = some (.map (some mb)) := hcm
        have hrm' : r < W6.heap.size := hrm
        have hxid : IdOk x.id := by
          have hxm : x ∈ rowOf L k := by
            rw [Hx.out]
            exact (Sta.srt_perm thLe (rowOf L k)).mem_iff.1 (by rw [← Hl.out]; exact List.getElem_mem hjl)
          exact h.ok.wf _ (mem_rowOf.1 hxm)
        obtain ⟨D, hD, hE⟩ := hm6.map
        obtain ⟨W7, hdel, hD7, hg7⟩ := mapdel_run hD x.id hxid 0
        have hE7 : MapL (D.del (.int .u64 x.id)) (pairs (goneUp L (l.take (j + 1)))) := by
          rw [goneUp_take L l j hjl, pairs_gone, ← Hx.out]
          exact hE.del x.id
        have hm7 := hm6.turn hg7 hD7 hE7
        have hgr : Gr F W3 W7 := ((Hgj.out.trans (Gr.below hb6)).drew).trans hm7.2
        have H7 := Lib.hid (⟨hm7.1, hgr⟩ : _ ∧ _)
        rw [← hW6]
        clear hW6 hm6 ht6 hb6 hcm hrm hxid hD hE hD7 hg7 hE7 hm7 hgr
        go_region
        all_goals
          go_wp2_with fail
          go_roundw
          case rel => exact ⟨j + 1, by rw [w1]; rfl, hjl, H7.out.1, H7.out.2⟩
          case measure =>
            rw [w1]
            exact meas_i l.length j hjl
      · have x1 : ¬ (j : Int) < (l.length : Int) := by omega
        have hfull : goneUp L (l.take j) = left L k := by
          rw [List.take_of_length_le (by omega)]
          exact gone_many L k l h.ok (by rw [Hl.out]; exact Sta.srt_perm thLe (rowOf L k))
        rw [hfull] at hmj
        have hoj := own_gr Ho3.out hgj h.bd
        have hR : Rng wr F r n (left L k) := by
          refine ⟨h.ok.filter _, Nat.le_trans (List.length_filter_le _ _) h.few, fun i hi => Nat.lt_of_lt_of_le (h.bd i hi) (Nat.le_trans Hb3.out.size hgj.size), mb, _, offBit u k, hmj.same (fun i hi => ?_) rfl, hu.left k hk⟩
          rw [rowOf_left]
          unfold updR
          by_cases e : i = k
          · subst e; simp
          · rw [if_neg e, if_neg (Ne.symm e)]
        have hG : Gr F W2 wr := (Gr.below Hb3.out).trans hgj
        rw [Hll.out, Hl.out] at hoj
        have HR := Lib.hid (⟨hoj, hR, hG⟩ : _ ∧ _ ∧ _)
        clear hoj hR hG hmj hgj hfull
        go_wp2_with fail
        go_ret
        obtain ⟨q1, q2, q3⟩ := HR.out
        exact ⟨_, rfl, by rw [Hll.out]; exact q1, q2, q3⟩
end Go.Proofs.Ytedlplkomfiahaa
