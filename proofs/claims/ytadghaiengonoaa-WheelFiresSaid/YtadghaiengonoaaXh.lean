/- wheel: late. No statement of the seat is proved here. -/
import Derived.Test.YtadghaiengonoaaXg
namespace Go.Proofs.Ytadghaiengonoaa
set_option linter.unusedVariables false
set_option linter.unusedSimpArgs false
set_option linter.unusedSectionVars false
open Go Go.RowKit Go.Maps

/-- the wheel while its map is ranged over -/
structure Lst (W wr : World) (F : Nat → Prop) (G : Nat → Nat → Prop) (w : Nat) (now : Int) (rs : Nat → Nat) (pf mf n : Nat) (R : Nat → RLs) (far todo : List Th) (D : DataW Unit) (cnt : Nat) : Prop where
  rg : Rgs wr mf W.heap.size n D far todo cnt
  wh : Whm wr F G w now rs pf mf n R far
  gr : Gr F W wr
  sz : W.heap.size + 1 ≤ wr.heap.size
section
variable {W wr w' : World} {F : Nat → Prop} {G : Nat → Nat → Prop} {w : Nat} {now : Int} {rs : Nat → Nat} {pf mf n : Nat} {R : Nat → RLs} {far todo : List Th} {D : DataW Unit} {cnt : Nat}
theorem Lst.grow {row : Option Nat} (h : Lst W wr F G w now rs pf mf n R far todo D cnt) (hF : ∀ i, F i → i < W.heap.size) (hg : wr.grownBy w' row) (hrow : ∀ g, row = some g → W.heap.size + 1 ≤ g) : Lst W w' F G w now rs pf mf n R far todo D cnt := by
  have hm := hF mf h.wh.fm
  refine ⟨h.rg.kept hg (fun e => ?_) (fun e => ?_), h.wh.kept hg.size fun i hi => hg.block i (h.wh.bd i hi) (fun e => ?_), ⟨hg.os.trans h.gr.os, hg.tape.trans h.gr.tape, hg.output.trans h.gr.output, Nat.le_trans h.gr.size hg.size, fun i hi hn => (hg.block i (Nat.lt_of_lt_of_le hi h.gr.size) (fun e => ?_)).trans (h.gr.block i hi hn)⟩, Nat.le_trans h.sz hg.size⟩
  · have := hrow _ e.symm; omega
  · have := hrow _ e.symm; omega
  · have := hrow _ e.symm; have := hF i hi; omega
  · have := hrow _ e.symm; omega
theorem Lst.next {todo' : List Th} {cnt' : Nat} (h : Lst W wr F G w now rs pf mf n R far todo D cnt) (hF : ∀ i, F i → i < W.heap.size) (hr : Rgs w' mf W.heap.size n D far todo' cnt') (hg : wr.grownBy w' (some W.heap.size)) : Lst W w' F G w now rs pf mf n R far todo' D cnt' := by
  refine ⟨hr, h.wh.kept hg.size fun i hi => hg.block i (h.wh.bd i hi) (fun e => ?_), ⟨hg.os.trans h.gr.os, hg.tape.trans h.gr.tape, hg.output.trans h.gr.output, Nat.le_trans h.gr.size hg.size, fun i hi hn => (hg.block i (Nat.lt_of_lt_of_le hi h.gr.size) (fun e => ?_)).trans (h.gr.block i hi hn)⟩, Nat.le_trans h.sz hg.size⟩
  · simp only [Option.some.injEq] at e; have := hF i hi; omega
  · simp only [Option.some.injEq] at e; omega
theorem Lst.drop (h : Lst W wr F G w now rs pf mf n R far todo D cnt) (i : Int) (hw : IdOk i) (ty : TypeId) :
    ∃ w' D' cnt', (Builtin.delete_ #[mfT, 28] ty #[.map (some mf), .int .u64 i]).run Try.prog wr = .ok (.tuple #[]) w' ∧ Lst W w' F G w now rs pf mf n R (lessId far i) (lessId todo i) D' cnt' ∧ cnt' ≤ cnt ∧ wr.grownBy w' (some mf) := by
  obtain ⟨w', D', cnt', hrun, hr, hle, hg⟩ := h.rg.drop i hw ty
  have hm := h.wh.turn hg hr.owns hr.map (Nat.le_refl n)
  exact ⟨w', D', cnt', hrun, ⟨hr, hm.1, h.gr.trans hm.2, Nat.le_trans h.sz hg.size⟩, hle, hg⟩
end
/-- what late has done -/
structure LateIs (now : Int) (far0 far todo l : List Th) : Prop where
  perm : far0.Perm (l ++ far)
  late : ∀ t ∈ l, t.due ≤ now
  rest : ∀ t ∈ far, t ∈ todo ∨ now < t.due
theorem LateIs.start (now : Int) (far : List Th) : LateIs now far far far [] := ⟨List.Perm.refl _, by simp, fun t ht => .inl ht⟩
theorem perm_less {l : List Th} (h : ∀ s ∈ l, ∀ t ∈ l, s.id = t.id → s = t) (hnd : l.Nodup) {t : Th} (ht : t ∈ l) : l.Perm (t :: lessId l t.id) := by
  induction l with
  | nil => cases ht
  | cons x l ih =>
    rw [List.nodup_cons] at hnd
    by_cases e : x = t
    · subst e
      have hl : lessId (x :: l) x.id = l := by
        unfold lessId
        rw [List.filter_cons_of_neg (by simp)]
        exact List.filter_eq_self.2 fun y hy => by
          simp only [decide_eq_true_eq]
          intro e2
          exact hnd.1 (h y (by simp [hy]) x (by simp) e2 ▸ hy)
      rw [hl]
    · have ht2 : t ∈ l := by
        rcases List.mem_cons.1 ht with e2 | e2
        · exact absurd e2.symm e
        · exact e2
      have hne : x.id ≠ t.id := fun e2 => e (h x (by simp) t ht e2)
      have hl : lessId (x :: l) t.id = x :: lessId l t.id := by
        unfold lessId
        rw [List.filter_cons_of_pos (by simpa using hne)]
      rw [hl]
      exact ((ih (fun s hs u hu => h s (by simp [hs]) u (by simp [hu])) hnd.2 ht2).cons x).trans (List.Perm.swap _ _ _)
theorem LateIs.take {now : Int} {far0 far todo l : List Th} (h : LateIs now far0 far todo l) (hid : ∀ s ∈ far, ∀ t ∈ far, s.id = t.id → s = t) (hnd : far.Nodup) {t : Th} (ht : t ∈ far) (hd : t.due ≤ now) : LateIs now far0 (lessId far t.id) (lessId (lessId todo t.id) t.id) (l ++ [t]) := by
  refine ⟨?_, fun s hs => ?_, fun s hs => ?_⟩
  · refine h.perm.trans ?_
    rw [List.append_assoc]
    exact List.Perm.append (List.Perm.refl l) (perm_less hid hnd ht)
  · rcases List.mem_append.1 hs with h1 | h1
    · exact h.late s h1
    · simp at h1; subst h1; exact hd
  · have h1 := List.mem_filter.1 hs
    rw [lessId_twice]
    exact (h.rest s h1.1).imp (fun h2 => List.mem_filter.2 ⟨h2, h1.2⟩) id
theorem LateIs.skip {now : Int} {far0 far todo l : List Th} (h : LateIs now far0 far todo l) (hid : ∀ s ∈ far, ∀ t ∈ far, s.id = t.id → s = t) {t : Th} (ht : t ∈ far) (hd : now < t.due) : LateIs now far0 far (lessId todo t.id) l := by
  refine ⟨h.perm, h.late, fun s hs => ?_⟩
  by_cases e : s.id = t.id
  · obtain rfl := hid s hs t ht e
    exact .inr hd
  · exact (h.rest s hs).imp (fun h2 => List.mem_filter.2 ⟨h2, by simpa using e⟩) id
theorem fpairs_nodup {D : DataW Unit} {far : List Th} (h : MapL D (fpairs far)) : far.Nodup := by
  have := h.ids
  unfold fpairs at this
  rw [List.pairwise_map] at this
  exact this.imp fun {a b} hne e => hne (by rw [e])
abbrev thsT : TypeId := 32
theorem ths_snoc (l : List Th) (t : Th) : (l.map thCells ++ [thCells t]).flatten = thFlat (l ++ [t]) := thFlat_app l t
set_option maxRecDepth 100000 in
set_option maxHeartbeats 4000000 in
theorem late_any (W : World) (F : Nat → Prop) (G : Nat → Nat → Prop) (w : Nat) (now : Int) (rs : Nat → Nat) (pf mf n : Nat) (R : Nat → RLs) (far : List Th) (h : Whm W F G w now rs pf mf n R far) (hid : ∀ t ∈ far, IdOk t.id) (hlen : far.length ≤ 10000) :
    Calls Try.prog 27 #[.pointer (some ⟨w, 0, none⟩)] W fun e W' => ∃ ao cap l far', e = .returned (.slice ao l.length cap) ∧ W'.ownsRow (W.heap.size + 1) thT 3 (.slice ao l.length cap) l.length (thFlat l) ∧ Whm W' F G w now rs pf mf n R far' ∧ Gr F W W' ∧ W.heap.size + 1 ≤ W'.heap.size ∧ Hid (LateIs now far far' [] l) := by
  obtain ⟨a0, a1, a2, a3, a4, a5, b0, hwl, hfl⟩ := h.cells
  obtain ⟨D, hD, hE⟩ := h.map
  have HF := Lib.hid h.bd
  have H := Lib.hid h
  have Hid' := Lib.hid hid
  have Hlen := Lib.hid hlen
  obtain ⟨r, hr⟩ : ∃ r, r = W.heap.size := ⟨_, rfl⟩
  clear h hid hlen
  go_enter Try.func27, Try.ntmps27
  go_wp2_with (first
    | (at_range; refine wpl_range_th _ rfl _ rfl mf n D far rfl hD hE ?_; intro w0 cnt0 hrg0 hg0 hs0)
    | go_in)
  go_frame
  have hst : Lst W w0 F G w now rs pf mf n R far far D cnt0 := ⟨hrg0, H.out.kept hg0.size fun i hi => hg0.block i (HF.out i hi) (by simp), Gr.one hg0 (fun b hb => by cases hb), by omega⟩
  have Hst := Lib.hid hst
  clear hst hrg0 hg0 hs0 a0 a1 a2 a3 a4 a5 b0 hwl hfl hD hE
  go_loopw [2] (fun v wr => ∃ (D : DataW Unit) (far' todo l : List Th) (cnt : Nat) (ao : Option Addr) (cap : Nat), v = .slice ao l.length cap ∧ Hid (Lst W wr F G w now rs pf mf n R far' todo D cnt) ∧ Hid (LateIs now far far' todo l) ∧
    Hid (wr.ownsRow (W.heap.size + 1) thT 3 (.slice ao l.length cap) l.length (thFlat l))) (fun _ wr => wr.rangeLeft mf W.heap.size)
  case atStart => exact ⟨_, _, _, [], _, none, 0, rfl, Hst, LateIs.start now far, World.ownsRow_nil _ _ _ _⟩
  case round =>
    obtain ⟨D, far', todo, l, cnt, ao, cap, rfl, hst, hla, hrow⟩ := hrel
    have hrg := hst.out.rg
    have hll : l.length ≤ 10000 := by
      have h1 := hla.out.perm.length_eq
      have h2 := Hlen.out
      rw [List.length_append] at h1
      omega
    have HLL := Lib.hid hll
    clear hll
    go_wp2_with (first
      | (at_next; refine wpl_next_th _ rfl _ rfl mf W.heap.size n D far' todo cnt rfl hrg ?_ ?_)
      | go_in)
    · intro h0
      subst h0
      clear hrg
      go_wp2_with fail
      go_ret
      exact ⟨ao, cap, l, far', rfl, hrow.out, hst.out.wh, hst.out.gr, hst.out.sz, hla⟩
    · intro t w1 cnt1 htd hrg1 hlt hg1 hs1 hen
      have hst1 := hst.out.next HF.out hrg1 hg1
      have htf := hst.out.rg.sub t htd
      have hrow1 : w1.ownsRow (W.heap.size + 1) thT 3 (.slice ao l.length cap) l.length (thFlat l) := hrow.out.kept hg1 (by
        cases hx : (Value.slice ao l.length cap).ownBlock with
        | none => exact .inl rfl
        | some g => exact .inr (fun e => by have := (hrow.out.lt g hx).1; simp only [Option.some.injEq] at e; omega))
      have Hids := Lib.hid (fun s (hs : s ∈ far') u (hu : u ∈ far') e => hst.out.rg.ids hs hu e)
      have Hnd := Lib.hid (fpairs_nodup hst.out.rg.map)
      have hidt := Hid'.out t (hla.out.perm.mem_iff.2 (List.mem_append_right l htf))
      have Hleft := Lib.hid hst.out.rg.left_eq
      obtain ⟨ti, tg, td⟩ := t
      unfold thVal at hen
      obtain ⟨W2, hW2⟩ : ∃ W2, W2 = w1.alloc (.cells #[.int .u64 ti, .int .u64 tg, .int .i64 td] thT) := ⟨_, rfl⟩
      obtain ⟨q, hq⟩ : ∃ q, q = w1.heap.size := ⟨_, rfl⟩
      have hg2 : w1.grownBy W2 none := by rw [hW2]; exact World.grownBy_alloc _ _ _
      have hst2 := hst1.grow HF.out hg2 (fun g e => by cases e)
      have hrow2 : W2.ownsRow (W.heap.size + 1) thT 3 (.slice ao l.length cap) l.length (thFlat l) := by rw [hW2]; exact hrow1.alloc _
      have hq4 : W2.heap[q]? = some (.cells #[.int .u64 ti, .int .u64 tg, .int .i64 td] thT (0, 0)) := by rw [hW2, hq]; exact heap_alloc_new _ _
      obtain ⟨q0, q1, q2, -, -, -⟩ := set3_res (t := ⟨ti, tg, td⟩) hq4
      have hql := (Array.getElem?_eq_some_iff.1 hq4).1
      obtain ⟨a0, a1, a2, a3, a4, a5, b0, hwl, hfl⟩ := hst2.wh.cells
      have Hst2 := Lib.hid hst2
      have Hrow2 := Lib.hid hrow2
      have Hq4 := Lib.hid hq4
      have Htf := Lib.hid htf
      have Hidt := Lib.hid hidt
      have Hlt := Lib.hid hlt
      clear hst2 hrow2 hst1 hrow1 hg2 hrg hrg1 hg1 hs1 hq4 htf hidt hlt htd
      go_upto_region 4 with fail
      rw [← hW2, ← hq]
      clear hW2 hq hen
      by_cases hd : td ≤ now
      · have Hd := Lib.hid hd
        go_wp2_with fail
        go_quiet (fail)
        obtain ⟨W3, hW3⟩ : ∃ W3, W3 = W2.drewN nq := ⟨_, rfl⟩
        have hg3 : W2.grownBy W3 none := by rw [hW3]; exact ⟨rfl, rfl, rfl, Nat.le_refl _, fun _ _ _ => rfl⟩
        have hst3 := Hst2.out.grow HF.out hg3 (fun g e => by cases e)
        have hrow3 : W3.ownsRow (W.heap.size + 1) thT 3 (.slice ao l.length cap) l.length (thFlat l) := by rw [hW3]; exact Hrow2.out
        have hq3 : W3.heap[q]? = some (.cells #[.int .u64 ti, .int .u64 tg, .int .i64 td] thT (0, 0)) := by rw [hW3]; exact Hq4.out
        have hql3 := (Array.getElem?_eq_some_iff.1 hq3).1
        clear q0 q1 q2 hql a0 a1 a2 a3 a4 a5 b0 hwl hfl
        obtain ⟨q0, q1, q2, -, -, -⟩ := set3_res (t := ⟨ti, tg, td⟩) hq3
        have Hst3 := Lib.hid hst3
        have Hrow3 := Lib.hid hrow3
        have hl1 : l.length ≤ 10000 := HLL.out
        rw [← hW3]
        clear hW3 hg3 hst3 hrow3 hq3 hd
        go_upto_region 6 with (at_builtin; refine wpl_append_one rfl (.tmp 25) (.tmp 27) thsT rfl (W.heap.size + 1) thT infoTh Try.underlying32 rfl (by decide) (.slice ao l.length cap) l.length (l.map thCells) rfl (Hrow3.out.alloc _) _ 1 (thCells ⟨ti, tg, td⟩) rfl rfl (news_at _ rfl) (th_one _) ?_ ?_ ?_ ?_; omega; (unfold maxLen; omega); (have := Hst3.out.sz; simp; omega); intro g4 c4 w4 hown4 hg4 hlie)
        have hst4 := (Hst3.out.grow HF.out (World.grownBy_alloc _ _ none) (fun g e => by cases e)).grow HF.out hg4 (fun g e => (Hrow3.out.lt g e).1)
        obtain ⟨W5, D5, cnt5, hdel, hst5, hle5, hg5⟩ := hst4.drop ti Hidt.out 0
        have hrow5 := hown4.kept hg5 (.inr (fun e => by
          simp only [Value.ownBlock, Option.some.injEq] at e
          have h5 := (hown4.lt g4 rfl).1
          have h6 := HF.out mf hst4.wh.fm
          omega))
        rw [ths_snoc] at hrow5
        obtain ⟨a0, a1, a2, a3, a4, a5, b0, hwl, hfl⟩ := hst4.wh.cells
        have hla5 := hla.out.take Hids.out Hnd.out Htf.out Hd.out
        have Hla5 := Lib.hid hla5
        have Hst5 := Lib.hid hst5
        have hrow5' : W5.ownsRow (W.heap.size + 1) thT 3 (.slice (some ⟨g4, 0, none⟩) (l ++ [(⟨ti, tg, td⟩ : Th)]).length c4) (l ++ [(⟨ti, tg, td⟩ : Th)]).length (thFlat (l ++ [⟨ti, tg, td⟩])) := by rw [List.length_append]; exact hrow5
        have Hrow5 := Lib.hid hrow5'
        have hcl : cnt5 < cnt := Nat.lt_of_le_of_lt hle5 Hlt.out
        have Hcl := Lib.hid hcl
        clear hst4 hst5 hrow5 hrow5' hg5 hle5 hown4 hg4 hlie hla5 hcl q0 q1 q2 hql3
        go_wp2_with fail
        go_roundw
        case rel => exact ⟨D5, _, _, l ++ [⟨ti, tg, td⟩], cnt5, some ⟨g4, 0, none⟩, c4, by rw [List.length_append]; rfl, Hst5, Hla5, Hrow5⟩
        case measure => rw [Hst5.out.rg.left_eq, Hleft.out]; exact Hcl.out
      · have hla5 := hla.out.skip Hids.out Htf.out (Int.lt_of_not_ge hd)
        have Hla5 := Lib.hid hla5
        clear hla5
        go_wp2_with fail
        go_quiet (fail)
        go_wp2_with fail
        obtain ⟨W3, hW3⟩ : ∃ W3, W3 = W2.drewN nq := ⟨_, rfl⟩
        have hg3 : W2.grownBy W3 none := by rw [hW3]; exact ⟨rfl, rfl, rfl, Nat.le_refl _, fun _ _ _ => rfl⟩
        have hst3 := Hst2.out.grow HF.out hg3 (fun g e => by cases e)
        have hrow3 : W3.ownsRow (W.heap.size + 1) thT 3 (.slice ao l.length cap) l.length (thFlat l) := by rw [hW3]; exact Hrow2.out
        have Hst3 := Lib.hid hst3
        have Hrow3 := Lib.hid hrow3
        rw [← hW3]
        clear hW3 hst3 hrow3 hg3
        go_roundw
        case rel => exact ⟨D, far', lessId todo ti, l, cnt1, ao, cap, rfl, Hst3, Hla5, Hrow3⟩
        case measure => rw [Hst3.out.rg.left_eq, Hleft.out]; exact Hlt.out
end Go.Proofs.Ytadghaiengonoaa
