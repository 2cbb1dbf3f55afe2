/- Lemmas for DeadlineBytes (Xl). No statement of the seat is proved here. -/
import Derived.Test.YtedlplkomfiahaaT16
namespace Go.Proofs.Ytedlplkomfiahaa
set_option linter.unusedVariables false
set_option linter.unusedSimpArgs false
set_option linter.unusedSectionVars false
open Go Go.RowKit Go.Maps
/-- what a turn leaves -/
def TurnIs (W : World) (F : Nat → Prop) (w : Nat) (b : Int) (rs : Nat → Nat) (pf : Nat) (R0 : Nat → RLs) (far0 : List Th) (ao : Option Addr) (cap : Nat) (late : List Th) (W' : World) : Prop :=
  ∃ F' G' mf' n' R' far', Whm W' F' G' w b rs pf mf' n' R' far' ∧ W'.ownsRow W.heap.size thT 3 (.slice ao late.length cap) late.length (thFlat late) ∧ (∀ g, (Value.slice ao late.length cap).ownBlock = some g → ¬ F' g) ∧
    Gr F W W' ∧ (∀ i, F' i → F i ∨ W.heap.size ≤ i) ∧ Cls b R' far' ∧ (∀ t ∈ far', b < t.due) ∧ (Tot R0 far0).Perm (late ++ Tot R' far') ∧ ∀ t ∈ late, t.due ≤ b
/-- the turn under way: ring i, slot k -/
def Ts (W : World) (F : Nat → Prop) (w : Nat) (b : Int) (rs : Nat → Nat) (pf mf n : Nat) (R0 : Nat → RLs) (far0 : List Th) (cT cL cW i k : Nat) (wr : World) : Prop :=
  ∃ (F' : Nat → Prop) (G' : Nat → Nat → Prop) (n' : Nat) (ao : Option Addr) (cap : Nat) (R : Nat → RLs) (late : List Th), n' ≤ n + (i * 64 + k) * 1000 ∧ Tst W.heap.size wr F' G' w b rs pf mf n' R far0 cT cL cW ao cap late ∧ Stg b R0 far0 i k R late ∧ Gr F W wr ∧
    ∀ j, Foot F' cL ao j → F j ∨ W.heap.size ≤ j
/-- between the ring's Take and the closure -/
def Tm (W : World) (F : Nat → Prop) (w : Nat) (b : Int) (rs : Nat → Nat) (pf mf n : Nat) (R0 : Nat → RLs) (far0 : List Th) (cT cL cW i k : Nat) (lo : Option Addr) (lc : Nat) (l : List Th) (wr : World) : Prop :=
  ∃ (F' : Nat → Prop) (G' : Nat → Nat → Prop) (n' : Nat) (ao : Option Addr) (cap : Nat) (R : Nat → RLs) (late : List Th), n' ≤ n + (i * 64 + k) * 1000 ∧ l = Sta.srt thLe (rowOf (R i) k) ∧ Tst W.heap.size wr F' G' w b rs pf mf n' (updF R i (left (R i) k)) far0 cT cL cW ao cap late ∧ Stg b R0 far0 i k R late ∧ Gr F W wr ∧
    (∀ j, Foot F' cL ao j → F j ∨ W.heap.size ≤ j) ∧ wr.ownsRow W.heap.size thT 3 (.slice lo l.length lc) l.length (thFlat l) ∧ ∀ g, (Value.slice lo l.length lc).ownBlock = some g → ¬ F' g ∧ (Value.slice ao late.length cap).ownBlock ≠ some g
/-- what a turn is begun with -/
structure TurnOk (a b : Int) (R0 : Nat → RLs) (far0 : List Th) (n : Nat) : Prop where
  cls : Cls a R0 far0
  far : ∀ t ∈ far0, a < t.due
  ia : Inst a
  ib : Inst b
  le : a ≤ b
  ok : ∀ t ∈ Tot R0 far0, Inst t.due ∧ IdOk t.id
  ids : Ids (Tot R0 far0)
  len : (Tot R0 far0).length ≤ 1000
  few : n ≤ 1000
theorem take_st {W wr : World} {F : Nat → Prop} {w : Nat} {b : Int} {rs : Nat → Nat} {pf mf n : Nat} {R0 : Nat → RLs} {far0 : List Th} {cT cL cW i k : Nat} (hn : n ≤ 1000) (hi : i < 4) (hk : k < 64) (h : Ts W F w b rs pf mf n R0 far0 cT cL cW i k wr) :
    Calls Try.prog 87 #[.pointer (some ⟨rs i, 0, none⟩), .int .i64 (k : Nat)] wr fun e W1 => ∃ lo lc l, e = .returned (.slice lo l.length lc) ∧ Tm W F w b rs pf mf n R0 far0 cT cL cW i k lo lc l W1 := by
  obtain ⟨F', G', n', ao, cap, R, late, hn', hst, hsg, hgr, hF⟩ := h
  refine (take_ok wr (G' i) (rs i) n' k (R i) (hst.wh.ring i hi) hk (by omega)).mono ?_
  rintro e W1 ⟨v, rfl, hrow, hrg, hg⟩
  obtain ⟨lo, lc, rfl⟩ := own_slice hrow
  have hl : (Sta.srt thLe (rowOf (R i) k)).length = (rowOf (R i) k).length := Sta.srt_len _ _
  rw [← hl] at hrow ⊢
  have hs := hst.wh.stepS i hi _ hrg hg
  have hst1 := hst.turned hs.1 hs.2 fun j hj => .inl hj
  have hz := hgr.size
  refine ⟨lo, lc, _, rfl, F', G', n', ao, cap, R, late, hn', rfl, hst1, hsg, Gr.after hgr hs.2 fun j hj => hF j (.inl hj), hF, own_base hrow hz, fun g hg2 => ⟨fun e => ?_, fun e => ?_⟩⟩
  · have := (hrow.lt g hg2).1; have := hst.wh.bd g e; omega
  · have := (hrow.lt g hg2).1; have := (hst.row.lt g e).2; omega
theorem Ids.app_right {l m : List Th} (h : Ids (l ++ m)) : Ids m := (List.pairwise_append.1 h).2.1
theorem down_st {W wr : World} {F : Nat → Prop} {w : Nat} {a b : Int} {rs : Nat → Nat} {pf mf n : Nat} {R0 : Nat → RLs} {far0 : List Th} {cT cL cW i k : Nat} {lo : Option Addr} {lc : Nat} {l : List Th} (hok : TurnOk a b R0 far0 n) (hi : i < 4) (hk : k < 64)
    (hd : ∀ t, (t, k) ∈ R0 i → t.due ≤ b ∨ ringN b t.due < i) (h : Tm W F w b rs pf mf n R0 far0 cT cL cW i k lo lc l wr) :
    Calls Try.prog 86 #[.slice lo l.length lc, .pointer (some ⟨cT, 0, none⟩), .pointer (some ⟨cL, 0, none⟩), .pointer (some ⟨cW, 0, none⟩)] wr fun e W' => e = .returned (.tuple #[]) ∧ Ts W F w b rs pf mf n R0 far0 cT cL cW i (k + 1) W' := by
  obtain ⟨F', G', n', ao, cap, R, late, hn', hl, hst, hsg, hgr, hF, hrow, hap⟩ := h
  have hpm : l.Perm (rowOf (R i) k) := by rw [hl]; exact Sta.srt_perm _ _
  have hstep := hsg.step hi (fun t ht => hd t (hsg.row_mem hi ht))
  rw [← hl] at hstep
  have hpt : (Tot R0 far0).Perm (late ++ (Tot (updF R i (left (R i) k)) far0 ++ l)) := of_cnt fun x => by
    have h1 := cnt_of hsg.perm x
    have h2 := Tot.taken R far0 i k hi x
    have h3 := cnt_of hpm x
    simp only [List.count_append] at h1 ⊢
    omega
  have hlen := hpt.length_eq
  simp only [List.length_append] at hlen
  have hlen0 := hok.len
  have hmem : ∀ t ∈ l, Inst t.due ∧ IdOk t.id := fun t ht => hok.ok t (hpt.mem_iff.2 (by simp [ht]))
  have hfew := hok.few
  refine (down_any W.heap.size wr F' G' w b rs pf mf n' _ far0 cT cL cW ao cap late l lo lc hst hok.ib hrow hap hmem (Ids.app_right (hok.ids.perm hpt)) (by omega) (by omega) (by omega)).mono ?_
  rintro e W' ⟨rfl, F2, G2, n2, ao2, cap2, hn2, hst2, hg2, hF2⟩
  rw [hstep.2] at hst2
  refine ⟨rfl, F2, G2, n2, ao2, cap2, _, _, by omega, hst2, hstep.1, Gr.after hgr hg2 hF, fun j hj => (hF2 j hj).elim (hF j) (fun x => .inr (Nat.le_trans hgr.size x))⟩
theorem Ts.below {W wr wr' : World} {F : Nat → Prop} {w : Nat} {b : Int} {rs : Nat → Nat} {pf mf n : Nat} {R0 : Nat → RLs} {far0 : List Th} {cT cL cW i k : Nat} (h : Ts W F w b rs pf mf n R0 far0 cT cL cW i k wr) (hb : Below wr.heap.size wr wr') : Ts W F w b rs pf mf n R0 far0 cT cL cW i k wr' := by
  obtain ⟨F', G', n', ao, cap, R, late, hn', hst, hsg, hgr, hF⟩ := h
  exact ⟨F', G', n', ao, cap, R, late, hn', hst.below hb, hsg, hgr.trans (Gr.below hb), hF⟩
theorem Ts.jump {W wr : World} {F : Nat → Prop} {w : Nat} {b : Int} {rs : Nat → Nat} {pf mf n : Nat} {R0 : Nat → RLs} {far0 : List Th} {cT cL cW i : Nat} (h : Ts W F w b rs pf mf n R0 far0 cT cL cW i 0 wr) (k : Nat) (hk : ∀ p ∈ R0 i, k ≤ p.2) : Ts W F w b rs pf mf n R0 far0 cT cL cW i k wr := by
  obtain ⟨F', G', n', ao, cap, R, late, hn', hst, hsg, hgr, hF⟩ := h
  exact ⟨F', G', n', ao, cap, R, late, Nat.le_trans hn' (Nat.add_le_add_left (Nat.mul_le_mul_right _ (Nat.add_le_add_left (Nat.zero_le _) _)) _), hst, hsg.jump k hk, hgr, hF⟩
theorem Ts.next {W wr : World} {F : Nat → Prop} {w : Nat} {b : Int} {rs : Nat → Nat} {pf mf n : Nat} {R0 : Nat → RLs} {far0 : List Th} {cT cL cW i : Nat} (h : Ts W F w b rs pf mf n R0 far0 cT cL cW i 64 wr) (hi : i < 4) (hk : ∀ p ∈ R0 i, p.2 < 64) : Ts W F w b rs pf mf n R0 far0 cT cL cW (i + 1) 0 wr := by
  obtain ⟨F', G', n', ao, cap, R, late, hn', hst, hsg, hgr, hF⟩ := h
  exact ⟨F', G', n', ao, cap, R, late, Nat.le_trans hn' (Nat.add_le_add_left (Nat.mul_le_mul_right _ (by omega)) _), hst, hsg.next hi hk, hgr, hF⟩
theorem Ts.tcell {W wr : World} {F : Nat → Prop} {w : Nat} {b : Int} {rs : Nat → Nat} {pf mf n : Nat} {R0 : Nat → RLs} {far0 : List Th} {cT cL cW i k : Nat} (h : Ts W F w b rs pf mf n R0 far0 cT cL cW i k wr) : wr.cell? ⟨cT, 0, none⟩ = some (.int .i64 b) ∧ cT < wr.heap.size := by
  obtain ⟨F', G', n', ao, cap, R, late, hn', hst, hsg, hgr, hF⟩ := h
  have k0 := block_cell hst.tc 0
  simp only [List.getElem?_toArray, List.getElem?_cons_zero] at k0
  exact ⟨k0, hst.lt.1⟩
theorem TurnIs.of {W wx : World} {F F' : Nat → Prop} {G' : Nat → Nat → Prop} {w : Nat} {b : Int} {rs : Nat → Nat} {pf mf' n' : Nat} {R0 R : Nat → RLs} {far0 far : List Th} {cT cL cW cap : Nat} {ao : Option Addr} {late : List Th} (hst : Tst W.heap.size wx F' G' w b rs pf mf' n' R far cT cL cW ao cap late) (hgr : Gr F W wx) (hF : ∀ j, Foot F' cL ao j → F j ∨ W.heap.size ≤ j)
    (hc : Cls b R far) (hcf : ∀ t ∈ far, b < t.due) (hp : (Tot R0 far0).Perm (late ++ Tot R far)) (hl : ∀ t ∈ late, t.due ≤ b) : TurnIs W F w b rs pf R0 far0 ao cap late (wx.setCell ⟨cL, 0, none⟩ (.slice ao late.length cap)) := by
  have hgs := grown_set wx cL 0 (.slice ao late.length cap)
  have hoth : ∀ i, i ≠ cL → (wx.setCell ⟨cL, 0, none⟩ (.slice ao late.length cap)).heap[i]? = wx.heap[i]? := fun i hi => heap_setCell_other wx ⟨cL, 0, none⟩ i _ hi
  refine ⟨F', G', mf', n', R, far, hst.wh.kept hgs.size fun i hi => hoth i (fun e => hst.out.2.1 (e ▸ hi)), row_kept hst.row fun g hg => hoth g (hst.ne.2.2 g hg).2.1, hst.out.2.2.2, ?_, fun i hi => hF i (.inl hi), hc, hcf, hp, hl⟩
  refine Gr.after hgr (Gr.one hgs (fun x hx => hx) : Gr (fun i => some cL = some i) wx _) fun i hi => ?_
  simp only [Option.some.injEq] at hi
  subst hi
  exact hF _ (.inr (.inl rfl))
/-- the last stage: what was beyond is ranged over -/
structure Tf (W : World) (F : Nat → Prop) (w : Nat) (b : Int) (rs : Nat → Nat) (pf mf mg n nm : Nat) (R0 : Nat → RLs) (far0 : List Th) (cT cL cW r : Nat) (D : DataW Unit) (todo : List Th) (cnt : Nat) (F' : Nat → Prop) (G' : Nat → Nat → Prop) (n' : Nat) (ao : Option Addr) (cap : Nat) (R : Nat → RLs) (farN late : List Th) (wr : World) : Prop where
  st : Tst W.heap.size wr F' G' w b rs pf mg n' R farN cT cL cW ao cap late
  rg : Rgs wr mf r nm D far0 todo cnt
  few : n' + todo.length ≤ n + 256000 + far0.length
  om : ¬ Foot F' cL ao mf
  or : ¬ Foot F' cL ao r
  nr : cT ≠ r ∧ cW ≠ r ∧ W.heap.size ≤ r
  ring : ∀ j, j < 4 → ∀ p ∈ R j, ringN b p.1.due = j ∧ p.2 = slotN j p.1.due
  far : ∀ t ∈ farN, ringN b t.due = 4 ∧ b < t.due
  perm : ∀ x, (Tot R0 far0).count x = late.count x + (Tot R farN).count x + todo.count x
  late : ∀ t ∈ late, t.due ≤ b
  gr : Gr F W wr
  foot : ∀ j, Foot F' cL ao j → F j ∨ W.heap.size ≤ j
theorem Rgs.stay {W W' : World} {mf r n : Nat} {D : DataW Unit} {far todo : List Th} {cnt : Nat} (h : Rgs W mf r n D far todo cnt) (hm : W'.heap[mf]? = W.heap[mf]?) (hr : W'.heap[r]? = W.heap[r]?) : Rgs W' mf r n D far todo cnt := by
  obtain ⟨left, ⟨es, clock, since, seen, c0, hb, F, hs, hD, hr1, rest⟩, h2⟩ := h.run
  exact ⟨⟨left, ⟨es, clock, since, seen, c0, hm.trans hb, F, hs, hD, hr.trans hr1, rest⟩, h2⟩, h.map, h.sub⟩
theorem Tst.beside {B : Nat} {W W' : World} {F : Nat → Prop} {G : Nat → Nat → Prop} {w : Nat} {b : Int} {rs : Nat → Nat} {pf mf n : Nat} {R : Nat → RLs} {far : List Th} {cT cL cW : Nat} {ao : Option Addr} {cap : Nat} {late : List Th} (h : Tst B W F G w b rs pf mf n R far cT cL cW ao cap late) (hs : W.heap.size ≤ W'.heap.size)
    (hk : ∀ i, (Foot F cL ao i ∨ i = cT ∨ i = cW) → W'.heap[i]? = W.heap[i]?) : Tst B W' F G w b rs pf mf n R far cT cL cW ao cap late :=
  ⟨h.wh.kept hs fun i hi => hk i (.inl (.inl hi)), (hk cT (.inr (.inl rfl))).trans h.tc, (hk cL (.inl (.inr (.inl rfl)))).trans h.lc, (hk cW (.inr (.inr rfl))).trans h.wc, row_kept h.row fun g hg => hk g (.inl (.inr (.inr (own_ao hg)))), h.out, h.base.1, h.base.2.1, h.base.2.2.1, Nat.le_trans h.base.2.2.2 hs⟩
theorem lessId_len {l : List Th} {t : Th} (ht : t ∈ l) : (lessId l t.id).length + 1 ≤ l.length := by
  unfold lessId
  induction l with
  | nil => cases ht
  | cons x l ih =>
    by_cases e : x.id = t.id
    · rw [List.filter_cons_of_neg (by simp [e])]
      have := List.length_filter_le (fun y : Th => decide (y.id ≠ t.id)) l
      rw [List.length_cons]; omega
    · rw [List.filter_cons_of_pos (by simpa using e)]
      have ht2 : t ∈ l := by
        rcases List.mem_cons.1 ht with e2 | e2
        · exact absurd (by rw [e2]) e
        · exact e2
      have := ih ht2
      rw [List.length_cons, List.length_cons]; omega
section
variable {W wr w' : World} {F : Nat → Prop} {w : Nat} {b : Int} {rs : Nat → Nat} {pf mf mg n nm : Nat} {R0 : Nat → RLs} {far0 : List Th} {cT cL cW r : Nat} {D : DataW Unit} {todo : List Th} {cnt : Nat} {F' : Nat → Prop} {G' : Nat → Nat → Prop} {n' : Nat} {ao : Option Addr} {cap : Nat} {R : Nat → RLs} {farN late : List Th}
theorem Tf.stay (h : Tf W F w b rs pf mf mg n nm R0 far0 cT cL cW r D todo cnt F' G' n' ao cap R farN late wr) (hb : Below wr.heap.size wr w') : Tf W F w b rs pf mf mg n nm R0 far0 cT cL cW r D todo cnt F' G' n' ao cap R farN late w' :=
  ⟨h.st.below hb, h.rg.stay (hb.block _ h.rg.lt.1) (hb.block _ h.rg.lt.2.1), h.few, h.om, h.or, h.nr, h.ring, h.far, h.perm, h.late, h.gr.trans (Gr.below hb), h.foot⟩
/-- the next one has come: it is taken out of what is to come -/
theorem Tf.next {t : Th} {cnt' : Nat} (h : Tf W F w b rs pf mf mg n nm R0 far0 cT cL cW r D todo cnt F' G' n' ao cap R farN late wr) (hr : Rgs w' mf r nm D far0 (lessId todo t.id) cnt') (hg : wr.grownBy w' (some r)) :
    Tst W.heap.size w' F' G' w b rs pf mg n' R farN cT cL cW ao cap late ∧ Gr (fun i => i = r) wr w' := by
  refine ⟨h.st.beside hg.size fun i hi => hg.block i ?_ (fun e => ?_), Gr.one hg fun x hx => by simpa using hx.symm⟩
  · obtain ⟨l1, l2, l3⟩ := h.st.lt
    rcases hi with (e | e | ⟨x, e, e2⟩) | e | e
    · exact h.st.wh.bd i e
    · exact e ▸ l2
    · subst e
      exact (h.st.row.lt i (by simp only [Value.ownBlock]; rw [e2])).2
    · exact e ▸ l1
    · exact e ▸ l3
  · simp only [Option.some.injEq] at e
    subst e
    rcases hi with e | e | e
    · exact h.or e
    · exact h.nr.1 e.symm
    · exact h.nr.2.1 e.symm
end
theorem ownB {ao : Option Addr} {n cap i : Nat} (h : ∃ a, ao = some a ∧ a.block = i) : (Value.slice ao n cap).ownBlock = some i := by
  obtain ⟨a, rfl, rfl⟩ := h; rfl
theorem own_one (w : World) (base : Nat) (t : Th) (hb : base ≤ w.heap.size) : (w.alloc (.cells #[.int .u64 t.id, .int .u64 t.gen, .int .i64 t.due] thT)).ownsRow base thT 3 (.slice (some ⟨w.heap.size, 0, .none⟩) [t].length 1) [t].length (thFlat [t]) :=
  ⟨by simp [thFlat, thCells], .inr ⟨w.heap.size, 1, _, rfl, hb, heap_alloc_new w _, Nat.le_refl _, by unfold maxLen; omega, by simp, by simp [thFlat, thCells]⟩⟩
/-- some state of the last stage -/
def Tg (W : World) (F : Nat → Prop) (w : Nat) (b : Int) (rs : Nat → Nat) (pf mf mg n nm : Nat) (R0 : Nat → RLs) (far0 : List Th) (cT cL cW r : Nat) (D : DataW Unit) (todo : List Th) (cnt : Nat) (wr : World) : Prop :=
  ∃ F' G' n' ao cap R farN late, Tf W F w b rs pf mf mg n nm R0 far0 cT cL cW r D todo cnt F' G' n' ao cap R farN late wr
theorem far_step {W wr w1 w2 : World} {F : Nat → Prop} {w : Nat} {a b : Int} {rs : Nat → Nat} {pf mf mg n nm : Nat} {R0 : Nat → RLs} {far0 : List Th} {cT cL cW r : Nat} {D : DataW Unit} {todo : List Th} {cnt cnt' : Nat} (hok : TurnOk a b R0 far0 n) (h : Tg W F w b rs pf mf mg n nm R0 far0 cT cL cW r D todo cnt wr)
    {t : Th} (ht : t ∈ todo) (hnd : todo.Nodup) (hr : Rgs w1 mf r nm D far0 (lessId todo t.id) cnt') (hg : wr.grownBy w1 (some r)) (hb : Below w1.heap.size w1 w2) {q : Nat} (hq : w1.heap.size ≤ q) (hrow : w2.ownsRow W.heap.size thT 3 (.slice (some ⟨q, 0, none⟩) [t].length 1) [t].length (thFlat [t])) :
    Calls Try.prog 86 #[.slice (some ⟨q, 0, none⟩) [t].length 1, .pointer (some ⟨cT, 0, none⟩), .pointer (some ⟨cL, 0, none⟩), .pointer (some ⟨cW, 0, none⟩)] w2 fun e W' => e = .returned (.tuple #[]) ∧ Tg W F w b rs pf mf mg n nm R0 far0 cT cL cW r D (lessId todo t.id) cnt' W' := by
  obtain ⟨F', G', n', ao, cap, R, farN, late, hf⟩ := h
  obtain ⟨hst1, hg1⟩ := hf.next hr hg
  have hst2 := hst1.below hb
  have htf := hf.rg.sub t ht
  have hids : ∀ s ∈ todo, ∀ u ∈ todo, s.id = u.id → s = u := fun s hs u hu e => hf.rg.ids (hf.rg.sub s hs) (hf.rg.sub u hu) e
  have hpt : (Tot R0 far0).Perm (late ++ lessId todo t.id ++ (Tot R farN ++ [t])) := of_cnt fun x => by
    have h1 := hf.perm x
    have h2 := cnt_of (perm_less hids hnd ht) x
    rw [List.count_cons] at h2
    simp only [List.count_append, List.count_cons, List.count_nil] at h1 ⊢
    omega
  have hlen := hpt.length_eq
  simp only [List.length_append, List.length_cons, List.length_nil] at hlen
  have hlen0 := hok.len
  have hfew := hok.few
  have hft := Tot.len_far R0 far0
  have hll := lessId_len ht
  have hfw := hf.few
  have hz1 := hg.size
  refine (down_any W.heap.size w2 F' G' w b rs pf mg n' R farN cT cL cW ao cap late [t] (some ⟨q, 0, none⟩) 1 hst2 hok.ib hrow (fun g hg2 => ?_) (fun s hs => ?_) (Ids.app_right (hok.ids.perm hpt)) (by simp) (by omega) (by omega)).mono ?_
  · simp only [Value.ownBlock, Option.some.injEq] at hg2
    subst hg2
    refine ⟨fun e => ?_, fun e => ?_⟩
    · have := hf.st.wh.bd _ e; omega
    · have := (hf.st.row.lt _ e).2; omega
  · simp at hs; subst hs
    exact hok.ok s (Tot.far htf)
  · rintro e W' ⟨rfl, F2, G2, n2, ao2, cap2, hn2, hst3, hg3, hF3⟩
    have hsz2 : w1.heap.size ≤ w2.heap.size := hb.size
    have hml := hf.rg.lt
    refine ⟨rfl, F2, G2, n2, ao2, cap2, _, _, _, ⟨hst3, hr.stay ?_ ?_, ?_, fun e => ?_, fun e => ?_, hf.nr, fun j hj p hp => ?_, fun s hs => ?_, fun x => ?_, fun s hs => ?_, ?_, fun j hj => ?_⟩⟩
    · exact (hg3.block mf (by omega) hf.om).trans (hb.block mf (by omega))
    · exact (hg3.block r (by omega) hf.or).trans (hb.block r (by omega))
    · simp at hn2; omega
    · rcases hF3 mf e with e2 | e2
      · exact hf.om e2
      · omega
    · rcases hF3 r e with e2 | e2
      · exact hf.or e2
      · omega
    · rcases putsR_mem R b [t] j p hp with h1 | ⟨-, -, h3, h4⟩
      · exact hf.ring j hj p h1
      · exact ⟨h3, h4⟩
    · rcases putsF_mem farN b [t] s hs with h1 | ⟨-, h2, h3⟩
      · exact hf.far s h1
      · exact ⟨h3, h2⟩
    · have h1 := cnt_of hpt x
      have h4 := cnt_of (Tot.puts R farN b [t]) x
      have h5 := cnt_of (split_late b [t]) x
      simp only [List.count_append] at h1 h4 h5 ⊢
      omega
    · rcases List.mem_append.1 hs with h1 | h1
      · exact hf.late s h1
      · have := (List.mem_filter.1 h1).2
        simpa using this
    · refine Gr.after (Gr.after (Gr.after hf.gr hg1 fun j hj => ?_) (Gr.below hb : Gr F w1 w2) (fun j hj => .inl hj)) hg3 hf.foot
      subst hj
      exact .inr hf.nr.2.2
    · exact (hF3 j hj).elim (hf.foot j) fun x => .inr (Nat.le_trans (Nat.le_trans hf.gr.size hz1) (Nat.le_trans hsz2 x))
theorem slot_le (i : Nat) (a b : Int) (hi : i ≤ 3) (h0 : 0 ≤ a) (h1 : a ≤ b) (he : a / wid (i + 1) = b / wid (i + 1)) : slotN i a ≤ slotN i b := by
  rcases (by omega : i = 0 ∨ i = 1 ∨ i = 2 ∨ i = 3) with rfl | rfl | rfl | rfl <;> simp [wid, slotN] at he ⊢ <;> omega
theorem not_succ_le (n : Nat) : ¬ (((n + 1 : Nat) : Int) ≤ (n : Int)) := by omega
theorem wrap_k (k m : Nat) (h : k ≤ m) (hm : m < 64) : wrap64 ((k : Int) + 1) = (k : Int) + 1 := IntWalk.wrap64_in _ (by omega)
theorem pow_wid (k : Nat) (hk : k ≤ 4) : (2 : Int) ^ (6 * k) = wid k := by
  rcases (by omega : k = 0 ∨ k = 1 ∨ k = 2 ∨ k = 3 ∨ k = 4) with rfl | rfl | rfl | rfl | rfl <;> rfl
theorem three_new (W : World) (w : Nat) (b : Int) :
    Below W.heap.size W (((W.alloc (.cells #[.pointer (some ⟨w, 0, none⟩)] wpT)).alloc (.cells #[.int .i64 b] i64T)).alloc (.cells #[.slice none 0 0] thsT)) ∧ (((W.alloc (.cells #[.pointer (some ⟨w, 0, none⟩)] wpT)).alloc (.cells #[.int .i64 b] i64T)).alloc (.cells #[.slice none 0 0] thsT)).heap[W.heap.size]? = some (.cells #[.pointer (some ⟨w, 0, none⟩)] wpT (0, 0)) ∧
    (((W.alloc (.cells #[.pointer (some ⟨w, 0, none⟩)] wpT)).alloc (.cells #[.int .i64 b] i64T)).alloc (.cells #[.slice none 0 0] thsT)).heap[W.heap.size + 1]? = some (.cells #[.int .i64 b] i64T (0, 0)) ∧ (((W.alloc (.cells #[.pointer (some ⟨w, 0, none⟩)] wpT)).alloc (.cells #[.int .i64 b] i64T)).alloc (.cells #[.slice none 0 0] thsT)).heap[W.heap.size + 1 + 1]? = some (.cells #[.slice none 0 0] thsT (0, 0)) := by
  have e1 : (W.alloc (.cells #[.pointer (some ⟨w, 0, none⟩)] wpT)).heap.size = W.heap.size + 1 := by simp
  have e2 : ((W.alloc (.cells #[.pointer (some ⟨w, 0, none⟩)] wpT)).alloc (.cells #[.int .i64 b] i64T)).heap.size = W.heap.size + 1 + 1 := by simp
  have b1 := below_new W (.cells #[.pointer (some ⟨w, 0, none⟩)] wpT)
  have b2 := below_new (W.alloc (.cells #[.pointer (some ⟨w, 0, none⟩)] wpT)) (.cells #[.int .i64 b] i64T)
  have b3 := below_new ((W.alloc (.cells #[.pointer (some ⟨w, 0, none⟩)] wpT)).alloc (.cells #[.int .i64 b] i64T)) (.cells #[.slice none 0 0] thsT)
  have n1 := heap_alloc_new W (.cells #[.pointer (some ⟨w, 0, none⟩)] wpT)
  have n2 := heap_alloc_new (W.alloc (.cells #[.pointer (some ⟨w, 0, none⟩)] wpT)) (.cells #[.int .i64 b] i64T)
  have n3 := heap_alloc_new ((W.alloc (.cells #[.pointer (some ⟨w, 0, none⟩)] wpT)).alloc (.cells #[.int .i64 b] i64T)) (.cells #[.slice none 0 0] thsT)
  rw [e1] at n2
  rw [e2] at n3
  exact ⟨below_on (below_on b1 b2 (Nat.le_refl _)) b3 (Nat.le_refl _), ((b3.block _ (by omega)).trans (b2.block _ (by omega))).trans n1, (b3.block _ (by omega)).trans n2, n3⟩
set_option maxRecDepth 100000 in
set_option maxHeartbeats 4000000 in
theorem turn_any (W : World) (F : Nat → Prop) (G : Nat → Nat → Prop) (w : Nat) (a b : Int) (rs : Nat → Nat) (pf mf n : Nat) (R0 : Nat → RLs) (far0 : List Th) (h : Whm W F G w a rs pf mf n R0 far0) (hok : TurnOk a b R0 far0 n) :
    Calls Try.prog 69 #[.pointer (some ⟨w, 0, none⟩), .int .i64 b] W fun e W' => ∃ ao cap late, e = .returned (.slice ao late.length cap) ∧ TurnIs W F w b rs pf R0 far0 ao cap late W' := by
  have hbox := three_new W w b
  obtain ⟨W1, hW1⟩ : ∃ W1, W1 = ((W.alloc (.cells #[.pointer (some ⟨w, 0, none⟩)] wpT)).alloc (.cells #[.int .i64 b] i64T)).alloc (.cells #[.slice none 0 0] thsT) := ⟨_, rfl⟩
  obtain ⟨cW, hcW⟩ : ∃ c, c = W.heap.size := ⟨_, rfl⟩
  obtain ⟨cT, hcT⟩ : ∃ c, c = cW + 1 := ⟨_, rfl⟩
  obtain ⟨cL, hcL⟩ : ∃ c, c = cT + 1 := ⟨_, rfl⟩
  rw [← hW1, ← hcW, ← hcT, ← hcL] at hbox
  obtain ⟨hB1, hw1, ht1, hl1⟩ := hbox
  have h1 := h.below (by rw [← hcW]; exact hB1)
  obtain ⟨a0, a1, a2, a3, a4, a5, b0, hwl, hfl⟩ := h1.cells
  have k0 := block_cell hw1 0
  have k1 := block_cell ht1 0
  have k2 := block_cell hl1 0
  simp only [List.getElem?_toArray, List.getElem?_cons_zero] at k0 k1 k2
  have z0 := (Array.getElem?_eq_some_iff.1 hw1).1
  have z1 := (Array.getElem?_eq_some_iff.1 ht1).1
  have z2 := (Array.getElem?_eq_some_iff.1 hl1).1
  have hfz := block_free h1.blk 0
  have hbd : ∀ i, F i → i < cW := fun i hi => by rw [hcW]; exact h.bd i hi
  have hwc : w ≠ cW ∧ w ≠ cT ∧ w ≠ cL := by have := hbd w h.fw; omega
  obtain ⟨W2, hW2⟩ : ∃ W2, W2 = W1.setCell ⟨w, 0, none⟩ (.int .i64 b) := ⟨_, rfl⟩
  have hsn := h1.setNow b
  rw [← hW2] at hsn
  have hst : Tst W.heap.size W2 F G w b rs pf mf n R0 far0 cT cL cW none 0 [] := by
    have hoth : ∀ i, i ≠ w → W2.heap[i]? = W1.heap[i]? := fun i hi => by rw [hW2]; exact heap_setCell_other W1 ⟨w, 0, none⟩ i _ hi
    refine ⟨hsn.1, (hoth _ (Ne.symm hwc.2.1)).trans ht1, (hoth _ (Ne.symm hwc.2.2)).trans hl1, (hoth _ (Ne.symm hwc.1)).trans hw1, World.ownsRow_nil _ _ _ _, ⟨fun e => ?_, fun e => ?_, fun e => ?_, fun g e => by cases e⟩, by omega, by omega, by omega, ?_⟩
    · have := hbd _ e; omega
    · have := hbd _ e; omega
    · have := hbd _ e; omega
    · have h5 := hB1.size; have h6 := hsn.2.size; omega
  have hg2 : Gr F W W2 := (Gr.below (by rw [← hcW]; exact hB1)).trans hsn.2
  have Hst := Lib.hid hst
  have Hg2 := Lib.hid hg2
  have Hh := Lib.hid h
  have Hok := Lib.hid hok
  have Hts := Lib.hid (⟨F, G, n, none, 0, R0, [], Nat.le_add_right _ _, hst, Stg.start b R0 far0, hg2, fun j hj => by
    rcases hj with e | e | ⟨x, e, -⟩
    · exact .inl e
    · exact .inr (by omega)
    · cases e⟩ : Ts W F w b rs pf mf n R0 far0 cT cL cW 0 0 W2)
  have HcW := Lib.hid hcW
  have HcT := Lib.hid hcT
  have HcL := Lib.hid hcL
  clear h hok hst hg2 hsn h1 hB1 hw1 ht1 hl1 hbd
  go_enter Try.func69, Try.ntmps69
  go_upto_region 1 with fail
  rw [← hW1, ← hcW, ← hcT, ← hcL]
  clear hW1 hcW hcT hcL
  go_upto_region 3 with fail
  rw [← hW2]
  clear hW2 a0 a1 a2 a3 a4 a5 b0 hwl hfl k0 k1 k2 z0 z1 z2 hfz hwc
  obtain ⟨a0, a1, a2, a3, a4, a5, b0, hwl, hfl⟩ := Hst.out.wh.cells
  have k0 := block_cell Hst.out.wc 0
  simp only [List.getElem?_toArray, List.getElem?_cons_zero] at k0
  have z0 := Hst.out.lt.2.2
  go_wp2_with fail
  clear a0 a1 a2 a3 a4 a5 b0 hwl hfl k0 z0
  go_loopw [28] (fun u wr => ∃ i : Nat, u = .int .i64 (i : Nat) ∧ i ≤ 4 ∧ Hid (Ts W F w b rs pf mf n R0 far0 cT cL cW i 0 wr)) (fun u _ => 4 - (intOf u).toNat)
  case atStart => exact ⟨0, rfl, by omega, Hts⟩
  case round =>
    obtain ⟨i, rfl, hi, hts⟩ := hrel
    by_cases hi4 : i < 4
    · have x1 : (i : Int) < 4 := by omega
      have ix := idxk rs i hi4
      have Hi4 := Lib.hid hi4
      obtain ⟨A1, hA1⟩ : ∃ x, x = a / wid (i + 1) := ⟨_, rfl⟩
      obtain ⟨B1, hB1⟩ : ∃ x, x = b / wid (i + 1) := ⟨_, rfl⟩
      have d1 : a / 2 ^ (6 * (i + 1)) = A1 := by rw [hA1, pow_wid (i + 1) (by omega)]
      have d2 : b / 2 ^ (6 * (i + 1)) = B1 := by rw [hB1, pow_wid (i + 1) (by omega)]
      obtain ⟨F', G', n', ao, cap, R, late, hn', hst, hsg, hgr, hF⟩ := hts.out
      have k0 := block_cell hst.tc 0
      simp only [List.getElem?_toArray, List.getElem?_cons_zero] at k0
      have z0 := hst.lt.1
      clear hn' hst hsg hgr hF hi4 hi
      have HA1 := Lib.hid hA1
      have HB1 := Lib.hid hB1
      clear hA1 hB1
      by_cases he : A1 = B1
      · have x2 : (A1 == B1) = true := by simp [he]
        have He := Lib.hid he
        clear he
        go_wp2_with fail
        go_quiet (fail)
        clear k0 z0 x2
        obtain ⟨A0, hA0⟩ : ∃ x, x = a / wid i := ⟨_, rfl⟩
        obtain ⟨sa, hsa⟩ : ∃ x, x = slotN i a := ⟨_, rfl⟩
        have d3 : a / 2 ^ (6 * i) = A0 := by rw [hA0, pow_wid i (Nat.le_of_lt Hi4.out)]
        have d4 : bits .and .i64 A0 63 = (sa : Nat) := by
          rw [atM_and, hsa, hA0]
          unfold slotN atM
          rw [if_neg (Nat.ne_of_lt Hi4.out)]
        have Hsa := Lib.hid hsa
        obtain ⟨B0, hB0⟩ : ∃ x, x = b / wid i := ⟨_, rfl⟩
        obtain ⟨sb, hsb⟩ : ∃ x, x = slotN i b := ⟨_, rfl⟩
        have d5 : b / 2 ^ (6 * i) = B0 := by rw [hB0, pow_wid i (Nat.le_of_lt Hi4.out)]
        have d6 : bits .and .i64 B0 63 = (sb : Nat) := by
          rw [atM_and, hsb, hB0]
          unfold slotN atM
          rw [if_neg (Nat.ne_of_lt Hi4.out)]
        have Hsb := Lib.hid hsb
        clear hA0 hsa hB0 hsb
        go_wp2_with fail
        obtain ⟨W5, hW5⟩ : ∃ W5, W5 = wr.drewN nq := ⟨_, rfl⟩
        have hts5 : Ts W F w b rs pf mf n R0 far0 cT cL cW i sa W5 := by
          refine Ts.jump (Ts.below hts.out (by rw [hW5]; exact below_drewN1 (Below.refl _ _) _)) sa fun p hp => ?_
          have hq := Hok.out.cls.ring i Hi4.out p hp
          rw [hq.2, Hsa.out]
          exact turn_from i a b p.1.due (Nat.le_of_lt_succ Hi4.out) Hok.out.ia.1 Hok.out.le (by rw [← HA1.out, ← HB1.out]; exact He.out) hq.1
        have Hts5 := Lib.hid hts5
        have hsab : sa ≤ sb := by
          rw [Hsa.out, Hsb.out]
          exact slot_le i a b (Nat.le_of_lt_succ Hi4.out) Hok.out.ia.1 Hok.out.le (by rw [← HA1.out, ← HB1.out]; exact He.out)
        have hsb6 : sb < 64 := by rw [Hsb.out]; exact slotN_lt _ _
        have Hsb6 := Lib.hid hsb6
        have Hsab := Lib.hid hsab
        rw [← hW5]
        clear hW5 hts5 hsb6 hsab d1 d2 d3 d4
        go_loopw [10] (fun u wx => ∃ k : Nat, u = .int .i64 (k : Nat) ∧ k ≤ sb + 1 ∧ Hid (Ts W F w b rs pf mf n R0 far0 cT cL cW i k wx)) (fun u _ => sb + 1 - (intOf u).toNat)
        case atStart => exact ⟨sa, rfl, Nat.le_succ_of_le Hsab.out, Hts5⟩
        case round =>
          obtain ⟨k, rfl, hk, hts⟩ := hrel
          obtain ⟨k0, z0⟩ := hts.out.tcell
          by_cases hks : k ≤ sb
          · have x3 : (k : Int) ≤ (sb : Int) := Int.ofNat_le.2 hks
            have w3 := wrap_k k sb hks Hsb6.out
            have Hks := Lib.hid hks
            have htk := Lib.hid (take_st Hok.out.few Hi4.out (Nat.lt_of_le_of_lt Hks.out Hsb6.out) hts.out)
            clear hks hk
            go_wp2_with fail
            refine htk.out.mono ?_
            rintro e W6 ⟨lo, lc, l, rfl, htm⟩
            have hdn := Lib.hid (down_st Hok.out Hi4.out (Nat.lt_of_le_of_lt Hks.out Hsb6.out) (fun t ht => by
              have hq := Hok.out.cls.ring i Hi4.out _ ht
              simp only at hq
              by_cases hd : t.due ≤ b
              · exact .inl hd
              · exact .inr (turn_down i a b t.due (Nat.le_of_lt_succ Hi4.out) Hok.out.ia.1 Hok.out.le (by rw [← HA1.out, ← HB1.out]; exact He.out) hq.1 (by rw [← hq.2, ← Hsb.out]; exact Hks.out) (Int.lt_of_not_ge hd))) htm)
            clear htm htk
            go_wp2_with fail
            refine hdn.out.mono ?_
            rintro e W7 ⟨rfl, hts7⟩
            have Hts7 := Lib.hid hts7
            clear hts7
            go_wp2_with fail
            go_roundw
            case rel => exact ⟨k + 1, by first | rfl | rw [w3]; rfl, Nat.succ_le_succ Hks.out, Hts7⟩
            case measure =>
              first | rw [w3] | skip
              exact ts_meas (sb + 1) k (Nat.lt_succ_of_le Hks.out)
          · obtain rfl : k = sb + 1 := Nat.le_antisymm hk (Nat.lt_of_not_ge hks)
            have x3 : ¬ (((sb + 1 : Nat) : Int) ≤ (sb : Int)) := not_succ_le sb
            obtain ⟨F', G', n', ao, cap, R, late, hn', hst, hsg, hgr, hF⟩ := hts.out
            have k2 := block_cell hst.lc 0
            simp only [List.getElem?_toArray, List.getElem?_cons_zero] at k2
            have f2 := block_free hst.lc 0
            have z2 := hst.lt.2.1
            have hdn := hsg
            rw [Hsb.out] at hdn
            have hcl := hdn.done Hi4.out Hok.out.cls Hok.out.far Hok.out.ia.1 Hok.out.le (by rw [← HA1.out, ← HB1.out]; exact He.out) Hok.out.cls.soon
            have Hfin := Lib.hid (TurnIs.of (R0 := R0) (far0 := far0) hst hgr hF hcl.1 hcl.2 hsg.perm hsg.late)
            clear hn' hst hsg hgr hF hdn hcl hk hks
            go_wp2_with fail
            refine bodyPost_ret (v := .slice ao late.length cap) ?_ rfl ⟨ao, cap, late, rfl, Hfin.out⟩
            simp [results, Try.results69, go_sem, k2, z2]
      · have x2 : (A1 == B1) = false := by simp [he]
        have He := Lib.hid he
        clear he
        go_wp2_with fail
        go_quiet (fail)
        clear k0 z0 x2
        go_wp2_with fail
        obtain ⟨W5, hW5⟩ : ∃ W5, W5 = wr.drewN nq := ⟨_, rfl⟩
        have hts5 : Ts W F w b rs pf mf n R0 far0 cT cL cW i 0 W5 := Ts.below hts.out (by rw [hW5]; exact below_drewN1 (Below.refl _ _) _)
        have Hts5 := Lib.hid hts5
        rw [← hW5]
        clear hW5 hts5 d1 d2
        go_loopw [64] (fun u wx => ∃ k : Nat, u = .int .i64 (k : Nat) ∧ k ≤ 64 ∧ Hid (Ts W F w b rs pf mf n R0 far0 cT cL cW i k wx)) (fun u _ => 64 - (intOf u).toNat)
        case atStart => exact ⟨0, rfl, Nat.zero_le _, Hts5⟩
        case round =>
          obtain ⟨k, rfl, hk, hts⟩ := hrel
          by_cases hks : k < 64
          · have x3 : (k : Int) < 64 := by omega
            have w3 := wrap_k k 63 (Nat.le_of_lt_succ hks) (by decide)
            have Hks := Lib.hid hks
            have htk := Lib.hid (take_st Hok.out.few Hi4.out hks hts.out)
            clear hks hk
            go_wp2_with fail
            refine htk.out.mono ?_
            rintro e W6 ⟨lo, lc, l, rfl, htm⟩
            have hdn := Lib.hid (down_st Hok.out Hi4.out Hks.out (fun t ht => .inl (turn_low (i + 1) i a b t.due (Nat.succ_le_of_lt Hi4.out) (Nat.lt_succ_self i) Hok.out.ia.1 Hok.out.le (by rw [← HA1.out, ← HB1.out]; exact He.out) (Hok.out.cls.ring i Hi4.out _ ht).1)) htm)
            clear htm htk
            go_wp2_with fail
            refine hdn.out.mono ?_
            rintro e W7 ⟨rfl, hts7⟩
            have Hts7 := Lib.hid hts7
            clear hts7
            go_wp2_with fail
            go_roundw
            case rel => exact ⟨k + 1, by first | rfl | rw [w3]; rfl, Hks.out, Hts7⟩
            case measure =>
              first | rw [w3] | skip
              exact ts_meas 64 k Hks.out
          · obtain rfl : k = 64 := Nat.le_antisymm hk (Nat.le_of_not_lt hks)
            have x3 : ¬ (((64 : Nat) : Int) < 64) := by decide
            have w4 := wrap_k i 3 (Nat.le_of_lt_succ Hi4.out) (by decide)
            have hnx := Lib.hid (hts.out.next Hi4.out fun p hp => by
              rw [(Hok.out.cls.ring i Hi4.out p hp).2]
              exact slotN_lt _ _)
            clear hk hks
            go_wp2_with fail
            go_roundw
            case rel => exact ⟨i + 1, by first | rfl | rw [w4]; rfl, Hi4.out, hnx⟩
            case measure =>
              first | rw [w4] | skip
              exact meas4 i Hi4.out
    · obtain rfl : i = 4 := by omega
      obtain ⟨F', G', n', ao, cap, R, late, hn', hst, hsg, hgr, hF⟩ := hts.out
      obtain ⟨a0, a1, a2, a3, a4, a5, b0, hwl, hfl⟩ := hst.wh.cells
      have hpfz := block_free hst.wh.fblk 0
      have k0 := block_cell hst.wc 0
      simp only [List.getElem?_toArray, List.getElem?_cons_zero] at k0
      have z0 := hst.lt.2.2
      have hmk := @run_makeMap Try.prog
      obtain ⟨mg, hmg⟩ : ∃ mg, mg = wr.heap.size := ⟨_, rfl⟩
      obtain ⟨W5, hW5⟩ : ∃ W5, W5 = (wr.setCell ⟨pf, 0, none⟩ (.map (some mg))).alloc (.map #[] 0) := ⟨_, rfl⟩
      have hnm := hst.wh.newMap hmg hW5
      have Hst2 := Lib.hid hst
      have Hsg := Lib.hid hsg
      have Hgr := Lib.hid hgr
      have HF := Lib.hid hF
      have Hn' := Lib.hid hn'
      have Hnm := Lib.hid hnm
      have Hmg := Lib.hid hmg
      clear hi hi4 hst hsg hgr hF hn' hnm
      go_upto_region 22 with fail
      rw [← hmg, ← hW5]
      clear hmg hW5
      obtain ⟨hw5, hg5, D, hD, hE⟩ := Hnm.out
      have hmgl : wr.heap.size < W5.heap.size := by rw [← Hmg.out]; exact hw5.bd mg hw5.fm
      have Hst5 := Lib.hid (Hst2.out.turned hw5 hg5 (fun i hi => hi.elim (fun x => .inl x.1) (fun x => .inr (by rw [x, Hmg.out]; exact Nat.le_refl _))))
      clear a0 a1 a2 a3 a4 a5 b0 hwl hfl hpfz k0 z0 hmk hw5
      go_wp2_with (first
        | (at_range; refine wpl_range_th _ rfl _ rfl mf n' D far0 rfl hD hE ?_; intro w0 cnt0 hrg0 hg0 hs0)
        | go_in)
      go_frame
      obtain ⟨r, hr⟩ : ∃ r, r = W5.heap.size := ⟨_, rfl⟩
      rw [← hr] at hrg0 hs0 ⊢
      have htg : Tg W F w b rs pf mf mg n n' R0 far0 cT cL cW r D far0 cnt0 w0 := by
        have hst2 := Hst2.out
        have hst5 := Hst5.out
        have hml := hst2.wh.bd mf hst2.wh.fm
        have hl5 := hst5.lt
        have hb0 : Below W5.heap.size W5 w0 := ⟨hg0.os, hg0.tape, hg0.output, hg0.size, fun i hi => hg0.block i hi (fun e => by cases e)⟩
        refine ⟨_, _, n', ao, cap, R, [], late, hst5.below hb0, hrg0, ?_, fun e => ?_, fun e => ?_, ⟨by omega, by omega, by rw [hr]; exact hst5.base.2.2.2⟩, Hsg.out.lo, by simp, fun x => ?_, Hsg.out.late, (Gr.after Hgr.out hg5 fun j hj => HF.out j (.inl hj)).trans (Gr.below hb0), fun j hj => ?_⟩
        · have := Hn'.out; omega
        · rcases e with (e | e) | e | e
          · exact e.2 rfl
          · rw [Hmg.out] at e; omega
          · exact hst2.out.2.1 (e ▸ hst2.wh.fm)
          · exact hst2.out.2.2.2 mf (ownB e) hst2.wh.fm
        · rcases e with e | e | e
          · have := hst5.wh.bd _ e; omega
          · omega
          · have := (hst5.row.lt r (ownB e)).2; omega
        · have h1 := cnt_of Hsg.out.perm x
          rw [Tot.cnt] at h1 ⊢
          simp only [List.count_append, Tot.cnt, List.count_nil] at h1 ⊢
          omega
        · rcases hj with (e | e) | e | e
          · exact HF.out j (.inl e.1)
          · have := Hgr.out.size; rw [e, Hmg.out]; exact .inr this
          · exact HF.out j (.inr (.inl e))
          · exact HF.out j (.inr (.inr e))
      have Htg := Lib.hid htg
      have Hnd : Hid far0.Nodup := by show far0.Nodup; exact fpairs_nodup hE
      clear htg hrg0 hg0 hs0 hr hg5 hD hE hmgl
      go_loopw [14] (fun _ wx => ∃ (todo : List Th) (cnt : Nat), Hid todo.Nodup ∧ Hid (Tg W F w b rs pf mf mg n n' R0 far0 cT cL cW r D todo cnt wx)) (fun _ wx => wx.rangeLeft mf r)
      case atStart => exact ⟨far0, cnt0, Hnd, Htg⟩
      case round =>
        obtain ⟨todo, cnt, hnd, htg⟩ := hrel
        obtain ⟨F2, G2, n2, ao2, cap2, R2, farN, late2, htf⟩ := htg.out
        have hrg := htf.rg
        have Hleft := Lib.hid hrg.left_eq
        have Htf := Lib.hid htf
        clear htf
        go_wp2_with (first
          | (at_next; refine wpl_next_th _ rfl _ rfl mf r n' D far0 todo cnt rfl hrg ?_ ?_)
          | go_in)
        · intro h0
          subst h0
          have hst := Htf.out.st
          have k2 := block_cell hst.lc 0
          simp only [List.getElem?_toArray, List.getElem?_cons_zero] at k2
          have f2 := block_free hst.lc 0
          have z2 := hst.lt.2.1
          have Hfin := Lib.hid (TurnIs.of (R0 := R0) (far0 := far0) hst Htf.out.gr Htf.out.foot ⟨Htf.out.ring, fun t ht => (Htf.out.far t ht).1⟩ (fun t ht => (Htf.out.far t ht).2) (of_cnt fun x => by
            have := Htf.out.perm x
            rw [List.count_append]
            simpa using this) Htf.out.late)
          clear hst hrg
          go_wp2_with fail
          refine bodyPost_ret (v := .slice ao2 late2.length cap2) ?_ rfl ⟨ao2, cap2, late2, rfl, Hfin.out⟩
          simp [results, Try.results69, go_sem, k2, z2]
        · intro t w1 cnt1 htd hrg1 hlt hg1 hs1 hen
          obtain ⟨W8, hW8⟩ : ∃ W8, W8 = w1.alloc (.cells #[.int .u64 t.id, .int .u64 t.gen, .int .i64 t.due] thT) := ⟨_, rfl⟩
          obtain ⟨W9, hW9⟩ : ∃ W9, W9 = W8.alloc (.cells #[.int .u64 t.id, .int .u64 t.gen, .int .i64 t.due] thT) := ⟨_, rfl⟩
          obtain ⟨q8, hq8⟩ : ∃ q, q = w1.heap.size := ⟨_, rfl⟩
          obtain ⟨q9, hq9⟩ : ∃ q, q = W8.heap.size := ⟨_, rfl⟩
          have hB8 : Below w1.heap.size w1 W8 := by rw [hW8]; exact below_new _ _
          have hB9 : Below W8.heap.size W8 W9 := by rw [hW9]; exact below_new _ _
          have ht8 : W8.heap[q8]? = some (.cells #[.int .u64 t.id, .int .u64 t.gen, .int .i64 t.due] thT (0, 0)) := by rw [hW8, hq8]; exact heap_alloc_new _ _
          have hbase : W.heap.size ≤ W8.heap.size := Nat.le_trans Htf.out.gr.size (Nat.le_trans hg1.size hB8.size)
          have hown : W9.ownsRow W.heap.size thT 3 (.slice (some ⟨q9, 0, none⟩) [t].length 1) [t].length (thFlat [t]) := by rw [hW9, hq9]; exact own_one W8 _ t hbase
          have hfs := Lib.hid (far_step Hok.out htg.out htd hnd.out hrg1 hg1 (below_on hB8 hB9 (Nat.le_refl _)) (by rw [hq9]; exact hB8.size) hown)
          have hnd1 : Hid (lessId todo t.id).Nodup := by show (lessId todo t.id).Nodup; exact hnd.out.filter _
          obtain ⟨q0, q1, q2, -, -, -⟩ := set3_res ht8
          have hql := (Array.getElem?_eq_some_iff.1 ht8).1
          have Hlt := Lib.hid hlt
          obtain ⟨ti, tg, td⟩ := t
          unfold thVal at hen
          clear hown hbase ht8 hB8 hB9 hlt hg1 hs1 hrg1 hrg htd
          go_upto_region 25 with fail
          rw [← hW8, ← hq8]
          clear hW8 hq8 hen
          go_wp2_with fail
          rw [← hq9, show W8.alloc (.cells #[.int .u64 ti, .int .u64 tg, .int .i64 td] thT) = W9 from hW9.symm]
          clear hW9 hq9
          refine hfs.out.mono ?_
          rintro e W10 ⟨rfl, htg10⟩
          have Htg10 := Lib.hid htg10
          have hl10 : W10.rangeLeft mf r = cnt1 := by
            obtain ⟨F3, G3, n3, ao3, cap3, R3, f3, l3, h3⟩ := htg10
            exact h3.rg.left_eq
          have Hl10 := Lib.hid hl10
          clear htg10 hfs hl10
          go_wp2_with fail
          refine ⟨?_, ?measure⟩
          (repeat apply Exists.intro)
          refine ⟨?rel, rfl⟩
          case rel => exact ⟨lessId todo ti, cnt1, hnd1, Htg10⟩
          case measure => rw [Hl10.out, Hleft.out]; exact Hlt.out
end Go.Proofs.Ytedlplkomfiahaa
