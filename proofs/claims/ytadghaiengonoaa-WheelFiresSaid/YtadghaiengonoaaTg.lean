/- slots: Take. No statement of the seat is proved here. -/
import Derived.Test.YtadghaiengonoaaTf
namespace Go.Proofs.Ytadghaiengonoaa
set_option linter.unusedVariables false
set_option linter.unusedSimpArgs false
set_option linter.unusedSectionVars false
open Go Go.RowKit Go.Maps

theorem mapdel_run {W : World} {b n : Nat} {D : DataW Unit} (h : W.ownsMap Try.prog 28 (plainElem Try.prog 3) b n D) (id : Int) (hw : IdOk id) (ty : TypeId) :
    ∃ W', (Builtin.delete_ #[mwT, 28] ty #[.map (some b), .int .u64 id]).run Try.prog W = .ok (.tuple #[]) W' ∧ W'.ownsMap Try.prog 28 (plainElem Try.prog 3) b n (D.del (.int .u64 id)) ∧ W.grownBy W' (some b) := by
  obtain ⟨W', h1, h2, h3⟩ := h.drop u64law Try.underlying94 (keyOf_int_mk Try.underlying28 hw.wf) ty
  exact ⟨W', h1, h2, h3.grown⟩
theorem own_gr {W W' : World} {F : Nat → Prop} {base e size n : Nat} {v : Value} {xs : List Value} (h : W.ownsRow base e size v n xs) (hg : Gr F W W') (hd : ∀ i, F i → i < base) : W'.ownsRow base e size v n xs := by
  have hl := h.lt
  obtain ⟨h1, h2⟩ := h
  refine ⟨h1, ?_⟩
  rcases h2 with h2 | ⟨g, cap, cur, hv, hb, hh, rest⟩
  · exact .inl h2
  · exact .inr ⟨g, cap, cur, hv, hb, (hg.block g (hl g (by rw [hv]; rfl)).2 (fun e => by have := hd g e; omega)).trans hh, rest⟩
theorem meas_i (n j : Nat) (h : j < n) : n - (intOf (.int .i64 ((j : Int) + 1))).toNat < n - (intOf (.int .i64 (j : Nat))).toNat := by
  simp only [intOf]
  omega
/-- ids gone one by one -/
def goneUp (L : RLs) (l : List Th) : RLs := l.foldl (fun M t => gone M t.id) L
theorem goneUp_snoc (L : RLs) (l : List Th) (t : Th) : goneUp L (l ++ [t]) = gone (goneUp L l) t.id := by simp [goneUp]
theorem goneUp_take (L : RLs) (l : List Th) (j : Nat) (hj : j < l.length) : goneUp L (l.take (j + 1)) = gone (goneUp L (l.take j)) l[j].id := by
  rw [← goneUp_snoc, ← List.take_append_getElem hj]
set_option maxRecDepth 100000 in
set_option maxHeartbeats 4000000 in
theorem take_ok (W : World) (F : Nat → Prop) (r n k : Nat) (L : RLs) (h : Rng W F r n L) (hk : k < 64) (hn : n ≤ 1000000) :
    Calls Try.prog 46 #[.pointer (some ⟨r, 0, none⟩), .int .i64 (k : Nat)] W fun e W' => ∃ v, e = .returned v ∧ W'.ownsRow W.heap.size thT 3 v (rowOf L k).length (thFlat (Sta.srt thLe (rowOf L k))) ∧ Rng W' F r n (left L k) ∧ Gr F W W' := by
  obtain ⟨mb, sv, u, hm, hu⟩ := h.mem
  have Hno := Lib.hid (none_no W r mb hm.cellM hm.lt.1)
  have hkl : k < sv.length := by rw [hm.len]; exact hk
  have hlr : (rowOf L k).length ≤ 1000000 := by have := rowOf_len L k; have := h.few; omega
  have Hlo := Lib.hid (look_ok W F r n k L h hk hn)
  have hrl := hm.lt.1
  have k1 : ¬ (k : Int) < 0 := by omega
  have k2 : ¬ (64 : Int) ≤ (k : Int) := by omega
  have k3 : (k : Int) < 64 := by omega
  obtain ⟨l, hl⟩ : ∃ l, l = Sta.srt thLe (rowOf L k) := ⟨_, rfl⟩
  have hll : l.length = (rowOf L k).length := by rw [hl, Sta.srt_len]
  rw [← hl] at Hlo
  go_enter Try.func46, Try.ntmps46
  go_wp2_with fail
  refine Hno.out.mono ?_
  rintro e W2 ⟨rfl, hW2⟩
  subst hW2
  go_wp2_with fail
  refine Hlo.out.mono ?_
  rintro e W3 ⟨v, rfl, ho3, hb3⟩
  have hm3 := hm.below hb3
  have hck := hm3.cell k hkl
  have hfk := hm3.free k
  have hr3 := hm3.lt.1
  obtain ⟨ao, cp, rfl⟩ := own_slice ho3
  obtain ⟨ao2, cp2, hsv⟩ := own_slice (hm3.rows k hkl).own
  rw [hsv] at hck
  have hst := hm3.setRow (G := F) k hkl (.slice none 0 0) [] (World.grownBy.refl _ _) (World.ownsRow_nil _ _ _ _) (fun g hg => by cases hg) (fun _ hi => hi) (fun g hg => by cases hg)
  obtain ⟨W4, hW4⟩ : ∃ W4, W4 = W3.setCell ⟨r, k, none⟩ (.slice none 0 0) := ⟨_, rfl⟩
  rw [← hW4] at hst
  have Hst := Lib.hid hst
  have Hb3 := Lib.hid hb3
  have Ho3 := Lib.hid ho3
  have hcu := hst.1.cellU
  have hfu := hst.1.free 64
  have hr4 := hst.1.lt.1
  have hbo := bits_off u k hk
  have Hll := Lib.hid hll
  have Hl := Lib.hid hl
  clear hst hb3 ho3 hm3 hll hl hm
  go_wp2_with fail
  rw [← hW4]
  clear hW4 hck hfk
  go_region
  all_goals
    go_wp2_with fail
    have hs5 := Hst.out.1.setU (offBit u k)
    obtain ⟨W5, hW5⟩ : ∃ W5, W5 = (W4.setCell ⟨r, 64, none⟩ (.int .u64 (offBit u k : Nat))).drew := ⟨_, rfl⟩
    have hm5 : Rm W5 F r n mb (sv.set k (.slice none 0 0)) (offBit u k) (updR (rowOf L) k []) (pairs L) := by rw [hW5]; exact hs5.1.kept (fun _ _ _ => rfl)
    have hg5 : Gr F W3 W5 := by rw [hW5]; exact (Hst.out.2.trans hs5.2).drew
    rw [← hW5]
    clear hW5 hs5 hcu hfu hbo
    have Hm5 := Lib.hid hm5
    have Hg5 := Lib.hid hg5
    clear hm5 hg5
    go_loopw [37] (fun u37 wr => ∃ j : Nat, u37 = .int .i64 (j : Nat) ∧ j ≤ l.length ∧ Rm wr F r n mb (sv.set k (.slice none 0 0)) (offBit u k) (updR (rowOf L) k []) (pairs (goneUp L (l.take j))) ∧ Gr F W3 wr) (fun u37 _ => l.length - (intOf u37).toNat)
    case atStart => exact ⟨0, rfl, Nat.zero_le _, Hm5.out, Hg5.out⟩
    case round =>
      obtain ⟨j, rfl, hj, hmj, hgj⟩ := hrel
      by_cases hjl : j < l.length
      · have x1 : (j : Int) < (l.length : Int) := by omega
        have hbd : ∀ i, F i → i < W2.heap.size := h.bd
        have hoj := own_gr Ho3.out hgj hbd
        obtain ⟨g, cap, hgc⟩ : ∃ g cap, Value.slice ao l.length cp = .slice (some ⟨g, 0, none⟩) l.length cap := by
          rcases hoj.2 with ⟨_, h0⟩ | ⟨g, cap, cur, hv, _⟩
          · omega
          · exact ⟨g, cap, hv⟩
        simp only [Value.slice.injEq, true_and] at hgc
        obtain ⟨rfl, rfl⟩ := hgc
        have hsr : SR thT wr wr W2.heap.size g l.length cp l := ⟨hoj, World.grownBy.refl _ _, rfl⟩
        obtain ⟨e0, e1, e2⟩ := hsr.cells j hjl
        have hglt := hsr.lt
        have w1 := IntWalk.wrap64_in ((j : Int) + 1) (by have := Hll.out; omega)
        clear hsr hoj
        have Hmj := Lib.hid hmj
        have Hgj := Lib.hid hgj
        clear hmj hgj
        obtain ⟨x, hx⟩ : ∃ x, x = l[j] := ⟨_, rfl⟩
        rw [← hx] at e0 e1 e2
        have Hx := Lib.hid hx
        clear hx
        go_wp2_with fail
        obtain ⟨W6, hW6⟩ : ∃ W6, W6 = wr.alloc (.cells #[.int .u64 x.id, .int .u64 x.gen, .int .i64 x.due] thT) := ⟨_, rfl⟩
        have hb6 : Below wr.heap.size wr W6 := by rw [hW6]; exact below_new _ _
        have ht6 : W6.heap[wr.heap.size]? = some (.cells #[.int .u64 x.id, .int .u64 x.gen, .int .i64 x.due] thT (0, 0)) := by rw [hW6]; exact heap_alloc_new _ _
        have hz6 : wr.heap.size < W6.heap.size := by rw [hW6]; simp
        have hm6 : Rm W6.drew F r n mb (sv.set k (.slice none 0 0)) (offBit u k) (updR (rowOf L) k []) (pairs (goneUp L (l.take j))) := (Hmj.out.below hb6).kept (fun _ _ _ => rfl)
        obtain ⟨t0, -⟩ := set3_res (t := x) ht6
        have hcm := hm6.cellM
        have hrm := hm6.lt.1
        have hcm' : W6.cell? ⟨r, 65, none⟩ = some (.map (some mb)) := hcm
        have hrm' : r < W6.heap.size := hrm
        have hxid : IdOk x.id := by
          have hxm : x ∈ rowOf L k := by
            rw [Hx.out]
            exact (Sta.srt_perm thLe (rowOf L k)).mem_iff.1 (by rw [← Hl.out]; exact List.getElem_mem hjl)
          exact h.ok.wf _ (mem_rowOf.1 hxm)
        obtain ⟨D, hD, hE⟩ := hm6.map
        obtain ⟨W7, hdel, hD7, hg7⟩ := mapdel_run hD x.id hxid 0
        have hE7 : MapL (D.del (.int .u64 x.id)) (pairs (goneUp L (l.take (j + 1)))) := by
          rw [goneUp_take L l j hjl, pairs_gone, ← Hx.out]
          exact hE.del x.id
        have hm7 := hm6.turn hg7 hD7 hE7
        have hgr : Gr F W3 W7 := ((Hgj.out.trans (Gr.below hb6)).drew).trans hm7.2
        have H7 := Lib.hid (⟨hm7.1, hgr⟩ : _ ∧ _)
        rw [← hW6]
        clear hW6 hm6 ht6 hb6 hcm hrm hxid hD hE hD7 hg7 hE7 hm7 hgr
        go_region
        all_goals
          go_wp2_with fail
          go_roundw
          case rel => exact ⟨j + 1, by rw [w1]; rfl, hjl, H7.out.1, H7.out.2⟩
          case measure =>
            rw [w1]
            exact meas_i l.length j hjl
      · have x1 : ¬ (j : Int) < (l.length : Int) := by omega
        have hfull : goneUp L (l.take j) = left L k := by
          rw [List.take_of_length_le (by omega)]
          exact gone_many L k l h.ok (by rw [Hl.out]; exact Sta.srt_perm thLe (rowOf L k))
        rw [hfull] at hmj
        have hoj := own_gr Ho3.out hgj h.bd
        have hR : Rng wr F r n (left L k) := by
          refine ⟨h.ok.filter _, Nat.le_trans (List.length_filter_le _ _) h.few, fun i hi => Nat.lt_of_lt_of_le (h.bd i hi) (Nat.le_trans Hb3.out.size hgj.size), mb, _, offBit u k, hmj.same (fun i hi => ?_) rfl, hu.left k hk⟩
          rw [rowOf_left]
          unfold updR
          by_cases e : i = k
          · subst e; simp
          · rw [if_neg e, if_neg (Ne.symm e)]
        have hG : Gr F W2 wr := (Gr.below Hb3.out).trans hgj
        rw [Hll.out, Hl.out] at hoj
        have HR := Lib.hid (⟨hoj, hR, hG⟩ : _ ∧ _ ∧ _)
        clear hoj hR hG hmj hgj hfull
        go_wp2_with fail
        go_ret
        obtain ⟨q1, q2, q3⟩ := HR.out
        exact ⟨_, rfl, by rw [Hll.out]; exact q1, q2, q3⟩
end Go.Proofs.Ytadghaiengonoaa
