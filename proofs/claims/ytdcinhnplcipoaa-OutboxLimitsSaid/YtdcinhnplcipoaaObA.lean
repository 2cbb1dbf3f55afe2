/- A box in memory; contracts of slices.IndexFunc, slices.Clone, pick, and of the box's New, none, at, Get, Waiting, State, Clone, Due. No statement of the seat is proved here. -/
import Derived.Test.YtdcinhnplcipoaaOb
import Derived.RangeFuncCalls
import Derived.Shelf.Abstract
namespace Go.Proofs.Ytdcinhnplcipoaa
set_option linter.unusedVariables false
set_option linter.unusedSimpArgs false
set_option linter.unusedSectionVars false
open Go Go.RowKit Go.Shelf

/-- the place of the first that fits, or -1 -/
def firstN (l : List No) (p : No → Bool) : Int := if l.findIdx p < l.length then (l.findIdx p : Int) else -1
theorem idx_at (l : List No) (p : No → Bool) (i : Nat) (hi : i < l.length) : (l.drop i).findIdx p = if p l[i] then 0 else (l.drop (i + 1)).findIdx p + 1 := by
  rw [List.drop_eq_getElem_cons hi, List.findIdx_cons]
  cases p l[i] <;> rfl
set_option maxHeartbeats 1000000 in
theorem index_any (k : Nat) (caps : Array Value) (p : No → Bool) (eg : ∀ args w, (callFunc k args).run Try.prog w = .ok (.enter k args) w) (ao : Option Addr) (cap : Nat) (l : List No) (w : World) (hs : Ns w ao cap l) (hn : l.length ≤ 1000000)
    (hp : ∀ W n, Below w.heap.size w W → Calls Try.prog k (#[noVal n] ++ caps) W fun e W' => e = .returned (.bool (p n)) ∧ Below W.heap.size W W') :
    Calls Try.prog 39 #[.slice ao l.length cap, .func (.func k) #[] caps] w fun e w' =>
      e = .returned (.int .i64 (firstN l p)) ∧ Below w.heap.size w w' := by
  obtain ⟨r, hr⟩ : ∃ r, r = l.findIdx p := ⟨_, rfl⟩
  obtain ⟨z, hz⟩ : ∃ z, z = firstN l p := ⟨_, rfl⟩
  rw [← hz]
  have hz2 : z = if r < l.length then (r : Int) else -1 := by rw [hz, hr]; rfl
  have Hz := Lib.hid hz2
  have Hr := Lib.hid hr
  clear hr hz hz2
  go_enter Try.func39, Try.ntmps39
  go_wp2_with fail
  go_loopw [8] (fun v wr => ∃ i : Nat, v = .int .i64 i ∧ i ≤ l.length ∧ Hid (r = i + (l.drop i).findIdx p) ∧ Below w.heap.size w wr) (fun v _ => l.length - (intOf v).toNat)
  case atStart => exact ⟨0, rfl, Nat.zero_le _, (by show r = 0 + (l.drop 0).findIdx p; rw [Hr.out]; simp), Below.refl _ _⟩
  case round =>
    obtain ⟨i, rfl, hi, hri, hb⟩ := hrel
    by_cases hlt : i < l.length
    · obtain ⟨b, off, rfl, c0, c1, c2, c3, c4, c5, c6, c7, c8⟩ := (hs.below hb).get i hlt
      have Hst := Lib.hid (idx_at l p i hlt)
      obtain ⟨s, hsd⟩ : ∃ s, s = l[i] := ⟨_, rfl⟩
      rw [← hsd] at c0 c1 c2 c3 c4 c5 c6 c7 c8 Hst
      clear hsd
      have hps := hp wr s hb
      obtain ⟨q, hq⟩ : ∃ q, q = p s := ⟨_, rfl⟩
      rw [← hq] at hps Hst
      clear hq
      obtain ⟨id, tk, lv, pt, st, tr, rt, wt, nx⟩ := s
      unfold noVal at hps
      simp only at c0 c1 c2 c3 c4 c5 c6 c7 c8 hps
      have Hps := Lib.hid hps
      clear hps
      have i0 : (0 : Int) ≤ (i : Int) := by omega
      have i1 : (i : Int) < (l.length : Int) := by omega
      go_wp2_with fail
      refine Hps.out.mono ?_
      rintro e w2 ⟨rfl, hb2⟩
      have hB := below_on hb hb2 (Nat.le_refl _)
      cases q with
      | true =>
        have hr2 : Hid (r = i) := by show r = i; rw [hri.out, Hst.out]; simp
        go_wp2_with fail
        go_ret
        exact ⟨ret_int (by rw [Hz.out, hr2.out, if_pos hlt]), hB⟩
      | false =>
        have hr2 : Hid (r = i + 1 + (l.drop (i + 1)).findIdx p) := by show r = _; rw [hri.out, Hst.out]; simp; omega
        go_wp2_with fail
        go_roundw
        case rel => exact ⟨i + 1, by simp, by omega, hr2, hB⟩
        case measure => simp [intOf]; omega
    · have hi' : i = l.length := by omega
      subst hi'
      have hr2 : Hid (r = l.length) := by show r = _; rw [hri.out]; simp
      go_wp2_with fail
      go_ret
      exact ⟨ret_int (by rw [Hz.out, hr2.out, if_neg (by omega)]), hb⟩
/-- the copy -/
theorem clone_any (ao : Option Addr) (cap : Nat) (l : List No) (w : World) (hl : l.length ≤ 1000000) (hs : Ns w ao cap l) :
    Calls Try.prog 45 #[.slice ao l.length cap] w fun e w' => (∃ ao' cap', e = .returned (.slice ao' l.length cap') ∧ w'.ownsRow w.heap.size 24 9 (.slice ao' l.length cap') l.length (l.map noCells).flatten) ∧ Below w.heap.size w w' := by
  have q22 : ∀ (w : World) (a : Option Addr) (n c n' c' : Nat), (binOp .eql 42 (.slice a n c) (.slice none n' c')).run Try.prog w = .ok (.bool a.isNone) w := fun w a n c n' c' => Lib.run_eql_slice_nil w _ _ a n c n' c' Try.underlying42
  cases ao with
  | none =>
    have hc := hs.sl.none rfl
    have hle := hs.sl.le
    have h0 : l = [] := List.eq_nil_of_length_eq_zero (by omega)
    subst h0
    subst hc
    go_enter Try.func45, Try.ntmps45
    go_wp2
    go_ret
    exact ⟨⟨none, 0, rfl, World.ownsRow_nil _ _ _ _⟩, Below.refl _ _⟩
  | some ad =>
    go_enter Try.func45, Try.ntmps45
    go_wp2_with (at_builtin; refine wpl_append rfl (.tmp 5) (.tmp 6) 42 rfl w.heap.size 24 infoNo Try.underlying42 rfl (by decide) _ 0 [] rfl (own_empty w w.heap.size _ 9 (Nat.le_refl _)) _ _ _ _ rfl (hs.sl.below (below_new _ _)) (nos_one l) ?_ ?_ ?_ ?_; (unfold maxLen; omega); omega; exact (below_new _ _).size; intro ao' cap' w' hown' hg')
    go_ret
    refine ⟨⟨ao', cap', by simp, ?_⟩, below_app (below_new _ _) hg' (own_empty w w.heap.size _ 9 (Nat.le_refl _)) (Nat.le_refl _) (below_new _ _).size⟩
    rw [Nat.zero_add] at hown'
    exact hown'
def uCell (x : Int) : List Value := [.int .u64 x]
theorem uCells (l : List Int) : (l.map uCell).flatten = l.map (Value.int .u64) := by
  induction l with
  | nil => rfl
  | cons x l ih => simp only [List.map_cons, List.flatten_cons, ih]; rfl
theorem infoU : (Try.prog.info? 22).map (fun i => (i.zero, i.size, i.bytes)) = some (some (.int .u64 0), 1, 8) := by kernel_rfl
def ids (l : List No) : List Int := l.map No.id
theorem filter_step (l : List No) (p : No → Bool) (i : Nat) (hi : i < l.length) : l.filter p = (l.take i).filter p ++ (if p l[i] then [l[i]] else []) ++ (l.drop (i + 1)).filter p := by
  conv => lhs; rw [← List.take_append_drop i l, List.drop_eq_getElem_cons hi]
  rw [List.filter_append, List.filter_cons]
  split <;> simp
theorem filter_snocN (p : No → Bool) (l : List No) (k : Nat) (h : k < l.length) : (l.take (k + 1)).filter p = (l.take k).filter p ++ (if p l[k] then [l[k]] else []) := by
  rw [List.take_succ_eq_append_getElem h, List.filter_append]
  congr 1
  simp [List.filter_cons]
set_option maxHeartbeats 2000000 in
theorem pickU_any (k : Nat) (caps : Array Value) (p : No → Bool) (eg : ∀ args w, (callFunc k args).run Try.prog w = .ok (.enter k args) w) (ao : Option Addr) (cap : Nat) (l : List No) (w : World) (hs : Ns w ao cap l) (hn : l.length ≤ 1000000)
    (hp : ∀ W n, Below w.heap.size w W → Calls Try.prog k (#[noVal n] ++ caps) W fun e W' => e = .returned (.bool (p n)) ∧ Below W.heap.size W W') :
    Calls Try.prog 43 #[.slice ao l.length cap, .func (.func k) #[] caps, .func (.func 44) #[] #[]] w fun e w' =>
      (∃ so sc, e = .returned (.slice so (l.filter p).length sc) ∧ w'.ownsRow w.heap.size 22 1 (.slice so (l.filter p).length sc) (l.filter p).length ((ids (l.filter p)).map uCell).flatten) ∧ Below w.heap.size w w' := by
  obtain ⟨F, hF⟩ : ∃ F, F = l.filter p := ⟨_, rfl⟩
  rw [← hF]
  have HF := Lib.hid hF
  clear hF
  go_enter Try.func43, Try.ntmps43
  go_wp2_with fail
  go_loopw [6, 11] (fun v u wr => ∃ (i : Nat) (out : List No), u = .int .i64 i ∧ i ≤ l.length ∧ out.length ≤ i ∧ Hid (out = (l.take i).filter p) ∧ wr.ownsRow w.heap.size 22 1 v out.length ((ids out).map uCell).flatten ∧ Below w.heap.size w wr)
    (fun _ u _ => l.length - (intOf u).toNat)
  case atStart => exact ⟨0, [], rfl, Nat.zero_le _, Nat.le_refl _, rfl, World.ownsRow_nil _ _ _ _, Below.refl _ _⟩
  case round =>
    obtain ⟨i, out, rfl, hi, ho, hout, hown, hb⟩ := hrel
    obtain ⟨oa, oc, rfl⟩ := own_slice hown
    by_cases hlt : i < l.length
    · obtain ⟨b, off, rfl, c0, c1, c2, c3, c4, c5, c6, c7, c8⟩ := (hs.below hb).get i hlt
      have Hst := Lib.hid (filter_snocN p l i hlt)
      obtain ⟨s, hsd⟩ : ∃ s, s = l[i] := ⟨_, rfl⟩
      rw [← hsd] at c0 c1 c2 c3 c4 c5 c6 c7 c8 Hst
      clear hsd
      have hps := fun W h => hp W s h
      have hid := fun W => id_any s W
      obtain ⟨q, hq⟩ : ∃ q, q = p s := ⟨_, rfl⟩
      rw [← hq] at Hst
      simp only [← hq] at hps
      clear hq
      obtain ⟨id, tk, lv, pt, st, tr, rt, wt, nx⟩ := s
      unfold noVal at hps hid
      simp only at c0 c1 c2 c3 c4 c5 c6 c7 c8 hps hid
      have Hps := Lib.hid hps
      have Hidd := Lib.hid hid
      clear hps hid
      have i0 : (0 : Int) ≤ (i : Int) := by omega
      have i1 : (i : Int) < (l.length : Int) := by omega
      go_wp2_with fail
      refine (Hps.out _ (hb.alloc hb.size _)).mono ?_
      rintro e w2 ⟨rfl, hb2⟩
      have hB1 := below_on (below_new wr (.cells #[.int .u64 id, .int .u64 tk, .int .i64 lv, .int .i64 pt, .int .i64 st, .int .i64 tr, .int .i64 rt, .int .i64 wt, .int .i64 nx] 24)) hb2 (Nat.le_refl _)
      have hB2 := below_on hb hB1 (Nat.le_refl _)
      have hblk : w2.heap[wr.heap.size]? = some (.cells #[.int .u64 id, .int .u64 tk, .int .i64 lv, .int .i64 pt, .int .i64 st, .int .i64 tr, .int .i64 rt, .int .i64 wt, .int .i64 nx] 24 (0, 0)) := (hb2.block _ (by simp)).trans (heap_alloc_new _ _)
      have hown2 := own_below hown hB1
      cases q with
      | true =>
        have d0 := block_cell hblk 0
        have d1 := block_cell hblk 1
        have d2 := block_cell hblk 2
        have d3 := block_cell hblk 3
        have d4 := block_cell hblk 4
        have d5 := block_cell hblk 5
        have d6 := block_cell hblk 6
        have d7 := block_cell hblk 7
        have d8 := block_cell hblk 8
        simp at d0 d1 d2 d3 d4 d5 d6 d7 d8
        go_wp2_with fail
        refine (Hidd.out _).mono ?_
        rintro e w3 ⟨rfl, hb3⟩
        have hown3 := own_below hown2 hb3
        have hB3 := below_on hB2 hb3 (Nat.le_refl _)
        have hz3 := hB3.size
        have hol : (ids out).length = out.length := by simp [ids]
        have hout2 : Hid (out ++ [(⟨id, tk, lv, pt, st, tr, rt, wt, nx⟩ : No)] = (l.take (i + 1)).filter p) := by show _ = _; rw [Hst.out, ← hout.out]; rfl
        clear hol
        go_wp2_with (at_builtin; refine wpl_append_one rfl (.tmp 18) (.tmp 22) 47 rfl w.heap.size 22 infoU Try.underlying47 rfl (by decide) _ out.length ((ids out).map uCell) rfl (hown3.alloc _) _ 1 (uCell id) rfl rfl (news_at _ rfl) (by simp [uCell, Value.oneCell']) ?_ ?_ ?_ ?_; omega; (unfold maxLen; omega); (simp; omega); intro g4 c4 w4 hown4 hg4 hlie)
        have hB4 := below_app (hB3.alloc hz3 _) hg4 (hown3.alloc _) (Nat.le_refl _) (by simp; omega)
        go_roundw
        case rel =>
          exact ⟨i + 1, out ++ [(⟨id, tk, lv, pt, st, tr, rt, wt, nx⟩ : No)], by simp, by omega, by simp; omega, hout2, by simpa [ids] using hown4, hB4⟩
        case measure => simp [intOf]; omega
      | false =>
        have hout2 : Hid (out = (l.take (i + 1)).filter p) := by show _ = _; rw [Hst.out, ← hout.out]; simp
        go_wp2_with fail
        go_roundw
        case rel => exact ⟨i + 1, out, by simp, by omega, by omega, hout2, hown2, hB2⟩
        case measure => simp [intOf]; omega
    · have hi' : i = l.length := by omega
      subst hi'
      have he : F = out := by rw [HF.out, hout.out, List.take_length]
      go_wp2_with fail
      go_ret
      exact ⟨⟨oa, oc, by rw [he]; rfl, by rw [he]; exact hown⟩, hb⟩
set_option maxHeartbeats 2000000 in
theorem pickN_any (k : Nat) (caps : Array Value) (p : No → Bool) (eg : ∀ args w, (callFunc k args).run Try.prog w = .ok (.enter k args) w) (ao : Option Addr) (cap : Nat) (l : List No) (w : World) (hs : Ns w ao cap l) (hn : l.length ≤ 1000000)
    (hp : ∀ W n, Below w.heap.size w W → Calls Try.prog k (#[noVal n] ++ caps) W fun e W' => e = .returned (.bool (p n)) ∧ Below W.heap.size W W') :
    Calls Try.prog 56 #[.slice ao l.length cap, .func (.func k) #[] caps, .func (.func 58) #[] #[]] w fun e w' =>
      (∃ so sc, e = .returned (.slice so (l.filter p).length sc) ∧ w'.ownsRow w.heap.size 24 9 (.slice so (l.filter p).length sc) (l.filter p).length ((l.filter p).map noCells).flatten) ∧ Below w.heap.size w w' := by
  obtain ⟨F, hF⟩ : ∃ F, F = l.filter p := ⟨_, rfl⟩
  rw [← hF]
  have HF := Lib.hid hF
  clear hF
  go_enter Try.func56, Try.ntmps56
  go_wp2_with fail
  go_loopw [6, 11] (fun v u wr => ∃ (i : Nat) (out : List No), u = .int .i64 i ∧ i ≤ l.length ∧ out.length ≤ i ∧ Hid (out = (l.take i).filter p) ∧ wr.ownsRow w.heap.size 24 9 v out.length (out.map noCells).flatten ∧ Below w.heap.size w wr)
    (fun _ u _ => l.length - (intOf u).toNat)
  case atStart => exact ⟨0, [], rfl, Nat.zero_le _, Nat.le_refl _, rfl, World.ownsRow_nil _ _ _ _, Below.refl _ _⟩
  case round =>
    obtain ⟨i, out, rfl, hi, ho, hout, hown, hb⟩ := hrel
    obtain ⟨oa, oc, rfl⟩ := own_slice hown
    by_cases hlt : i < l.length
    · obtain ⟨b, off, rfl, c0, c1, c2, c3, c4, c5, c6, c7, c8⟩ := (hs.below hb).get i hlt
      have Hst := Lib.hid (filter_snocN p l i hlt)
      obtain ⟨s, hsd⟩ : ∃ s, s = l[i] := ⟨_, rfl⟩
      rw [← hsd] at c0 c1 c2 c3 c4 c5 c6 c7 c8 Hst
      clear hsd
      have hps := fun W h => hp W s h
      have hid := fun W => same_any s W
      obtain ⟨q, hq⟩ : ∃ q, q = p s := ⟨_, rfl⟩
      rw [← hq] at Hst
      simp only [← hq] at hps
      clear hq
      obtain ⟨id, tk, lv, pt, st, tr, rt, wt, nx⟩ := s
      unfold noVal at hps hid
      simp only at c0 c1 c2 c3 c4 c5 c6 c7 c8 hps hid
      have Hps := Lib.hid hps
      have Hidd := Lib.hid hid
      clear hps hid
      have i0 : (0 : Int) ≤ (i : Int) := by omega
      have i1 : (i : Int) < (l.length : Int) := by omega
      go_wp2_with fail
      refine (Hps.out _ (hb.alloc hb.size _)).mono ?_
      rintro e w2 ⟨rfl, hb2⟩
      have hB1 := below_on (below_new wr (.cells #[.int .u64 id, .int .u64 tk, .int .i64 lv, .int .i64 pt, .int .i64 st, .int .i64 tr, .int .i64 rt, .int .i64 wt, .int .i64 nx] 24)) hb2 (Nat.le_refl _)
      have hB2 := below_on hb hB1 (Nat.le_refl _)
      have hblk : w2.heap[wr.heap.size]? = some (.cells #[.int .u64 id, .int .u64 tk, .int .i64 lv, .int .i64 pt, .int .i64 st, .int .i64 tr, .int .i64 rt, .int .i64 wt, .int .i64 nx] 24 (0, 0)) := (hb2.block _ (by simp)).trans (heap_alloc_new _ _)
      have hown2 := own_below hown hB1
      cases q with
      | true =>
        have d0 := block_cell hblk 0
        have d1 := block_cell hblk 1
        have d2 := block_cell hblk 2
        have d3 := block_cell hblk 3
        have d4 := block_cell hblk 4
        have d5 := block_cell hblk 5
        have d6 := block_cell hblk 6
        have d7 := block_cell hblk 7
        have d8 := block_cell hblk 8
        simp at d0 d1 d2 d3 d4 d5 d6 d7 d8
        go_wp2_with fail
        refine (Hidd.out _).mono ?_
        rintro e w3 ⟨rfl, hb3⟩
        have hown3 := own_below hown2 hb3
        have hB3 := below_on hB2 hb3 (Nat.le_refl _)
        have hz3 := hB3.size
        have hout2 : Hid (out ++ [(⟨id, tk, lv, pt, st, tr, rt, wt, nx⟩ : No)] = (l.take (i + 1)).filter p) := by show _ = _; rw [Hst.out, ← hout.out]; rfl
        go_wp2_with (at_builtin; refine wpl_append_one rfl (.tmp 18) (.tmp 22) 42 rfl w.heap.size 24 infoNo Try.underlying42 rfl (by decide) _ out.length (out.map noCells) rfl (hown3.alloc _) _ 1 (noCells ⟨id, tk, lv, pt, st, tr, rt, wt, nx⟩) rfl rfl (news_at _ rfl) (no_one _) ?_ ?_ ?_ ?_; omega; (unfold maxLen; omega); (simp; omega); intro g4 c4 w4 hown4 hg4 hlie)
        have hB4 := below_app (hB3.alloc hz3 _) hg4 (hown3.alloc _) (Nat.le_refl _) (by simp; omega)
        go_roundw
        case rel =>
          exact ⟨i + 1, out ++ [(⟨id, tk, lv, pt, st, tr, rt, wt, nx⟩ : No)], by simp, by omega, by simp; omega, hout2, by simpa using hown4, hB4⟩
        case measure => simp [intOf]; omega
      | false =>
        have hout2 : Hid (out = (l.take (i + 1)).filter p) := by show _ = _; rw [Hst.out, ← hout.out]; simp
        go_wp2_with fail
        go_roundw
        case rel => exact ⟨i + 1, out, by simp, by omega, by omega, hout2, hown2, hB2⟩
        case measure => simp [intOf]; omega
    · have hi' : i = l.length := by omega
      subst hi'
      have he : F = out := by rw [HF.out, hout.out, List.take_length]
      go_wp2_with fail
      go_ret
      exact ⟨⟨oa, oc, by rw [he]; rfl, by rw [he]; exact hown⟩, hb⟩
/-- a box at block b, with its row v -/
structure Bx (W : World) (base b : Nat) (last : Int) (v : Value) (l : List No) : Prop where
  blk : W.heap[b]? = some (.cells #[.bool true, .int .u64 last, v] 62 (0, 0))
  own : W.ownsRow base 24 9 v l.length (l.map noCells).flatten
  le : base ≤ b
  ne : v.ownBlock ≠ some b
  sz : base ≤ W.heap.size
theorem Bx.below {W W' : World} {base b : Nat} {last : Int} {v : Value} {l : List No} (h : Bx W base b last v l) (hb : Below W.heap.size W W') : Bx W' base b last v l :=
  ⟨(hb.block b (Array.getElem?_eq_some_iff.1 h.blk).1).trans h.blk, own_below h.own hb, h.le, h.ne, Nat.le_trans h.sz hb.size⟩
theorem Bx.ns {W : World} {base b : Nat} {last : Int} {v : Value} {l : List No} (h : Bx W base b last v l) : ∃ ao cap, v = .slice ao l.length cap ∧ Ns W ao cap l := by
  obtain ⟨ao, cap, rfl⟩ := own_slice h.own
  exact ⟨ao, cap, rfl, Ns.of_own h.own⟩
theorem Bx.cells {W : World} {base b : Nat} {last : Int} {v : Value} {l : List No} (h : Bx W base b last v l) : W.cell? ⟨b, 0, none⟩ = some (.bool true) ∧ W.cell? ⟨b, 1, none⟩ = some (.int .u64 last) ∧ W.cell? ⟨b, 2, none⟩ = some v := by
  have c0 := block_cell h.blk 0
  have c1 := block_cell h.blk 1
  have c2 := block_cell h.blk 2
  simp at c0 c1 c2
  exact ⟨c0, c1, c2⟩
theorem own_addr {w : World} {base e size n cap : Nat} {ad : Addr} {xs : List Value} (h : w.ownsRow base e size (.slice (some ad) n cap) n xs) : ∃ g, ad = ⟨g, 0, none⟩ ∧ base ≤ g ∧ elem? w g = some e := by
  rcases h.2 with ⟨h', _⟩ | ⟨g', cap', cur, h', hb, hg, _⟩
  · simp at h'
  · simp only [Value.slice.injEq, Option.some.injEq] at h'
    exact ⟨g', h'.1, hb, elem?_of hg⟩
/-- one of the box's notices, where it lies -/
theorem Bx.at_ {W : World} {base b : Nat} {last : Int} {v : Value} {l : List No} (h : Bx W base b last v l) (i : Nat) (hi : i < l.length) :
    ∃ g cap, v = .slice (some ⟨g, 0, none⟩) l.length cap ∧ NoAt W g (i * 9) l[i] ∧ (∀ j, W.frozen? ⟨g, j, none⟩ = false) ∧ g ≠ b ∧ base ≤ g := by
  obtain ⟨ao, cap, rfl, hs⟩ := h.ns
  obtain ⟨g, off, rfl, hc⟩ := hs.get i hi
  obtain ⟨g', e, hb, -⟩ := own_addr h.own
  cases e
  rw [Nat.zero_add] at hc
  exact ⟨g, cap, rfl, hc, fun j => h.own.frozenAt j, fun e => h.ne (by rw [e]; rfl), hb⟩
theorem flatten_set {k : Nat} (u : Value) : ∀ (rows : List (List Value)), (∀ r ∈ rows, r.length = k) → ∀ (i j : Nat) (hi : i < rows.length), j < k → rows.flatten.set (i * k + j) u = (rows.set i (rows[i].set j u)).flatten := by
  intro rows
  induction rows with
  | nil => intro _ i j hi; simp at hi
  | cons r rows ih =>
    intro hr i j hi hj
    have h1 := hr r (by simp)
    cases i with
    | zero =>
      simp only [List.flatten_cons, Nat.zero_mul, Nat.zero_add, List.set_cons_zero, List.getElem_cons_zero]
      rw [List.set_append_left _ _ (by omega)]
    | succ i =>
      simp only [List.flatten_cons, List.set_cons_succ, List.getElem_cons_succ]
      rw [List.set_append_right _ _ (by rw [h1, Nat.succ_mul]; omega)]
      have e : (i + 1) * k + j - r.length = i * k + j := by rw [h1, Nat.succ_mul]; omega
      rw [e, ih (fun r hr' => hr r (by simp [hr'])) i j (by simpa using hi) hj]
/-- a row set in a list of rows -/
theorem rows_set (l : List No) (i : Nat) (hi : i < l.length) (r : List Value) (hr : r.length = 9) (j : Nat) (hj : j < 9) (u : Value) :
    ((l.map noCells).set i r).flatten.set (i * 9 + j) u = ((l.map noCells).set i (r.set j u)).flatten := by
  have hlen : i < ((l.map noCells).set i r).length := by simpa using hi
  rw [flatten_set u ((l.map noCells).set i r) (fun r' h' => by
    rcases List.mem_or_eq_of_mem_set h' with h | h
    · exact no_each l _ h
    · rw [h]; exact hr) i j hlen hj]
  simp
theorem rows_self (l : List No) (i : Nat) (hi : i < l.length) : (l.map noCells).flatten = ((l.map noCells).set i (noCells l[i])).flatten := by
  congr 1
  apply List.ext_getElem (by simp)
  intro k h1 h2
  rw [List.getElem_set]
  split
  · rename_i h; subst h; simp
  · rfl
/-- a whole notice stored -/
theorem Bx.stored {W : World} {base b : Nat} {last : Int} {v : Value} {l : List No} (h : Bx W base b last v l) (i : Nat) (hi : i < l.length) (n : No) {g cap : Nat} (hv : v = .slice (some ⟨g, 0, none⟩) l.length cap) :
    Bx (((((((((W.setCell ⟨g, i * 9, none⟩ (.int .u64 n.id)).setCell ⟨g, i * 9 + 1, none⟩ (.int .u64 n.tk)).setCell ⟨g, i * 9 + 2, none⟩ (.int .i64 n.lv)).setCell ⟨g, i * 9 + 3, none⟩ (.int .i64 n.pt)).setCell ⟨g, i * 9 + 4, none⟩ (.int .i64 n.st)).setCell ⟨g, i * 9 + 5, none⟩ (.int .i64 n.tr)).setCell ⟨g, i * 9 + 6, none⟩ (.int .i64 n.rt)).setCell ⟨g, i * 9 + 7, none⟩ (.int .i64 n.wt)).setCell ⟨g, i * 9 + 8, none⟩ (.int .i64 n.nx)) base b last v (l.set i n) ∧
    W.grownBy (((((((((W.setCell ⟨g, i * 9, none⟩ (.int .u64 n.id)).setCell ⟨g, i * 9 + 1, none⟩ (.int .u64 n.tk)).setCell ⟨g, i * 9 + 2, none⟩ (.int .i64 n.lv)).setCell ⟨g, i * 9 + 3, none⟩ (.int .i64 n.pt)).setCell ⟨g, i * 9 + 4, none⟩ (.int .i64 n.st)).setCell ⟨g, i * 9 + 5, none⟩ (.int .i64 n.tr)).setCell ⟨g, i * 9 + 6, none⟩ (.int .i64 n.rt)).setCell ⟨g, i * 9 + 7, none⟩ (.int .i64 n.wt)).setCell ⟨g, i * 9 + 8, none⟩ (.int .i64 n.nx)) (some g) := by
  subst hv
  have hgb : g ≠ b := fun e => h.ne (by rw [e]; rfl)
  have h0 := h.own
  obtain ⟨a1, b1⟩ := h0.stored (i * 9) (.int .u64 n.id)
  obtain ⟨a2, b2⟩ := a1.stored (i * 9 + 1) (.int .u64 n.tk)
  obtain ⟨a3, b3⟩ := a2.stored (i * 9 + 2) (.int .i64 n.lv)
  obtain ⟨a4, b4⟩ := a3.stored (i * 9 + 3) (.int .i64 n.pt)
  obtain ⟨a5, b5⟩ := a4.stored (i * 9 + 4) (.int .i64 n.st)
  obtain ⟨a6, b6⟩ := a5.stored (i * 9 + 5) (.int .i64 n.tr)
  obtain ⟨a7, b7⟩ := a6.stored (i * 9 + 6) (.int .i64 n.rt)
  obtain ⟨a8, b8⟩ := a7.stored (i * 9 + 7) (.int .i64 n.wt)
  obtain ⟨a9, b9⟩ := a8.stored (i * 9 + 8) (.int .i64 n.nx)
  have hg := grown_trans b1 (grown_trans b2 (grown_trans b3 (grown_trans b4 (grown_trans b5 (grown_trans b6 (grown_trans b7 (grown_trans b8 b9)))))))
  refine ⟨⟨(hg.block b (Array.getElem?_eq_some_iff.1 h.blk).1 (by simpa using hgb.symm)).trans h.blk, ?_, h.le, h.ne, Nat.le_trans h.sz hg.size⟩, hg⟩
  rw [List.length_set]
  have key : ((l.set i n).map noCells).flatten = ((((((((((l.map noCells).flatten.set (i * 9) (.int .u64 n.id)).set (i * 9 + 1) (.int .u64 n.tk)).set (i * 9 + 2) (.int .i64 n.lv)).set (i * 9 + 3) (.int .i64 n.pt)).set (i * 9 + 4) (.int .i64 n.st)).set (i * 9 + 5) (.int .i64 n.tr)).set (i * 9 + 6) (.int .i64 n.rt)).set (i * 9 + 7) (.int .i64 n.wt)).set (i * 9 + 8) (.int .i64 n.nx)) := by
    rw [rows_self l i hi]
    have e0 := rows_set l i hi (noCells l[i]) rfl 0 (by decide) (.int .u64 n.id)
    rw [Nat.add_zero] at e0
    rw [e0, rows_set l i hi _ rfl 1 (by decide), rows_set l i hi _ rfl 2 (by decide), rows_set l i hi _ rfl 3 (by decide), rows_set l i hi _ rfl 4 (by decide), rows_set l i hi _ rfl 5 (by decide), rows_set l i hi _ rfl 6 (by decide), rows_set l i hi _ rfl 7 (by decide), rows_set l i hi _ rfl 8 (by decide), List.map_set]
    rfl
  rw [key]
  exact a9
/-- below B only the box and its row have changed -/
structure Fr2 (B b : Nat) (v : Value) (W W' : World) : Prop where
  os : W'.os = W.os
  tape : W'.tape = W.tape
  output : W'.output = W.output
  size : W.heap.size ≤ W'.heap.size
  block : ∀ k, k < B → k ≠ b → v.ownBlock ≠ some k → W'.heap[k]? = W.heap[k]?
theorem Fr2.trans {B b : Nat} {v : Value} {W W1 W2 : World} (h : Fr2 B b v W W1) (h2 : Fr2 B b v W1 W2) : Fr2 B b v W W2 :=
  ⟨h2.os.trans h.os, h2.tape.trans h.tape, h2.output.trans h.output, Nat.le_trans h.size h2.size, fun k hk h3 h4 => (h2.block k hk h3 h4).trans (h.block k hk h3 h4)⟩
theorem Fr2.below {B b : Nat} {v : Value} {W W' : World} (h : Below W.heap.size W W') (hB : B ≤ W.heap.size) : Fr2 B b v W W' :=
  ⟨h.os, h.tape, h.output, h.size, fun k hk _ _ => h.block k (by omega)⟩
theorem Fr2.row {B b g : Nat} {v : Value} {W W' : World} (h : W.grownBy W' (some g)) (hv : v.ownBlock = some g) (hB : B ≤ W.heap.size) : Fr2 B b v W W' :=
  ⟨h.os, h.tape, h.output, h.size, fun k hk _ h4 => h.block k (by omega) (fun e => h4 (by rw [hv]; exact e.symm))⟩
theorem Fr2.new {B b r : Nat} {v : Value} {W W' : World} (h : W.grownBy W' (some r)) (hr : B ≤ r) (hB : B ≤ W.heap.size) : Fr2 B b v W W' :=
  ⟨h.os, h.tape, h.output, h.size, fun k hk _ h4 => h.block k (by omega) (fun e => by simp at e; omega)⟩
theorem Fr2.box {B b : Nat} {v : Value} {W W' : World} (h : W.grownBy W' (some b)) (hB : B ≤ W.heap.size) : Fr2 B b v W W' :=
  ⟨h.os, h.tape, h.output, h.size, fun k hk h3 _ => h.block k (by omega) (fun e => h3 (by simpa using e))⟩
theorem Fr2.below_of {B B0 b : Nat} {v : Value} {w W W' : World} (h : Fr2 B b v W W') (hb : Below B0 w W) (hB : B0 ≤ B) (h1 : B0 ≤ b) (h2 : ∀ k, v.ownBlock = some k → B0 ≤ k) (hw : B0 ≤ w.heap.size) : Below B0 w W' :=
  ⟨h.os.trans hb.os, h.tape.trans hb.tape, h.output.trans hb.output, Nat.le_trans hb.size h.size, fun k hk => (h.block k (by omega) (by omega) (fun e => by have := h2 k e; omega)).trans (hb.block k hk)⟩
/-- a foreign row is kept -/
theorem Fr2.ns {b : Nat} {v : Value} {W W' : World} {ao : Option Addr} {cap base : Nat} {last : Int} {l l2 : List No} (h : Fr2 W.heap.size b v W W') (hx : Bx W base b last v l2) (hs : Ns W ao cap l) (hne : ∀ a, ao = some a → v.ownBlock ≠ some a.block) : Ns W' ao cap l :=
  hs.kept fun k off s e h0 => by
    obtain ⟨T, ht, hf⟩ := hs.typ k off s e h0
    refine h.block k (elem?_lt ht) (fun e2 => ?_) (hne _ e)
    subst e2
    rw [elem?_of hx.blk] at ht
    simp only [Option.some.injEq] at ht
    subst ht
    exact absurd hf (by decide)
theorem Bx.grown {W W' : World} {base b r : Nat} {last : Int} {v : Value} {l : List No} (h : Bx W base b last v l) (hg : W.grownBy W' (some r)) (hb : r ≠ b) (hv : v.ownBlock ≠ some r) : Bx W' base b last v l :=
  ⟨(hg.block b (Array.getElem?_eq_some_iff.1 h.blk).1 (by simpa using hb.symm)).trans h.blk, by
    obtain ⟨h1, h2⟩ := h.own
    refine ⟨h1, ?_⟩
    rcases h2 with h2 | ⟨g, cap, cur, hv', hg', hh, r'⟩
    · exact .inl h2
    · refine .inr ⟨g, cap, cur, hv', hg', ?_, r'⟩
      rw [hg.block g (Array.getElem?_eq_some_iff.1 hh).1 (fun e => hv (by rw [hv']; exact e))]; exact hh, h.le, h.ne, Nat.le_trans h.sz hg.size⟩
theorem grown9 (W : World) (b o : Nat) (u0 u1 u2 u3 u4 u5 u6 u7 u8 : Value) : W.grownBy (((((((((W.setCell ⟨b, o, none⟩ u0).setCell ⟨b, o + 1, none⟩ u1).setCell ⟨b, o + 2, none⟩ u2).setCell ⟨b, o + 3, none⟩ u3).setCell ⟨b, o + 4, none⟩ u4).setCell ⟨b, o + 5, none⟩ u5).setCell ⟨b, o + 6, none⟩ u6).setCell ⟨b, o + 7, none⟩ u7).setCell ⟨b, o + 8, none⟩ u8) (some b) :=
  grown_trans (grown_set _ _ _ _) (grown_trans (grown_set _ _ _ _) (grown_trans (grown_set _ _ _ _) (grown_trans (grown_set _ _ _ _) (grown_trans (grown_set _ _ _ _) (grown_trans (grown_set _ _ _ _) (grown_trans (grown_set _ _ _ _) (grown_trans (grown_set _ _ _ _) (grown_set _ _ _ _))))))))
theorem none_bx {W : World} {base b : Nat} {last : Int} {v : Value} {l : List No} (h : Bx W base b last v l) :
    Calls Try.prog 36 #[.pointer (some ⟨b, 0, none⟩)] W fun e W' => e = .returned (.bool false) ∧ W = W' := by
  obtain ⟨c0, -, -⟩ := h.cells
  go_enter Try.func36, Try.ntmps36
  go_wp2
  go_ret
  exact ⟨rfl, rfl⟩
theorem new_bx (w : World) : Calls Try.prog 8 #[] w fun e w' => e = .returned (.pointer (some ⟨w.heap.size, 0, none⟩)) ∧ Bx w' w.heap.size w.heap.size 0 (.slice none 0 0) [] ∧ Below w.heap.size w w' := by
  go_enter Try.func8, Try.ntmps8
  go_wp2
  go_ret
  exact ⟨rfl, ⟨heap_alloc_new _ _, World.ownsRow_nil _ _ _ _, Nat.le_refl _, by simp [Value.ownBlock], by simp⟩, below_new _ _⟩
/-- where an ID stands -/
def placeN (l : List No) (id : Int) : Nat := l.findIdx (fun n => n.id == id)
theorem at_bx {W : World} {base b : Nat} {last : Int} {v : Value} {l : List No} (id : Int) (hn : l.length ≤ 1000000) (h : Bx W base b last v l) :
    Calls Try.prog 42 #[.pointer (some ⟨b, 0, none⟩), .int .u64 id] W fun e W' => e = .returned (if placeN l id < l.length then .tuple #[.int .i64 (placeN l id : Nat), .int .i64 0] else .tuple #[.int .i64 0, .int .i64 31]) ∧ Below W.heap.size W W' := by
  obtain ⟨c0, c1, c2⟩ := h.cells
  obtain ⟨ao, cap, rfl, hs⟩ := h.ns
  have hcell : (W.alloc (.cells #[.int .u64 id] 22)).cell? ⟨W.heap.size, 0, none⟩ = some (.int .u64 id) := by simp
  have hix := index_any 68 #[.pointer (some ⟨W.heap.size, 0, none⟩)] (fun n => n.id == id) (enters_of Try.func68 (by kernel_rfl) rfl) ao cap l (W.alloc (.cells #[.int .u64 id] 22)) (hs.below (below_new _ _)) hn
    (fun W2 n hb => at1_any n W.heap.size id W2 ((hb.cell (p := ⟨W.heap.size, 0, none⟩) (by simp)).trans hcell))
  have hN := none_bx (h.below (below_new W (.cells #[.int .u64 id] 22)))
  obtain ⟨z, hz⟩ : ∃ z, z = firstN l (fun n => n.id == id) := ⟨_, rfl⟩
  rw [← hz] at hix
  have hz2 : z = if placeN l id < l.length then (placeN l id : Int) else -1 := hz
  have e2 := ((below_new W (.cells #[.int .u64 id] 22)).cell (p := ⟨b, 2, none⟩) (cell?_lt c2)).trans c2
  obtain ⟨W1, hW1⟩ : ∃ W1, W1 = W.alloc (.cells #[.int .u64 id] 22) := ⟨_, rfl⟩
  have hb1 : Below W.heap.size W W1 := by rw [hW1]; exact below_new _ _
  rw [← hW1] at hix hN e2
  have Hix := Lib.hid hix
  have HN := Lib.hid hN
  clear hix hz hN hcell
  by_cases hp : placeN l id < l.length
  · rw [if_pos hp] at hz2
    rw [if_pos hp]
    generalize placeN l id = r at hz2 hp ⊢
    subst hz2
    go_enter Try.func42, Try.ntmps42
    go_wp2_with fail
    rw [← hW1]
    refine HN.out.mono ?_
    rintro e W2 ⟨rfl, rfl⟩
    clear hW1
    go_wp2_with fail
    refine Hix.out.mono ?_
    rintro e W2 ⟨rfl, hb2⟩
    have r0 : (0 : Int) ≤ (r : Int) := by omega
    go_wp2_with fail
    go_ret2
    exact ⟨rfl, below_on hb1 hb2 (Nat.le_refl _)⟩
  · rw [if_neg hp] at hz2
    rw [if_neg hp]
    subst hz2
    clear hp
    go_enter Try.func42, Try.ntmps42
    go_wp2_with fail
    rw [← hW1]
    refine HN.out.mono ?_
    rintro e W2 ⟨rfl, rfl⟩
    clear hW1
    go_wp2_with fail
    refine Hix.out.mono ?_
    rintro e W2 ⟨rfl, hb2⟩
    go_wp2_with fail
    go_ret2
    exact ⟨rfl, below_on hb1 hb2 (Nat.le_refl _)⟩
end Go.Proofs.Ytdcinhnplcipoaa
