/- Contract of the box's Put. No statement of the seat is proved here. -/
import Derived.Test.YtdcinhnplcipoaaObC
import Derived.Deep.RegionLawGrows
namespace Go.Proofs.Ytdcinhnplcipoaa
set_option linter.unusedVariables false
set_option linter.unusedSimpArgs false
set_option linter.unusedSectionVars false
open Go Go.RowKit Go.Shelf

def putN (last : Int) (n : No) (now : Int) : No := ⟨last + 1, n.tk, n.lv, n.pt, 1, 0, n.rt, n.wt, now⟩
/-- the first that does not wait -/
def restN (l : List No) : Nat := l.findIdx (fun n => !waitsB n)
theorem keep_app {W w3 : World} {o x : Obj} {b : Nat} {ob : Option Nat} (hb : W.heap[b]? = some x) (hg : ((W.alloc o).drew).grownBy w3 ob) (hne : ob ≠ some b) : w3.heap[b]? = some x := by
  have hlt := (Array.getElem?_eq_some_iff.1 hb).1
  have h1 : ((W.alloc o).drew).heap[b]? = W.heap[b]? := heap_alloc_old _ _ hlt
  exact (hg.block b (by show b < (W.alloc o).heap.size; simp; omega) (fun e => hne e.symm)).trans (h1.trans hb)
/-- what a Put leaves -/
def PutOk (base b : Nat) (last : Int) (v : Value) (W : World) (l' : List No) (e : Ending) (W' : World) : Prop :=
  ∃ v', e = .returned (.tuple #[.int .u64 (last + 1), .int .i64 0]) ∧ Bx W' base b (last + 1) v' l' ∧ Fr2 W.heap.size b v W W' ∧ (∀ k, v'.ownBlock = some k → v.ownBlock = some k ∨ W.heap.size ≤ k)
/-- the list with room for one more -/
def roomL (l : List No) : List No := if l.length < 128 then l else l.eraseIdx (restN l)
/-- a row that an append makes longer: the box's own, or one without room -/
def RowOk (W : World) (base : Nat) (v : Value) (l : List No) : Prop :=
  W.ownsRow base 24 9 v l.length (l.map noCells).flatten ∨ ∃ g, v = .slice (some ⟨g, 0, none⟩) l.length l.length ∧ Rw W 24 9 (some ⟨g, 0, none⟩) l.length l.length (l.map noCells)
theorem RowOk.slice {W : World} {base : Nat} {v : Value} {l : List No} (h : RowOk W base v l) : ∃ ao cap, v = .slice ao l.length cap := by
  rcases h with h | ⟨g, rfl, -⟩
  · exact own_slice h
  · exact ⟨_, _, rfl⟩
theorem rowOk_kept {W W' : World} {base r : Nat} {v : Value} {l : List No} {T : TypeId} (h : RowOk W base v l) (hg : W.grownBy W' (some r)) (hT : elem? W r = some T) (hne : T ≠ 24) : RowOk W' base v l := by
  rcases h with h | ⟨g, rfl, h⟩
  · left
    obtain ⟨h1, h2⟩ := h
    refine ⟨h1, ?_⟩
    rcases h2 with h2 | ⟨g, cap, cur, hv', hg', hh, r'⟩
    · exact .inl h2
    · refine .inr ⟨g, cap, cur, hv', hg', ?_, r'⟩
      rw [hg.block g (Array.getElem?_eq_some_iff.1 hh).1 (fun e => ?_)]; exact hh
      simp only [Option.some.injEq] at e
      subst e
      rw [elem?_of hh] at hT
      exact hne (by simpa using hT.symm)
  · exact .inr ⟨g, rfl, Rw.grown h hg hT hne⟩
theorem rowOk_new {W W' : World} {base r : Nat} {v : Value} {l : List No} (h : RowOk W base v l) (hg : W.grownBy W' (some r)) (hr : ∀ ao n cap, v = .slice ao n cap → ∀ a, ao = some a → a.block ≠ r) : RowOk W' base v l := by
  rcases h with h | ⟨g, rfl, h⟩
  · left
    obtain ⟨h1, h2⟩ := h
    refine ⟨h1, ?_⟩
    rcases h2 with h2 | ⟨g, cap, cur, hv', hg', hh, r'⟩
    · exact .inl h2
    · refine .inr ⟨g, cap, cur, hv', hg', ?_, r'⟩
      rw [hg.block g (Array.getElem?_eq_some_iff.1 hh).1 (fun e => hr _ _ _ hv' _ rfl (by simpa using e))]; exact hh
  · have key : W'.heap[g]? = W.heap[g]? := hg.block g (elem?_lt (h.typ g 0 none rfl)) (fun e => hr _ _ _ rfl _ rfl (by simpa using e))
    refine .inr ⟨g, rfl, h.num, h.each, ⟨h.sl.len, h.sl.le, h.sl.max, h.sl.none, fun j u hu => ?_⟩, fun k off s e => ?_⟩
    · obtain ⟨k, off, e, hc⟩ := h.sl.cell j u hu
      cases e
      exact ⟨g, 0, rfl, by rw [World.cell?_of_block (w := W) key]; exact hc⟩
    · cases e
      rw [elem?_same key]; exact h.typ g 0 none rfl
theorem erase_rows (l : List No) (i : Nat) (hi : i < l.length) : ((l.eraseIdx i).map noCells).flatten = ((l.map noCells).flatten.take (i * 9)) ++ ((l.map noCells).flatten.drop ((i + 1) * 9)) := by
  have hlen : ∀ m : List No, ((m.map noCells).flatten).length = m.length * 9 := by
    intro m
    induction m with
    | nil => rfl
    | cons x m ih => simp only [List.map_cons, List.flatten_cons, List.length_append, ih, List.length_cons]; show 9 + _ = _; omega
  have e1 : (l.map noCells).flatten = ((l.take i).map noCells).flatten ++ ((l.drop i).map noCells).flatten := by
    rw [← List.flatten_append, ← List.map_append, List.take_append_drop]
  have e2 : (l.map noCells).flatten = ((l.take (i + 1)).map noCells).flatten ++ ((l.drop (i + 1)).map noCells).flatten := by
    rw [← List.flatten_append, ← List.map_append, List.take_append_drop]
  have t1 : ((l.map noCells).flatten.take (i * 9)) = ((l.take i).map noCells).flatten := by
    rw [e1, List.take_append_of_le_length (by rw [hlen, List.length_take]; omega), List.take_of_length_le (by rw [hlen, List.length_take]; omega)]
  have t2 : ((l.map noCells).flatten.drop ((i + 1) * 9)) = ((l.drop (i + 1)).map noCells).flatten := by
    rw [e2, List.drop_append_of_le_length (by rw [hlen, List.length_take]; omega), List.drop_of_length_le (by rw [hlen, List.length_take]; omega), List.nil_append]
  rw [t1, t2, List.eraseIdx_eq_take_drop_succ, List.map_append, List.flatten_append]
theorem noRows_len (m : List No) : ((m.map noCells).flatten).length = m.length * 9 := by
  induction m with
  | nil => rfl
  | cons x m ih => simp only [List.map_cons, List.flatten_cons, List.length_append, ih, List.length_cons]; show 9 + _ = _; omega
theorem ns_piece {W : World} {g cap : Nat} {l : List No} (h : Ns W (some ⟨g, 0, none⟩) cap l) (a : Nat) : ∀ j u, ((l.map noCells).flatten.drop a)[j]? = some u → W.drew.cell? ((⟨g, a, none⟩ : Addr).add j) = some u := by
  intro j u hu
  rw [List.getElem?_drop] at hu
  obtain ⟨b, off, e, hc⟩ := h.sl.cell _ u hu
  cases e
  rw [Addr.add_none]
  rw [Nat.zero_add] at hc
  exact hc
theorem ns_head {W : World} {g cap : Nat} {l : List No} (h : Ns W (some ⟨g, 0, none⟩) cap l) (a : Nat) : ∀ b, some (⟨g, 0, none⟩ : Addr) = some b → ∀ j u, ((l.map noCells).flatten.take a)[j]? = some u → W.drew.cell? (b.add j) = some u := by
  intro b hb j u hu
  cases hb
  rw [List.getElem?_take] at hu
  split at hu
  · obtain ⟨b, off, e, hc⟩ := h.sl.cell _ u hu
    cases e
    rw [Addr.add_none]
    exact hc
  · cases hu
theorem ns_all {W : World} {g cap : Nat} {l : List No} (h : Ns W (some ⟨g, 0, none⟩) cap l) (o : Obj) : ∀ b, some (⟨g, 0, none⟩ : Addr) = some b → ∀ j u, ((l.map noCells).flatten)[j]? = some u → ((W.alloc o).drew).cell? (b.add j) = some u := by
  intro b hb j u hu
  cases hb
  obtain ⟨b, off, e, hc⟩ := (h.below (below_new W o)).sl.cell _ u hu
  cases e
  rw [Addr.add_none]
  exact hc
theorem own_some {w : World} {base e size n cap : Nat} {ao : Option Addr} {xs : List Value} (h : w.ownsRow base e size (.slice ao n cap) n xs) (hn : 0 < n) : ∃ g, ao = some ⟨g, 0, none⟩ ∧ base ≤ g := by
  rcases h.2 with ⟨h', h0⟩ | ⟨g', cap', cur, h', hb, hg, _⟩
  · omega
  · simp only [Value.slice.injEq] at h'
    exact ⟨g', h'.1, hb⟩
/-- the end of a Put -/
theorem put_fin {W W6 w3 : World} {base b gg cc : Nat} {last : Int} {v : Value} {ao1 : Option Addr} {cap1 : Nat} {l1 : List No} {N : No} {o : Obj} {W0 : Nat} (hb0 : base ≤ b) (hvb : v.ownBlock ≠ some b) (hbW : b < W.heap.size) (hW0 : W0 = W.heap.size)
    (hfr6 : Fr2 W.heap.size b v W W6) (hown : ∀ a, ao1 = some a → a.block ≠ W.heap.size ∧ (v.ownBlock = some a.block ∨ W.heap.size ≤ a.block))
    (hblk3 : w3.heap[b]? = some (.cells #[.bool true, .int .u64 (last + 1), .slice ao1 l1.length cap1] 62 (0, 0))) (hsz : base ≤ W6.heap.size) (hz : W.heap.size ≤ W6.heap.size)
    (hown3 : w3.ownsRow base 24 9 (.slice (some ⟨gg, 0, none⟩) (l1.length + 1) cc) (l1.length + 1) ((l1.map noCells) ++ [noCells N]).flatten)
    (hg3 : ((W6.alloc o).drew).grownBy w3 (Value.slice ao1 l1.length cap1).ownBlock) (hlie : (Value.slice ao1 l1.length cap1).ownBlock = some gg ∨ W0 ≤ gg) :
    PutOk base b last v W (l1 ++ [N]) (.returned (.tuple #[.int .u64 (last + 1), .int .i64 0])) (w3.setCell ⟨b, 2, none⟩ (.slice (some ⟨gg, 0, none⟩) (l1.length + 1) cc)) := by
  subst hW0
  have gb := grown_set w3 b 2 (.slice (some ⟨gg, 0, none⟩) (l1.length + 1) cc)
  have p2 := block_set hblk3 2 (.slice (some ⟨gg, 0, none⟩) (l1.length + 1) cc)
  simp only [List.setIfInBounds_toArray, List.set_cons_zero, List.set_cons_succ] at p2
  have hs3 : W6.heap.size ≤ w3.heap.size := by have h1 := hg3.size; have h2 : (W6.alloc o).drew.heap.size = W6.heap.size + 1 := by (show (W6.alloc o).heap.size = _; simp)
                                               omega
  have hgg : gg ≠ b := by
    intro e
    rcases hlie with h | h
    · cases ao1 with
      | none => simp [Value.ownBlock] at h
      | some a =>
        simp only [Value.ownBlock, Option.some.injEq] at h
        rcases (hown a rfl).2 with h6 | h6
        · exact hvb (by rw [h6, h, e])
        · omega
    · omega
  have how := ownsRow_setCell_other hown3 (a := ⟨b, 2, none⟩) (by simp [Value.ownBlock]; exact hgg) (.slice (some ⟨gg, 0, none⟩) (l1.length + 1) cc)
  refine ⟨_, rfl, ⟨p2, ?_, hb0, by simp [Value.ownBlock]; exact hgg, by have := gb.size; omega⟩, ?_, ?_⟩
  · have e : (l1 ++ [N]).length = l1.length + 1 := by simp
    rw [e, List.map_append]
    exact how
  · refine hfr6.trans (Fr2.trans ⟨hg3.os, hg3.tape, hg3.output, hs3, fun k hk h3 h4 => ?_⟩ (Fr2.box gb (by omega)))
    have h5 : ((W6.alloc o).drew).heap[k]? = W6.heap[k]? := heap_alloc_old _ _ (by omega)
    refine (hg3.block k (by show k < (W6.alloc o).heap.size; simp; omega) (fun e => ?_)).trans h5
    cases ao1 with
    | none => simp [Value.ownBlock] at e
    | some a =>
      simp only [Value.ownBlock, Option.some.injEq] at e
      rcases (hown a rfl).2 with h6 | h6
      · exact h4 (by rw [h6, e])
      · omega
  · intro k hk
    simp only [Value.ownBlock, Option.some.injEq] at hk
    subst hk
    rcases hlie with h | h
    · cases ao1 with
      | none => simp [Value.ownBlock] at h
      | some a =>
        simp only [Value.ownBlock, Option.some.injEq] at h
        rw [← h]
        exact (hown a rfl).2
    · exact .inr h
set_option maxRecDepth 100000 in
set_option maxHeartbeats 4000000 in
theorem put_ok {W : World} {base b : Nat} {last : Int} {v : Value} {l : List No} (n : No) (now : Int) (hn : l.length ≤ 128) (hfull : l.length = 128 → restN l < 128) (h : Bx W base b last v l) (hi : instB now = true) (hf : fitsN n = true) (h0 : 0 ≤ last) (h1 : last < 1152921504606846976) :
    Calls Try.prog 9 #[.pointer (some ⟨b, 0, none⟩), noVal n, .int .i64 now] W (PutOk base b last v W (roomL l ++ [putN last n now])) := by
  have hin := fun W => inst_any now W
  rw [hi] at hin
  have hfi := fun W => fits_any n W
  rw [hf] at hfi
  clear hi hf
  obtain ⟨ao, cap, rfl, -⟩ := h.ns
  obtain ⟨N, hN⟩ : ∃ N, N = putN last n now := ⟨_, rfl⟩
  obtain ⟨l1, hl1⟩ : ∃ l1, l1 = roomL l := ⟨_, rfl⟩
  rw [← hN, ← hl1]
  have hl1n : l1.length < 128 := by
    rw [hl1]; unfold roomL
    split
    · omega
    · have := hfull (by omega)
      rw [List.length_eraseIdx]
      split <;> omega
  have HN := Lib.hid hN
  have Hl1 := Lib.hid hl1
  clear hN hl1
  obtain ⟨sid, tk, lv, pt, st, tr, rt, wt, nx⟩ := n
  unfold noVal at hfi ⊢
  simp only at hfi ⊢
  have Hfi := Lib.hid hfi
  have Hin := Lib.hid hin
  have Hfull := Lib.hid hfull
  clear hfi hin hfull
  have hbW := (Array.getElem?_eq_some_iff.1 h.blk).1
  have e1 : IntKind.u64.wrap (last + 1) = last + 1 := IntWalk.u64_in _ (by omega)
  have hi0 : (0 : Int) ≤ (l.length : Int) := by omega
  go_enter Try.func9, Try.ntmps9
  go_wp2_with fail
  refine (none_bx (h.below (below_new _ _))).mono ?_
  rintro e W1 ⟨rfl, rfl⟩
  go_wp2_with fail
  refine (Hin.out _).mono ?_
  rintro e W1 ⟨rfl, rfl⟩
  go_wp2_with fail
  refine (Hfi.out _).mono ?_
  rintro e W2 ⟨rfl, hb2⟩
  have hr := alloc_after hb2
  have hB2 := below_on (below_new W _) hb2 (Nat.le_refl _)
  have h2 := h.below hB2
  have hrlt := (Array.getElem?_eq_some_iff.1 hr).1
  clear hb2
  obtain ⟨x0, x1, x2⟩ := h2.cells
  go_upto_if 32 with fail
  have hrow2 : RowOk W2 base (.slice ao l.length cap) l := .inl h2.own
  go_cut [2] (fun vv wx => vv = .int .i64 now ∧ ∃ ao1 cap1, wx.heap[b]? = some (.cells #[.bool true, .int .u64 last, .slice ao1 l1.length cap1] 62 (0, 0)) ∧ wx.heap[W.heap.size]? = some (.cells #[.int .u64 sid, .int .u64 tk, .int .i64 lv, .int .i64 pt, .int .i64 st, .int .i64 tr, .int .i64 rt, .int .i64 wt, .int .i64 nx] 24 (0, 0)) ∧ Fr2 W.heap.size b (.slice ao l.length cap) W wx ∧ RowOk wx base (.slice ao1 l1.length cap1) l1 ∧ (∀ a, ao1 = some a → a.block ≠ W.heap.size ∧ ((Value.slice ao l.length cap).ownBlock = some a.block ∨ W.heap.size ≤ a.block)) ∧ base ≤ wx.heap.size)
  case first =>
    by_cases hlt : l.length < 128
    · have hll : l1 = l := by rw [Hl1.out]; unfold roomL; rw [if_pos hlt]
      go_wp2_with fail
      go_meet
      rw [hll]
      refine ⟨rfl, ao, cap, h2.blk, hr, Fr2.below hB2 (Nat.le_refl _), hrow2, fun a ha => ⟨?_, .inl (by rw [ha]; rfl)⟩, h2.sz⟩
      have := (h.own.lt a.block (by rw [ha]; rfl)).2
      omega
    · have hl128 : l.length = 128 := by omega
      have hrest := Hfull.out hl128
      have hix := index_any 40 #[] (fun n => !waitsB n) (enters_of Try.func40 (by kernel_rfl) rfl) ao cap l W2 (Ns.of_own h2.own) (by omega) (fun W3 n hb => put1_any n W3)
      have hz : firstN l (fun n => !waitsB n) = (restN l : Nat) := by unfold firstN; rw [if_pos (by show restN l < l.length; omega)]; rfl
      rw [hz] at hix
      obtain ⟨i, hi⟩ : ∃ i, i = restN l := ⟨_, rfl⟩
      rw [← hi] at hix hrest
      have Hi := Lib.hid hi
      have Hix := Lib.hid hix
      clear hz hi hix
      have Hl128 := Lib.hid hl128
      have n0 : (128 : Int) ≤ (l.length : Int) := by omega
      clear hl128 hlt
      go_wp2_with fail
      refine Hix.out.mono ?_
      rintro e W3 ⟨rfl, hb3⟩
      have h3 := h2.below hb3
      have hr3 : W3.heap[W.heap.size]? = _ := (hb3.block _ hrlt).trans hr
      have hB3 := below_on hB2 hb3 (Nat.le_refl _)
      obtain ⟨g, cap', hv, -, hfz, hgb, hbg⟩ := h3.at_ i (by have := Hl128.out; omega)
      cases hv
      clear x0 x1 x2
      obtain ⟨x0, x1, x2⟩ := h3.cells
      have i0 : (0 : Int) ≤ (i : Int) := by omega
      have hcap := (Ns.of_own h3.own).sl.le
      have i1 : (i : Int) ≤ (cap : Int) := by have := Hl128.out; omega
      have i2 : (0 : Int) ≤ (i : Int) + 1 := by omega
      have i5 : (i : Int) ≤ (i : Int) + 1 := by omega
      have i3 : (i : Int) + 1 ≤ (l.length : Int) := by omega
      have s2 : IntKind.i64.wrap ((i : Int) + 1) = (i : Int) + 1 := IntWalk.i64_in _ (by omega)
      have hns3 := Ns.of_own h3.own
      have hlt3 := Hl128.out
      by_cases hi127 : i < 127
      · have hce : ¬ cap = i + 1 := by omega
        have hll : l1 = l.eraseIdx i := by rw [Hl1.out, Hi.out]; unfold roomL; rw [if_neg (by omega)]
        have hlen1 : i + (l.length - (i + 1)) = l1.length := by rw [hll, List.length_eraseIdx, if_pos (by omega)]; omega
        have her := erase_rows l i (by omega)
        have hp1 := ns_piece hns3 ((i + 1) * 9)
        have hp0 := ns_head hns3 (i * 9)
        have hlo : ((l.map noCells).flatten.take (i * 9)).length = i * 9 := by rw [List.length_take, noRows_len]; omega
        have hln : ((l.map noCells).flatten.drop ((i + 1) * 9)).length = (l.length - (i + 1)) * 9 := by rw [List.length_drop, noRows_len]; omega
        have hone : ∀ u ∈ ((l.map noCells).flatten.drop ((i + 1) * 9)), u.oneCell' = true := fun u hu => nos_one l u (List.mem_of_mem_drop hu)
        have hgrow : i < i + (l.length - (i + 1)) := by omega
        have hmx : i + (l.length - (i + 1)) ≤ maxLen := by unfold maxLen; omega
        have hby : (i + (l.length - (i + 1))) * 72 ≤ 140737488355328 := by omega
        obtain ⟨io, ho1, ho2, ho3, ho4⟩ := info_parts infoNo
        have hfz2 := block_free h3.blk 2
        have hbz : b < W3.heap.size := (Array.getElem?_eq_some_iff.1 h3.blk).1
        have hblk3 := h3.blk
        have HH : Hid (l.length = 128) := hlt3
        have HL := Lib.hid hlen1
        have HLL := Lib.hid hll
        have HER := Lib.hid her
        have HLO := Lib.hid hlo
        have HLN := Lib.hid hln
        clear hlt3 hlen1 hll her hlo hln
        go_wp2_with fail
        go_region_law ((refine step_append_grows (by rfl) (.tmp 47) (.tmp 54) 42 (by rfl) 24 io _ 9 72 Try.underlying42 ho1 ho2 ho3 ho4 (by rfl) (by decide) (some ⟨g, 0, none⟩) i i _ (by rfl) (fun e => by cases e) HLO.out hp0 ⟨g, (i + 1) * 9, none⟩ (l.length - (i + 1)) (cap - (i + 1)) _ (by rfl) HLN.out hp1 hone hgrow hmx hby ?_; intro v4 W4 hown4 hg4; obtain ⟨ao4, cap4, rfl⟩ := own_slice hown4; have hblk4 := (hg4.block b hbz (fun e => by cases e)).trans hblk3; have xx2 := block_cell hblk4 2; have zz2 := block_free hblk4 2; simp at xx2))
        all_goals
          have hz3 : W.heap.size < W3.heap.size := by have := hb3.size; omega
          have hsz3 := h3.sz
          have hown5 : W4.ownsRow base 24 9 (.slice ao4 l1.length cap4) l1.length (l1.map noCells).flatten := by
            have h5 := own_base (base' := base) hown4 hsz3
            rw [HL.out] at h5
            rw [HLL.out, HER.out, ← HLL.out]
            exact h5
          have hB4 : Below W3.heap.size W3 W4 := ⟨hg4.os, hg4.tape, hg4.output, hg4.size, fun k hk => hg4.block k hk (by simp)⟩
          have hr4 : W4.heap[W.heap.size]? = _ := (hB4.block _ hz3).trans hr3
          have hz4 := hB4.size
          go_wp2_with fail
          go_meet
          rw [HL.out]
          have gb := grown_set W4 b 2 (.slice ao4 l1.length cap4)
          have p2 := block_set hblk4 2 (.slice ao4 l1.length cap4)
          simp only [List.setIfInBounds_toArray, List.set_cons_zero, List.set_cons_succ] at p2
          refine ⟨rfl, ao4, cap4, p2, (gb.block _ (by omega) (by simp; omega)).trans hr4, (Fr2.below hB3 (Nat.le_refl _)).trans ((Fr2.below hB4 (by omega)).trans (Fr2.box gb (by omega))), rowOk_kept (.inl hown5) gb (elem?_of hblk4) (by decide), fun a ha => ?_, ?_⟩
          · have hl4 := (hown4.lt a.block (by rw [ha]; rfl)).1
            have hl5 : W3.heap.size ≤ a.block := hl4
            exact ⟨by omega, .inr (by omega)⟩
          · have := gb.size
            omega
      · have hi127' : i = 127 := by omega
        have hm0 : l.length - (i + 1) = 0 := by omega
        have hll : l1 = l.eraseIdx i := by rw [Hl1.out, Hi.out]; unfold roomL; rw [if_neg (by omega)]
        have hl1t : l1 = l.take i := by rw [hll, List.eraseIdx_eq_take_drop_succ, List.drop_of_length_le (by omega), List.append_nil]
        have hl1i : l1.length = i := by rw [hl1t, List.length_take]; omega
        have hfz2 := block_free h3.blk 2
        have hblk3 := h3.blk
        have hbz : b < W3.heap.size := (Array.getElem?_eq_some_iff.1 h3.blk).1
        have hns1 : Rw W3 24 9 (some ⟨g, 0, none⟩) i i (l1.map noCells) := by
          refine ⟨by rw [List.length_map]; exact hl1i, no_each l1, ⟨by rw [noRows_len, hl1i], by omega, by unfold maxLen; omega, (fun e => (by cases e)), fun j u hu => ?_⟩, (Ns.rw_own h3.own).typ⟩
          have e : (l1.map noCells).flatten = (l.map noCells).flatten.take (i * 9) := by
            have := erase_rows l i (by omega)
            rw [← hll] at this
            rw [this, List.drop_of_length_le (by rw [noRows_len]; omega), List.append_nil]
          rw [e, List.getElem?_take] at hu
          split at hu
          · exact hns3.sl.cell j u hu
          · cases hu
        have HM0 := Lib.hid hl1i
        have hglt := (h.own.lt g rfl).2
        by_cases hce : cap = i + 1
        all_goals
          clear hl1i hl1t hll hi127' hlt3
          go_wp2_with fail
          go_region_law (fail)
          all_goals
            have hz3 : W.heap.size < W3.heap.size := by have := hb3.size; omega
            have hsz3 := h3.sz
            go_wp2_with fail
            go_meet
            have hv : Value.slice (some ⟨g, 0, none⟩) i i = .slice (some ⟨g, 0, none⟩) l1.length l1.length := by rw [HM0.out]
            rw [hv]
            have gb := grown_drew (grown_set W3 b 2 (.slice (some ⟨g, 0, none⟩) l1.length l1.length))
            have p2 : ((W3.setCell ⟨b, 2, none⟩ (.slice (some ⟨g, 0, none⟩) l1.length l1.length)).drew).heap[b]? = _ := block_set hblk3 2 (.slice (some ⟨g, 0, none⟩) l1.length l1.length)
            simp only [List.setIfInBounds_toArray, List.set_cons_zero, List.set_cons_succ] at p2
            have hns4 : Rw W3 24 9 (some ⟨g, 0, none⟩) l1.length l1.length (l1.map noCells) := by
              have := hns1
              rw [← HM0.out] at this
              exact this
            refine ⟨rfl, some ⟨g, 0, none⟩, l1.length, p2, (gb.block _ hz3 (by simp; omega)).trans hr3, (Fr2.below hB3 (Nat.le_refl _)).trans (Fr2.box gb (by omega)), rowOk_kept (.inr ⟨g, rfl, hns4⟩) gb (elem?_of hblk3) (by decide), fun a ha => ?_, ?_⟩
            · cases ha
              exact ⟨by show g ≠ W.heap.size; omega, .inl rfl⟩
            · have := gb.size
              omega
  case rest =>
    obtain ⟨rfl, ao1, cap1, hblk, hr2, hfr, hrow, hown, hsz⟩ := hcut
    obtain ⟨W5, hW5⟩ : ∃ W5, W5 = wc := ⟨_, rfl⟩
    rw [← hW5] at hblk hr2 hfr hrow hsz ⊢
    clear hW5 x0 x1 x2 hr hB2 h2 hrlt hrow2
    have hrlt := (Array.getElem?_eq_some_iff.1 hr2).1
    have x1 := block_cell hblk 1
    have y1 := block_free hblk 1
    simp at x1
    have p1 := block_set hblk 1 (.int .u64 (last + 1))
    simp only [List.setIfInBounds_toArray, List.set_cons_zero, List.set_cons_succ] at p1
    have g1 := grown_set W5 b 1 (.int .u64 (last + 1))
    have hr1 := (g1.block _ hrlt (by simp; omega)).trans hr2
    have hrow1 := rowOk_kept hrow g1 (elem?_of hblk) (by decide)
    go_upto_region 13 with fail
    obtain ⟨W3, hW3⟩ : ∃ W3, W3 = W5.setCell ⟨b, 1, none⟩ (.int .u64 (last + 1)) := ⟨_, rfl⟩
    rw [← hW3] at p1 g1 hr1 hrow1
    rw [← hW3]
    clear hW3 x1 y1 hr2
    have x1 := block_cell p1 1
    simp at x1
    obtain ⟨q0, q1, q2, q3, q4, q5, q6, q7, q8⟩ := blk9 hr1
    obtain ⟨z0, z1, z2, z3, z4, z5, z6, z7, z8⟩ := blk9z hr1
    have s0 := block_set hr1 0 (.int .u64 (last + 1))
    have s4 := block_set s0 4 (.int .i64 1)
    have s5 := block_set s4 5 (.int .i64 0)
    have s8 := block_set s5 8 (.int .i64 now)
    simp only [List.setIfInBounds_toArray, List.set_cons_zero, List.set_cons_succ] at s8
    have g3 := grown_trans (grown_set W3 W.heap.size 0 (.int .u64 (last + 1))) (grown_trans (grown_set _ W.heap.size 4 (.int .i64 1)) (grown_trans (grown_set _ W.heap.size 5 (.int .i64 0)) (grown_set _ W.heap.size 8 (.int .i64 now))))
    clear s0 s4 s5
    go_upto_region 14 with fail
    obtain ⟨W6, hW6⟩ : ∃ W6, W6 = (((W3.setCell ⟨W.heap.size, 0, none⟩ (.int .u64 (last + 1))).setCell ⟨W.heap.size, 4, none⟩ (.int .i64 1)).setCell ⟨W.heap.size, 5, none⟩ (.int .i64 0)).setCell ⟨W.heap.size, 8, none⟩ (.int .i64 now) := ⟨_, rfl⟩
    rw [← hW6] at s8 g3
    rw [← hW6]
    clear hW6 x1 q0 q1 q2 q3 q4 q5 q6 q7 q8 z0 z1 z2 z3 z4 z5 z6 z7 z8
    have hz53 := g1.size
    have hz36 := g3.size
    have p6 : W6.heap[b]? = _ := (g3.block b (by omega) (by simp; omega)).trans p1
    have hrow6 : RowOk W6 base (.slice ao1 l1.length cap1) l1 := rowOk_new hrow1 g3 (fun ao n cap e a ha => by cases e; exact (hown a ha).1)
    have hfr6 : Fr2 W.heap.size b (.slice ao l.length cap) W W6 := hfr.trans ((Fr2.box g1 (by omega)).trans (Fr2.new g3 (Nat.le_refl _) (by omega)))
    obtain ⟨q0, q1, q2, q3, q4, q5, q6, q7, q8⟩ := blk9 s8
    have x2 := block_cell p6 2
    have x1 := block_cell p6 1
    simp at x1 x2
    have hbz : b < W6.heap.size := by omega
    clear hrow hrow1 hblk p1 hr1 g1 g3 hfr
    have hNc : noCells N = [.int .u64 (last + 1), .int .u64 tk, .int .i64 lv, .int .i64 pt, .int .i64 1, .int .i64 0, .int .i64 rt, .int .i64 wt, .int .i64 now] := by rw [HN.out]; rfl
    have HNc := Lib.hid hNc
    clear hNc
    have hne1 : (Value.slice ao1 l1.length cap1).ownBlock ≠ some b := by
      intro e
      cases ao1 with
      | none => simp [Value.ownBlock] at e
      | some a =>
        simp only [Value.ownBlock, Option.some.injEq] at e
        rcases (hown a rfl).2 with h6 | h6
        · exact h.ne (by rw [h6, e])
        · omega
    rcases hrow6 with how6 | ⟨g, hv, hns6⟩
    · go_region_law ((refine step_append_one (by rfl) (.tmp 78) (.tmp 80) 42 (by rfl) base 24 infoNo Try.underlying42 (by rfl) (by decide) (.slice ao1 l1.length cap1) l1.length (l1.map noCells) (by rfl) ((how6.alloc _).drew) ⟨W6.heap.size, 0, none⟩ 1 (noCells N) (by rfl) (by rfl) (by rw [HNc.out]; exact news_at _ rfl) (no_one N) (by omega) (by unfold maxLen; omega) (by simp; omega) ?_; intro gg cc w3 hown3 hg3 hlie; have hblk3 := keep_app p6 hg3 hne1; have xx2 := block_cell hblk3 2; have zz2 := block_free hblk3 2; simp at xx2))
      all_goals
        have xx1 := block_cell hblk3 1
        simp at xx1
        go_wp2_with fail
        refine bodyPost_ret (v := .tuple #[.int .u64 (last + 1), .int .i64 0]) (by simp [results, Try.results9, go_sem]) rfl ?_
        exact put_fin h.le h.ne hbW rfl hfr6 hown hblk3 (by omega) (by omega) hown3 hg3 (hlie.imp id (fun e => by rw [e]; show _ ≤ ((W6.alloc _).heap.size); simp; omega))
    · simp only [Value.slice.injEq] at hv
      obtain ⟨rfl, -, rfl⟩ := hv
      have hall := ns_all (Ns.of_rw hns6)
      obtain ⟨io, ho1, ho2, ho3, ho4⟩ := info_parts infoNo
      have HRL := Lib.hid (noRows_len l1)
      have hgrow : l1.length < l1.length + 1 := by omega
      have hmx : l1.length + 1 ≤ maxLen := by unfold maxLen; omega
      have hby : (l1.length + 1) * 72 ≤ 140737488355328 := by omega
      go_region_law ((refine step_append_grows (by rfl) (.tmp 78) (.tmp 80) 42 (by rfl) 24 io _ 9 72 Try.underlying42 ho1 ho2 ho3 ho4 (by rfl) (by decide) (some ⟨g, 0, none⟩) l1.length l1.length _ (by rfl) (fun e => by cases e) HRL.out (hall _) ⟨W6.heap.size, 0, none⟩ 1 1 (noCells N) (by rfl) (by rfl) (by rw [HNc.out]; exact news_at _ rfl) (no_one N) hgrow hmx hby ?_; intro v4 w3 hown3 hg3; obtain ⟨ao4, cap4, rfl⟩ := own_slice hown3; have hblk3 := keep_app p6 hg3 (fun e => by cases e); have xx2 := block_cell hblk3 2; have zz2 := block_free hblk3 2; simp at xx2))
      all_goals
        have xx1 := block_cell hblk3 1
        simp at xx1
        obtain ⟨gg, hgg, hgb⟩ := own_some hown3 (by omega)
        subst hgg
        have hsA : W6.heap.size ≤ (W6.alloc (.cells #[.int .u64 (last + 1), .int .u64 tk, .int .i64 lv, .int .i64 pt, .int .i64 1, .int .i64 0, .int .i64 rt, .int .i64 wt, .int .i64 now] 24)).heap.size := by simp
        have hgb2 : W6.heap.size ≤ gg := Nat.le_trans hsA hgb
        have hown5 := own_base (base' := base) hown3 (by show base ≤ (W6.alloc _).heap.size; omega)
        go_wp2_with fail
        refine bodyPost_ret (v := .tuple #[.int .u64 (last + 1), .int .i64 0]) (by simp [results, Try.results9, go_sem]) rfl ?_
        exact put_fin h.le h.ne hbW rfl hfr6 hown hblk3 (by omega) (by omega) (by rw [List.flatten_append]; simpa using hown5) ⟨hg3.os, hg3.tape, hg3.output, hg3.size, fun k hk _ => hg3.block k hk (by simp)⟩ (.inr (by omega))
end Go.Proofs.Ytdcinhnplcipoaa
