/- Lemmas for WireReads (Nw Nb Nc). No statement of the seat is proved here. -/
import Derived.Test.YtlphpjgiaflfkaaWv8
namespace Go.Proofs.Ytlphpjgiaflfkaa
set_option linter.unusedVariables false
set_option linter.unusedSimpArgs false
set_option linter.unusedSectionVars false
open Go Go.RowKit Go.Shelf
/-- a writer begun behind W0, that has written l, at most n bytes -/
structure WS (W0 W : World) (p : Nat) (l : List UInt8) (n : Nat) : Prop where
  wr : ∃ v, Wr W W0.heap.size p v l
  bel : Below W0.heap.size W0 W
  len : l.length ≤ n
theorem WS.new (W : World) : WS W (W.alloc (.cells #[.slice none 0 0] 99)) W.heap.size [] 0 := ⟨⟨_, Wr.new W⟩, below_new _ _, by simp⟩
theorem WS.below {W0 W W' : World} {p n : Nat} {l : List UInt8} (h : WS W0 W p l n) (hb : Below W.heap.size W W') : WS W0 W' p l n := by
  obtain ⟨⟨v, hv⟩, h2, h3⟩ := h
  exact ⟨⟨v, hv.below hb⟩, below_on h2 hb (Nat.le_refl _), h3⟩
theorem WS.wrote {W0 W W1 W' : World} {p n m : Nat} {l l' : List UInt8} {v : Value} {e : Ending} (h : WS W0 W p l n) (hb : Below W.heap.size W W1) (hv : Wr W1 W0.heap.size p v l) (hw : Wrote W0.heap.size p v l' W1 e W') (hm : l'.length ≤ m) : e = .returned (.tuple #[]) ∧ WS W0 W' p l' m := by
  obtain ⟨he, v', h1, h2, h3⟩ := hw
  exact ⟨he, ⟨v', h1⟩, hv.below_of h2 (below_on h.bel hb (Nat.le_refl _)) (Nat.le_refl _), hm⟩
theorem WS.lt {W0 W : World} {p n : Nat} {l : List UInt8} (h : WS W0 W p l n) : p < W.heap.size := by
  obtain ⟨⟨v, hv⟩, _⟩ := h
  exact (Array.getElem?_eq_some_iff.1 hv.blk).1
theorem ws_num (xs : List Nat) (hxs : ∀ n ∈ xs, n < 2 ^ 64) (k : Nat) (hk : xs.length = k) (cs : Array Value) (hcs : cs.toList = xs.map fun n : Nat => Value.int .u64 (n : Int)) (hm : k ≤ 1000) {W0 W : World} {p n : Nat} {l : List UInt8} (h : WS W0 W p l n) (hn : n + 9 * k ≤ 1000000000) :
    Calls Try.prog 66 #[.pointer (some ⟨p, 0, none⟩), .slice (some ⟨W.heap.size, 0, none⟩) k k] (W.alloc (.cells cs 24)) fun e W' => e = .returned (.tuple #[]) ∧ WS W0 W' p (l ++ numsB xs) (n + 9 * k) := by
  subst hk
  have h0 := h
  have hlt := h.lt
  obtain ⟨⟨v, hv⟩, h2, h3⟩ := h
  have hb := below_new W (.cells cs 24)
  have hv1 := hv.below hb
  refine (num_any xs hxs (some ⟨W.heap.size, 0, none⟩) xs.length hv1 (by omega) (Us.lit xs cs _ hcs hm) (fun a e => by
    cases e
    exact ⟨by simp only; omega, fun e => by have := (hv.own.lt _ e).2; simp only at this; omega⟩)).mono fun e W' hw => h0.wrote hb hv1 hw ?_
  have := numsB_len xs hxs
  simp; omega
/-- blocks that are neither bytes nor writers are kept -/
def KpW (W W' : World) : Prop := ∀ (b : Nat) (cs : Array Value) (T : TypeId), W.heap[b]? = some (.cells cs T (0, 0)) → T ≠ 5 → T ≠ 99 → W'.heap[b]? = some (.cells cs T (0, 0))
theorem ws_numK (xs : List Nat) (hxs : ∀ n ∈ xs, n < 2 ^ 64) (k : Nat) (hk : xs.length = k) (cs : Array Value) (hcs : cs.toList = xs.map fun n : Nat => Value.int .u64 (n : Int)) (hm : k ≤ 1000) {W0 W : World} {p n : Nat} {l : List UInt8} (h : WS W0 W p l n) (hn : n + 9 * k ≤ 1000000000) :
    Calls Try.prog 66 #[.pointer (some ⟨p, 0, none⟩), .slice (some ⟨W.heap.size, 0, none⟩) k k] (W.alloc (.cells cs 24)) fun e W' => e = .returned (.tuple #[]) ∧ WS W0 W' p (l ++ numsB xs) (n + 9 * k) ∧ KpW W W' := by
  subst hk
  have h0 := h
  have hlt := h.lt
  obtain ⟨⟨v, hv⟩, h2, h3⟩ := h
  have hb := below_new W (.cells cs 24)
  have hv1 := hv.below hb
  refine (num_any xs hxs (some ⟨W.heap.size, 0, none⟩) xs.length hv1 (by omega) (Us.lit xs cs _ hcs hm) (fun a e => by
    cases e
    exact ⟨by simp only; omega, fun e => by have := (hv.own.lt _ e).2; simp only at this; omega⟩)).mono fun e W' hw => ?_
  obtain ⟨he, hws⟩ := h0.wrote hb hv1 hw (m := n + 9 * xs.length) (by
    have := numsB_len xs hxs
    simp; omega)
  refine ⟨he, hws, fun b cs' T hbk hT1 hT2 => ?_⟩
  obtain ⟨_, v', h5, h6, h7⟩ := hw
  have hbz := (Array.getElem?_eq_some_iff.1 hbk).1
  refine (h6.block b (by have := hb.size; omega) (fun e2 => ?_) (fun e2 => ?_)).trans ((hb.block b hbz).trans hbk)
  · subst e2
    rw [hv.blk] at hbk
    cases hbk
    exact hT2 rfl
  · have h8 := own_elemE hv.own b e2
    rw [elem?_of hbk] at h8
    exact hT1 (by simpa using h8)
theorem ws_text (d : List UInt8) {W0 W : World} {p n : Nat} {l : List UInt8} (h : WS W0 W p l n) (hd : n + d.length + 9 ≤ 1000000000) :
    Calls Try.prog 69 #[.pointer (some ⟨p, 0, none⟩), .string ⟨d.toArray⟩] W fun e W' => e = .returned (.tuple #[]) ∧ WS W0 W' p (l ++ (numB d.length ++ d)) (n + d.length + 9) := by
  have h0 := h
  obtain ⟨⟨v, hv⟩, h2, h3⟩ := h
  refine (wtext_any hv (by omega)).mono fun e W' hw => h0.wrote (Below.refl _ _) hv hw ?_
  have := numB_len d.length (by omega)
  simp; omega
theorem ws_bytes {W0 W : World} {p n : Nat} {l : List UInt8} (h : WS W0 W p l n) (hn : n ≤ 1000000000) :
    Calls Try.prog 68 #[.pointer (some ⟨p, 0, none⟩)] W fun e W' => ∃ ao cap, e = .returned (.slice ao l.length cap) ∧ Bs W' ao cap l ∧ Below W0.heap.size W0 W' := by
  obtain ⟨⟨v, hv⟩, h2, h3⟩ := h
  refine (bytes_wr hv (by omega)).mono ?_
  rintro e W' ⟨ao, cap, rfl, hown, hB⟩
  exact ⟨ao, cap, rfl, Bs.of_own hown, below_on h2 hB (Nat.le_refl _)⟩
set_option maxRecDepth 100000 in
set_option maxHeartbeats 4000000 in
theorem ws_flag (b : Bool) {W0 W : World} {p n : Nat} {l : List UInt8} (h : WS W0 W p l n) (hn : n + 9 ≤ 100000000) :
    Calls Try.prog 70 #[.pointer (some ⟨p, 0, none⟩), .slice (some ⟨W.heap.size, 0, none⟩) 1 1] (W.alloc (.cells #[.bool b] 4)) fun e W' => e = .returned (.tuple #[]) ∧ WS W0 W' p (l ++ flagB b) (n + 9) := by
  have hb := below_new W (.cells #[.bool b] 4)
  have hw1 := h.below hb
  have hc : (W.alloc (.cells #[.bool b] 4)).cell? ⟨W.heap.size, 0, none⟩ = some (.bool b) := block_cell (heap_alloc_new _ _) 0
  obtain ⟨Z, hZ⟩ : ∃ Z, Z = W.heap.size := ⟨_, rfl⟩
  obtain ⟨W1, hW1⟩ : ∃ W1, W1 = W.alloc (.cells #[.bool b] 4) := ⟨_, rfl⟩
  rw [← hW1] at hb hw1 hc ⊢
  rw [← hZ] at hc ⊢
  clear hW1 hZ
  have Hone := Lib.hid (fun W' (h : WS W0 W' p l n) => ws_num [1] (by simp) 1 rfl #[.int .u64 1] rfl (by decide) h (by omega))
  have Hnil := Lib.hid (fun W' (h : WS W0 W' p l n) => ws_num [0] (by simp) 1 rfl #[.int .u64 0] rfl (by decide) h (by omega))
  go_enter Try.func70, Try.ntmps70
  go_wp2_with fail
  go_loopw [11] (fun u wr => ∃ i : Nat, u = .int .i64 (i : Nat) ∧ ((i = 0 ∧ wr = W1) ∨ (i = 1 ∧ WS W0 wr p (l ++ flagB b) (n + 9)))) (fun u _ => 1 - (intOf u).toNat)
  case atStart => exact ⟨0, rfl, .inl ⟨rfl, rfl⟩⟩
  case round =>
    obtain ⟨i, rfl, ⟨rfl, rfl⟩ | ⟨rfl, hws⟩⟩ := hrel
    · cases b
      · go_wp2_with fail
        refine (Hnil.out _ hw1).mono ?_
        rintro e W2 ⟨rfl, h2⟩
        go_wp2_with fail
        go_roundw
        case rel => exact ⟨1, by simp, .inr ⟨rfl, by simpa [flagB, numsB] using h2⟩⟩
        case measure => simp [intOf]
      · go_wp2_with fail
        refine (Hone.out _ hw1).mono ?_
        rintro e W2 ⟨rfl, h2⟩
        go_wp2_with fail
        go_roundw
        case rel => exact ⟨1, by simp, .inr ⟨rfl, by simpa [flagB, numsB] using h2⟩⟩
        case measure => simp [intOf]
    · go_wp2_with fail
      refine bodyPost_end (results_none rfl _ _ _) rfl ?_
      exact ⟨rfl, hws⟩
set_option maxRecDepth 100000 in
theorem refFlag_any (b : Bool) (W : World) :
    Calls Try.prog 101 #[.bool b] W fun e W' => ∃ ao cap, e = .returned (.slice ao (flagB b).length cap) ∧ W'.ownsRow W.heap.size 5 1 (.slice ao (flagB b).length cap) (flagB b).length ((flagB b).map u8) ∧ Below W.heap.size W W' := by
  have h1 := Lib.hid (refNumB_any 1 (by decide) W)
  have h0 := Lib.hid (refNumB_any 0 (by decide) W)
  have hf : Calls Try.prog 113 #[.bool b] W fun e W' => ∃ ao cap, e = .returned (.slice ao (flagB b).length cap) ∧ W'.ownsRow W.heap.size 5 1 (.slice ao (flagB b).length cap) (flagB b).length ((flagB b).map u8) ∧ Below W.heap.size W W' := by
    cases b
    · go_enter Try.func113, Try.ntmps113
      go_wp2_with fail
      refine h0.out.mono ?_
      rintro e W2 ⟨a, c, rfl, how, hB⟩
      go_wp2_with fail
      go_ret
      exact ⟨a, c, rfl, how, hB⟩
    · go_enter Try.func113, Try.ntmps113
      go_wp2_with fail
      refine h1.out.mono ?_
      rintro e W2 ⟨a, c, rfl, how, hB⟩
      go_wp2_with fail
      go_ret
      exact ⟨a, c, rfl, how, hB⟩
  have Hf := Lib.hid hf
  clear hf h0 h1
  go_enter Try.func101, Try.ntmps101
  go_wp2_with fail
  refine Hf.out.mono ?_
  rintro e W2 ⟨a, c, rfl, how, hB⟩
  go_wp2_with fail
  go_ret
  exact ⟨a, c, rfl, how, hB⟩
/-- a reader made behind W0, whose bytes lie in W0 -/
structure RdS (T : TypeId) (W0 W : World) (p : Nat) (s : St) : Prop where
  rd : ∃ ao cap, Rd T W p ao cap s.1 s.2 ∧ (0 < s.1.length → ∀ a, ao = some a → a.block < W0.heap.size)
  pos : W0.heap.size ≤ p
  bel : Below W0.heap.size W0 W
theorem Bs.kept {W W' : World} {ao : Option Addr} {cap B : Nat} {l : List UInt8} (h : Bs W ao cap l) (hl : 0 < l.length → ∀ a, ao = some a → a.block < B) (hk : ∀ b, b < B → W'.heap[b]? = W.heap[b]?) : Bs W' ao cap l :=
  ⟨h.len, h.le, h.max, h.none, fun j u hu => by
    obtain ⟨b, off, e, hc⟩ := h.cell j u hu
    have h0 : 0 < l.length := by
      cases l with
      | nil => simp at hu
      | cons c l => simp
    have := hl h0 _ e
    exact ⟨b, off, e, by rw [World.cell?_of_block (w := W) (hk b this)]; exact hc⟩⟩
theorem RdS.kept {T : TypeId} {W0 W W' : World} {p : Nat} {s : St} (h : RdS T W0 W p s) (hb : Below W0.heap.size W0 W') (hp : W'.heap[p]? = W.heap[p]?) : RdS T W0 W' p s := by
  obtain ⟨⟨ao, cap, hr, hl⟩, h2, h3⟩ := h
  exact ⟨⟨ao, cap, ⟨hp.trans hr.blk, hr.bs.kept hl fun b hlt => (hb.block b hlt).trans (h3.block b hlt).symm⟩, hl⟩, h2, hb⟩
theorem RdS.lt {T : TypeId} {W0 W : World} {p : Nat} {s : St} (h : RdS T W0 W p s) : p < W.heap.size := by
  obtain ⟨⟨ao, cap, hr, hl⟩, h2, h3⟩ := h
  exact (Array.getElem?_eq_some_iff.1 hr.blk).1
theorem RdS.below {T : TypeId} {W0 W W' : World} {p : Nat} {s : St} (h : RdS T W0 W p s) (hb : Below W.heap.size W W') : RdS T W0 W' p s :=
  h.kept (below_on h.bel hb (Nat.le_refl _)) (hb.block p h.lt)
/-- another block of the call's own is changed -/
theorem RdS.grown {T : TypeId} {W0 W W' : World} {p : Nat} {row : Option Nat} {s : St} (h : RdS T W0 W p s) (hg : W.grownBy W' row) (hq : ∀ q, row = some q → W0.heap.size ≤ q ∧ q ≠ p) : RdS T W0 W' p s :=
  h.kept (h.bel.grown hg h.bel.size (fun k e => (hq k e).1)) (hg.block p h.lt (fun e => (hq p e.symm).2 rfl))
theorem RdS.store {T : TypeId} {W0 W : World} {p q i : Nat} {s : St} (h : RdS T W0 W p s) (hq : W0.heap.size ≤ q) (hne : q ≠ p) (v : Value) : RdS T W0 (W.setCell ⟨q, i, none⟩ v) p s :=
  h.grown (grown_set W q i v) (fun k e => by cases e; exact ⟨hq, hne⟩)
theorem rds_next {T : TypeId} {W0 W W' : World} {p : Nat} {s s' : St} {ao ao' : Option Addr} {cap' : Nat} (hs : RdS T W0 W p s) (hl : 0 < s.1.length → ∀ a, ao = some a → a.block < W0.heap.size) (h1 : Rd T W' p ao' cap' s'.1 s'.2) (h2 : W.grownBy W' (some p)) (h3 : SameBlk ao ao') (hlen : s'.1.length ≤ s.1.length) : RdS T W0 W' p s' :=
  ⟨⟨ao', cap', h1, fun h0 a' e => by
    obtain ⟨a, e1, e2⟩ := h3 a' e
    rw [← e2]
    exact hl (by omega) a e1⟩, hs.pos, hs.bel.grown h2 hs.bel.size (fun k e => by cases e; exact hs.pos)⟩
theorem gT_len (most : Nat) (s : St) : (gT most s).2.1.length ≤ s.1.length := by
  have := readN_len most s.1 s.2
  unfold gT readT
  simp only
  split
  · simp
  · simp; omega
theorem rds_num (most : Nat) (hm : most < 2 ^ 64) {W0 W : World} {p : Nat} {s : St} (h : RdS 131 W0 W p s) :
    Calls Try.prog 75 #[.pointer (some ⟨p, 0, none⟩), .int .u64 (most : Int)] W fun e W' => e = .returned (.int .u64 ((gN most s).1 : Nat)) ∧ RdS 131 W0 W' p (gN most s).2 ∧ W.grownBy W' (some p) := by
  obtain ⟨ao, cap, hr, hl⟩ := h.rd
  refine (rnum_any most hm hr).mono ?_
  rintro e W' ⟨ao', cap', rfl, h1, h2, h3⟩
  exact ⟨rfl, rds_next h hl h1 h2 h3 (gN_len _ _), h2⟩
theorem rds_refNum (most : Nat) (hm : most < 2 ^ 64) {W0 W : World} {p : Nat} {s : St} (h : RdS 78 W0 W p s) :
    Calls Try.prog 43 #[.pointer (some ⟨p, 0, none⟩), .int .u64 (most : Int)] W fun e W' => e = .returned (.int .u64 ((gN most s).1 : Nat)) ∧ RdS 78 W0 W' p (gN most s).2 ∧ W.grownBy W' (some p) := by
  obtain ⟨ao, cap, hr, hl⟩ := h.rd
  refine (refNum_rd most hm hr).mono ?_
  rintro e W' ⟨ao', cap', rfl, h1, h2, h3⟩
  exact ⟨rfl, rds_next h hl h1 h2 h3 (gN_len _ _), h2⟩
theorem rds_text (most : Nat) (hm : most ≤ 1048576) {W0 W : World} {p : Nat} {s : St} (h : RdS 131 W0 W p s) (hs : s.1.length ≤ 70000000000000) :
    Calls Try.prog 82 #[.pointer (some ⟨p, 0, none⟩), .int .i64 (most : Int)] W fun e W' => e = .returned (.string ⟨(gT most s).1.toArray⟩) ∧ RdS 131 W0 W' p (gT most s).2 ∧ W.grownBy W' (some p) := by
  obtain ⟨ao, cap, hr, hl⟩ := h.rd
  refine (text_rd most hm hr hs).mono ?_
  rintro e W' ⟨ao', cap', rfl, h1, h2, h3⟩
  exact ⟨rfl, rds_next h hl h1 h2 h3 (gT_len _ _), h2⟩
theorem rds_refText (most : Nat) (hm : most ≤ 1048576) {W0 W : World} {p : Nat} {s : St} (h : RdS 78 W0 W p s) (hs : s.1.length ≤ 70000000000000) :
    Calls Try.prog 45 #[.pointer (some ⟨p, 0, none⟩), .int .i64 (most : Int)] W fun e W' => e = .returned (.string ⟨(gT most s).1.toArray⟩) ∧ RdS 78 W0 W' p (gT most s).2 ∧ W.grownBy W' (some p) := by
  obtain ⟨ao, cap, hr, hl⟩ := h.rd
  refine (refText_rd most hm hr hs).mono ?_
  rintro e W' ⟨ao', cap', rfl, h1, h2, h3⟩
  exact ⟨rfl, rds_next h hl h1 h2 h3 (gT_len _ _), h2⟩
theorem rds_fail {W0 W : World} {p : Nat} {s : St} (h : RdS 131 W0 W p s) :
    Calls Try.prog 100 #[.pointer (some ⟨p, 0, none⟩)] W fun e W' => e = .returned (.tuple #[]) ∧ RdS 131 W0 W' p ([], true) ∧ W.grownBy W' (some p) := by
  obtain ⟨ao, cap, hr, hl⟩ := h.rd
  refine (fail_rd hr).mono ?_
  rintro e W' ⟨rfl, h1, h2⟩
  exact ⟨rfl, rds_next (s' := ([], true)) h hl h1 h2 (SameBlk.none _) (by simp), h2⟩
theorem rds_refFail {W0 W : World} {p : Nat} {s : St} (h : RdS 78 W0 W p s) :
    Calls Try.prog 85 #[.pointer (some ⟨p, 0, none⟩)] W fun e W' => e = .returned (.tuple #[]) ∧ RdS 78 W0 W' p ([], true) ∧ W.grownBy W' (some p) := by
  obtain ⟨ao, cap, hr, hl⟩ := h.rd
  refine (refFail_rd hr).mono ?_
  rintro e W' ⟨rfl, h1, h2⟩
  exact ⟨rfl, rds_next (s' := ([], true)) h hl h1 h2 (SameBlk.none _) (by simp), h2⟩
theorem rds_end {W0 W : World} {p : Nat} {s : St} (h : RdS 131 W0 W p s) :
    Calls Try.prog 77 #[.pointer (some ⟨p, 0, none⟩)] W fun e W' => e = .returned (.int .i64 (if doneR s = true then 0 else 20)) ∧ W = W' := by
  obtain ⟨ao, cap, hr, hl⟩ := h.rd
  rw [← endR_done]
  exact end_rd hr
theorem rds_refEnd {W0 W : World} {p : Nat} {s : St} (h : RdS 78 W0 W p s) :
    Calls Try.prog 44 #[.pointer (some ⟨p, 0, none⟩)] W fun e W' => e = .returned (.int .i64 (if doneR s = true then 0 else 20)) ∧ W = W' := by
  obtain ⟨ao, cap, hr, hl⟩ := h.rd
  rw [← endR_done]
  exact refEnd_rd hr
theorem rds_flag {W0 W : World} {p : Nat} {s : St} (h : RdS 131 W0 W p s) :
    Calls Try.prog 98 #[.pointer (some ⟨p, 0, none⟩)] W fun e W' => e = .returned (.bool (gF s).1) ∧ RdS 131 W0 W' p (gF s).2 ∧ W.grownBy W' (some p) := by
  have Hn := Lib.hid (rds_num 1 (by decide) h)
  obtain ⟨x, hx⟩ : ∃ x, x = (gN 1 s).1 := ⟨_, rfl⟩
  unfold gF
  simp only
  rw [← hx] at Hn ⊢
  clear hx
  go_enter Try.func98, Try.ntmps98
  go_wp2_with fail
  refine Hn.out.mono ?_
  rintro e W2 ⟨rfl, hr, hg⟩
  go_wp2_with fail
  go_ret
  refine ⟨ret_bool ?_, hr, hg⟩
  rw [Bool.eq_iff_iff]; simp; try omega
theorem rds_refFlag {W0 W : World} {p : Nat} {s : St} (h : RdS 78 W0 W p s) :
    Calls Try.prog 103 #[.pointer (some ⟨p, 0, none⟩)] W fun e W' => e = .returned (.bool (gF s).1) ∧ RdS 78 W0 W' p (gF s).2 ∧ W.grownBy W' (some p) := by
  have Hn := Lib.hid (rds_refNum 1 (by decide) h)
  obtain ⟨x, hx⟩ : ∃ x, x = (gN 1 s).1 := ⟨_, rfl⟩
  unfold gF
  simp only
  rw [← hx] at Hn ⊢
  clear hx
  go_enter Try.func103, Try.ntmps103
  go_wp2_with fail
  refine Hn.out.mono ?_
  rintro e W2 ⟨rfl, hr, hg⟩
  go_wp2_with fail
  go_ret
  refine ⟨ret_bool ?_, hr, hg⟩
  rw [Bool.eq_iff_iff]; simp; try omega
theorem rds_open {W0 : World} {ao : Option Addr} {cap : Nat} {l : List UInt8} (h : Bs W0 ao cap l) :
    Calls Try.prog 73 #[.slice ao l.length cap] W0 fun e W' => e = .returned (.pointer (some ⟨W0.heap.size, 0, none⟩)) ∧ RdS 131 W0 W' W0.heap.size (l, false) ∧ Below W0.heap.size W0 W' := by
  refine (open_rd ao cap l W0 h).mono ?_
  rintro e W' ⟨rfl, h1, h2⟩
  exact ⟨rfl, ⟨⟨ao, cap, h1, fun h0 a e => by
    obtain ⟨b, off, e2, hc⟩ := h.get 0 h0
    rw [e] at e2
    cases e2
    exact cell?_lt hc⟩, Nat.le_refl _, h2⟩, h2⟩
theorem rds_box {T : TypeId} {W0 : World} {ao : Option Addr} {cap : Nat} {l : List UInt8} (h : Bs W0 ao cap l) : RdS T W0 (W0.alloc (.cells #[.slice ao l.length cap, .bool false] T)) W0.heap.size (l, false) :=
  ⟨⟨ao, cap, ⟨heap_alloc_new _ _, h.below (below_new _ _)⟩, fun h0 a e => by
    obtain ⟨b, off, e2, hc⟩ := h.get 0 h0
    rw [e] at e2
    cases e2
    exact cell?_lt hc⟩, Nat.le_refl _, below_new _ _⟩
end Go.Proofs.Ytlphpjgiaflfkaa
namespace Go.Proofs.Ytlphpjgiaflfkaa
set_option linter.unusedVariables false
set_option linter.unusedSimpArgs false
set_option linter.unusedSectionVars false
open Go Go.RowKit Go.Shelf
theorem memB_take (l : List Int) (k : Nat) (hk : k < l.length) : memB (l.take (k + 1)) = memB (l.take k) ++ numB l[k].toNat := by
  rw [List.take_succ_eq_append_getElem hk, memB_snoc]
set_option maxRecDepth 100000 in
set_option maxHeartbeats 4000000 in
theorem snapBytes_ok (i t : Int) (mo ao : Option Addr) (mc ac : Nat) (ml : List Int) (d : List UInt8) (w : World) (hm : Iz w .i64 mo mc ml) (hd : Bs w ao ac d) (hs : soundSn ⟨i, t, ml, d⟩ = true) :
    Calls Try.prog 71 #[.agg #[.int .u64 i, .int .u64 t, .slice mo ml.length mc, .slice ao d.length ac]] w fun e w' => ∃ a c, e = .returned (.tuple #[.slice a (snB ⟨i, t, ml, d⟩).length c, .int .i64 0]) ∧ Fresh w w' a c (snB ⟨i, t, ml, d⟩) := by
  obtain ⟨s1, s2, s3, s4, s5, s6⟩ := soundSn_iff.1 hs
  simp only at s1 s2 s3 s4 s5 s6
  obtain ⟨m1, m2, m3⟩ := mOk_all s5
  have hlen := snBody_len _ hs
  have hsnd := fun W hW => snapSound_any i t mo ao mc ac ml d W hW (by omega)
  rw [hs] at hsnd
  have Hsnd := Lib.hid hsnd
  have M3 := Lib.hid m3
  obtain ⟨x, rfl⟩ : ∃ x : Nat, i = (x : Int) := ⟨i.toNat, by omega⟩
  obtain ⟨y, rfl⟩ : ∃ y : Nat, t = (y : Int) := ⟨t.toNat, by omega⟩
  have hbody : snBody ⟨(x : Int), (y : Int), ml, d⟩ = numsB [x, y, ml.length] ++ memB ml ++ (numB d.length ++ d) := by simp [snBody]
  unfold snB
  obtain ⟨B, hB⟩ : ∃ B, B = snBody ⟨(x : Int), (y : Int), ml, d⟩ := ⟨_, rfl⟩
  rw [← hB] at hbody hlen ⊢
  have Hbody := Lib.hid hbody
  have wl : IntKind.u64.wrap (ml.length : Int) = (ml.length : Int) := IntWalk.u64_in _ (by omega)
  have Hnum := Lib.hid (fun W0 W p (h : WS W0 W p [] 0) => ws_num [x, y, ml.length] (by intro n hn; simp at hn; omega) 3 rfl #[.int .u64 (x : Int), .int .u64 (y : Int), .int .u64 (ml.length : Int)] rfl (by decide) h (by omega))
  have Hone := Lib.hid (fun (z : Nat) (hz : z ≤ 6) W0 W p l n (h : WS W0 W p l n) (hn : n ≤ 1000000) => ws_num [z] (by intro n hn; simp at hn; omega) 1 rfl #[.int .u64 (z : Int)] rfl (by decide) h (by omega))
  have Htx := Lib.hid (fun W0 W p l n (h : WS W0 W p l n) (hn : n ≤ 1000000) => ws_text d h (by omega))
  clear hsnd hs hbody hB m3 s1 s2 s3 s4 s5
  obtain ⟨W1, hW1⟩ : ∃ W1, W1 = w.alloc (.cells #[.int .u64 (x : Int), .int .u64 (y : Int), .slice mo ml.length mc, .slice ao d.length ac] 47) := ⟨_, rfl⟩
  have hB1 : Below w.heap.size w W1 := by rw [hW1]; exact below_new _ _
  have k1 : W1.heap[w.heap.size]? = some (.cells #[.int .u64 (x : Int), .int .u64 (y : Int), .slice mo ml.length mc, .slice ao d.length ac] 47) := by rw [hW1]; exact heap_alloc_new _ _
  have z1 : w.heap.size < W1.heap.size := (Array.getElem?_eq_some_iff.1 k1).1
  go_enter Try.func71, Try.ntmps71
  go_upto_region 1 with fail
  rw [← hW1]
  clear hW1
  obtain ⟨p0, p1, p2, p3⟩ := (⟨block_cell k1 0, block_cell k1 1, block_cell k1 2, block_cell k1 3⟩ : W1.cell? ⟨w.heap.size, 0, none⟩ = some (.int .u64 (x : Int)) ∧ W1.cell? ⟨w.heap.size, 1, none⟩ = some (.int .u64 (y : Int)) ∧ W1.cell? ⟨w.heap.size, 2, none⟩ = some (.slice mo ml.length mc) ∧ W1.cell? ⟨w.heap.size, 3, none⟩ = some (.slice ao d.length ac))
  go_wp2_with fail
  refine (Hsnd.out _ (hm.below hB1)).mono ?_
  rintro e W2 ⟨rfl, hB2⟩
  have k2 := (hB2.block _ z1).trans k1
  have hBw2 := below_on hB1 hB2 (Nat.le_refl _)
  have z2 := hB2.size
  clear p0 p1 p2 p3 Hsnd k1
  have hws := WS.new W2
  obtain ⟨W3, hW3⟩ : ∃ W3, W3 = W2.alloc (.cells #[.slice none 0 0] 99) := ⟨_, rfl⟩
  rw [← hW3] at hws
  have e3 : W3.heap.size = W2.heap.size + 1 := by rw [hW3]; exact World.size_alloc _ _
  have hcw : ∀ W', Below W2.heap.size W2 W' → (W'.cell? ⟨w.heap.size, 0, none⟩ = some (.int .u64 (x : Int)) ∧ W'.cell? ⟨w.heap.size, 1, none⟩ = some (.int .u64 (y : Int)) ∧ W'.cell? ⟨w.heap.size, 2, none⟩ = some (.slice mo ml.length mc) ∧ W'.cell? ⟨w.heap.size, 3, none⟩ = some (.slice ao d.length ac)) := fun W' hb => by
    have hk := (hb.block _ (Array.getElem?_eq_some_iff.1 k2).1).trans k2
    exact ⟨block_cell hk 0, block_cell hk 1, block_cell hk 2, block_cell hk 3⟩
  obtain ⟨p0, p1, p2, p3⟩ := hcw W3 hws.bel
  have hn3 := Hnum.out _ _ _ hws
  rw [e3] at hn3
  have Hn3 := Lib.hid hn3
  have q2 : w.heap.size < W2.heap.size := by omega
  have q3 : w.heap.size < W3.heap.size := by omega
  have E3 := Lib.hid e3
  clear e3 hn3
  go_upto_region 4 with fail
  rw [← hW3]
  clear hW3
  go_wp2_with fail
  first | rw [E3.out] | skip
  refine Hn3.out.mono ?_
  rintro e W5 ⟨rfl, hws5⟩
  clear p0 p1 p2 p3 Hn3 q3
  obtain ⟨p0, p1, p2, p3⟩ := hcw W5 hws5.bel
  go_wp2_with fail
  go_loopw [23] (fun u wr => ∃ k : Nat, u = .int .i64 (k : Nat) ∧ k ≤ ml.length ∧ WS W2 wr W2.heap.size ([] ++ numsB [x, y, ml.length] ++ memB (ml.take k)) (27 + 9 * k)) (fun u _ => ml.length - (intOf u).toNat)
  case atStart => exact ⟨0, rfl, Nat.zero_le _, by simpa [memB, numsB] using hws5⟩
  case round =>
    obtain ⟨k, rfl, hk, hwsr⟩ := hrel
    clear p0 p1 p2 p3
    obtain ⟨p0, p1, p2, p3⟩ := hcw wr hwsr.bel
    by_cases hlt : k < ml.length
    · have hmr := ((hm.below hBw2).below hwsr.bel)
      obtain ⟨b, off, rfl, hc⟩ := hmr.get k hlt
      have hz := M3.out ml[k] (List.getElem_mem hlt)
      have hst := memB_take ml k hlt
      obtain ⟨z, hze⟩ : ∃ z : Nat, ml[k] = (z : Int) := ⟨ml[k].toNat, by omega⟩
      rw [hze] at hc hz hst
      rw [Int.toNat_natCast] at hst
      have hnz := Hone.out z (by omega) W2 wr _ _ _ hwsr (by omega)
      have hns : numsB [z] = numB z := by simp [numsB]
      rw [hns, List.append_assoc _ (memB _), ← hst] at hnz
      have Hnz := Lib.hid hnz
      have wz : IntKind.u64.wrap (z : Int) = (z : Int) := IntWalk.u64_in _ (by omega)
      have i0 : (0 : Int) ≤ (k : Int) := by omega
      have i1 : (k : Int) < (ml.length : Int) := by omega
      clear hnz hst hns hze
      go_wp2_with fail
      refine Hnz.out.mono ?_
      rintro e W6 ⟨rfl, hws6⟩
      go_wp2_with fail
      go_roundw
      case rel => exact ⟨k + 1, by simp, by omega, hws6⟩
      case measure => simp [intOf]; omega
    · have hkk : k = ml.length := by omega
      subst hkk
      rw [List.take_length] at hwsr
      have hcv := conv_any ((hd.below hBw2).below hwsr.bel)
      go_wp2_with fail
      refine (Htx.out _ _ _ _ _ hwsr (by omega)).mono ?_
      rintro e W7 ⟨rfl, hws7⟩
      rw [List.nil_append, ← Hbody.out] at hws7
      clear hcv
      go_wp2_with fail
      refine (ws_bytes hws7 (by omega)).mono ?_
      rintro e W8 ⟨a8, c8, rfl, hb8, hB8⟩
      have hBw8 := below_on hBw2 hB8 (Nat.le_refl _)
      have hwrap := wrap_ok 4 a8 c8 B W8 hb8 (by decide) (by omega)
      rw [show (((4 : UInt8).toNat : Nat) : Int) = 4 from rfl] at hwrap
      have Hwrap := Lib.hid hwrap
      clear hwrap
      go_wp2_with fail
      refine Hwrap.out.mono ?_
      rintro e W9 ⟨a9, c9, rfl, hfr9⟩
      go_wp2_with fail
      go_ret2
      exact ⟨a9, c9, rfl, own_base hfr9.own hBw8.size, below_on hBw8 hfr9.bel (Nat.le_refl _)⟩
end Go.Proofs.Ytlphpjgiaflfkaa
namespace Go.Proofs.Ytlphpjgiaflfkaa
set_option linter.unusedVariables false
set_option linter.unusedSimpArgs false
set_option linter.unusedSectionVars false
open Go Go.RowKit Go.Shelf
abbrev u8s (l : List UInt8) : List Value := l.map u8
set_option maxRecDepth 100000 in
set_option maxHeartbeats 8000000 in
theorem refSnapBody_any (i t : Int) (mo ao : Option Addr) (mc ac : Nat) (ml : List Int) (d : List UInt8) (w : World) (hm : Iz w .i64 mo mc ml) (hd : Bs w ao ac d) (hs : soundSn ⟨i, t, ml, d⟩ = true) :
    Calls Try.prog 114 #[.agg #[.int .u64 i, .int .u64 t, .slice mo ml.length mc, .slice ao d.length ac]] w fun e w' => ∃ a c l, e = .returned (.slice a l.length c) ∧ Hid (l = snBody ⟨i, t, ml, d⟩) ∧ Bs w' a c l ∧ Below w.heap.size w w' := by
  obtain ⟨s1, s2, s3, s4, s5, s6⟩ := soundSn_iff.1 hs
  simp only at s1 s2 s3 s4 s5 s6
  obtain ⟨m1, m2, m3⟩ := mOk_all s5
  have hlen := snBody_len _ hs
  have M3 := Lib.hid m3
  obtain ⟨x, rfl⟩ : ∃ x : Nat, i = (x : Int) := ⟨i.toNat, by omega⟩
  obtain ⟨y, rfl⟩ : ∃ y : Nat, t = (y : Int) := ⟨t.toNat, by omega⟩
  have hbody : snBody ⟨(x : Int), (y : Int), ml, d⟩ = numB x ++ numB y ++ numB ml.length ++ memB ml ++ (numB d.length ++ d) := by simp [snBody, numsB]
  obtain ⟨B, hB⟩ : ∃ B, B = snBody ⟨(x : Int), (y : Int), ml, d⟩ := ⟨_, rfl⟩
  rw [← hB] at hbody hlen ⊢
  have wl : IntKind.u64.wrap (ml.length : Int) = (ml.length : Int) := IntWalk.u64_in _ (by omega)
  have hX := refNumB_any x (by omega)
  have hY := refNumB_any y (by omega)
  have hL := refNumB_any ml.length (by omega)
  have hXl := numB_len x (by omega)
  have hYl := numB_len y (by omega)
  have hLl := numB_len ml.length (by omega)
  have hD := refTextB_any d (by omega)
  have hDl := numB_len d.length (by omega)
  obtain ⟨nx, hnx⟩ : ∃ nx, nx = numB x := ⟨_, rfl⟩
  obtain ⟨ny, hny⟩ : ∃ ny, ny = numB y := ⟨_, rfl⟩
  obtain ⟨nl, hnl⟩ : ∃ nl, nl = numB ml.length := ⟨_, rfl⟩
  obtain ⟨nd, hnd⟩ : ∃ nd, nd = numB d.length := ⟨_, rfl⟩
  rw [← hnx] at hX hXl hbody
  rw [← hny] at hY hYl hbody
  rw [← hnl] at hL hLl hbody
  rw [← hnd] at hD hDl hbody
  have Hbody := Lib.hid hbody
  have HX := Lib.hid hX
  have HY := Lib.hid hY
  have HL := Lib.hid hL
  have HD := Lib.hid hD
  clear hs hbody hB m3 s1 s2 s3 s4 s5 hX hY hL hD hnx hny hnl hnd
  obtain ⟨W1, hW1⟩ : ∃ W1, W1 = w.alloc (.cells #[.int .u64 (x : Int), .int .u64 (y : Int), .slice mo ml.length mc, .slice ao d.length ac] 47) := ⟨_, rfl⟩
  have hB1 : Below w.heap.size w W1 := by rw [hW1]; exact below_new _ _
  have k1 : W1.heap[w.heap.size]? = some (.cells #[.int .u64 (x : Int), .int .u64 (y : Int), .slice mo ml.length mc, .slice ao d.length ac] 47) := by rw [hW1]; exact heap_alloc_new _ _
  have hz1 := hB1.size
  have hcw : ∀ W', Below W1.heap.size W1 W' → (W'.cell? ⟨w.heap.size, 0, none⟩ = some (.int .u64 (x : Int)) ∧ W'.cell? ⟨w.heap.size, 1, none⟩ = some (.int .u64 (y : Int)) ∧ W'.cell? ⟨w.heap.size, 2, none⟩ = some (.slice mo ml.length mc) ∧ W'.cell? ⟨w.heap.size, 3, none⟩ = some (.slice ao d.length ac)) := fun W' hb => by
    have hk := (hb.block _ (Array.getElem?_eq_some_iff.1 k1).1).trans k1
    exact ⟨block_cell hk 0, block_cell hk 1, block_cell hk 2, block_cell hk 3⟩
  have hd1 : Below W1.heap.size W1 W1.drew := (Below.refl _ _).drew
  obtain ⟨p0, p1, p2, p3⟩ := hcw W1 (Below.refl _ _)
  go_enter Try.func114, Try.ntmps114
  go_upto_region 1 with fail
  rw [← hW1]
  clear hW1
  go_cut [3] (fun b wx => ∃ (a4 : Option Addr) (c4 : Nat) (l4 : List UInt8), b = .slice a4 l4.length c4 ∧ Hid (l4 = nx ++ ny) ∧ wx.ownsRow W1.heap.size 5 1 (.slice a4 l4.length c4) l4.length (u8s l4) ∧ Below W1.heap.size W1 wx)
  case first =>
    go_region_law (first
      | (go_simp; go_at_call 47; refine (HY.out w2).mono ?_; rintro e w3 ⟨ao3, cap3, rfl, how3, hb3⟩; have hB3 : Below W1.heap.size W1 w3 := below_on hB2 hb3 (Nat.le_refl _); have hh3 := own_below how2 hb3; obtain ⟨s0, s1, s2, s3⟩ := hcw w3 hB3)
      | (go_simp; go_at_call 47; refine (HX.out W1.drew).mono ?_; rintro e w2 ⟨ao2, cap2, rfl, how2, hb2⟩; have hB2 : Below W1.heap.size W1 w2 := below_on hd1 hb2 (Nat.le_refl _); obtain ⟨r0, r1, r2, r3⟩ := hcw w2 hB2)
      | (refine step_append_bs rfl (.tmp 7) (.tmp 10) 22 rfl W1.drew.heap.size 5 infoUB Try.underlying22 _ _ nx rfl hh3 _ _ ny rfl (Bs.of_own how3) ?_ ?_ ?_; omega; (exact hB3.size); intro ao4 cap4 l4 w4 hl4 hown4 hg4))
    all_goals
      go_wp2_with fail
      go_meet
      exact ⟨ao4, cap4, l4, rfl, hl4, hown4, below_app hB3 hg4 hh3 (Nat.le_refl _) hB3.size⟩
  case rest =>
    obtain ⟨a4, c4, l4, rfl, hl4, hown4, hB4⟩ := hcut
    clear HX HY hd1 p0 p1 p2 p3
    have hl4n : l4.length ≤ 18 := by rw [hl4.out]; simp; omega
    obtain ⟨p0, p1, p2, p3⟩ := hcw _ hB4
    go_wp2_with fail
    refine (HL.out _).mono ?_
    rintro e W5 ⟨a5, c5, rfl, how5, hb5⟩
    have hown5 := own_below hown4 hb5
    have hB5 := below_on hB4 hb5 (Nat.le_refl _)
    clear p0 p1 p2 p3
    go_wp2_with (at_builtin; refine wpl_append_bs rfl (.tmp 12) (.tmp 17) 22 rfl W1.heap.size 5 infoUB Try.underlying22 _ _ l4 rfl hown5 _ _ nl rfl (Bs.of_own how5) ?_ ?_ ?_; omega; (exact hB5.size); intro a6 c6 l6 W6 hl6 hown6 hg6)
    have hB6 := below_app hB5 hg6 hown5 (Nat.le_refl _) hB5.size
    have hl6n : l6.length ≤ 27 := by rw [hl6.out]; simp; omega
    have hl6' : Hid (l6 = nx ++ ny ++ nl) := by show _ = _; rw [hl6.out, hl4.out]
    clear hl6 hown5 hb5 how5 hB5 hg6 hown4 hB4 hl4
    go_loopw [3, 4] (fun b u wr => ∃ (k : Nat) (a' : Option Addr) (c' : Nat) (l' : List UInt8), u = .int .i64 (k : Nat) ∧ b = .slice a' l'.length c' ∧ k ≤ ml.length ∧ Hid (l' = nx ++ ny ++ nl ++ memB (ml.take k)) ∧ l'.length ≤ 27 + 9 * k ∧ wr.ownsRow W1.heap.size 5 1 (.slice a' l'.length c') l'.length (u8s l') ∧ Below W1.heap.size W1 wr) (fun _ u _ => ml.length - (intOf u).toNat)
    case atStart => exact ⟨0, a6, c6, l6, rfl, rfl, by omega, by show _ = _; rw [hl6'.out]; simp [memB, numsB], by omega, hown6, hB6⟩
    case round =>
      obtain ⟨k, a', c', l', rfl, rfl, hk, hl', hl'n, hown, hB⟩ := hrel
      obtain ⟨p0, p1, p2, p3⟩ := hcw _ hB
      by_cases hlt : k < ml.length
      · have hmr := ((hm.below hB1).below hB)
        obtain ⟨b, off, rfl, hc⟩ := hmr.get k hlt
        have hz := M3.out ml[k] (List.getElem_mem hlt)
        have hst := memB_take ml k hlt
        obtain ⟨z, hze⟩ : ∃ z : Nat, ml[k] = (z : Int) := ⟨ml[k].toNat, by omega⟩
        rw [hze] at hc hz hst
        rw [Int.toNat_natCast] at hst
        have hNz := refNumB_any z (by omega) wr
        have hzl := numB_len z (by omega)
        obtain ⟨nz, hnz⟩ : ∃ nz, nz = numB z := ⟨_, rfl⟩
        simp only [← hnz] at hNz hzl hst
        have HNz := Lib.hid hNz
        have Hst := Lib.hid hst
        have wz : IntKind.u64.wrap (z : Int) = (z : Int) := IntWalk.u64_in _ (by omega)
        have i0 : (0 : Int) ≤ (k : Int) := by omega
        have i1 : (k : Int) < (ml.length : Int) := by omega
        clear hnz hst hNz hze
        go_wp2_with fail
        refine HNz.out.mono ?_
        rintro e W7 ⟨a7, c7, rfl, how7, hb7⟩
        have hown7 := own_below hown hb7
        have hB7 := below_on hB hb7 (Nat.le_refl _)
        clear p0 p1 p2 p3 hc
        go_wp2_with (at_builtin; refine wpl_append_bs rfl (.tmp 26) (.tmp 33) 22 rfl W1.heap.size 5 infoUB Try.underlying22 _ _ l' rfl hown7 _ _ nz rfl (Bs.of_own how7) ?_ ?_ ?_; omega; (exact hB7.size); intro a8 c8 l8 W8 hl8 hown8 hg8)
        have hl8n : l8.length ≤ 27 + 9 * (k + 1) := by rw [hl8.out]; simp; omega
        have hl8' : Hid (l8 = nx ++ ny ++ nl ++ memB (ml.take (k + 1))) := by show _ = _; rw [hl8.out, hl'.out, Hst.out, List.append_assoc _ (memB _)]
        go_roundw
        case rel => exact ⟨k + 1, a8, c8, l8, by simp, rfl, by omega, hl8', hl8n, hown8, below_app hB7 hg8 hown7 (Nat.le_refl _) hB7.size⟩
        case measure => simp [intOf]; omega
      · have hkk : k = ml.length := by omega
        subst hkk
        have hcv := conv_any ((hd.below hB1).below hB)
        go_wp2_with fail
        refine (HD.out _).mono ?_
        rintro e W7 ⟨a7, c7, l7, rfl, hl7, how7, hb7⟩
        have hl7n : l7.length ≤ 9 + d.length := by rw [hl7]; simp; omega
        have Hl7 := Lib.hid hl7
        have hown7 := own_below hown hb7
        have hB7 := below_on hB hb7 (Nat.le_refl _)
        clear p0 p1 p2 p3 hcv hl7
        go_wp2_with (at_builtin; refine wpl_append_bs rfl (.tmp 35) (.tmp 39) 22 rfl W1.heap.size 5 infoUB Try.underlying22 _ _ l' rfl hown7 _ _ l7 rfl (Bs.of_own how7) ?_ ?_ ?_; omega; (exact hB7.size); intro a8 c8 l8 W8 hl8 hown8 hg8)
        have hB8 := below_app hB7 hg8 hown7 (Nat.le_refl _) hB7.size
        go_ret
        exact ⟨a8, c8, l8, rfl, by show _ = _; rw [hl8.out, hl'.out, Hl7.out, Hbody.out, List.take_length], Bs.of_own hown8, below_on hB1 hB8 (Nat.le_refl _)⟩
set_option maxRecDepth 100000 in
set_option maxHeartbeats 4000000 in
theorem refSnapBytes_any (i t : Int) (mo ao : Option Addr) (mc ac : Nat) (ml : List Int) (d : List UInt8) (w : World) (hm : Iz w .i64 mo mc ml) (hd : Bs w ao ac d) (hs : soundSn ⟨i, t, ml, d⟩ = true) :
    Calls Try.prog 102 #[.agg #[.int .u64 i, .int .u64 t, .slice mo ml.length mc, .slice ao d.length ac]] w fun e w' => ∃ a c, e = .returned (.slice a (snB ⟨i, t, ml, d⟩).length c) ∧ Fresh w w' a c (snB ⟨i, t, ml, d⟩) := by
  have hlen := snBody_len _ hs
  have Hbd := Lib.hid (fun W h1 h2 => refSnapBody_any i t mo ao mc ac ml d W h1 h2 hs)
  unfold snB
  obtain ⟨B, hB⟩ : ∃ B, B = snBody ⟨i, t, ml, d⟩ := ⟨_, rfl⟩
  rw [← hB] at hlen Hbd ⊢
  clear hs hB
  have hB1 := below_new w (.cells #[.int .u64 i, .int .u64 t, .slice mo ml.length mc, .slice ao d.length ac] 47)
  go_enter Try.func102, Try.ntmps102
  go_wp2_with fail
  refine (Hbd.out _ (hm.below hB1) (hd.below hB1)).mono ?_
  rintro e W2 ⟨a2, c2, l2, rfl, hl2, hb2, hB2⟩
  have hll : l2 = B := hl2.out
  subst hll
  have hBw2 := below_on hB1 hB2 (Nat.le_refl _)
  have hwrap := bytes_any 4 a2 c2 l2 W2 hb2 (by omega)
  rw [show (((4 : UInt8).toNat : Nat) : Int) = 4 from rfl] at hwrap
  have Hwrap := Lib.hid hwrap
  clear hwrap
  go_wp2_with fail
  refine Hwrap.out.mono ?_
  rintro e W9 ⟨a9, c9, rfl, hfr9⟩
  go_wp2_with fail
  go_ret
  exact ⟨a9, c9, rfl, own_base hfr9.own hBw2.size, below_on hBw2 hfr9.bel (Nat.le_refl _)⟩
end Go.Proofs.Ytlphpjgiaflfkaa
