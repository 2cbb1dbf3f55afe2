/- Contract of outbox.Read. No statement of the seat is proved here. -/
import Derived.Test.YtdcinhnplcipoaaObBl
import Derived.Test.YtdcinhnplcipoaaObBw
namespace Go.Proofs.Ytdcinhnplcipoaa
set_option linter.unusedVariables false
set_option linter.unusedSimpArgs false
set_option linter.unusedSectionVars false
open Go Go.RowKit Go.Shelf

/-- the closure num of Read -/
theorem read1_any (most : Nat) (hm : most < 9223372036854775808) {W : World} {q p : Nat} {ao : Option Addr} {cap : Nat} {l : List UInt8} {bad : Bool} (h : Rd 105 W p ao cap l bad) (hq : W.cell? ⟨q, 0, none⟩ = some (.pointer (some ⟨p, 0, none⟩))) :
    Calls Try.prog 61 #[.int .u64 (most : Int), .pointer (some ⟨q, 0, none⟩)] W (RdTold 105 p ao (fun x => .int .i64 x) (readN most l bad) W) := by
  have hle := readN_le most l bad
  have hn := rnum_any most (by omega) h
  obtain ⟨r, hr⟩ : ∃ r, r = readN most l bad := ⟨_, rfl⟩
  rw [← hr] at hle hn ⊢
  clear hr
  obtain ⟨x, l', bad'⟩ := r
  simp only at hle
  have w1 : IntKind.i64.wrap (x : Int) = (x : Int) := IntWalk.i64_in _ (by omega)
  have Hn := Lib.hid hn
  clear hn hm hle
  go_enter Try.func61, Try.ntmps61
  go_wp2_with fail
  refine Hn.out.mono ?_
  rintro e W2 ⟨ao', cap', rfl, hr, hg, hsb⟩
  simp only at hr ⊢
  go_wp2_with fail
  go_ret
  exact ⟨ao', cap', rfl, hr, hg, hsb⟩
/-- the memory of a Read under way: the boxed reader, the result's block, the state's block with its row -/
structure RS (TS TR : TypeId) (W0 wr : World) (p R S : Nat) (last : Int) (ao : Option Addr) (cap : Nat) (l : List No) : Prop where
  r : wr.heap[R]? = some (.cells #[.int .u64 0, .slice none 0 0] TR (0, 0))
  s : wr.heap[S]? = some (.cells #[.int .u64 last, .slice ao l.length cap] TS (0, 0))
  own : wr.ownsRow W0.heap.size 24 9 (.slice ao l.length cap) l.length (l.map noCells).flatten
  fr : W0.grownBy wr (some p)
  rp : W0.heap.size ≤ R
  sp : W0.heap.size ≤ S
  pp : p < W0.heap.size
  rs : R ≠ S
  far : TS ≠ 24 ∧ TR ≠ 24
theorem RS.grown {TS TR : TypeId} {W0 wr w' : World} {p R S : Nat} {last : Int} {ao : Option Addr} {cap : Nat} {l : List No} (h : RS TS TR W0 wr p R S last ao cap l) (hg : wr.grownBy w' (some p)) : RS TS TR W0 w' p R S last ao cap l :=
  have hp := h.pp
  have hr := h.rp
  have hs := h.sp
  ⟨(hg.block R (Array.getElem?_eq_some_iff.1 h.r).1 (by simp; omega)).trans h.r, (hg.block S (Array.getElem?_eq_some_iff.1 h.s).1 (by simp; omega)).trans h.s, h.own.kept hg (by
    cases ho : (Value.slice ao l.length cap).ownBlock with
    | none => exact .inl rfl
    | some g => exact .inr (fun e => by have := (h.own.lt g ho).1; simp at e; omega)), grown_trans h.fr hg, h.rp, h.sp, h.pp, h.rs, h.far⟩
theorem RS.below {TS TR : TypeId} {W0 wr w' : World} {p R S : Nat} {last : Int} {ao : Option Addr} {cap : Nat} {l : List No} (h : RS TS TR W0 wr p R S last ao cap l) (hb : Below wr.heap.size wr w') : RS TS TR W0 w' p R S last ao cap l := h.grown (grown_below hb)
/-- a store in another block of the call's own -/
theorem RS.other {TS TR : TypeId} {W0 wr : World} {p R S N : Nat} {last : Int} {ao : Option Addr} {cap : Nat} {l : List No} {w' : World} (h : RS TS TR W0 wr p R S last ao cap l) (hg : wr.grownBy w' (some N)) (hN : W0.heap.size ≤ N) (hr : N ≠ R) (hs : N ≠ S) (ho : (Value.slice ao l.length cap).ownBlock ≠ some N) : RS TS TR W0 w' p R S last ao cap l :=
  ⟨(hg.block R (Array.getElem?_eq_some_iff.1 h.r).1 (by simp; omega)).trans h.r, (hg.block S (Array.getElem?_eq_some_iff.1 h.s).1 (by simp; omega)).trans h.s, h.own.kept hg (.inr ho),
    ⟨hg.os.trans h.fr.os, hg.tape.trans h.fr.tape, hg.output.trans h.fr.output, Nat.le_trans h.fr.size hg.size, fun k hk hne => (hg.block k (by have := h.fr.size; omega) (by simp; omega)).trans (h.fr.block k hk hne)⟩, h.rp, h.sp, h.pp, h.rs, h.far⟩
/-- one more notice behind the row -/
theorem RS.push {TS TR : TypeId} {W0 wr w1 : World} {p R S : Nat} {last : Int} {ao ao2 : Option Addr} {cap cap2 : Nat} {l : List No} {n : No} (h : RS TS TR W0 wr p R S last ao cap l)
    (ho : w1.ownsRow W0.heap.size 24 9 (.slice ao2 (l.length + 1) cap2) (l.length + 1) (l.map noCells ++ [noCells n]).flatten) (hg : wr.grownBy w1 (Value.slice ao l.length cap).ownBlock) (hlie : ∀ g, (Value.slice ao2 (l.length + 1) cap2).ownBlock = some g → (Value.slice ao l.length cap).ownBlock = some g ∨ wr.heap.size ≤ g) :
    w1.heap[S]? = some (.cells #[.int .u64 last, .slice ao l.length cap] TS (0, 0)) ∧ RS TS TR W0 (w1.setCell ⟨S, 1, none⟩ (.slice ao2 (l.length + 1) cap2)) p R S last ao2 cap2 (l ++ [n]) := by
  have hne : ∀ k x T, wr.heap[k]? = some (.cells x T (0, 0)) → T ≠ 24 → (Value.slice ao l.length cap).ownBlock ≠ some k := fun k x T hk hT e => by
    have := own_elem h.own k e
    rw [elem?_of hk] at this
    exact hT (by simpa using this)
  have hnS := hne S _ _ h.s h.far.1
  have hnR := hne R _ _ h.r h.far.2
  have hSz := (Array.getElem?_eq_some_iff.1 h.s).1
  have hRz := (Array.getElem?_eq_some_iff.1 h.r).1
  have s1 : w1.heap[S]? = some (.cells #[.int .u64 last, .slice ao l.length cap] TS (0, 0)) := (hg.block S hSz (fun e => hnS e.symm)).trans h.s
  have r1 := (hg.block R hRz (fun e => hnR e.symm)).trans h.r
  have s2 := block_set s1 1 (.slice ao2 (l.length + 1) cap2)
  simp only [List.setIfInBounds_toArray, List.set_cons_zero, List.set_cons_succ] at s2
  have e1 : (l ++ [n]).length = l.length + 1 := by simp
  have e2 : ((l ++ [n]).map noCells).flatten = (l.map noCells ++ [noCells n]).flatten := by simp
  have hgs := grown_set w1 S 1 (.slice ao2 (l.length + 1) cap2)
  have hrs := h.rs
  have hpp := h.pp
  have hsp := h.sp
  refine ⟨s1, ?_, ?_, ?_, ?_, h.rp, h.sp, h.pp, h.rs, h.far⟩
  · exact (hgs.block R (by have := hg.size; omega) (by simp; omega)).trans r1
  · rw [e1]; exact s2
  · rw [e1, e2]
    refine ho.kept hgs ?_
    cases hv : (Value.slice ao2 (l.length + 1) cap2).ownBlock with
    | none => exact .inl rfl
    | some g =>
      refine .inr (fun e => ?_)
      simp at e
      subst e
      rcases hlie _ hv with h1 | h1
      · exact hnS h1
      · omega
  · refine ⟨hg.os.trans h.fr.os, hg.tape.trans h.fr.tape, hg.output.trans h.fr.output, Nat.le_trans h.fr.size (Nat.le_trans hg.size hgs.size), fun k hk hne2 => ?_⟩
    refine (hgs.block k (by have := h.fr.size; have := hg.size; omega) (by simp; omega)).trans ((hg.block k (by have := h.fr.size; omega) (fun e => ?_)).trans (h.fr.block k hk hne2))
    have := (h.own.lt k e.symm).1
    omega
/-- what a Read of a state tells -/
def ReadTold (T : TypeId) (p : Nat) (r : (Int × List No) × Bool × (List UInt8 × Bool)) (W : World) (e : Ending) (W' : World) : Prop :=
  ∃ ao cap ar cr, e = .returned (.tuple #[.agg #[.int .u64 r.1.1, .slice ao r.1.2.length cap], .bool r.2.1]) ∧ Ns W' ao cap r.1.2 ∧ Rd T W' p ar cr r.2.2.1 r.2.2.2 ∧ W.grownBy W' (some p) ∧ (0 < r.1.2.length → ∀ a, ao = some a → W.heap.size ≤ a.block)
theorem RS.row {TS TR : TypeId} {W0 wr : World} {p R S : Nat} {last : Int} {ao : Option Addr} {cap : Nat} {l : List No} (h : RS TS TR W0 wr p R S last ao cap l) : Ns wr ao cap l := Ns.of_own h.own
/-- bytes that lie below B -/
def Low (B : Nat) (l : List UInt8) (ao : Option Addr) : Prop := 0 < l.length → ∀ a, ao = some a → a.block < B
theorem Low.read {B most x : Nat} {l l' : List UInt8} {bad b' : Bool} {ao ao' : Option Addr} (h : Low B l ao) (hE : (x, l', b') = readN most l bad) (hs : SameBlk ao ao') : Low B l' ao' := fun h0 a' e => by
  obtain ⟨a, e1, e2⟩ := hs a' e
  have := readN_len most l bad
  rw [← hE] at this
  rw [← e2]
  exact h (by simp only at this; omega) a e1
theorem Low.of {W : World} {ao : Option Addr} {cap : Nat} {l : List UInt8} (h : Bs W ao cap l) : Low W.heap.size l ao := fun h0 a e => by
  obtain ⟨b, off, e2, hc⟩ := h.get 0 h0
  rw [e] at e2
  cases e2
  exact cell?_lt hc
theorem Rd.above {w w' : World} {Tr : TypeId} {p B : Nat} {ao : Option Addr} {cap : Nat} {l : List UInt8} {bad : Bool} (h : Rd Tr w p ao cap l bad) (hp : p < B) (hl : Low B l ao) (hk : ∀ k, k < B → w'.heap[k]? = w.heap[k]?) : Rd Tr w' p ao cap l bad :=
  ⟨(hk p hp).trans h.blk, ⟨h.bs.len, h.bs.le, h.bs.max, h.bs.none, fun j v hv => by
    obtain ⟨b, off, e, hc⟩ := h.bs.cell j v hv
    have h0 : 0 < l.length := by
      cases l with
      | nil => simp at hv
      | cons c l => simp
    exact ⟨b, off, e, by rw [World.cell?_of_block (w := w) (hk b (hl h0 _ e))]; exact hc⟩⟩⟩
theorem grown_new {W w1 w2 : World} {p N : Nat} (h : W.grownBy w1 (some p)) (hg : w1.grownBy w2 (some N)) (hN : W.heap.size ≤ N) : W.grownBy w2 (some p) :=
  ⟨hg.os.trans h.os, hg.tape.trans h.tape, hg.output.trans h.output, Nat.le_trans h.size hg.size, fun k hk hne => (hg.block k (by have := h.size; omega) (by simp; omega)).trans (h.block k hk hne)⟩
theorem readS_of {l lx lm lb : List UInt8} {bad bx bm bb : Bool} {x m : Nat} {lL : List No} (h1 : (x, lx, bx) = readN 1152921504606846976 l bad) (h2 : (m, lm, bm) = readN 128 lx bx) (h3 : (lL, (lb, bb)) = readL m (lm, bm)) :
    readS (l, bad) = if bb = false ∧ soundS (x : Int) lL = true then (((x : Int), lL), true, (lb, bb)) else ((0, []), false, ([], true)) := by
  unfold readS
  simp only [← h1, ← h2, ← h3]
theorem readNo_of {l0 l1 l2 l3 l4 l5 l6 l7 l8 l9 : List UInt8} {b0 b1 b2 b3 b4 b5 b6 b7 b8 b9 : Bool} {x0 x1 x2 x3 x4 x5 x6 x7 x8 : Nat} (e0 : (x0, l1, b1) = readN 1152921504606846976 l0 b0) (e1 : (x1, l2, b2) = readN 18446744073709551615 l1 b1) (e2 : (x2, l3, b3) = readN 5 l2 b2) (e3 : (x3, l4, b4) = readN 7 l3 b3) (e4 : (x4, l5, b5) = readN 3 l4 b4) (e5 : (x5, l6, b6) = readN 8 l5 b5) (e6 : (x6, l7, b7) = readN 8 l6 b6) (e7 : (x7, l8, b8) = readN 1048576 l7 b7) (e8 : (x8, l9, b9) = readN 1125899906842624 l8 b8) :
    readNo (l0, b0) = (⟨x0, x1, x2, x3, x4, x5, x6, x7, x8⟩, (l9, b9)) := by
  unfold readNo
  simp only [← e0, ← e1, ← e2, ← e3, ← e4, ← e5, ← e6, ← e7, ← e8]
theorem readL_next {k : Nat} {s s' s'' : List UInt8 × Bool} {l : List No} {n : No} (h : (l, s') = readL k s) (h2 : readNo s' = (n, s'')) : (l ++ [n], s'') = readL (k + 1) s := by
  unfold readL
  rw [← h]
  simp only
  rw [h2]
theorem set9 {w : World} {b : Nat} {u0 u1 u2 u3 u4 u5 u6 u7 u8 : Value} {T : TypeId} (h : w.heap[b]? = some (.cells #[u0, u1, u2, u3, u4, u5, u6, u7, u8] T (0, 0))) (v0 v1 v2 v3 v4 v5 v6 v7 v8 : Value) : (((((((((w.setCell ⟨b, 0, none⟩ v0).setCell ⟨b, 1, none⟩ v1).setCell ⟨b, 2, none⟩ v2).setCell ⟨b, 3, none⟩ v3).setCell ⟨b, 4, none⟩ v4).setCell ⟨b, 5, none⟩ v5).setCell ⟨b, 6, none⟩ v6).setCell ⟨b, 7, none⟩ v7).setCell ⟨b, 8, none⟩ v8).heap[b]? = some (.cells #[v0, v1, v2, v3, v4, v5, v6, v7, v8] T (0, 0)) := by
  have h0 := block_set (block_set (block_set (block_set (block_set (block_set (block_set (block_set (block_set h 0 v0) 1 v1) 2 v2) 3 v3) 4 v4) 5 v5) 6 v6) 7 v7) 8 v8
  simp only [List.setIfInBounds_toArray, List.set_cons_zero, List.set_cons_succ] at h0
  exact h0
theorem Bs.other {w w' : World} {ao : Option Addr} {cap N : Nat} {l : List UInt8} {cs : Array Value} {T : TypeId} (h : Bs w ao cap l) (hg : w.grownBy w' (some N)) (hN : w.heap[N]? = some (.cells cs T (0, 0))) (hcs : ∀ (i : Nat) (n : Int), cs[i]? ≠ some (Value.int .u8 n)) : Bs w' ao cap l :=
  ⟨h.len, h.le, h.max, h.none, fun j v hv => by
    obtain ⟨b, off, e, hc⟩ := h.cell j v hv
    refine ⟨b, off, e, ?_⟩
    have hne : b ≠ N := by
      intro e2
      subst e2
      rw [block_cell hN] at hc
      rw [List.getElem?_map] at hv
      cases hl : l[j]? with
      | none => rw [hl] at hv; cases hv
      | some z =>
        rw [hl] at hv
        simp only [Option.map_some, Option.some.injEq] at hv
        subst hv
        exact hcs _ _ hc
    rw [World.cell?_of_block (w := w) (hg.block b (cell?_lt hc) (by simp; omega))]; exact hc⟩
theorem grown_tower9 (w : World) (b : Nat) (v0 v1 v2 v3 v4 v5 v6 v7 v8 : Value) : w.grownBy (((((((((w.setCell ⟨b, 0, none⟩ v0).setCell ⟨b, 1, none⟩ v1).setCell ⟨b, 2, none⟩ v2).setCell ⟨b, 3, none⟩ v3).setCell ⟨b, 4, none⟩ v4).setCell ⟨b, 5, none⟩ v5).setCell ⟨b, 6, none⟩ v6).setCell ⟨b, 7, none⟩ v7).setCell ⟨b, 8, none⟩ v8) (some b) := grown9 w b 0 v0 v1 v2 v3 v4 v5 v6 v7 v8
theorem rd_tower {w : World} {Tr : TypeId} {p b : Nat} {ao : Option Addr} {cap : Nat} {l : List UInt8} {bad : Bool} (h : Rd Tr w p ao cap l bad) (hb : w.heap[b]? = some (.cells #[.int .u64 0, .int .u64 0, .int .i64 0, .int .i64 0, .int .i64 0, .int .i64 0, .int .i64 0, .int .i64 0, .int .i64 0] 24 (0, 0))) (v0 v1 v2 v3 v4 v5 v6 v7 v8 : Value) : Rd Tr (((((((((w.setCell ⟨b, 0, none⟩ v0).setCell ⟨b, 1, none⟩ v1).setCell ⟨b, 2, none⟩ v2).setCell ⟨b, 3, none⟩ v3).setCell ⟨b, 4, none⟩ v4).setCell ⟨b, 5, none⟩ v5).setCell ⟨b, 6, none⟩ v6).setCell ⟨b, 7, none⟩ v7).setCell ⟨b, 8, none⟩ v8) p ao cap l bad := by
  have hg := grown_tower9 w b v0 v1 v2 v3 v4 v5 v6 v7 v8
  have hne : p ≠ b := by
    intro e
    subst e
    have := h.blk.symm.trans hb
    simp at this
  refine ⟨(hg.block p (Array.getElem?_eq_some_iff.1 h.blk).1 (by simp; omega)).trans h.blk, Bs.other h.bs hg hb ?_⟩
  intro i n
  match i with
  | 0 | 1 | 2 | 3 | 4 | 5 | 6 | 7 | 8 => simp
  | k + 9 => simp
theorem Rd.otherB {w w' : World} {Tr : TypeId} {p N : Nat} {ao : Option Addr} {cap : Nat} {l : List UInt8} {bad : Bool} {a0 a1 a2 a3 a4 a5 a6 a7 a8 : Int} (h : Rd Tr w p ao cap l bad) (hg : w.grownBy w' (some N)) (hN : w.heap[N]? = some (.cells #[.int .u64 a0, .int .u64 a1, .int .i64 a2, .int .i64 a3, .int .i64 a4, .int .i64 a5, .int .i64 a6, .int .i64 a7, .int .i64 a8] 24 (0, 0))) (hne : p ≠ N) : Rd Tr w' p ao cap l bad := by
  refine ⟨(hg.block p (Array.getElem?_eq_some_iff.1 h.blk).1 (by simp; omega)).trans h.blk, Bs.other h.bs hg hN ?_⟩
  intro i n
  match i with
  | 0 | 1 | 2 | 3 | 4 | 5 | 6 | 7 | 8 => simp
  | k + 9 => simp
theorem grown_tower {w w3 : World} {p b : Nat} (h : w.grownBy w3 (some p)) (hb : w.heap.size ≤ b) (v0 v1 v2 v3 v4 v5 v6 v7 v8 : Value) : w.grownBy (((((((((w3.setCell ⟨b, 0, none⟩ v0).setCell ⟨b, 1, none⟩ v1).setCell ⟨b, 2, none⟩ v2).setCell ⟨b, 3, none⟩ v3).setCell ⟨b, 4, none⟩ v4).setCell ⟨b, 5, none⟩ v5).setCell ⟨b, 6, none⟩ v6).setCell ⟨b, 7, none⟩ v7).setCell ⟨b, 8, none⟩ v8) (some p) :=
  have hg := grown_tower9 w3 b v0 v1 v2 v3 v4 v5 v6 v7 v8
  ⟨hg.os.trans h.os, hg.tape.trans h.tape, hg.output.trans h.output, Nat.le_trans h.size hg.size, fun k hk hne => (hg.block k (by have := h.size; omega) (by simp; omega)).trans (h.block k hk hne)⟩
set_option maxRecDepth 100000 in
set_option maxHeartbeats 16000000 in
theorem readS_any {W : World} {p : Nat} {ao : Option Addr} {cap : Nat} {l : List UInt8} {bad : Bool} (h : Rd 105 W p ao cap l bad) :
    Calls Try.prog 29 #[.pointer (some ⟨p, 0, none⟩)] W (ReadTold 105 p (readS (l, bad)) W) := by
  obtain ⟨Q, hQd⟩ : ∃ Q, Q = W.heap.size := ⟨_, rfl⟩
  have hI : ∀ (W : World) (ao : Option Addr) (cap : Nat) (l : List UInt8) (bad : Bool), Rd 105 W p ao cap l bad → Calls Try.prog 62 #[.pointer (some ⟨p, 0, none⟩), .int .u64 1152921504606846976] W (RdTold 105 p ao (fun x => .int .u64 x) (readN 1152921504606846976 l bad) W) := fun W ao cap l bad h => rnum_any 1152921504606846976 (by decide) h
  have HI := Lib.hid hI
  clear hI
  have hA : ∀ (W : World) (ao : Option Addr) (cap : Nat) (l : List UInt8) (bad : Bool), Rd 105 W p ao cap l bad → Calls Try.prog 62 #[.pointer (some ⟨p, 0, none⟩), .int .u64 18446744073709551615] W (RdTold 105 p ao (fun x => .int .u64 x) (readN 18446744073709551615 l bad) W) := fun W ao cap l bad h => rnum_any 18446744073709551615 (by decide) h
  have HA := Lib.hid hA
  clear hA
  have hM : ∀ (W : World) (ao : Option Addr) (cap : Nat) (l : List UInt8) (bad : Bool), Rd 105 W p ao cap l bad → Calls Try.prog 62 #[.pointer (some ⟨p, 0, none⟩), .int .u64 128] W (RdTold 105 p ao (fun x => .int .u64 x) (readN 128 l bad) W) := fun W ao cap l bad h => rnum_any 128 (by decide) h
  have HM := Lib.hid hM
  clear hM
  have h5 : ∀ (W : World) (ao : Option Addr) (cap : Nat) (l : List UInt8) (bad : Bool), Rd 105 W p ao cap l bad → W.cell? ⟨Q, 0, none⟩ = some (.pointer (some ⟨p, 0, none⟩)) → Calls Try.prog 61 #[.int .u64 5, .pointer (some ⟨Q, 0, none⟩)] W (RdTold 105 p ao (fun x => .int .i64 x) (readN 5 l bad) W) := fun W ao cap l bad h hq => read1_any 5 (by decide) h hq
  have H5 := Lib.hid h5
  clear h5
  have h7 : ∀ (W : World) (ao : Option Addr) (cap : Nat) (l : List UInt8) (bad : Bool), Rd 105 W p ao cap l bad → W.cell? ⟨Q, 0, none⟩ = some (.pointer (some ⟨p, 0, none⟩)) → Calls Try.prog 61 #[.int .u64 7, .pointer (some ⟨Q, 0, none⟩)] W (RdTold 105 p ao (fun x => .int .i64 x) (readN 7 l bad) W) := fun W ao cap l bad h hq => read1_any 7 (by decide) h hq
  have H7 := Lib.hid h7
  clear h7
  have h3 : ∀ (W : World) (ao : Option Addr) (cap : Nat) (l : List UInt8) (bad : Bool), Rd 105 W p ao cap l bad → W.cell? ⟨Q, 0, none⟩ = some (.pointer (some ⟨p, 0, none⟩)) → Calls Try.prog 61 #[.int .u64 3, .pointer (some ⟨Q, 0, none⟩)] W (RdTold 105 p ao (fun x => .int .i64 x) (readN 3 l bad) W) := fun W ao cap l bad h hq => read1_any 3 (by decide) h hq
  have H3 := Lib.hid h3
  clear h3
  have h8 : ∀ (W : World) (ao : Option Addr) (cap : Nat) (l : List UInt8) (bad : Bool), Rd 105 W p ao cap l bad → W.cell? ⟨Q, 0, none⟩ = some (.pointer (some ⟨p, 0, none⟩)) → Calls Try.prog 61 #[.int .u64 8, .pointer (some ⟨Q, 0, none⟩)] W (RdTold 105 p ao (fun x => .int .i64 x) (readN 8 l bad) W) := fun W ao cap l bad h hq => read1_any 8 (by decide) h hq
  have H8 := Lib.hid h8
  clear h8
  have hW : ∀ (W : World) (ao : Option Addr) (cap : Nat) (l : List UInt8) (bad : Bool), Rd 105 W p ao cap l bad → W.cell? ⟨Q, 0, none⟩ = some (.pointer (some ⟨p, 0, none⟩)) → Calls Try.prog 61 #[.int .u64 1048576, .pointer (some ⟨Q, 0, none⟩)] W (RdTold 105 p ao (fun x => .int .i64 x) (readN 1048576 l bad) W) := fun W ao cap l bad h hq => read1_any 1048576 (by decide) h hq
  have HW := Lib.hid hW
  clear hW
  have hX : ∀ (W : World) (ao : Option Addr) (cap : Nat) (l : List UInt8) (bad : Bool), Rd 105 W p ao cap l bad → W.cell? ⟨Q, 0, none⟩ = some (.pointer (some ⟨p, 0, none⟩)) → Calls Try.prog 61 #[.int .u64 1125899906842624, .pointer (some ⟨Q, 0, none⟩)] W (RdTold 105 p ao (fun x => .int .i64 x) (readN 1125899906842624 l bad) W) := fun W ao cap l bad h hq => read1_any 1125899906842624 (by decide) h hq
  have HX := Lib.hid hX
  clear hX
  have hpz := (Array.getElem?_eq_some_iff.1 h.blk).1
  obtain ⟨W1, hW1⟩ : ∃ W1, W1 = (W.alloc (.cells #[.pointer (some ⟨p, 0, none⟩)] 73)).alloc (.cells #[.int .u64 0, .slice none 0 0] 44) := ⟨_, rfl⟩
  obtain ⟨k0, k1, kz, hB1⟩ := news2 hW1
  rw [← hQd] at k0 k1
  have hQp : p < Q := by omega
  have hq0 := block_cell k0 0
  simp at hq0
  go_enter Try.func29, Try.ntmps29
  go_wp2_with fail
  rw [← hQd]
  try rw [← hW1]
  clear hW1
  have hR1 : Q + 1 < W1.heap.size := by omega
  obtain ⟨R, hRd⟩ : ∃ R, R = Q + 1 := ⟨_, rfl⟩
  have hRQ : Q < R := by omega
  have hQd2 : W.heap.size ≤ Q := by omega
  rw [← hRd] at k1 ⊢
  clear hRd hR1 hQd kz
  obtain ⟨⟨x, lx, bx⟩, hE⟩ : ∃ r, r = readN 1152921504606846976 l bad := ⟨_, rfl⟩
  have hc := HI.out W1 ao cap l bad (h.below hB1)
  unfold RdTold at hc
  simp only [← hE] at hc
  have HEx := Lib.hid hE
  clear hE
  refine hc.mono ?_
  clear hc
  rintro e W2 ⟨arx, crx, rfl, hrd, hg2, hsbx⟩
  have hlow := (Low.of h.bs).read HEx.out hsbx
  have k0 := (hg2.block Q (Array.getElem?_eq_some_iff.1 k0).1 (by simp; omega)).trans k0
  have k1 := (hg2.block R (Array.getElem?_eq_some_iff.1 k1).1 (by simp; omega)).trans k1
  have hfr2 : W.grownBy W2 (some p) := grown_trans (grown_below hB1) hg2
  clear hq0
  have hq0 := block_cell k0 0
  simp at hq0
  have hR2 := (Array.getElem?_eq_some_iff.1 k1).1
  have hQ2 := (Array.getElem?_eq_some_iff.1 k0).1
  go_wp2_with fail
  obtain ⟨W3, hW3⟩ : ∃ W3, W3 = W2.alloc (.cells #[.int .u64 (x : Int), .slice none 0 0] 44) := ⟨_, rfl⟩
  have hb3 : Below W2.heap.size W2 W3 := by rw [hW3]; exact below_new _ _
  have k2 : W3.heap[W2.heap.size]? = _ := (congrArg (fun z : World => z.heap[W2.heap.size]?) hW3).trans (heap_alloc_new _ _)
  rw [← hW3]
  clear hW3
  obtain ⟨S, hS⟩ : ∃ S, S = W2.heap.size := ⟨_, rfl⟩
  rw [← hS] at k2 ⊢
  have hRS : RS 44 44 W W3 p R S (x : Int) none 0 [] := ⟨(hb3.block R hR2).trans k1, k2, World.ownsRow_nil _ _ _ _, grown_trans hfr2 (grown_below hb3), by omega, by have := hfr2.size; omega, hpz, by omega, by decide, by decide⟩
  have hQ := (hb3.block Q (Array.getElem?_eq_some_iff.1 k0).1).trans k0
  have hrd := hrd.below hb3
  have hQS : Q < S := by omega
  clear hb3 k2 k1 k0 hfr2 hg2 hB1 hR2 hS hq0
  obtain ⟨⟨m, lm, bm⟩, hE⟩ : ∃ r, r = readN 128 lx bx := ⟨_, rfl⟩
  have hc := HM.out W3 arx crx lx bx hrd
  unfold RdTold at hc
  simp only [← hE] at hc
  have HEm := Lib.hid hE
  have hm128 : m ≤ 128 := by have := readN_le 128 lx bx; rw [← hE] at this; exact this
  clear hE
  refine hc.mono ?_
  clear hc hrd
  rintro e W4 ⟨arm, crm, rfl, hrd, hg4, hsbm⟩
  have hlow := hlow.read HEm.out hsbm
  have hRS := hRS.grown hg4
  have hQ := (hg4.block Q (Array.getElem?_eq_some_iff.1 hQ).1 (by simp; omega)).trans hQ
  clear hg4
  go_wp2_with fail
  go_loopw [13] (fun a wr => ∃ (i : Nat) (aoL : Option Addr) (capL : Nat) (lL : List No) (ar : Option Addr) (cr : Nat) (lb : List UInt8) (bb : Bool), a = .int .u64 i ∧ i ≤ m ∧ Hid ((lL, (lb, bb)) = readL i (lm, bm)) ∧ lL.length ≤ i ∧ RS 44 44 W wr p R S (x : Int) aoL capL lL ∧ Rd 105 wr p ar cr lb bb ∧ Low W.heap.size lb ar ∧ wr.heap[Q]? = some (.cells #[.pointer (some ⟨p, 0, none⟩)] 73 (0, 0))) (fun a _ => m - (intOf a).toNat)
  case atStart => exact ⟨0, none, 0, [], arm, crm, lm, bm, rfl, by omega, rfl, by simp, hRS, hrd, hlow, hQ⟩
  case round =>
    clear hRS hrd hQ hlow
    obtain ⟨i, aoL, capL, lL, ar, cr, lb, bb, rfl, hi, hlb, hlen, hRS, hrd, hlow, hQ⟩ := hrel
    have cq := block_cell hQ 0
    simp at cq
    have hQz := (Array.getElem?_eq_some_iff.1 hQ).1
    by_cases hlt : i < m
    · have i1 : (i : Int) < (m : Int) := by omega
      have w0 : IntKind.u64.wrap ((i : Int) + 1) = (i : Int) + 1 := IntWalk.u64_in _ (by omega)
      obtain ⟨⟨x0, lb0, bb0⟩, hE0⟩ : ∃ r, r = readN 1152921504606846976 lb bb := ⟨_, rfl⟩
      obtain ⟨⟨x1, lb1, bb1⟩, hE1⟩ : ∃ r, r = readN 18446744073709551615 lb0 bb0 := ⟨_, rfl⟩
      have hc0 := fun W ao cap hrd => HI.out W ao cap lb bb hrd
      have hc1 := fun W ao cap hrd => HA.out W ao cap lb0 bb0 hrd
      unfold RdTold at hc0 hc1
      simp only [← hE0, ← hE1] at hc0 hc1
      have HE0 := Lib.hid hE0
      have HE1 := Lib.hid hE1
      have Hc0 := Lib.hid hc0
      have Hc1 := Lib.hid hc1
      clear hE0 hE1 hc0 hc1
      have hrdd : Rd 105 wr.drew p ar cr lb bb := hrd.below (Below.refl _ _).drew
      have hqr : ∀ W', wr.drew.grownBy W' (some p) → W'.cell? ⟨Q, 0, none⟩ = some (.pointer (some ⟨p, 0, none⟩)) := fun W' hg => by
        have := (hg.block Q hQz (by simp; omega)).trans hQ
        have c := block_cell this 0
        simpa using c
      go_upto_region 5 with fail
      go_cut [6] (fun a wx => ∃ (N : Nat) (ar1 : Option Addr) (cr1 : Nat), a = .pointer (some ⟨N, 0, none⟩) ∧ wx.heap[N]? = some (.cells #[.int .u64 (x0 : Int), .int .u64 (x1 : Int), .int .i64 0, .int .i64 0, .int .i64 0, .int .i64 0, .int .i64 0, .int .i64 0, .int .i64 0] 24 (0, 0)) ∧ wr.heap.size ≤ N ∧ Rd 105 wx p ar1 cr1 lb1 bb1 ∧ Low W.heap.size lb1 ar1 ∧ wr.grownBy wx (some p))
      case first =>
        have hrdA : Rd 105 (wr.alloc (.cells #[.int .u64 0, .int .u64 0, .int .i64 0, .int .i64 0, .int .i64 0, .int .i64 0, .int .i64 0, .int .i64 0, .int .i64 0] 24)).drew p ar cr lb bb := (hrd.below (below_new _ _)).below (Below.refl _ _).drew
        have hpp := hRS.pp
        have hfs := hRS.fr.size
        have hNA : ∀ w2 : World, ((wr.alloc (.cells #[.int .u64 0, .int .u64 0, .int .i64 0, .int .i64 0, .int .i64 0, .int .i64 0, .int .i64 0, .int .i64 0, .int .i64 0] 24)).drew).grownBy w2 (some p) → (w2.heap[wr.heap.size]? = some (.cells #[.int .u64 0, .int .u64 0, .int .i64 0, .int .i64 0, .int .i64 0, .int .i64 0, .int .i64 0, .int .i64 0, .int .i64 0] 24 (0, 0)) ∧ w2.cell? ⟨Q, 0, none⟩ = some (.pointer (some ⟨p, 0, none⟩)) ∧ wr.grownBy w2 (some p)) := fun w2 hg => by
          have hgw : wr.grownBy w2 (some p) := grown_trans (grown_below ((below_new wr _).drew)) hg
          refine ⟨(hg.block wr.heap.size (by simp) (by simp; omega)).trans (heap_alloc_new _ _), ?_, hgw⟩
          have c := block_cell ((hgw.block Q hQz (by simp; omega)).trans hQ) 0
          simpa using c
        have hNB : ∀ w2 w3 : World, (w2.alloc (.cells #[.int .u64 0, .int .u64 0, .int .i64 0, .int .i64 0, .int .i64 0, .int .i64 0, .int .i64 0, .int .i64 0, .int .i64 0] 24)).grownBy w3 (some p) → p < w2.heap.size → (w3.heap[w2.heap.size]? = some (.cells #[.int .u64 0, .int .u64 0, .int .i64 0, .int .i64 0, .int .i64 0, .int .i64 0, .int .i64 0, .int .i64 0, .int .i64 0] 24 (0, 0)) ∧ w2.grownBy w3 (some p)) := fun w2 w3 hg hp =>
          ⟨(hg.block w2.heap.size (by simp) (by simp; omega)).trans (heap_alloc_new _ _), grown_trans (grown_below (below_new w2 _)) hg⟩
        have hgd : wr.grownBy wr.drew (some p) := grown_below (Below.refl _ _).drew
        clear cq
        have cq := block_cell hQ 0
        simp at cq
        have hqg : ∀ W' : World, wr.grownBy W' (some p) → W'.cell? ⟨Q, 0, none⟩ = some (.pointer (some ⟨p, 0, none⟩)) := fun W' hg => by
          have c := block_cell ((hg.block Q hQz (by simp; omega)).trans hQ) 0
          simpa using c
        have cqd := hqg wr.drew hgd
        have cqA := hqg (wr.alloc (.cells #[.int .u64 0, .int .u64 0, .int .i64 0, .int .i64 0, .int .i64 0, .int .i64 0, .int .i64 0, .int .i64 0, .int .i64 0] 24)).drew (grown_below (below_new wr _).drew)
        go_region_held3 (fun W' => W'.cell? ⟨Q, 0, none⟩ = some (.pointer (some ⟨p, 0, none⟩)))
          (first | with_reducible exact hqg _ (grown_tower (grown_trans hgw2 hg3') hgw2.size _ _ _ _ _ _ _ _ _) | with_reducible exact hqg _ (grown_tower hgw3 (Nat.le_refl _) _ _ _ _ _ _ _ _ _) | with_reducible exact hqg _ (grown_trans hgw3 (grown_below (below_new _ _))) | with_reducible exact cq3 | with_reducible exact hqg _ (grown_trans hgw2 (grown_below (below_new _ _))) | with_reducible exact cq2 | with_reducible exact cqd | with_reducible exact cqA | go_keep)
          (first
            | (go_at_call 62; refine (Hc1.out _ ar2 cr2 ?_).mono ?_; (first | with_reducible exact hrd2 | with_reducible exact hrd2.below (below_new _ _)); rintro e w3 ⟨ar3, cr3, rfl, hrd3, hg3, hsb3⟩; (first | (with_reducible have hX3 := hNB w2 w3 hg3 p2z; obtain ⟨n3, hg3'⟩ := hX3; have hgw3 : wr.grownBy w3 (some p) := grown_trans hgw2 hg3'; obtain ⟨nn0, nn1, nn2, nn3, nn4, nn5, nn6, nn7, nn8⟩ := blk9 n3; obtain ⟨zz0, zz1, zz2, zz3, zz4, zz5, zz6, zz7, zz8⟩ := blk9z n3) | (with_reducible have n3 := (hg3.block wr.heap.size (Array.getElem?_eq_some_iff.1 n2).1 (by simp; omega)).trans n2; have hgw3 : wr.grownBy w3 (some p) := grown_trans hgw2 hg3; obtain ⟨nn0, nn1, nn2, nn3, nn4, nn5, nn6, nn7, nn8⟩ := blk9 n3; obtain ⟨zz0, zz1, zz2, zz3, zz4, zz5, zz6, zz7, zz8⟩ := blk9z n3) | (have hgw3 : wr.grownBy w3 (some p) := grown_trans hgw2 hg3)); have cq3 := hqg w3 hgw3)
            | (go_at_call 62; refine (Hc0.out _ ar cr ?_).mono ?_; (first | with_reducible exact hrdd | with_reducible exact hrdA); rintro e w2 ⟨ar2, cr2, rfl, hrd2, hg2, hsb2⟩; (first | (with_reducible have cq2 := hqr w2 hg2; have hgw2 : wr.grownBy w2 (some p) := grown_trans hgd hg2) | (with_reducible have hX2 := hNA w2 hg2; obtain ⟨n2, cq2, hgw2⟩ := hX2)); have q2z := cell?_lt cq2; have p2z := (Array.getElem?_eq_some_iff.1 hrd2.blk).1))
        all_goals
          go_wp2_with fail
          go_meet
          have hlow3 := (hlow.read HE0.out hsb2).read HE1.out hsb3
          first
            | (have hnn2 := n2; exact ⟨wr.heap.size, ar3, cr3, rfl, set9 n3 _ _ _ _ _ _ _ _ _, Nat.le_refl _, rd_tower hrd3 n3 _ _ _ _ _ _ _ _ _, hlow3, grown_tower hgw3 (Nat.le_refl _) _ _ _ _ _ _ _ _ _⟩)
            | (have hnn3 := hg3'; exact ⟨w2.heap.size, ar3, cr3, rfl, set9 n3 _ _ _ _ _ _ _ _ _, hgw2.size, rd_tower hrd3 n3 _ _ _ _ _ _ _ _ _, hlow3, grown_tower hgw3 hgw2.size _ _ _ _ _ _ _ _ _⟩)
            | exact ⟨w3.heap.size, ar3, cr3, rfl, heap_alloc_new _ _, hgw3.size, hrd3.below (below_new _ _), hlow3, grown_trans hgw3 (grown_below (below_new _ _))⟩
      case rest =>
        obtain ⟨N, ar1, cr1, rfl, hN, hNz, hrd1, hlow1, hgc⟩ := hcut
        clear hlow
        have hlow := hlow1
        clear Hc0 Hc1 hrdd hqr hrd cq
        have hRSr := hRS
        have hRS := hRS.grown hgc
        have hQ := (hgc.block Q hQz (by simp; omega)).trans hQ
        have hsz0 := hRS.fr.size
        have hNp : p < N := by have := hRS.pp; omega
        have hrd := hrd1
        have hNR : N ≠ R := by have := (Array.getElem?_eq_some_iff.1 hRSr.r).1; omega
        have hNS : N ≠ S := by have := (Array.getElem?_eq_some_iff.1 hRSr.s).1; omega
        have hNo : (Value.slice aoL lL.length capL).ownBlock ≠ some N := fun e => by have := (hRSr.own.lt N e).2; omega
        clear hgc hrd1 hRSr
        have cq := block_cell hQ 0
        simp at cq
        go_wp2_with fail
        obtain ⟨⟨x2, lb2, bb2⟩, hE2⟩ : ∃ r, r = readN 5 lb1 bb1 := ⟨_, rfl⟩
        have hc := H5.out wc ar1 cr1 lb1 bb1 hrd cq
        unfold RdTold at hc
        simp only [← hE2] at hc
        have HE2 := Lib.hid hE2
        have hx2 : x2 ≤ 5 := by have := readN_le 5 lb1 bb1; rw [← HE2.out] at this; exact this
        have HX2 := Lib.hid hx2
        clear hE2 hx2
        refine hc.mono ?_
        clear hc
        rintro e V2 ⟨ar2, cr2, rfl, hrd2, hg2, hsb2⟩
        have hlow := hlow.read HE2.out hsb2
        have hRS := hRS.grown hg2
        have hQ := (hg2.block Q (Array.getElem?_eq_some_iff.1 hQ).1 (by simp; omega)).trans hQ
        have hN := (hg2.block N (Array.getElem?_eq_some_iff.1 hN).1 (by simp; omega)).trans hN
        have hrd := hrd2
        clear hg2 hrd2 cq
        have cq := block_cell hQ 0
        simp at cq
        go_wp2_with fail
        obtain ⟨⟨x3, lb3, bb3⟩, hE3⟩ : ∃ r, r = readN 7 lb2 bb2 := ⟨_, rfl⟩
        have hc := H7.out V2 ar2 cr2 lb2 bb2 hrd cq
        unfold RdTold at hc
        simp only [← hE3] at hc
        have HE3 := Lib.hid hE3
        have hx3 : x3 ≤ 7 := by have := readN_le 7 lb2 bb2; rw [← HE3.out] at this; exact this
        have HX3 := Lib.hid hx3
        clear hE3 hx3
        refine hc.mono ?_
        clear hc
        rintro e V3 ⟨ar3, cr3, rfl, hrd3, hg3, hsb3⟩
        have hlow := hlow.read HE3.out hsb3
        have hRS := hRS.grown hg3
        have hQ := (hg3.block Q (Array.getElem?_eq_some_iff.1 hQ).1 (by simp; omega)).trans hQ
        have hN := (hg3.block N (Array.getElem?_eq_some_iff.1 hN).1 (by simp; omega)).trans hN
        have hrd := hrd3
        clear hg3 hrd3 cq
        have cq := block_cell hQ 0
        simp at cq
        go_wp2_with fail
        obtain ⟨⟨x4, lb4, bb4⟩, hE4⟩ : ∃ r, r = readN 3 lb3 bb3 := ⟨_, rfl⟩
        have hc := H3.out V3 ar3 cr3 lb3 bb3 hrd cq
        unfold RdTold at hc
        simp only [← hE4] at hc
        have HE4 := Lib.hid hE4
        have hx4 : x4 ≤ 3 := by have := readN_le 3 lb3 bb3; rw [← HE4.out] at this; exact this
        have HX4 := Lib.hid hx4
        clear hE4 hx4
        refine hc.mono ?_
        clear hc
        rintro e V4 ⟨ar4, cr4, rfl, hrd4, hg4, hsb4⟩
        have hlow := hlow.read HE4.out hsb4
        have hRS := hRS.grown hg4
        have hQ := (hg4.block Q (Array.getElem?_eq_some_iff.1 hQ).1 (by simp; omega)).trans hQ
        have hN := (hg4.block N (Array.getElem?_eq_some_iff.1 hN).1 (by simp; omega)).trans hN
        have hrd := hrd4
        clear hg4 hrd4 cq
        have cq := block_cell hQ 0
        simp at cq
        have zN := (Array.getElem?_eq_some_iff.1 hN).1
        have fz2 := block_free hN 2
        have fc2 := block_cell hN 2
        simp at fc2
        have fz3 := block_free hN 3
        have fc3 := block_cell hN 3
        simp at fc3
        have fz4 := block_free hN 4
        have fc4 := block_cell hN 4
        simp at fc4
        go_wp2_with fail
        have hgs : V4.grownBy (((V4.setCell ⟨N, 2, none⟩ (.int .i64 (x2 : Int))).setCell ⟨N, 3, none⟩ (.int .i64 (x3 : Int))).setCell ⟨N, 4, none⟩ (.int .i64 (x4 : Int))) (some N) := (grown_trans (grown_trans (grown_set _ _ _ _) (grown_set _ _ _ _)) (grown_set _ _ _ _))
        have hNs := (block_set (block_set (block_set hN 2 (.int .i64 (x2 : Int))) 3 (.int .i64 (x3 : Int))) 4 (.int .i64 (x4 : Int)))
        simp only [List.setIfInBounds_toArray, List.set_cons_zero, List.set_cons_succ] at hNs
        obtain ⟨U1, hU1⟩ : ∃ U1, U1 = (((V4.setCell ⟨N, 2, none⟩ (.int .i64 (x2 : Int))).setCell ⟨N, 3, none⟩ (.int .i64 (x3 : Int))).setCell ⟨N, 4, none⟩ (.int .i64 (x4 : Int))) := ⟨_, rfl⟩
        rw [← hU1] at hgs hNs ⊢
        clear hU1
        have hRS := hRS.other hgs (by omega) hNR hNS hNo
        have hQ := (hgs.block Q (Array.getElem?_eq_some_iff.1 hQ).1 (by simp; omega)).trans hQ
        have hrd := hrd.otherB hgs hN (by omega)
        clear hN
        have hN := hNs
        clear hNs hgs cq fz2 fc2 fz3 fc3 fz4 fc4 zN
        have cq := block_cell hQ 0
        simp at cq
        obtain ⟨⟨x5, lb5, bb5⟩, hE5⟩ : ∃ r, r = readN 8 lb4 bb4 := ⟨_, rfl⟩
        have hc := H8.out U1 ar4 cr4 lb4 bb4 hrd cq
        unfold RdTold at hc
        simp only [← hE5] at hc
        have HE5 := Lib.hid hE5
        have hx5 : x5 ≤ 8 := by have := readN_le 8 lb4 bb4; rw [← HE5.out] at this; exact this
        have HX5 := Lib.hid hx5
        clear hE5 hx5
        refine hc.mono ?_
        clear hc
        rintro e V5 ⟨ar5, cr5, rfl, hrd5, hg5, hsb5⟩
        have hlow := hlow.read HE5.out hsb5
        have hRS := hRS.grown hg5
        have hQ := (hg5.block Q (Array.getElem?_eq_some_iff.1 hQ).1 (by simp; omega)).trans hQ
        have hN := (hg5.block N (Array.getElem?_eq_some_iff.1 hN).1 (by simp; omega)).trans hN
        have hrd := hrd5
        clear hg5 hrd5 cq
        have cq := block_cell hQ 0
        simp at cq
        go_wp2_with fail
        obtain ⟨⟨x6, lb6, bb6⟩, hE6⟩ : ∃ r, r = readN 8 lb5 bb5 := ⟨_, rfl⟩
        have hc := H8.out V5 ar5 cr5 lb5 bb5 hrd cq
        unfold RdTold at hc
        simp only [← hE6] at hc
        have HE6 := Lib.hid hE6
        have hx6 : x6 ≤ 8 := by have := readN_le 8 lb5 bb5; rw [← HE6.out] at this; exact this
        have HX6 := Lib.hid hx6
        clear hE6 hx6
        refine hc.mono ?_
        clear hc
        rintro e V6 ⟨ar6, cr6, rfl, hrd6, hg6, hsb6⟩
        have hlow := hlow.read HE6.out hsb6
        have hRS := hRS.grown hg6
        have hQ := (hg6.block Q (Array.getElem?_eq_some_iff.1 hQ).1 (by simp; omega)).trans hQ
        have hN := (hg6.block N (Array.getElem?_eq_some_iff.1 hN).1 (by simp; omega)).trans hN
        have hrd := hrd6
        clear hg6 hrd6 cq
        have cq := block_cell hQ 0
        simp at cq
        have zN := (Array.getElem?_eq_some_iff.1 hN).1
        have fz5 := block_free hN 5
        have fc5 := block_cell hN 5
        simp at fc5
        have fz6 := block_free hN 6
        have fc6 := block_cell hN 6
        simp at fc6
        go_wp2_with fail
        have hgs : V6.grownBy ((V6.setCell ⟨N, 5, none⟩ (.int .i64 (x5 : Int))).setCell ⟨N, 6, none⟩ (.int .i64 (x6 : Int))) (some N) := (grown_trans (grown_set _ _ _ _) (grown_set _ _ _ _))
        have hNs := (block_set (block_set hN 5 (.int .i64 (x5 : Int))) 6 (.int .i64 (x6 : Int)))
        simp only [List.setIfInBounds_toArray, List.set_cons_zero, List.set_cons_succ] at hNs
        obtain ⟨U2, hU2⟩ : ∃ U2, U2 = ((V6.setCell ⟨N, 5, none⟩ (.int .i64 (x5 : Int))).setCell ⟨N, 6, none⟩ (.int .i64 (x6 : Int))) := ⟨_, rfl⟩
        rw [← hU2] at hgs hNs ⊢
        clear hU2
        have hRS := hRS.other hgs (by omega) hNR hNS hNo
        have hQ := (hgs.block Q (Array.getElem?_eq_some_iff.1 hQ).1 (by simp; omega)).trans hQ
        have hrd := hrd.otherB hgs hN (by omega)
        clear hN
        have hN := hNs
        clear hNs hgs cq fz5 fc5 fz6 fc6 zN
        have cq := block_cell hQ 0
        simp at cq
        obtain ⟨⟨x7, lb7, bb7⟩, hE7⟩ : ∃ r, r = readN 1048576 lb6 bb6 := ⟨_, rfl⟩
        have hc := HW.out U2 ar6 cr6 lb6 bb6 hrd cq
        unfold RdTold at hc
        simp only [← hE7] at hc
        have HE7 := Lib.hid hE7
        have hx7 : x7 ≤ 1048576 := by have := readN_le 1048576 lb6 bb6; rw [← HE7.out] at this; exact this
        have HX7 := Lib.hid hx7
        clear hE7 hx7
        refine hc.mono ?_
        clear hc
        rintro e V7 ⟨ar7, cr7, rfl, hrd7, hg7, hsb7⟩
        have hlow := hlow.read HE7.out hsb7
        have hRS := hRS.grown hg7
        have hQ := (hg7.block Q (Array.getElem?_eq_some_iff.1 hQ).1 (by simp; omega)).trans hQ
        have hN := (hg7.block N (Array.getElem?_eq_some_iff.1 hN).1 (by simp; omega)).trans hN
        have hrd := hrd7
        clear hg7 hrd7 cq
        have cq := block_cell hQ 0
        simp at cq
        go_wp2_with fail
        obtain ⟨⟨x8, lb8, bb8⟩, hE8⟩ : ∃ r, r = readN 1125899906842624 lb7 bb7 := ⟨_, rfl⟩
        have hc := HX.out V7 ar7 cr7 lb7 bb7 hrd cq
        unfold RdTold at hc
        simp only [← hE8] at hc
        have HE8 := Lib.hid hE8
        have hx8 : x8 ≤ 1125899906842624 := by have := readN_le 1125899906842624 lb7 bb7; rw [← HE8.out] at this; exact this
        have HX8 := Lib.hid hx8
        clear hE8 hx8
        refine hc.mono ?_
        clear hc
        rintro e V8 ⟨ar8, cr8, rfl, hrd8, hg8, hsb8⟩
        have hlow := hlow.read HE8.out hsb8
        have hRS := hRS.grown hg8
        have hQ := (hg8.block Q (Array.getElem?_eq_some_iff.1 hQ).1 (by simp; omega)).trans hQ
        have hN := (hg8.block N (Array.getElem?_eq_some_iff.1 hN).1 (by simp; omega)).trans hN
        have hrd := hrd8
        clear hg8 hrd8 cq
        have cq := block_cell hQ 0
        simp at cq
        have zN := (Array.getElem?_eq_some_iff.1 hN).1
        have fz7 := block_free hN 7
        have fc7 := block_cell hN 7
        simp at fc7
        have fz8 := block_free hN 8
        have fc8 := block_cell hN 8
        simp at fc8
        go_upto_region 9 with fail
        have hgs : V8.grownBy ((V8.setCell ⟨N, 7, none⟩ (.int .i64 (x7 : Int))).setCell ⟨N, 8, none⟩ (.int .i64 (x8 : Int))) (some N) := (grown_trans (grown_set _ _ _ _) (grown_set _ _ _ _))
        have hNs := (block_set (block_set hN 7 (.int .i64 (x7 : Int))) 8 (.int .i64 (x8 : Int)))
        simp only [List.setIfInBounds_toArray, List.set_cons_zero, List.set_cons_succ] at hNs
        obtain ⟨U3, hU3⟩ : ∃ U3, U3 = ((V8.setCell ⟨N, 7, none⟩ (.int .i64 (x7 : Int))).setCell ⟨N, 8, none⟩ (.int .i64 (x8 : Int))) := ⟨_, rfl⟩
        rw [← hU3] at hgs hNs ⊢
        clear hU3
        have hRS := hRS.other hgs (by omega) hNR hNS hNo
        have hQ := (hgs.block Q (Array.getElem?_eq_some_iff.1 hQ).1 (by simp; omega)).trans hQ
        have hrd := hrd.otherB hgs hN (by omega)
        clear hN
        have hN := hNs
        clear hNs hgs cq fz7 fc7 fz8 fc8 zN
        have cq := block_cell hQ 0
        simp at cq
        have hNcs := blk9 hN
        obtain ⟨d0, d1, d2, d3, d4, d5, d6, d7, d8⟩ := hNcs
        have cS := block_cell hRS.s 1
        simp at cS
        have zN := (Array.getElem?_eq_some_iff.1 hN).1
        have zS := (Array.getElem?_eq_some_iff.1 hRS.s).1
        have hRS5 := hRS.below (below_new U3 (.cells #[.int .u64 (x0 : Int), .int .u64 (x1 : Int), .int .i64 (x2 : Int), .int .i64 (x3 : Int), .int .i64 (x4 : Int), .int .i64 (x5 : Int), .int .i64 (x6 : Int), .int .i64 (x7 : Int), .int .i64 (x8 : Int)] 24))
        have hNo2 := readNo_of HE0.out HE1.out HE2.out HE3.out HE4.out HE5.out HE6.out HE7.out HE8.out
        have hnext := Lib.hid (readL_next hlb.out hNo2)
        have hBU := hRS.fr.size
        have hsW := hRS5.own.lt
        clear hNo2
        go_wp2_with (at_builtin; refine wpl_append_one rfl (.tmp 42) (.tmp 44) 42 rfl W.heap.size 24 infoNo Try.underlying42 rfl (by decide) _ lL.length (lL.map noCells) rfl hRS5.own ⟨U3.heap.size, 0, none⟩ 1 (noCells ⟨x0, x1, x2, x3, x4, x5, x6, x7, x8⟩) rfl rfl (news_at _ rfl) (no_one _) ?_ ?_ ?_ ?_; omega; (unfold maxLen; omega); (simp; omega); intro g cap4 Y4 hown4 hg4 hlie; obtain ⟨s4, hRS4⟩ := hRS5.push (n := ⟨x0, x1, x2, x3, x4, x5, x6, x7, x8⟩) hown4 hg4 (fun g' e => by have hgg : g = g' := (by simpa [Value.ownBlock] using e); subst hgg; exact hlie.imp (fun h1 => h1) (fun h1 => Nat.le_of_eq h1.symm)); have cs4 := block_cell s4 1; have fs4 := block_free s4 1; simp at cs4)
        have hQ5 := ((below_new U3 (.cells #[.int .u64 (x0 : Int), .int .u64 (x1 : Int), .int .i64 (x2 : Int), .int .i64 (x3 : Int), .int .i64 (x4 : Int), .int .i64 (x5 : Int), .int .i64 (x6 : Int), .int .i64 (x7 : Int), .int .i64 (x8 : Int)] 24)).block Q (Array.getElem?_eq_some_iff.1 hQ).1).trans hQ
        have hoQ : (Value.slice aoL lL.length capL).ownBlock ≠ some Q := fun e => by
          have := own_elem hRS5.own Q e
          rw [elem?_of hQ5] at this
          exact absurd this (by decide)
        have hgs4 := grown_set Y4 S 1 (.slice (some ⟨g, 0, none⟩) (lL.length + 1) cap4)
        have hQ6 := (hgs4.block Q (Array.getElem?_eq_some_iff.1 ((hg4.block Q (Array.getElem?_eq_some_iff.1 hQ5).1 (fun e => hoQ e.symm)).trans hQ5)).1 (by simp; omega)).trans ((hg4.block Q (Array.getElem?_eq_some_iff.1 hQ5).1 (fun e => hoQ e.symm)).trans hQ5)
        have hWS := hRS.sp
        have hWp := hRS.pp
        have hz45 := hg4.size
        have hkf : ∀ k, k < W.heap.size → (Y4.setCell ⟨S, 1, none⟩ (.slice (some ⟨g, 0, none⟩) (lL.length + 1) cap4)).heap[k]? = U3.heap[k]? := fun k hk => (hgs4.block k (by simp at hz45; omega) (by simp; omega)).trans ((hg4.block k (by simp; omega) (fun e => by have := (hsW k e.symm).1; omega)).trans (heap_alloc_old _ _ (by omega)))
        have hrd6 := hrd.above hWp hlow hkf
        go_roundw
        case rel => exact ⟨i + 1, some ⟨g, 0, none⟩, cap4, lL ++ [⟨x0, x1, x2, x3, x4, x5, x6, x7, x8⟩], ar8, cr8, lb8, bb8, by simp, by omega, hnext, by simp; omega, hRS4, hrd6, hlow, hQ6⟩
        case measure => simp [intOf]; omega
    · have him : i = m := by omega
      subst him
      have hS := Lib.hid (readS_of HEx.out HEm.out hlb.out)
      have hlc : lL.length ≤ 1000000 := by omega
      have hQR : Q ≠ R := by omega
      have hWR := hRS.rp
      have hWp := hRS.pp
      cases bb with
      | true =>
        have Hba := Lib.hid (bad_rd hrd)
        have hS2 := hS.out
        rw [if_neg (by simp)] at hS2
        have HS2 := Lib.hid hS2
        clear hS2 hS
        go_wp2_with fail
        refine Hba.out.mono ?_
        rintro e w5 ⟨rfl, rfl⟩
        go_wp2_with fail
        refine (fail_rd hrd).mono ?_
        rintro e W9 ⟨rfl, hrd9, hg9⟩
        have hRS9 := hRS.grown hg9
        have cR0 := block_cell hRS9.r 0
        have cR1 := block_cell hRS9.r 1
        have zR0 := block_free hRS9.r 0
        have zR1 := block_free hRS9.r 1
        have zR := (Array.getElem?_eq_some_iff.1 hRS9.r).1
        simp at cR0 cR1
        have hgR := grown_set2 W9 R (.int .u64 0) (.slice none 0 0)
        have hR2 := block_set (block_set hRS9.r 0 (.int .u64 0)) 1 (.slice none 0 0)
        simp only [List.setIfInBounds_toArray, List.set_cons_zero, List.set_cons_succ] at hR2
        have u0 := block_cell hR2 0
        have u1 := block_cell hR2 1
        simp at u0 u1
        go_wp2_with fail
        refine bodyPost_ret (v := .tuple #[.agg #[.int .u64 0, .slice none 0 0], .bool false]) (by simp [results, Try.results29, go_sem, u0, u1]) rfl ?_
        rw [HS2.out]
        exact ⟨none, 0, none, 0, rfl, Ns.nil _, hrd9.above hWp (fun h0 => by simp at h0) (fun k hk => hgR.block k (by have := hRS9.fr.size; omega) (by simp; omega)), grown_new hRS9.fr hgR hWR, fun h0 => by simp at h0⟩
      | false =>
        cases hs : soundS (x : Int) lL with
        | false =>
          have Hba := Lib.hid (bad_rd hrd)
          have hso := sound_any (x : Int) aoL capL lL wr hRS.row hlc
          rw [hs] at hso
          have Hso := Lib.hid hso
          have hS2 := hS.out
          rw [if_neg (by simp [hs])] at hS2
          have HS2 := Lib.hid hS2
          have cS0 := block_cell hRS.s 0
          have cS1 := block_cell hRS.s 1
          simp at cS0 cS1
          clear hS2 hS hso hs
          go_wp2_with fail
          refine Hba.out.mono ?_
          rintro e w5 ⟨rfl, rfl⟩
          go_wp2_with fail
          refine Hso.out.mono ?_
          rintro e w6 ⟨rfl, hb6⟩
          have hrd6 := hrd.below hb6
          have hRS6 := hRS.below hb6
          have cq6 := block_cell ((hb6.block Q (Array.getElem?_eq_some_iff.1 hQ).1).trans hQ) 0
          simp at cq6
          go_wp2_with fail
          refine (fail_rd hrd6).mono ?_
          rintro e W9 ⟨rfl, hrd9, hg9⟩
          have hRS9 := hRS6.grown hg9
          have cR0 := block_cell hRS9.r 0
          have cR1 := block_cell hRS9.r 1
          have zR0 := block_free hRS9.r 0
          have zR1 := block_free hRS9.r 1
          have zR := (Array.getElem?_eq_some_iff.1 hRS9.r).1
          simp at cR0 cR1
          have hgR := grown_set2 W9 R (.int .u64 0) (.slice none 0 0)
          have hR2 := block_set (block_set hRS9.r 0 (.int .u64 0)) 1 (.slice none 0 0)
          simp only [List.setIfInBounds_toArray, List.set_cons_zero, List.set_cons_succ] at hR2
          have u0 := block_cell hR2 0
          have u1 := block_cell hR2 1
          simp at u0 u1
          go_wp2_with fail
          refine bodyPost_ret (v := .tuple #[.agg #[.int .u64 0, .slice none 0 0], .bool false]) (by simp [results, Try.results29, go_sem, u0, u1]) rfl ?_
          rw [HS2.out]
          exact ⟨none, 0, none, 0, rfl, Ns.nil _, hrd9.above hWp (fun h0 => by simp at h0) (fun k hk => hgR.block k (by have := hRS9.fr.size; omega) (by simp; omega)), grown_new hRS9.fr hgR hWR, fun h0 => by simp at h0⟩
        | true =>
          have Hba := Lib.hid (bad_rd hrd)
          have hso := sound_any (x : Int) aoL capL lL wr hRS.row hlc
          rw [hs] at hso
          have Hso := Lib.hid hso
          have hS2 := hS.out
          rw [if_pos ⟨rfl, hs⟩] at hS2
          have HS2 := Lib.hid hS2
          have cS0 := block_cell hRS.s 0
          have cS1 := block_cell hRS.s 1
          simp at cS0 cS1
          clear hS2 hS hso hs
          go_wp2_with fail
          refine Hba.out.mono ?_
          rintro e w5 ⟨rfl, rfl⟩
          go_wp2_with fail
          refine Hso.out.mono ?_
          rintro e W9 ⟨rfl, hb6⟩
          have hrd9 := hrd.below hb6
          have hRS9 := hRS.below hb6
          have t0 := block_cell hRS9.s 0
          have t1 := block_cell hRS9.s 1
          simp at t0 t1
          have cR0 := block_cell hRS9.r 0
          have cR1 := block_cell hRS9.r 1
          have zR0 := block_free hRS9.r 0
          have zR1 := block_free hRS9.r 1
          have zR := (Array.getElem?_eq_some_iff.1 hRS9.r).1
          simp at cR0 cR1
          have hgR := grown_set2 W9 R (.int .u64 (x : Int)) (.slice aoL lL.length capL)
          have hR2 := block_set (block_set hRS9.r 0 (.int .u64 (x : Int))) 1 (.slice aoL lL.length capL)
          simp only [List.setIfInBounds_toArray, List.set_cons_zero, List.set_cons_succ] at hR2
          have u0 := block_cell hR2 0
          have u1 := block_cell hR2 1
          simp at u0 u1
          go_wp2_with fail
          have hnR : (Value.slice aoL lL.length capL).ownBlock ≠ some R := fun e => by
            have := own_elem hRS9.own R e
            rw [elem?_of hRS9.r] at this
            exact absurd this (by decide)
          have hown9 := hRS9.own.kept hgR (.inr hnR)
          refine bodyPost_ret (v := .tuple #[.agg #[.int .u64 (x : Int), .slice aoL lL.length capL], .bool true]) (by simp [results, Try.results29, go_sem, u0, u1]) rfl ?_
          rw [HS2.out]
          exact ⟨aoL, capL, ar, cr, rfl, Ns.of_own hown9, hrd9.above hWp hlow (fun k hk => hgR.block k (by have := hRS9.fr.size; omega) (by simp; omega)), grown_new hRS9.fr hgR hWR, fun _ a e => (hown9.lt a.block (by rw [e]; rfl)).1⟩
end Go.Proofs.Ytdcinhnplcipoaa
