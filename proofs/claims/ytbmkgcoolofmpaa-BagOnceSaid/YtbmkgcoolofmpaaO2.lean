/- Lemmas for BagOnce (Qw). No statement of the seat is proved here. -/
import Derived.Deep.RegionLaw
import Derived.Deep.RegionHeld3
import Derived.Deep.DeepCutAuto
import Derived.Shelf.Abstract
import Derived.Test.YtbmkgcoolofmpaaO1
namespace Go.Proofs.Ytbmkgcoolofmpaa
set_option linter.unusedVariables false
set_option linter.unusedSimpArgs false
set_option linter.unusedSectionVars false
open Go Go.RowKit Go.Shelf
theorem infoUB : (Try.prog.info? 5).map (fun i => (i.zero, i.size, i.bytes)) = some (some (.int .u8 0), 1, 1) := by kernel_rfl
/-- below B only the object and its row have changed -/
structure FrO (B p : Nat) (v : Value) (W W' : World) : Prop where
  os : W'.os = W.os
  tape : W'.tape = W.tape
  output : W'.output = W.output
  size : W.heap.size ≤ W'.heap.size
  block : ∀ k, k < B → k ≠ p → v.ownBlock ≠ some k → W'.heap[k]? = W.heap[k]?
theorem FrO.refl (B p : Nat) (v : Value) (W : World) : FrO B p v W W := ⟨rfl, rfl, rfl, Nat.le_refl _, fun _ _ _ _ => rfl⟩
theorem FrO.next {B p : Nat} {v v' : Value} {W W1 W2 : World} (h : FrO B p v W W1) (h2 : FrO W1.heap.size p v' W1 W2) (hB : B ≤ W1.heap.size) (hv : ∀ k, v'.ownBlock = some k → v.ownBlock = some k ∨ B ≤ k) : FrO B p v W W2 :=
  ⟨h2.os.trans h.os, h2.tape.trans h.tape, h2.output.trans h.output, Nat.le_trans h.size h2.size, fun k hk h3 h4 => (h2.block k (by omega) h3 (fun e => by rcases hv k e with h5 | h5; exact h4 h5; omega)).trans (h.block k hk h3 h4)⟩
theorem FrO.below {B p : Nat} {v : Value} {W W1 W2 : World} (h : FrO B p v W W1) (h2 : Below W1.heap.size W1 W2) (hB : B ≤ W1.heap.size) : FrO B p v W W2 :=
  ⟨h2.os.trans h.os, h2.tape.trans h.tape, h2.output.trans h.output, Nat.le_trans h.size h2.size, fun k hk h3 h4 => (h2.block k (by omega)).trans (h.block k hk h3 h4)⟩
theorem FrO.row {B p : Nat} {v v' : Value} {W W1 W2 : World} (h : FrO B p v W W1) (h2 : W1.grownBy W2 v'.ownBlock) (hB : B ≤ W1.heap.size) (hv : ∀ k, v'.ownBlock = some k → v.ownBlock = some k ∨ B ≤ k) : FrO B p v W W2 :=
  ⟨h2.os.trans h.os, h2.tape.trans h.tape, h2.output.trans h.output, Nat.le_trans h.size h2.size, fun k hk h3 h4 => (h2.block k (by omega) (fun e => by rcases hv k e.symm with h5 | h5; exact h4 h5; omega)).trans (h.block k hk h3 h4)⟩
theorem FrO.obj {B p : Nat} {v : Value} {W W1 W2 : World} (h : FrO B p v W W1) (h2 : W1.grownBy W2 (some p)) (hB : B ≤ W1.heap.size) : FrO B p v W W2 :=
  ⟨h2.os.trans h.os, h2.tape.trans h.tape, h2.output.trans h.output, Nat.le_trans h.size h2.size, fun k hk h3 h4 => (h2.block k (by omega) (fun e => h3 (by simpa using e))).trans (h.block k hk h3 h4)⟩
theorem FrO.below_of {B p B0 : Nat} {v : Value} {w W W' : World} (h : FrO B p v W W') (hb : Below B0 w W) (hB : B0 ≤ B) (h1 : B0 ≤ p) (h2 : ∀ k, v.ownBlock = some k → B0 ≤ k) : Below B0 w W' :=
  ⟨h.os.trans hb.os, h.tape.trans hb.tape, h.output.trans hb.output, Nat.le_trans hb.size h.size, fun k hk => (h.block k (by omega) (by omega) (fun e => by have := h2 k e; omega)).trans (hb.block k hk)⟩
/-- a writer of the call's own, that has written l -/
structure Wr (W : World) (base p : Nat) (v : Value) (l : List UInt8) : Prop where
  blk : W.heap[p]? = some (.cells #[v] 102 (0, 0))
  own : W.ownsRow base 5 1 v l.length (l.map u8)
  le : base ≤ p
  ne : v.ownBlock ≠ some p
  sz : base ≤ W.heap.size
theorem Wr.below {W W' : World} {base p : Nat} {v : Value} {l : List UInt8} (h : Wr W base p v l) (hb : Below W.heap.size W W') : Wr W' base p v l :=
  ⟨(hb.block p (Array.getElem?_eq_some_iff.1 h.blk).1).trans h.blk, own_below h.own hb, h.le, h.ne, Nat.le_trans h.sz hb.size⟩
/-- what a writer's method leaves -/
def Wrote (base p : Nat) (v : Value) (l' : List UInt8) (W : World) (e : Ending) (W' : World) : Prop :=
  e = .returned (.tuple #[]) ∧ ∃ v', Wr W' base p v' l' ∧ FrO W.heap.size p v W W' ∧ (∀ k, v'.ownBlock = some k → v.ownBlock = some k ∨ W.heap.size ≤ k)
/-- behind an append to the row and the store of what it tells -/
theorem Wr.app {W W1 W2 : World} {base p : Nat} {v v' : Value} {l l' : List UInt8} (h : Wr W base p v l) (hB : Below W.heap.size W W1) (ho : W2.ownsRow base 5 1 v' l'.length (l'.map u8)) (hg : W1.grownBy W2 v.ownBlock)
    (hv : ∀ k, v'.ownBlock = some k → v.ownBlock = some k ∨ W1.heap.size ≤ k) :
    W2.heap[p]? = some (.cells #[v] 102 (0, 0)) ∧ Wr (W2.setCell ⟨p, 0, none⟩ v') base p v' l' ∧ FrO W.heap.size p v W (W2.setCell ⟨p, 0, none⟩ v') ∧ (∀ k, v'.ownBlock = some k → v.ownBlock = some k ∨ W.heap.size ≤ k) := by
  have hpz := (Array.getElem?_eq_some_iff.1 h.blk).1
  have hp2 : W2.heap[p]? = some (.cells #[v] 102 (0, 0)) := (hg.block p (by have := hB.size; omega) (fun e => h.ne e.symm)).trans ((hB.block p hpz).trans h.blk)
  have hne : v'.ownBlock ≠ some p := fun e => by
    rcases hv p e with h1 | h1
    · exact h.ne h1
    · have := hB.size; omega
  have hs := block_set hp2 0 v'
  simp only [List.setIfInBounds_toArray, List.set_cons_zero] at hs
  refine ⟨hp2, ⟨hs, ?_, h.le, hne, by have := h.sz; have := hB.size; have := hg.size; simp; omega⟩, ?_, fun k hk => (hv k hk).imp_right (fun x => by have := hB.size; omega)⟩
  · obtain ⟨h1, h2⟩ := ho
    refine ⟨h1, ?_⟩
    rcases h2 with h2 | ⟨g, cap, cur, hv', hg', hh, r⟩
    · exact .inl h2
    · refine .inr ⟨g, cap, cur, hv', hg', ?_, r⟩
      rw [heap_setCell_other W2 ⟨p, 0, none⟩ g _ (fun e => hne (by rw [hv']; simp at e; simp [Value.ownBlock, e]))]; exact hh
  · exact ((((FrO.refl _ p v W).below hB (Nat.le_refl _)).row hg (by have := hB.size; omega) (fun k hk => .inl hk)).obj (grown_set _ _ _ _) (by have := hB.size; have := hg.size; omega))
theorem u8rows (l : List UInt8) : (l.map fun c => [u8 c]).flatten = l.map u8 := by induction l with
  | nil => rfl
  | cons c l ih => simp only [List.map_cons, List.flatten_cons, ih]; rfl
/-- append(out, c) of one byte that lies at 'ad' -/
theorem wpo_append_b1 {P : Program} {w : World} {o : Oper} {a : Act} {K : Act → World → Prop} {Q : Exit → Act → World → Prop} (s x : Operand) (t : TypeId)
    (ho : o.op = .call { callee := .builtin .append, args := #[s, x], argTypes := #[t, t] })
    (base : Nat) (e : TypeId) (hi : (P.info? e).map (fun i => (i.zero, i.size, i.bytes)) = some (some (.int .u8 0), 1, 1)) (ht : P.underlying t = some (.slice e))
    (v : Value) (l : List UInt8) (hs : a.eval s = v) (hown : w.ownsRow base e 1 v l.length (l.map u8))
    (ad : Addr) (cc : Nat) (c : UInt8) (hx : a.eval x = .slice (some ad) 1 cc) (hc : w.cell? ad = some (u8 c))
    (hbytes : l.length + 1 ≤ 140737488355328) (hbase : base ≤ w.heap.size)
    (h : ∀ v' l' w', Hid (l' = l ++ [c]) → w'.ownsRow base e 1 v' l'.length (l'.map u8) → w.grownBy w' v.ownBlock → (∀ k, v'.ownBlock = some k → v.ownBlock = some k ∨ w.heap.size ≤ k) → (∃ ao cap, v' = .slice ao l'.length cap) → K (a.put o.dst v') w') : o.wp P a w K Q := by
  refine wpo_append_one s x t ho base e hi ht rfl (by decide) v l.length (l.map fun c => [u8 c]) hs (by rw [u8rows]; exact hown) ad cc [u8 c] hx rfl ?_ ?_ (by omega) (by unfold maxLen; omega) hbase fun g cap w' h1 h2 h3 => ?_
  · intro j u hu
    cases j with
    | zero =>
      simp only [List.getElem?_cons_zero, Option.some.injEq] at hu
      subst hu
      have : ad.add 0 = ad := by unfold Addr.add; split <;> simp_all
      rw [this]; exact hc
    | succ j => simp at hu
  · intro u hu
    simp only [List.mem_cons, List.not_mem_nil, or_false] at hu
    subst hu; rfl
  · have e1 : (l ++ [c]).length = l.length + 1 := by simp
    have e2 : ((l.map fun c => [u8 c]) ++ [[u8 c]]).flatten = (l ++ [c]).map u8 := by rw [List.flatten_append, u8rows, List.map_append]; rfl
    rw [e2, ← e1] at h1
    have := h (.slice (some ⟨g, 0, .none⟩) (l ++ [c]).length cap) (l ++ [c]) w' rfl h1 h2 (fun k hk => ?_) ⟨_, _, rfl⟩
    · rw [e1] at this; exact this
    · have hk2 : g = k := by simpa [Value.ownBlock] using hk
      subst hk2
      exact h3.imp id (fun e => by omega)
theorem wpl_append_b1 {P : Program} {w : World} {ops : Array Oper} {rest : List Oper} {o : Oper} {a : Act} {Q : Exit → Act → World → Prop} (hw : Region.wanted o (yielded ops a.tmps) = true) (s x : Operand) (t : TypeId)
    (ho : o.op = .call { callee := .builtin .append, args := #[s, x], argTypes := #[t, t] })
    (base : Nat) (e : TypeId) (hi : (P.info? e).map (fun i => (i.zero, i.size, i.bytes)) = some (some (.int .u8 0), 1, 1)) (ht : P.underlying t = some (.slice e))
    (v : Value) (l : List UInt8) (hs : a.eval s = v) (hown : w.ownsRow base e 1 v l.length (l.map u8))
    (ad : Addr) (cc : Nat) (c : UInt8) (hx : a.eval x = .slice (some ad) 1 cc) (hc : w.cell? ad = some (u8 c))
    (hbytes : l.length + 1 ≤ 140737488355328) (hbase : base ≤ w.heap.size)
    (h : ∀ v' l' w', Hid (l' = l ++ [c]) → w'.ownsRow base e 1 v' l'.length (l'.map u8) → w.grownBy w' v.ownBlock → (∀ k, v'.ownBlock = some k → v.ownBlock = some k ∨ w.heap.size ≤ k) → (∃ ao cap, v' = .slice ao l'.length cap) → wpList P ops Q rest (a.put o.dst v') w') : wpList P ops Q (o :: rest) a w :=
  wpl_of hw fun K hK => wpo_append_b1 s x t ho base e hi ht v l hs hown ad cc c hx hc hbytes hbase fun v' l' w' a1 a2 a3 a4 a5 => hK _ _ (h v' l' w' a1 a2 a3 a4 a5)
theorem step_append_b1 {P : Program} {ops : Array Oper} {w : World} {o : Oper} {a : Act} {K : Act → World → Prop} {Q : Exit → Act → World → Prop} {E : Prop} (hw : Region.wanted o (yielded ops a.tmps) = true) (s x : Operand) (t : TypeId)
    (ho : o.op = .call { callee := .builtin .append, args := #[s, x], argTypes := #[t, t] })
    (base : Nat) (e : TypeId) (hi : (P.info? e).map (fun i => (i.zero, i.size, i.bytes)) = some (some (.int .u8 0), 1, 1)) (ht : P.underlying t = some (.slice e))
    (v : Value) (l : List UInt8) (hs : a.eval s = v) (hown : w.ownsRow base e 1 v l.length (l.map u8))
    (ad : Addr) (cc : Nat) (c : UInt8) (hx : a.eval x = .slice (some ad) 1 cc) (hc : w.cell? ad = some (u8 c))
    (hbytes : l.length + 1 ≤ 140737488355328) (hbase : base ≤ w.heap.size)
    (h : ∀ v' l' w', Hid (l' = l ++ [c]) → w'.ownsRow base e 1 v' l'.length (l'.map u8) → w.grownBy w' v.ownBlock → (∀ k, v'.ownBlock = some k → v.ownBlock = some k ∨ w.heap.size ≤ k) → (∃ ao cap, v' = .slice ao l'.length cap) → K (a.put o.dst v') w') :
    if Region.wanted o (yielded ops a.tmps) = true then Oper.wp P o a w K Q else E := by
  rw [if_pos hw]
  exact wpo_append_b1 s x t ho base e hi ht v l hs hown ad cc c hx hc hbytes hbase h
set_option maxHeartbeats 4000000 in
theorem number_any (n : Nat) (hn : n < 2 ^ 64) (m : Nat) (hm : m + 8 < 256) {W : World} {base p : Nat} {v : Value} {l : List UInt8} (h : Wr W base p v l) (hl : l.length ≤ 1099511627776) :
    Calls Try.prog 82 #[.pointer (some ⟨p, 0, none⟩), .int .u64 (n : Int), .int .u8 (m : Int)] W (Wrote base p v (l ++ UInt8.ofNat (m + (digs n).length) :: digs n) W) := by
  have h8 := digs_len8 n hn
  obtain ⟨s, hs⟩ : ∃ s, s = (digs n).length := ⟨_, rfl⟩
  have Hs := Lib.hid hs
  rw [← hs] at h8 ⊢
  clear hs
  have hbl := h.blk
  have hpz := (Array.getElem?_eq_some_iff.1 hbl).1
  have hc0 := block_cell hbl 0
  simp at hc0
  have hsz := h.sz
  go_enter Try.func82, Try.ntmps82
  go_wp2_with fail
  go_loopw [6, 7] (fun a b wr => ∃ (k x : Nat), a = .int .i64 k ∧ b = .int .u64 x ∧ Hid (x = n / 256 ^ k) ∧ k ≤ s ∧ x < 2 ^ 64 ∧ W = wr) (fun a _ _ => s - (intOf a).toNat)
  case atStart => exact ⟨0, n, rfl, rfl, by show _ = _; simp, by omega, hn, rfl⟩
  case round =>
    obtain ⟨k, x, rfl, rfl, hx, hk, hx64, rfl⟩ := hrel
    by_cases hx0 : 0 < x
    · have hx1 : (0 : Int) < (x : Int) := by omega
      have hks : k < s := by
        have h1 := digs_cut n k
        rw [← hx.out, ← Hs.out] at h1
        have h2 : (digs x).length ≠ 0 := fun e => by have := digs_nil.1 e; omega
        omega
      have w1 : IntKind.i64.wrap ((k : Int) + 1) = (k : Int) + 1 := IntWalk.i64_in _ (by omega)
      have hxd : (x : Int) / 256 = ((x / 256 : Nat) : Int) := by omega
      have hxn : x / 256 = n / 256 ^ (k + 1) := by rw [hx.out, Nat.div_div_eq_div_mul, Nat.pow_succ]
      obtain ⟨y, hy⟩ : ∃ y, y = x / 256 := ⟨_, rfl⟩
      rw [← hy] at hxd hxn
      have hy64 : y < 2 ^ 64 := by omega
      have Hxn := Lib.hid hxn
      clear hy hxn hx
      go_wp2_with fail
      go_roundw
      case rel => exact ⟨k + 1, y, by simp, rfl, Hxn, by omega, hy64, (by first | rfl | trivial)⟩
      case measure => simp [intOf]; omega
    · have hx0' : x = 0 := by omega
      subst hx0'
      have hks : k = s := by
        have h1 := digs_cut n k
        rw [← hx.out, ← Hs.out, digs_zero] at h1
        simp at h1
        omega
      subst hks
      clear hx hx0
      obtain ⟨ao, cap, rfl⟩ := own_slice h.own
      have w1 : IntKind.u8.wrap (k : Int) = (k : Int) := IntWalk.u8_in _ (by omega)
      obtain ⟨c, hcd⟩ : ∃ c : UInt8, c = UInt8.ofNat (m + k) := ⟨_, rfl⟩
      have hcn : c.toNat = m + k := by rw [hcd]; simp; omega
      have w2 : IntKind.u8.wrap ((m : Int) + (k : Int)) = (c.toNat : Int) := by rw [hcn]; exact IntWalk.u8_in _ (by omega)
      have Hcd := Lib.hid hcd
      clear hcd hcn
      have hpl : l.length ≤ 1099511627776 := hl
      go_wp2_with (at_builtin; refine wpl_append_b1 rfl (.tmp 20) (.tmp 25) 33 rfl base 5 infoUB Try.underlying33 _ l rfl (h.own.alloc _) ⟨W.heap.size, 0, none⟩ 1 c rfl ?_ ?_ ?_ ?_; simp; omega; (have := h.sz; simp; omega); intro v1 l1 W1 hl1 hown1 hg1 hv1 hvs1; obtain ⟨ao1, cap1, rfl⟩ := hvs1; obtain ⟨hp2, hwr2, hfr2, hv2⟩ := h.app (below_new W _) hown1 hg1 hv1; have cc := block_cell hp2 0; have zz := block_free hp2 0; simp at cc)
      obtain ⟨W2, hW2⟩ : ∃ W2, W2 = W1.setCell ⟨p, 0, none⟩ (.slice ao1 l1.length cap1) := ⟨_, rfl⟩
      rw [← hW2] at hwr2 hfr2 ⊢
      clear hW2 cc zz hp2 hown1 hg1 hv1 hbl hc0 w1
      have hl1n : l1.length = l.length + 1 := by rw [hl1.out]; simp
      go_loopw [30] (fun a wr => ∃ (i : Nat) (v' : Value) (l' : List UInt8), a = .int .i64 i ∧ i ≤ k ∧ Hid (l' = l1 ++ (digs n).take i) ∧ l'.length = l1.length + i ∧ Wr wr base p v' l' ∧ FrO W.heap.size p (.slice ao l.length cap) W wr ∧ (∀ q, v'.ownBlock = some q → (Value.slice ao l.length cap).ownBlock = some q ∨ W.heap.size ≤ q)) (fun a _ => k - (intOf a).toNat)
      case atStart => exact ⟨0, _, l1, rfl, by omega, by show l1 = _; simp, by simp, hwr2, hfr2, hv2⟩
      case round =>
        obtain ⟨i, v', l', rfl, hi, hl', hln, hwr, hfr, hv⟩ := hrel
        by_cases hlt : i < k
        · obtain ⟨ao', cap', rfl⟩ := own_slice hwr.own
          obtain ⟨d, hd⟩ : ∃ d, d = k - 1 - i := ⟨_, rfl⟩
          have hig : i < (digs n).length := by rw [← Hs.out]; exact hlt
          obtain ⟨D, hD⟩ : ∃ D, D = n / 256 ^ d := ⟨_, rfl⟩
          obtain ⟨x, hx⟩ : ∃ x : UInt8, x = (digs n)[i] := ⟨_, rfl⟩
          have hxD : x = UInt8.ofNat D := by rw [hx, digs_get n i hig, hD, hd, ← Hs.out]
          have hdn : (digs n).take (i + 1) = (digs n).take i ++ [x] := by rw [hx]; exact List.take_succ_eq_append_getElem hig
          have Hdn := Lib.hid hdn
          have i0 : (0 : Int) ≤ (i : Int) := by omega
          have i1 : (i : Int) < (k : Int) := by omega
          have w0 : IntKind.i64.wrap ((i : Int) + 1) = (i : Int) + 1 := IntWalk.i64_in _ (by omega)
          have w1 : IntKind.i64.wrap ((k : Int) - 1) = (k : Int) - 1 := IntWalk.i64_in _ (by omega)
          have w3 : IntKind.i64.wrap ((k : Int) - 1 - (i : Int)) = (d : Int) := by rw [IntWalk.i64_in _ (by omega)]; omega
          obtain ⟨C, hC⟩ : ∃ C, C = 8 * d := ⟨_, rfl⟩
          have w4 : IntKind.i64.wrap (8 * (d : Int)) = (C : Int) := by rw [IntWalk.i64_in _ (by omega)]; omega
          have s0 : (0 : Int) ≤ (C : Int) := by omega
          have s1 : (C : Int) ≤ 64 := by omega
          have s2 : (n : Int) / 2 ^ C = (D : Int) := by
            have e1 : (2 : Nat) ^ C = 256 ^ d := by rw [hC, Nat.pow_mul]
            rw [hD, ← e1]
            simp
          have w5 : IntKind.u8.wrap (D : Int) = (x.toNat : Int) := by
            have e1 : (UInt8.ofNat D).toNat = D % 256 := by simp
            rw [IntKind.wrap_u8, hxD, e1]
            omega
          clear hd hD hx hxD hdn hC hig
          have hlb : l'.length ≤ 1099511627876 := by omega
          have Hln := Lib.hid hln
          have Hl1n := Lib.hid hl1n
          clear hln hl1n
          have hcx := block_cell hwr.blk 0
          simp at hcx
          have hpz' := (Array.getElem?_eq_some_iff.1 hwr.blk).1
          go_wp2_with fail
          go_region_law (refine step_append_b1 rfl (.tmp 37) (.tmp 46) 33 rfl base 5 infoUB Try.underlying33 _ l' rfl ((hwr.own.alloc _).drew) ⟨wr.heap.size, 0, none⟩ 1 x rfl ?_ ?_ ?_ ?_; simp; omega; (have := hwr.sz; simp; omega); intro v2 l2 W3 hl2 hown2 hg2 hv2 hvs2; obtain ⟨ao2, cap2, rfl⟩ := hvs2; obtain ⟨hp3, hwr3, hfr3, hv3⟩ := hwr.app ((Below.refl _ _).alloc (Nat.le_refl _) _).drew hown2 hg2 hv2; have cc := block_cell hp3 0; have zz := block_free hp3 0; simp at cc)
          all_goals
            have hvn : ∀ q, (Value.slice ao2 l2.length cap2).ownBlock = some q → (Value.slice ao l.length cap).ownBlock = some q ∨ W.heap.size ≤ q := fun q e => by
              rcases hv3 q e with h1 | h1
              · exact hv q h1
              · exact .inr (Nat.le_trans hfr.size h1)
            have hfn := hfr.next hfr3 hfr.size hv
            have hln2 : l2.length = l1.length + (i + 1) := by rw [hl2.out]; simp; have := Hln.out; omega
            have hl2n : l2 = l1 ++ (digs n).take (i + 1) := by rw [hl2.out, hl'.out, Hdn.out, List.append_assoc]
            have Hl2n := Lib.hid hl2n
            have Hln2 := Lib.hid hln2
            clear hln2 hl2n hown2 hg2 hv2 hp3 cc zz hv3 hfr3
            obtain ⟨W4, hW4⟩ : ∃ W4, W4 = W3.setCell ⟨p, 0, none⟩ (.slice ao2 l2.length cap2) := ⟨_, rfl⟩
            rw [← hW4] at hwr3 hfn ⊢
            clear hW4
            go_wp2_with fail
            go_roundw
            case rel => exact ⟨i + 1, _, l2, by simp, by omega, Hl2n, Hln2.out, hwr3, hfn, hvn⟩
            case measure => simp [intOf]; omega
        · have hik : i = k := by omega
          subst hik
          have e1 : (digs n).take i = digs n := List.take_of_length_le (by have := Hs.out; omega)
          have hfin : l' = l ++ UInt8.ofNat (m + i) :: digs n := by rw [hl'.out, hl1.out, e1, Hcd.out, List.append_assoc]; rfl
          subst hfin
          go_wp2_with fail
          refine bodyPost_ret (v := .tuple #[]) (by simp [results, Try.results82, go_sem]) rfl ?_
          exact ⟨rfl, v', hwr, hfr, hv⟩
/-- a row of numbers -/
def Us (W : World) (ao : Option Addr) (cap : Nat) (xs : List Nat) : Prop := Sl W 1 ao xs.length cap (xs.map fun n : Nat => Value.int .u64 (n : Int))
theorem Us.get {W : World} {ao : Option Addr} {cap : Nat} {xs : List Nat} (h : Us W ao cap xs) (i : Nat) (hi : i < xs.length) : ∃ b off, ao = some ⟨b, off, none⟩ ∧ W.cell? ⟨b, off + i, none⟩ = some (.int .u64 (xs[i] : Int)) :=
  h.cell i _ (by simp [hi])
theorem Us.keep {W W' : World} {ao : Option Addr} {cap p : Nat} {v : Value} {xs : List Nat} (h : Us W ao cap xs) (hf : FrO W.heap.size p v W W') (h1 : ∀ a, ao = some a → a.block ≠ p ∧ v.ownBlock ≠ some a.block) : Us W' ao cap xs :=
  ⟨h.len, h.le, h.max, h.none, fun j u hu => by
    obtain ⟨b, off, e, hc⟩ := h.cell j u hu
    obtain ⟨h2, h3⟩ := h1 _ e
    exact ⟨b, off, e, by rw [World.cell?_of_block (w := W) (hf.block b (cell?_lt hc) h2 h3)]; exact hc⟩⟩
def numsB (xs : List Nat) : List UInt8 := (xs.map numB).flatten
theorem numB_len (n : Nat) (h : n < 2 ^ 64) : (numB n).length ≤ 9 := by have := digs_len8 n h; unfold numB; simp; omega
theorem numsB_len (xs : List Nat) (h : ∀ n ∈ xs, n < 2 ^ 64) : (numsB xs).length ≤ 9 * xs.length := by
  induction xs with
  | nil => simp [numsB]
  | cons x xs ih =>
    have h1 := numB_len x (h x (by simp))
    have h2 := ih (fun n hn => h n (by simp [hn]))
    have : numsB (x :: xs) = numB x ++ numsB xs := rfl
    rw [this]; simp; omega
theorem numsB_snoc (xs : List Nat) (i : Nat) (hi : i < xs.length) : numsB (xs.take (i + 1)) = numsB (xs.take i) ++ numB xs[i] := by
  rw [List.take_succ_eq_append_getElem hi]
  unfold numsB
  rw [List.map_append, List.flatten_append]
  simp
set_option maxHeartbeats 4000000 in
theorem num_any (xs : List Nat) (hxs : ∀ n ∈ xs, n < 2 ^ 64) (ao : Option Addr) (cap : Nat) {W : World} {base p : Nat} {v : Value} {l : List UInt8} (h : Wr W base p v l) (hl : l.length + 9 * xs.length ≤ 1099511627776) (hus : Us W ao cap xs)
    (hfar : ∀ a, ao = some a → a.block ≠ p ∧ v.ownBlock ≠ some a.block) :
    Calls Try.prog 53 #[.pointer (some ⟨p, 0, none⟩), .slice ao xs.length cap] W (Wrote base p v (l ++ numsB xs) W) := by
  go_enter Try.func53, Try.ntmps53
  go_wp2_with fail
  go_loopw [10] (fun a wr => ∃ (i : Nat) (v' : Value) (l' : List UInt8), a = .int .i64 i ∧ i ≤ xs.length ∧ Hid (l' = l ++ numsB (xs.take i)) ∧ Wr wr base p v' l' ∧ FrO W.heap.size p v W wr ∧ (∀ q, v'.ownBlock = some q → v.ownBlock = some q ∨ W.heap.size ≤ q)) (fun a _ => xs.length - (intOf a).toNat)
  case atStart => exact ⟨0, v, l, rfl, by omega, by show l = _; simp [numsB], h, FrO.refl _ _ _ _, fun q e => .inl e⟩
  case round =>
    obtain ⟨i, v', l', rfl, hi, hl', hwr, hfr, hv⟩ := hrel
    by_cases hlt : i < xs.length
    · obtain ⟨b, off, rfl, hc⟩ := (hus.keep hfr hfar).get i hlt
      have hsn := numsB_snoc xs i hlt
      have hlen : l'.length ≤ l.length + 9 * i := by
        rw [hl'.out]
        have := numsB_len (xs.take i) (fun n hn => hxs n (List.mem_of_mem_take hn))
        simp at this ⊢; omega
      have hx64 := hxs xs[i] (List.getElem_mem hlt)
      obtain ⟨x, hx⟩ : ∃ x, x = xs[i] := ⟨_, rfl⟩
      rw [← hx] at hc hsn hx64
      have hnum := number_any x hx64 0 (by omega) hwr (by omega)
      simp only [Int.natCast_zero, Nat.zero_add] at hnum
      have Hnum := Lib.hid hnum
      have Hsn := Lib.hid hsn
      clear hnum hsn hx hlen
      have i0 : (0 : Int) ≤ (i : Int) := by omega
      have i1 : (i : Int) < (xs.length : Int) := by omega
      go_wp2_with fail
      refine Hnum.out.mono ?_
      rintro e W2 ⟨rfl, v2, hwr2, hfr2, hv2⟩
      have hvn : ∀ q, v2.ownBlock = some q → v.ownBlock = some q ∨ W.heap.size ≤ q := fun q e => by
        rcases hv2 q e with h1 | h1
        · exact hv q h1
        · exact .inr (Nat.le_trans hfr.size h1)
      have hfn := hfr.next hfr2 hfr.size hv
      have hl2 : Hid (l' ++ UInt8.ofNat (digs x).length :: digs x = l ++ numsB (xs.take (i + 1))) := by show _ = _; rw [hl'.out, Hsn.out, List.append_assoc]; rfl
      go_wp2_with fail
      go_roundw
      case rel => exact ⟨i + 1, v2, _, by simp, by omega, hl2, hwr2, hfn, hvn⟩
      case measure => simp [intOf]; omega
    · have hi' : i = xs.length := by omega
      subst hi'
      have hfin : l' = l ++ numsB xs := by rw [hl'.out, List.take_length]
      subst hfin
      go_wp2_with fail
      refine bodyPost_ret (v := .tuple #[]) (by simp [results, Try.results53, go_sem]) rfl ?_
      exact ⟨rfl, v', hwr, hfr, hv⟩
end Go.Proofs.Ytbmkgcoolofmpaa
