/- Lemmas for DeadlineBytes (Qr Qn Qx). No statement of the seat is proved here. -/
import Derived.Laws.Bits64b
import Derived.Test.YtedlplkomfiahaaT2
namespace Go.Proofs.Ytedlplkomfiahaa
set_option linter.unusedVariables false
set_option linter.unusedSimpArgs false
set_option linter.unusedSectionVars false
open Go Go.RowKit Go.Shelf
/-- a reader that has l left -/
structure Rd (T : TypeId) (W : World) (p : Nat) (ao : Option Addr) (cap : Nat) (l : List UInt8) (bad : Bool) : Prop where
  blk : W.heap[p]? = some (.cells #[.slice ao l.length cap, .bool bad] T (0, 0))
  bs : Bs W ao cap l
theorem Rd.below {T : TypeId} {W W' : World} {p : Nat} {ao : Option Addr} {cap : Nat} {l : List UInt8} {bad : Bool} (h : Rd T W p ao cap l bad) (hb : Below W.heap.size W W') : Rd T W' p ao cap l bad :=
  ⟨(hb.block p (Array.getElem?_eq_some_iff.1 h.blk).1).trans h.blk, h.bs.below hb⟩
theorem Rd.cells {T : TypeId} {W : World} {p : Nat} {ao : Option Addr} {cap : Nat} {l : List UInt8} {bad : Bool} (h : Rd T W p ao cap l bad) :
    W.cell? ⟨p, 0, none⟩ = some (.slice ao l.length cap) ∧ W.cell? ⟨p, 1, none⟩ = some (.bool bad) ∧ W.frozen? ⟨p, 0, none⟩ = false ∧ W.frozen? ⟨p, 1, none⟩ = false :=
  ⟨block_cell h.blk 0, block_cell h.blk 1, block_free h.blk 0, block_free h.blk 1⟩
/-- bytes lie in no reader -/
theorem Bs.set {W : World} {T : TypeId} {p i : Nat} {ao : Option Addr} {cap : Nat} {l : List UInt8} {x : Value} {u : Bool} {y : Value} (h : Bs W ao cap l) (hx : ∀ n : Int, x ≠ .int .u8 n) (hp : W.heap[p]? = some (.cells #[x, .bool u] T (0, 0))) : Bs (W.setCell ⟨p, i, none⟩ y) ao cap l :=
  ⟨h.len, h.le, h.max, h.none, fun j v hv => by
    obtain ⟨b, off, e, hc⟩ := h.cell j v hv
    refine ⟨b, off, e, ?_⟩
    have hne : b ≠ p := by
      intro e2
      subst e2
      rw [block_cell hp] at hc
      rw [List.getElem?_map] at hv
      cases hl : l[j]? with
      | none => rw [hl] at hv; cases hv
      | some z =>
        rw [hl] at hv
        simp only [Option.map_some, Option.some.injEq] at hv
        subst hv
        match hk : off + j with
        | 0 => rw [hk] at hc; simp at hc; exact hx _ hc
        | 1 => rw [hk] at hc; simp at hc
        | k + 2 => rw [hk] at hc; simp at hc
    rw [World.cell?_setCell_other _ _ _ _ (by first | (simp; done) | (simp; intro e2; exact absurd e2 hne) | (simp; exact hne) | (intro e2; simp at e2; exact hne e2.1))]; exact hc⟩
/-- what a reader's method leaves -/
theorem Rd.put {T : TypeId} {W : World} {p : Nat} {ao ao' : Option Addr} {cap cap' : Nat} {l l' : List UInt8} {bad : Bool} (h : Rd T W p ao cap l bad) (hb : Bs W ao' cap' l') :
    Rd T (W.setCell ⟨p, 0, none⟩ (.slice ao' l'.length cap')) p ao' cap' l' bad ∧ W.grownBy (W.setCell ⟨p, 0, none⟩ (.slice ao' l'.length cap')) (some p) := by
  have hs := block_set h.blk 0 (.slice ao' l'.length cap')
  simp only [List.setIfInBounds_toArray, List.set_cons_zero] at hs
  exact ⟨⟨hs, hb.set (fun n e => by cases e) h.blk⟩, grown_set _ _ _ _⟩
theorem Bs.nil (W : World) : Bs W none 0 [] := ⟨by simp, by simp, by decide, fun _ => rfl, fun j u hu => by simp at hu⟩
theorem Rd.fail {T : TypeId} {W : World} {p : Nat} {ao : Option Addr} {cap : Nat} {l : List UInt8} {bad : Bool} (h : Rd T W p ao cap l bad) :
    Rd T ((W.setCell ⟨p, 0, none⟩ (.slice none 0 0)).setCell ⟨p, 1, none⟩ (.bool true)) p none 0 [] true ∧ W.grownBy ((W.setCell ⟨p, 0, none⟩ (.slice none 0 0)).setCell ⟨p, 1, none⟩ (.bool true)) (some p) := by
  have hs := block_set (block_set h.blk 0 (.slice none 0 0)) 1 (.bool true)
  simp only [List.setIfInBounds_toArray, List.set_cons_zero, List.set_cons_succ] at hs
  exact ⟨⟨hs, Bs.nil _⟩, grown_trans (grown_set _ _ _ _) (grown_set _ _ _ _)⟩
/-- a reader's method that failed -/
def RdBad (T : TypeId) (p : Nat) (V : Value) (W : World) (e : Ending) (W' : World) : Prop := e = .returned V ∧ Rd T W' p none 0 [] true ∧ W.grownBy W' (some p)
theorem fail_rd {W : World} {p : Nat} {ao : Option Addr} {cap : Nat} {l : List UInt8} {bad : Bool} (h : Rd 106 W p ao cap l bad) :
    Calls Try.prog 57 #[.pointer (some ⟨p, 0, none⟩)] W (RdBad 106 p (.tuple #[]) W) := by
  obtain ⟨c0, c1, f0, f1⟩ := h.cells
  have hpz := (Array.getElem?_eq_some_iff.1 h.blk).1
  go_enter Try.func57, Try.ntmps57
  go_wp2_with fail
  refine bodyPost_ret (v := .tuple #[]) (by simp [results, Try.results57, go_sem]) rfl ?_
  exact ⟨rfl, h.fail⟩
theorem left_rd {W : World} {p : Nat} {ao : Option Addr} {cap : Nat} {l : List UInt8} {bad : Bool} (h : Rd 106 W p ao cap l bad) :
    Calls Try.prog 30 #[.pointer (some ⟨p, 0, none⟩)] W fun e W' => e = .returned (.int .i64 l.length) ∧ W = W' := by
  obtain ⟨c0, c1, f0, f1⟩ := h.cells
  go_enter Try.func30, Try.ntmps30
  go_wp2_with fail
  go_ret
  exact ⟨rfl, rfl⟩
theorem bad_rd {W : World} {p : Nat} {ao : Option Addr} {cap : Nat} {l : List UInt8} {bad : Bool} (h : Rd 106 W p ao cap l bad) :
    Calls Try.prog 31 #[.pointer (some ⟨p, 0, none⟩)] W fun e W' => e = .returned (.bool bad) ∧ W = W' := by
  obtain ⟨c0, c1, f0, f1⟩ := h.cells
  go_enter Try.func31, Try.ntmps31
  go_wp2_with fail
  go_ret
  exact ⟨rfl, rfl⟩
theorem open_rd (ao : Option Addr) (cap : Nat) (l : List UInt8) (W : World) (h : Bs W ao cap l) :
    Calls Try.prog 26 #[.slice ao l.length cap] W fun e W' => e = .returned (.pointer (some ⟨W.heap.size, 0, none⟩)) ∧ Rd 106 W' W.heap.size ao cap l false ∧ Below W.heap.size W W' := by
  go_enter Try.func26, Try.ntmps26
  go_wp2_with fail
  go_ret
  exact ⟨rfl, ⟨heap_alloc_new _ _, h.below (below_new _ _)⟩, below_new _ _⟩
set_option maxRecDepth 100000 in
set_option maxHeartbeats 4000000 in
theorem bytes_wr {W : World} {base p : Nat} {v : Value} {l : List UInt8} (h : Wr W base p v l) (hl : l.length ≤ 1099511627776) :
    Calls Try.prog 27 #[.pointer (some ⟨p, 0, none⟩)] W fun e W' => ∃ ao cap, e = .returned (.slice ao l.length cap) ∧ W'.ownsRow W.heap.size 5 1 (.slice ao l.length cap) l.length (l.map u8) ∧ Below W.heap.size W W' := by
  obtain ⟨ao, cap, rfl⟩ := own_slice h.own
  have c0 := block_cell h.blk 0
  simp at c0
  cases ao with
  | none =>
    have hs := Bs.of_own h.own
    have hle := hs.le
    have hno := hs.none rfl
    have : l = [] := List.eq_nil_of_length_eq_zero (by omega)
    subst this
    subst hno
    have he : ∀ W : World, (binOp .eql 64 (.slice none 0 0) (.slice none 0 0)).run Try.prog W = .ok (.bool true) W := fun _ => by kernel_rfl
    have hcl : Calls Try.prog 58 #[.slice none 0 0] W fun e W' => e = .returned (.slice none 0 0) ∧ W = W' := by
      go_enter Try.func58, Try.ntmps58
      go_wp2_with fail
      go_ret
      exact ⟨rfl, rfl⟩
    simp only [List.length_nil] at c0 ⊢
    have Hcl := Lib.hid hcl
    clear hcl
    go_enter Try.func27, Try.ntmps27
    go_wp2_with fail
    refine Hcl.out.mono ?_
    rintro e W2 ⟨rfl, rfl⟩
    go_wp2_with fail
    go_ret
    exact ⟨none, 0, rfl, World.ownsRow_nil _ _ _ _, Below.refl _ _⟩
  | some ad =>
    have hbs := Bs.of_own h.own
    have he : ∀ W : World, (binOp .eql 64 (.slice (some ad) l.length cap) (.slice none 0 0)).run Try.prog W = .ok (.bool false) W := fun _ => by kernel_rfl
    have hcl : Calls Try.prog 58 #[.slice (some ad) l.length cap] W fun e W' => ∃ ao cap, e = .returned (.slice ao l.length cap) ∧ W'.ownsRow W.heap.size 5 1 (.slice ao l.length cap) l.length (l.map u8) ∧ Below W.heap.size W W' := by
      go_enter Try.func58, Try.ntmps58
      go_wp2_with (at_builtin; refine wpl_append_bs rfl (.tmp 5) (.tmp 6) 64 rfl W.heap.size 5 infoUB Try.underlying64 _ _ [] rfl (own_empty W W.heap.size _ 1 (Nat.le_refl _)) _ _ l rfl (hbs.below (below_new _ _)) ?_ ?_ ?_; (simp; omega); simp; intro ao2 cap2 l2 W2 hl2 hown2 hg2)
      obtain rfl : l2 = l := hl2.out
      go_ret
      exact ⟨_, _, rfl, hown2, below_app (below_new W _) hg2 (own_empty W W.heap.size _ 1 (Nat.le_refl _)) (Nat.le_refl _) (by simp)⟩
    have Hcl := Lib.hid hcl
    clear hcl
    go_enter Try.func27, Try.ntmps27
    go_wp2_with fail
    refine Hcl.out.mono ?_
    rintro e W2 ⟨ao2, cap2, rfl, hown, hb⟩
    go_wp2_with fail
    go_ret
    exact ⟨ao2, cap2, rfl, hown, hb⟩
/-- in the same block -/
def SameBlk (ao ao' : Option Addr) : Prop := ∀ a', ao' = some a' → ∃ a, ao = some a ∧ a.block = a'.block
theorem SameBlk.refl (ao : Option Addr) : SameBlk ao ao := fun a' e => ⟨a', e, rfl⟩
theorem SameBlk.trans {a b c : Option Addr} (h : SameBlk a b) (h2 : SameBlk b c) : SameBlk a c := fun a' e => by
  obtain ⟨x, e1, e2⟩ := h2 a' e
  obtain ⟨y, e3, e4⟩ := h x e1
  exact ⟨y, e3, e4.trans e2⟩
theorem SameBlk.none (a : Option Addr) : SameBlk a none := fun a' e => by cases e
theorem add_block (a : Addr) (n : Nat) : (a.add n).block = a.block := by unfold Addr.add; split <;> rfl
/-- a piece of bytes: the address and the list by name, and the block -/
theorem wpl_slice_bb {P : Program} {w : World} {ops : Array Oper} {rest : List Oper} {o : Oper} {a : Act} {Q : Exit → Act → World → Prop} (hw : Region.wanted o (yielded ops a.tmps) = true) (x : Operand) (olo ohi : Option Operand) (t e : TypeId)
    (ho : o.op = .slice t x olo ohi none) (ht : P.underlying t = some (.slice e)) (hsz : (P.info? e).map (·.size) = some 1)
    (ao : Option Addr) (c : Nat) (l : List UInt8) (hx : a.eval x = .slice ao l.length c) (hsl : Bs w ao c l)
    (p q : Nat) (hlo : (∃ i, olo.map a.eval = some (.int .i64 i) ∧ i = (p : Int)) ∨ olo.map a.eval = none ∧ p = 0) (hhi : (∃ i, ohi.map a.eval = some (.int .i64 i) ∧ i = (q : Int)) ∨ ohi.map a.eval = none ∧ q = l.length) (hp : p ≤ q) (hq : q ≤ l.length)
    (h : ∀ ao' cap' l', Hid (l' = (l.take q).drop p) → l'.length = q - p → Bs w ao' cap' l' → SameBlk ao ao' → wpList P ops Q rest (a.put o.dst (.slice ao' l'.length cap')) w) : wpList P ops Q (o :: rest) a w := by
  refine wpl_of hw fun K hK => ?_
  have hc := Sl.cut hsl p q hp hq (by decide)
  have hle := hsl.le
  have hrun := run_slice_sl (w := w) ht hsz ao l.length c _ _ p q (hlo.imp (fun ⟨i, h1, h2⟩ => h2 ▸ h1) id) (hhi.imp (fun ⟨i, h1, h2⟩ => h2 ▸ h1) id) hp (by omega)
  have hL : ((l.take q).drop p).length = q - p := by simp; omega
  have hB : SameBlk ao (if c = p then ao else ao.map (·.add (p * 1))) := fun a' e => by
    split at e
    · exact ⟨a', e, rfl⟩
    · cases ao with
      | none => simp at e
      | some a0 => simp at e; subst e; exact ⟨a0, rfl, (add_block _ _).symm⟩
  have hk := h _ _ ((l.take q).drop p) rfl hL (by unfold Bs; rw [hL]; simpa [List.map_drop, List.map_take] using hc) (by simpa using hB)
  rw [hL] at hk
  unfold Oper.wp
  simp [execOp, ho, hx, hrun, Result.andThen]
  exact hK _ _ (by simpa using hk)
end Go.Proofs.Ytedlplkomfiahaa
namespace Go.Proofs.Ytedlplkomfiahaa
set_option linter.unusedVariables false
set_option linter.unusedSimpArgs false
set_option linter.unusedSectionVars false
open Go Go.RowKit Go.Shelf
theorem readN_cons (most : Nat) (c : UInt8) (r : List UInt8) (bad : Bool) : readN most (c :: r) bad = if 8 < c.toNat ∨ r.length < c.toNat ∨ (0 < c.toNat ∧ r.head? = some 0) then (0, [], true) else if most < valN (r.take c.toNat) then (0, [], true) else (valN (r.take c.toNat), r.drop c.toNat, bad) := rfl
theorem readN_bad (most : Nat) (l : List UInt8) (bad : Bool) (h0 : 0 < l.length) (h : 8 < l[0].toNat ∨ l.length ≤ l[0].toNat ∨ (0 < l[0].toNat ∧ l[1]? = some 0)) : readN most l bad = (0, [], true) := by
  match l, h0 with
  | c :: r, _ =>
    simp only [List.getElem_cons_zero, List.length_cons, List.getElem?_cons_succ] at h
    rw [readN_cons, if_pos]
    rcases h with h | h | h
    · exact .inl h
    · exact .inr (.inl (by omega))
    · exact .inr (.inr ⟨h.1, by rw [List.head?_eq_getElem?]; exact h.2⟩)
theorem readN_big (most : Nat) (l : List UInt8) (bad : Bool) (h0 : 0 < l.length) (h : most < valN ((l.take (l[0].toNat + 1)).drop 1)) : readN most l bad = (0, [], true) := by
  match l, h0 with
  | c :: r, _ =>
    simp only [List.getElem_cons_zero, List.take_succ_cons, List.drop_succ_cons, List.drop_zero] at h
    rw [readN_cons]
    split
    · rfl
    · first | rfl | rw [if_pos h]
theorem readN_ok (most : Nat) (l : List UInt8) (bad : Bool) (h0 : 0 < l.length) (h1 : ¬ 8 < l[0].toNat) (h2 : ¬ l.length ≤ l[0].toNat) (h3 : ¬ (0 < l[0].toNat ∧ l[1]? = some 0)) (h : ¬ most < valN ((l.take (l[0].toNat + 1)).drop 1)) :
    readN most l bad = (valN ((l.take (l[0].toNat + 1)).drop 1), l.drop (l[0].toNat + 1), bad) := by
  match l, h0 with
  | c :: r, _ =>
    simp only [List.getElem_cons_zero, List.take_succ_cons, List.drop_succ_cons, List.drop_zero, List.length_cons, List.getElem?_cons_succ] at h h1 h2 h3 ⊢
    rw [readN_cons, if_neg, if_neg h]
    rintro (h4 | h4 | ⟨h4, h5⟩)
    · exact h1 h4
    · omega
    · exact h3 ⟨h4, by rw [← List.head?_eq_getElem?]; exact h5⟩
theorem readN_nil (most : Nat) (bad : Bool) : readN most [] bad = (0, [], true) := rfl
/-- what a reader's method tells -/
def RdTold (T : TypeId) (p : Nat) (ao : Option Addr) (mk : Int → Value) (r : Nat × List UInt8 × Bool) (W : World) (e : Ending) (W' : World) : Prop :=
  ∃ ao' cap', e = .returned (mk (r.1 : Int)) ∧ Rd T W' p ao' cap' r.2.1 r.2.2 ∧ W.grownBy W' (some p) ∧ SameBlk ao ao'
theorem valN_step (l : List UInt8) (i : Nat) (hi : i < l.length) : valN (l.take (i + 1)) = valN (l.take i) * 256 + l[i].toNat := by
  rw [List.take_succ_eq_append_getElem hi, valN_snoc]
theorem or_byte (x : Nat) (c : UInt8) (hx : x < 72057594037927936) : bits BinOp.or IntKind.u64 ((x : Int) * 256) (c.toNat : Int) = ((x * 256 + c.toNat : Nat) : Int) := by
  have hc := c.toNat_lt
  have h := bits_or_u64_nat (x * 256) c.toNat (by omega) (by omega)
  have e1 : ((x * 256 : Nat) : Int) = (x : Int) * 256 := by simp
  rw [e1] at h
  rw [h]
  congr 1
  have := Nat.two_pow_add_eq_or_of_lt (i := 8) (b := c.toNat) (by omega) x
  rw [show (2 : Nat) ^ 8 * x = x * 256 by omega] at this
  exact this.symm
theorem sizeUB : (Try.prog.info? 5).map (·.size) = some 1 := by kernel_rfl
set_option maxRecDepth 100000 in
set_option maxHeartbeats 4000000 in
theorem rnumber_any (most : Nat) (hm : most < 2 ^ 64) {W : World} {p : Nat} {ao : Option Addr} {cap : Nat} {l : List UInt8} {bad : Bool} (h : Rd 106 W p ao cap l bad) :
    Calls Try.prog 82 #[.pointer (some ⟨p, 0, none⟩), .int .u64 (most : Int), .bool false] W (RdTold 106 p ao (fun x => .tuple #[.int .u64 x, .bool false]) (readN most l bad) W) := by
  obtain ⟨c0, c1, f0, f1⟩ := h.cells
  have hpz := (Array.getElem?_eq_some_iff.1 h.blk).1
  have Hlf := Lib.hid (left_rd h)
  have Hfl := Lib.hid (fail_rd h)
  by_cases h0 : 0 < l.length
  · obtain ⟨b, off, rfl, hc0⟩ := h.bs.get 0 h0
    have hmax := h.bs.max
    have hle := h.bs.le
    have hc0' : W.cell? ⟨b, off, none⟩ = some (.int .u8 (l[0].toNat : Int)) := hc0
    have hbad := readN_bad most l bad h0
    have hbig := readN_big most l bad h0
    have hok := readN_ok most l bad h0
    obtain ⟨c, hc⟩ : ∃ c, c = l[0] := ⟨_, rfl⟩
    rw [← hc] at hc0' hbad hbig hok
    obtain ⟨s, hs⟩ : ∃ s, s = c.toNat := ⟨_, rfl⟩
    have hs256 : s < 256 := by rw [hs]; exact c.toNat_lt
    rw [← hs] at hc0' hbad hbig hok
    clear hc hs hc0
    have w8 : IntKind.i64.wrap (s : Int) = (s : Int) := IntWalk.i64_in _ (by omega)
    have l0 : ¬ ((l.length : Int) = 0) := by omega
    have l1 : (0 : Int) < (l.length : Int) := by omega
    by_cases hA : 8 < s
    · have HR := Lib.hid (hbad (.inl hA))
      clear hbad hbig hok
      have hA' : (8 : Int) < (s : Int) := by omega
      go_enter Try.func82, Try.ntmps82
      go_wp2_with fail
      refine Hlf.out.mono ?_
      rintro e W2 ⟨rfl, rfl⟩
      go_wp2_with fail
      refine Hfl.out.mono ?_
      rintro e W3 ⟨rfl, hr, hg⟩
      go_wp2_with fail
      go_ret2
      rw [HR.out]
      exact ⟨none, 0, rfl, hr, hg, SameBlk.none _⟩
    have hA' : ¬ (8 : Int) < (s : Int) := by omega
    by_cases hB : l.length ≤ s
    · have HR := Lib.hid (hbad (.inr (.inl hB)))
      clear hbad hbig hok
      have hB' : (l.length : Int) ≤ (s : Int) := by omega
      go_enter Try.func82, Try.ntmps82
      go_wp2_with fail
      refine Hlf.out.mono ?_
      rintro e W2 ⟨rfl, rfl⟩
      go_wp2_with fail
      refine Hfl.out.mono ?_
      rintro e W3 ⟨rfl, hr, hg⟩
      go_wp2_with fail
      go_ret2
      rw [HR.out]
      exact ⟨none, 0, rfl, hr, hg, SameBlk.none _⟩
    have hB' : ¬ (l.length : Int) ≤ (s : Int) := by omega
    have HS1 : 0 < s → ∃ d : UInt8, l[1]? = some d ∧ W.cell? ⟨b, off + 1, none⟩ = some (.int .u8 (d.toNat : Int)) := fun hs0 => by
      obtain ⟨b2, off2, e2, hc2⟩ := h.bs.get 1 (by omega)
      simp only [Option.some.injEq, Addr.mk.injEq] at e2
      obtain ⟨rfl, rfl, -⟩ := e2
      exact ⟨l[1], List.getElem?_eq_getElem (by omega), hc2⟩
    by_cases hC : 0 < s ∧ l[1]? = some 0
    · have HR := Lib.hid (hbad (.inr (.inr hC)))
      obtain ⟨hC1, hC2⟩ := hC
      obtain ⟨d, hd, hcd⟩ := HS1 hC1
      rw [hC2] at hd
      simp only [Option.some.injEq] at hd
      subst hd
      have l2 : (1 : Int) < (l.length : Int) := by omega
      have hC' : (0 : Int) < (s : Int) := by omega
      have hcd' : W.cell? ⟨b, off + 1, none⟩ = some (.int .u8 0) := hcd
      clear hbad hbig hok hC2 HS1 hcd
      go_enter Try.func82, Try.ntmps82
      go_wp2_with fail
      refine Hlf.out.mono ?_
      rintro e W2 ⟨rfl, rfl⟩
      go_wp2_with fail
      refine Hfl.out.mono ?_
      rintro e W3 ⟨rfl, hr, hg⟩
      go_wp2_with fail
      go_ret2
      rw [HR.out]
      exact ⟨none, 0, rfl, hr, hg, SameBlk.none _⟩
    have hok2 := hok hA hB hC
    have HS2 : (s = 0) ∨ ∃ d : UInt8, 0 < s ∧ d ≠ 0 ∧ W.cell? ⟨b, off + 1, none⟩ = some (.int .u8 (d.toNat : Int)) := by
      by_cases hs0 : s = 0
      · exact .inl hs0
      · obtain ⟨d, hd, hcd⟩ := HS1 (by omega)
        exact .inr ⟨d, by omega, fun e => hC ⟨by omega, by rw [hd, e]⟩, hcd⟩
    obtain ⟨X, hX⟩ : ∃ X, X = valN ((l.take (s + 1)).drop 1) := ⟨_, rfl⟩
    rw [← hX] at hbig hok2
    have HX := Lib.hid hX
    have Hbig := Lib.hid hbig
    have Hok := Lib.hid hok2
    clear hX hbig hok2 hok hbad HS1 hC
    have w0 : IntKind.i64.wrap ((s : Int) + 1) = (s : Int) + 1 := IntWalk.i64_in _ (by omega)
    have HS3 : (¬ (0 : Int) < (s : Int)) ∨ ∃ d : Int, (0 : Int) < (s : Int) ∧ ¬ d = 0 ∧ W.cell? ⟨b, off + 1, none⟩ = some (.int .u8 d) := by
      rcases HS2 with hs0 | ⟨d, hs0, hd0, hcd⟩
      · exact .inl (by omega)
      · refine .inr ⟨_, by omega, ?_, hcd⟩
        intro e
        exact hd0 (UInt8.toNat_inj.1 (by have : d.toNat = 0 := by omega
                                         rw [this]; rfl))
    clear HS2
    have l2 : (0 : Int) < (s : Int) → (1 : Int) < (l.length : Int) := fun _ => by omega
    rcases HS3 with hs0 | ⟨d, hs0, hd0, hcd⟩
    rotate_left
    have hd1 : (d == 0) = false := by simpa using hd0
    have l3 := l2 hs0
    rotate_left
    all_goals
      go_enter Try.func82, Try.ntmps82
      go_wp2_with fail
      refine Hlf.out.mono ?_
      rintro e W2 ⟨rfl, rfl⟩
      go_wp2_with ((with_reducible show wpList _ _ _ (⟨_, Op.slice _ (.tmp 57) _ _ _, _, _, _, _⟩ :: _) _ _); refine wpl_slice_bs rfl (.tmp 57) (some (.const (.int .i64 1))) (some (.tmp 59)) 64 5 rfl Try.underlying64 sizeUB _ _ l rfl h.bs 1 (s + 1) (.inl ⟨_, rfl, ?_⟩) (.inl ⟨_, rfl, ?_⟩) ?_ ?_ ?_; rfl; (simp); omega; omega; intro ao7 cap7 l7 hl7 hlen7 hb7; have h78 : l7.length ≤ 8 := (by omega); clear hlen7)
      have hX7 : Hid (X = valN l7) := by show X = _; rw [HX.out, hl7.out]
      go_loopw [6, 62] (fun a b wr => ∃ (i x : Nat), a = .int .u64 x ∧ b = .int .i64 i ∧ i ≤ l7.length ∧ Hid (x = valN (l7.take i)) ∧ W = wr) (fun _ b _ => l7.length - (intOf b).toNat)
      case atStart => exact ⟨0, 0, rfl, rfl, by omega, by show _ = _; simp [valN], rfl⟩
      case round =>
        obtain ⟨i, x, rfl, rfl, hi, hx, rfl⟩ := hrel
        by_cases hlt : i < l7.length
        · obtain ⟨b2, off2, rfl, hc2⟩ := hb7.get i hlt
          have hst := valN_step l7 i hlt
          have hxb : x < 72057594037927936 := by
            rw [hx.out]
            have h1 := valN_lt (l7.take i)
            have h2 : (l7.take i).length ≤ 7 := by simp; omega
            have h3 : 256 ^ (l7.take i).length ≤ 256 ^ 7 := Nat.pow_le_pow_right (by decide) h2
            have h4 : (256 : Nat) ^ 7 = 72057594037927936 := by decide
            omega
          rw [← hx.out] at hst
          obtain ⟨c, hc⟩ : ∃ c, c = l7[i] := ⟨_, rfl⟩
          rw [← hc] at hst hc2
          have w1 : IntKind.u64.wrap ((x : Int) * 256) = (x : Int) * 256 := IntWalk.u64_in _ (by omega)
          have hc256 := c.toNat_lt
          have w2 : IntKind.u64.wrap (c.toNat : Int) = (c.toNat : Int) := IntWalk.u64_in _ (by omega)
          have w3 := or_byte x c hxb
          obtain ⟨y, hy⟩ : ∃ y, y = x * 256 + c.toNat := ⟨_, rfl⟩
          rw [← hy] at w3 hst
          have Hst := Lib.hid hst.symm
          clear hst hy hc hx
          have i0 : (0 : Int) ≤ (i : Int) := by omega
          have i1 : (i : Int) < (l7.length : Int) := by omega
          go_wp2_with fail
          go_roundw
          case rel => exact ⟨i + 1, y, by simp, by simp, by omega, Hst, by first | rfl | trivial⟩
          case measure => simp [intOf]; omega
        · have hi' : i = l7.length := by omega
          subst hi'
          have hxX : x = X := by rw [hx.out, hX7.out, List.take_length]
          subst hxX
          clear hx
          by_cases hD : most < x
          · have HR := Lib.hid (Hbig.out hD)
            have hD' : (most : Int) < (x : Int) := by omega
            go_wp2_with fail
            refine Hfl.out.mono ?_
            rintro e W3 ⟨rfl, hr, hg⟩
            go_wp2_with fail
            go_ret2
            rw [HR.out]
            exact ⟨none, 0, rfl, hr, hg, SameBlk.none _⟩
          · have HR := Lib.hid (Hok.out hD)
            have hD' : ¬ (most : Int) < (x : Int) := by omega
            go_wp2_with ((with_reducible show wpList _ _ _ (⟨_, Op.slice _ (.tmp 81) _ _ _, _, _, _, _⟩ :: _) _ _); refine wpl_slice_bb rfl (.tmp 81) (some (.tmp 83)) none 64 5 rfl Try.underlying64 sizeUB _ _ l rfl h.bs (s + 1) l.length (.inl ⟨_, rfl, ?_⟩) (.inr ⟨rfl, rfl⟩) ?_ ?_ ?_; (simp); omega; omega; intro ao8 cap8 l8 hl8 hlen8 hb8 hsb8; clear hlen8)
            go_ret2
            have hl8' : l8 = l.drop (s + 1) := by rw [hl8.out, List.take_length]
            rw [HR.out]
            obtain ⟨hp1, hp2⟩ := h.put hb8
            subst hl8'
            exact ⟨ao8, cap8, rfl, hp1, hp2, hsb8⟩
  · obtain rfl : l = [] := List.eq_nil_of_length_eq_zero (by omega)
    have HR := Lib.hid (readN_nil most bad)
    go_enter Try.func82, Try.ntmps82
    go_wp2_with fail
    refine Hlf.out.mono ?_
    rintro e W2 ⟨rfl, rfl⟩
    go_wp2_with fail
    refine Hfl.out.mono ?_
    rintro e W3 ⟨rfl, hr, hg⟩
    go_wp2_with fail
    go_ret2
    rw [HR.out]
    exact ⟨none, 0, rfl, hr, hg, SameBlk.none _⟩
theorem rnum_any (most : Nat) (hm : most < 2 ^ 64) {W : World} {p : Nat} {ao : Option Addr} {cap : Nat} {l : List UInt8} {bad : Bool} (h : Rd 106 W p ao cap l bad) :
    Calls Try.prog 56 #[.pointer (some ⟨p, 0, none⟩), .int .u64 (most : Int)] W (RdTold 106 p ao (fun x => .int .u64 x) (readN most l bad) W) := by
  have Hn := Lib.hid (rnumber_any most hm h)
  clear hm
  go_enter Try.func56, Try.ntmps56
  go_wp2_with fail
  refine Hn.out.mono ?_
  rintro e W2 ⟨ao', cap', rfl, hr, hg, hsb⟩
  go_wp2_with fail
  go_ret
  exact ⟨ao', cap', rfl, hr, hg, hsb⟩
end Go.Proofs.Ytedlplkomfiahaa
namespace Go.Proofs.Ytedlplkomfiahaa
set_option linter.unusedVariables false
set_option linter.unusedSimpArgs false
set_option linter.unusedSectionVars false
open Go Go.RowKit Go.Shelf
theorem refFail_rd {W : World} {p : Nat} {ao : Option Addr} {cap : Nat} {l : List UInt8} {bad : Bool} (h : Rd 78 W p ao cap l bad) :
    Calls Try.prog 63 #[.pointer (some ⟨p, 0, none⟩)] W (RdBad 78 p (.tuple #[]) W) := by
  obtain ⟨c0, c1, f0, f1⟩ := h.cells
  have hpz := (Array.getElem?_eq_some_iff.1 h.blk).1
  go_enter Try.func63, Try.ntmps63
  go_wp2_with fail
  refine bodyPost_ret (v := .tuple #[]) (by simp [results, Try.results63, go_sem]) rfl ?_
  exact ⟨rfl, h.fail⟩
theorem refFirst_nil {W : World} {p : Nat} {ao : Option Addr} {cap : Nat} {bad : Bool} (h : Rd 78 W p ao cap [] bad) :
    Calls Try.prog 83 #[.pointer (some ⟨p, 0, none⟩)] W fun e W' => e = .returned (.tuple #[.int .u8 0, .bool false]) ∧ W = W' := by
  obtain ⟨c0, c1, f0, f1⟩ := h.cells
  simp only [List.length_nil] at c0
  go_enter Try.func83, Try.ntmps83
  go_wp2_with fail
  go_ret2
  exact ⟨rfl, rfl⟩
set_option maxHeartbeats 1000000 in
theorem refFirst_some {W : World} {p : Nat} {ao : Option Addr} {cap : Nat} {l : List UInt8} {bad : Bool} (h : Rd 78 W p ao cap l bad) (h0 : 0 < l.length) :
    Calls Try.prog 83 #[.pointer (some ⟨p, 0, none⟩)] W fun e W' => ∃ ao' cap', e = .returned (.tuple #[.int .u8 (l[0].toNat : Int), .bool true]) ∧ Rd 78 W' p ao' cap' (l.drop 1) bad ∧ W.grownBy W' (some p) ∧ SameBlk ao ao' := by
  obtain ⟨c0, c1, f0, f1⟩ := h.cells
  have hpz := (Array.getElem?_eq_some_iff.1 h.blk).1
  obtain ⟨b, off, rfl, hc0⟩ := h.bs.get 0 h0
  have hc0' : W.cell? ⟨b, off, none⟩ = some (.int .u8 (l[0].toNat : Int)) := hc0
  obtain ⟨c, hc⟩ : ∃ c, c = l[0] := ⟨_, rfl⟩
  rw [← hc] at hc0' ⊢
  clear hc hc0
  have l0 : ¬ ((l.length : Int) = 0) := by omega
  have l1 : (0 : Int) < (l.length : Int) := by omega
  go_enter Try.func83, Try.ntmps83
  go_wp2_with ((with_reducible show wpList _ _ _ (⟨_, Op.slice _ (.tmp 21) _ _ _, _, _, _, _⟩ :: _) _ _); refine wpl_slice_bb rfl (.tmp 21) (some (.const (.int .i64 1))) none 64 5 rfl Try.underlying64 sizeUB _ _ l rfl h.bs 1 l.length (.inl ⟨_, rfl, ?_⟩) (.inr ⟨rfl, rfl⟩) ?_ ?_ ?_; rfl; omega; omega; intro ao8 cap8 l8 hl8 hlen8 hb8 hsb8; clear hlen8)
  go_ret2
  have hl8' : l8 = l.drop 1 := by rw [hl8.out, List.take_length]
  obtain ⟨hp1, hp2⟩ := h.put hb8
  subst hl8'
  exact ⟨ao8, cap8, rfl, hp1, hp2, hsb8⟩
set_option maxRecDepth 100000 in
set_option maxHeartbeats 4000000 in
theorem refNumber_bad (s : Nat) {W : World} {p : Nat} {ao : Option Addr} {cap : Nat} {l : List UInt8} {bad : Bool} (h : Rd 78 W p ao cap l bad) (hbad : 8 < s ∨ l.length < s ∨ (0 < s ∧ l[0]? = some 0)) :
    Calls Try.prog 84 #[.pointer (some ⟨p, 0, none⟩), .int .i64 (s : Int)] W fun e W' => e = .returned (.tuple #[.int .u64 0, .bool false]) ∧ W = W' := by
  obtain ⟨c0, c1, f0, f1⟩ := h.cells
  by_cases hA : 8 < s
  · have hA' : (8 : Int) < (s : Int) := by omega
    go_enter Try.func84, Try.ntmps84
    go_wp2_with fail
    go_ret2
    exact ⟨rfl, rfl⟩
  have hA' : ¬ (8 : Int) < (s : Int) := by omega
  by_cases hB : l.length < s
  · have hB' : (l.length : Int) < (s : Int) := by omega
    go_enter Try.func84, Try.ntmps84
    go_wp2_with fail
    go_ret2
    exact ⟨rfl, rfl⟩
  have hB' : ¬ (l.length : Int) < (s : Int) := by omega
  obtain ⟨hC1, hC2⟩ : 0 < s ∧ l[0]? = some 0 := by
    rcases hbad with h1 | h1 | h1
    · exact absurd h1 hA
    · exact absurd h1 hB
    · exact h1
  obtain ⟨b, off, rfl, hc0⟩ := h.bs.get 0 (by omega)
  have hz : l[0] = 0 := by rw [List.getElem?_eq_getElem (by omega)] at hC2; simpa using hC2
  rw [hz] at hc0
  have hc0' : W.cell? ⟨b, off, none⟩ = some (.int .u8 0) := hc0
  have l1 : (0 : Int) < (l.length : Int) := by omega
  have l2 : (0 : Int) < (s : Int) := by omega
  clear hz hC2 hbad hc0
  go_enter Try.func84, Try.ntmps84
  go_wp2_with fail
  go_ret2
  exact ⟨rfl, rfl⟩
set_option maxRecDepth 100000 in
set_option maxHeartbeats 4000000 in
theorem refNumber_ok (s : Nat) {W : World} {p : Nat} {ao : Option Addr} {cap : Nat} {l : List UInt8} {bad : Bool} (h : Rd 78 W p ao cap l bad) (hA : ¬ 8 < s) (hB : ¬ l.length < s) (hC : ¬ (0 < s ∧ l[0]? = some 0)) :
    Calls Try.prog 84 #[.pointer (some ⟨p, 0, none⟩), .int .i64 (s : Int)] W fun e W' => ∃ ao' cap', e = .returned (.tuple #[.int .u64 (valN (l.take s) : Nat), .bool true]) ∧ Rd 78 W' p ao' cap' (l.drop s) bad ∧ W.grownBy W' (some p) ∧ SameBlk ao ao' := by
  obtain ⟨c0, c1, f0, f1⟩ := h.cells
  have hpz := (Array.getElem?_eq_some_iff.1 h.blk).1
  have hA' : ¬ (8 : Int) < (s : Int) := by omega
  have hB' : ¬ (l.length : Int) < (s : Int) := by omega
  have hmax := h.bs.max
  have hle := h.bs.le
  have HS3 : (¬ (0 : Int) < (s : Int)) ∨ ∃ (b off : Nat) (d : Int), ao = some ⟨b, off, none⟩ ∧ (0 : Int) < (s : Int) ∧ ¬ d = 0 ∧ W.cell? ⟨b, off, none⟩ = some (.int .u8 d) := by
    by_cases hs0 : s = 0
    · exact .inl (by omega)
    · obtain ⟨b, off, e, hc0⟩ := h.bs.get 0 (by omega)
      refine .inr ⟨b, off, _, e, by omega, ?_, hc0⟩
      intro e2
      refine hC ⟨by omega, ?_⟩
      rw [List.getElem?_eq_getElem (by omega)]
      congr 1
      refine UInt8.toNat_inj.1 ?_
      have e3 : l[0].toNat = 0 := by omega
      rw [e3]; rfl
  rcases HS3 with hs0 | ⟨b, off, d, rfl, hs0, hd0, hcd⟩
  rotate_left
  have hd1 : (d == 0) = false := by simpa using hd0
  have l3 : (0 : Int) < (l.length : Int) := by omega
  rotate_left
  all_goals
    clear hmax hle
    go_enter Try.func84, Try.ntmps84
    go_wp2_with fail
    go_loopw [6, 7] (fun a b wr => ∃ (i x : Nat), a = .int .u64 x ∧ b = .int .i64 i ∧ i ≤ s ∧ Hid (x = valN (l.take i)) ∧ W = wr) (fun _ b _ => s - (intOf b).toNat)
    case atStart => exact ⟨0, 0, rfl, rfl, by omega, by show _ = _; simp [valN], rfl⟩
    case round =>
      obtain ⟨i, x, rfl, rfl, hi, hx, rfl⟩ := hrel
      by_cases hlt : i < s
      · first
          | (exfalso; omega)
          | (
            obtain ⟨b2, off2, e2, hc2⟩ := h.bs.get i (by omega)
            have hst := valN_step l i (by omega)
            have hxb : x < 72057594037927936 := by
              rw [hx.out]
              have h1 := valN_lt (l.take i)
              have h2 : (l.take i).length ≤ 7 := by simp; omega
              have h3 : 256 ^ (l.take i).length ≤ 256 ^ 7 := Nat.pow_le_pow_right (by decide) h2
              have h4 : (256 : Nat) ^ 7 = 72057594037927936 := by decide
              omega
            rw [← hx.out] at hst
            obtain ⟨c, hc⟩ : ∃ c, c = l[i] := ⟨_, rfl⟩
            rw [← hc] at hst hc2
            have hc256 := c.toNat_lt
            have w1 : IntKind.u64.wrap ((x : Int) * 256) = (x : Int) * 256 := IntWalk.u64_in _ (by omega)
            have w2 : IntKind.u64.wrap (c.toNat : Int) = (c.toNat : Int) := IntWalk.u64_in _ (by omega)
            obtain ⟨y, hy⟩ : ∃ y, y = x * 256 + c.toNat := ⟨_, rfl⟩
            have w3 : IntKind.u64.wrap ((x : Int) * 256 + (c.toNat : Int)) = (y : Int) := by rw [IntWalk.u64_in _ (by omega)]; omega
            rw [← hy] at hst
            have Hst := Lib.hid hst.symm
            clear hst hy hc hx hxb hc256
            have i0 : (0 : Int) ≤ (i : Int) := by omega
            have i1 : (i : Int) < (l.length : Int) := by omega
            have i2 : (i : Int) < (s : Int) := by omega
            try simp only [Option.some.injEq, Addr.mk.injEq] at e2
            first | subst e2 | (obtain ⟨rfl, rfl, -⟩ := e2)
            go_wp2_with fail
            go_roundw
            case rel => exact ⟨i + 1, y, by simp, by simp, by omega, Hst, by first | rfl | trivial⟩
            case measure => simp [intOf]; omega)
      · have hi' : i = s := by omega
        subst hi'
        go_wp2_with ((with_reducible show wpList _ _ _ (⟨_, Op.slice _ (.tmp 52) _ _ _, _, _, _, _⟩ :: _) _ _); refine wpl_slice_bb rfl (.tmp 52) (some (.tmp 53)) none 64 5 rfl Try.underlying64 sizeUB _ _ l rfl h.bs i l.length (.inl ⟨_, rfl, ?_⟩) (.inr ⟨rfl, rfl⟩) ?_ ?_ ?_; rfl; omega; omega; intro ao8 cap8 l8 hl8 hlen8 hb8 hsb8; clear hlen8)
        go_ret2
        have hl8' : l8 = l.drop i := by rw [hl8.out, List.take_length]
        rw [← hx.out]
        obtain ⟨hp1, hp2⟩ := h.put hb8
        subst hl8'
        exact ⟨ao8, cap8, rfl, hp1, hp2, hsb8⟩
theorem drop1_take (l : List UInt8) (s : Nat) : (l.take (s + 1)).drop 1 = (l.drop 1).take s := by rw [List.drop_take]; rfl
set_option maxHeartbeats 1000000 in
theorem refNum_rd (most : Nat) (hm : most < 2 ^ 64) {W : World} {p : Nat} {ao : Option Addr} {cap : Nat} {l : List UInt8} {bad : Bool} (h : Rd 78 W p ao cap l bad) :
    Calls Try.prog 62 #[.pointer (some ⟨p, 0, none⟩), .int .u64 (most : Int)] W (RdTold 78 p ao (fun x => .int .u64 x) (readN most l bad) W) := by
  clear hm
  have Hfl := Lib.hid (fun (W : World) (ao : Option Addr) (cap : Nat) (l : List UInt8) (bad : Bool) (h : Rd 78 W p ao cap l bad) => refFail_rd h)
  by_cases h0 : 0 < l.length
  · have Hfi := Lib.hid (refFirst_some h h0)
    have hbad := readN_bad most l bad h0
    have hbig := readN_big most l bad h0
    have hok := readN_ok most l bad h0
    obtain ⟨s, hs⟩ : ∃ s, s = l[0].toNat := ⟨_, rfl⟩
    have hs256 : s < 256 := by rw [hs]; exact l[0].toNat_lt
    rw [← hs] at Hfi hbad hbig hok
    clear hs
    have w1 : IntKind.i64.wrap (s : Int) = (s : Int) := IntWalk.i64_in _ (by omega)
    by_cases hB : 8 < s ∨ l.length ≤ s ∨ (0 < s ∧ l[1]? = some 0)
    · have HR := Lib.hid (hbad hB)
      have hB2 : 8 < s ∨ (l.drop 1).length < s ∨ (0 < s ∧ (l.drop 1)[0]? = some 0) := by
        rcases hB with h1 | h1 | h1
        · exact .inl h1
        · exact .inr (.inl (by simp; omega))
        · exact .inr (.inr ⟨h1.1, by simpa using h1.2⟩)
      have Hnb := Lib.hid (fun (W : World) (ao : Option Addr) (cap : Nat) (h : Rd 78 W p ao cap (l.drop 1) bad) => refNumber_bad s h hB2)
      clear hbad hbig hok hB hB2
      go_enter Try.func62, Try.ntmps62
      go_wp2_with fail
      refine Hfi.out.mono ?_
      rintro e W2 ⟨ao2, cap2, rfl, hr2, hg2, hs2⟩
      go_wp2_with fail
      refine (Hnb.out _ _ _ hr2).mono ?_
      rintro e W3 ⟨rfl, rfl⟩
      go_wp2_with fail
      refine (Hfl.out _ _ _ _ _ hr2).mono ?_
      rintro e W3 ⟨rfl, hr3, hg3⟩
      go_wp2_with fail
      go_ret
      rw [HR.out]
      exact ⟨none, 0, rfl, hr3, grown_trans hg2 hg3, SameBlk.none _⟩
    · have hA : ¬ 8 < s := fun e => hB (.inl e)
      have hA2 : ¬ l.length ≤ s := fun e => hB (.inr (.inl e))
      have hA3 : ¬ (0 < s ∧ l[1]? = some 0) := fun e => hB (.inr (.inr e))
      have hok2 := hok hA hA2 hA3
      have hNo := fun (W : World) (ao : Option Addr) (cap : Nat) (h : Rd 78 W p ao cap (l.drop 1) bad) => refNumber_ok s h hA (by simp; omega) (by simpa using hA3)
      rw [drop1_take] at hok2 hbig
      have e2 : (l.drop 1).drop s = l.drop (s + 1) := by rw [List.drop_drop]; congr 1; omega
      simp only [e2] at hNo
      obtain ⟨X, hX⟩ : ∃ X, X = valN ((l.drop 1).take s) := ⟨_, rfl⟩
      simp only [← hX] at hNo hok2 hbig
      have HNo := Lib.hid hNo
      have Hbig := Lib.hid hbig
      have Hok := Lib.hid hok2
      clear hNo hX hbig hok2 hok hbad hB hA3 e2
      by_cases hD : most < X
      · have HR := Lib.hid (Hbig.out hD)
        have hD' : ¬ (X : Int) ≤ (most : Int) := by omega
        go_enter Try.func62, Try.ntmps62
        go_wp2_with fail
        refine Hfi.out.mono ?_
        rintro e W2 ⟨ao2, cap2, rfl, hr2, hg2, hs2⟩
        go_wp2_with fail
        refine (HNo.out _ _ _ hr2).mono ?_
        rintro e W3 ⟨ao3, cap3, rfl, hr3, hg3, hs3⟩
        go_wp2_with fail
        refine (Hfl.out _ _ _ _ _ hr3).mono ?_
        rintro e W4 ⟨rfl, hr4, hg4⟩
        go_wp2_with fail
        go_ret
        rw [HR.out]
        exact ⟨none, 0, rfl, hr4, grown_trans hg2 (grown_trans hg3 hg4), SameBlk.none _⟩
      · have HR := Lib.hid (Hok.out hD)
        have hD' : (X : Int) ≤ (most : Int) := by omega
        go_enter Try.func62, Try.ntmps62
        go_wp2_with fail
        refine Hfi.out.mono ?_
        rintro e W2 ⟨ao2, cap2, rfl, hr2, hg2, hs2⟩
        go_wp2_with fail
        refine (HNo.out _ _ _ hr2).mono ?_
        rintro e W3 ⟨ao3, cap3, rfl, hr3, hg3, hs3⟩
        go_wp2_with fail
        go_ret
        rw [HR.out]
        exact ⟨ao3, cap3, rfl, hr3, grown_trans hg2 hg3, hs2.trans hs3⟩
  · obtain rfl : l = [] := List.eq_nil_of_length_eq_zero (by omega)
    have HR := Lib.hid (readN_nil most bad)
    have Hfi := Lib.hid (refFirst_nil h)
    go_enter Try.func62, Try.ntmps62
    go_wp2_with fail
    refine Hfi.out.mono ?_
    rintro e W2 ⟨rfl, rfl⟩
    go_wp2_with fail
    refine (Hfl.out _ _ _ _ _ h).mono ?_
    rintro e W3 ⟨rfl, hr3, hg3⟩
    go_wp2_with fail
    go_ret
    rw [HR.out]
    exact ⟨none, 0, rfl, hr3, hg3, SameBlk.none _⟩
theorem own_lit (w : World) (base e : Nat) (l : List UInt8) (cs : Array Value) (hb : base ≤ w.heap.size) (hcs : cs.toList = l.map u8) (hm : l.length ≤ 1000) :
    (w.alloc (.cells cs e)).ownsRow base e 1 (.slice (some ⟨w.heap.size, 0, none⟩) l.length l.length) l.length (l.map u8) :=
  ⟨by simp, .inr ⟨w.heap.size, l.length, cs, rfl, hb, heap_alloc_new w _, Nat.le_refl _, by unfold maxLen; omega, by rw [← Array.length_toList, hcs]; simp, by rw [hcs, ← List.length_map (f := u8), Nat.mul_one, List.take_length]⟩⟩
set_option maxHeartbeats 1000000 in
theorem refNumB_any (n : Nat) (hn : n < 2 ^ 64) (W : World) :
    Calls Try.prog 60 #[.int .u64 (n : Int)] W fun e W' => ∃ ao cap, e = .returned (.slice ao (numB n).length cap) ∧ W'.ownsRow W.heap.size 5 1 (.slice ao (numB n).length cap) (numB n).length ((numB n).map u8) ∧ Below W.heap.size W W' := by
  have h8 := digs_len8 n hn
  have HN : Hid (numB n = UInt8.ofNat (digs n).length :: digs n) := rfl
  go_enter Try.func60, Try.ntmps60
  go_wp2_with fail
  go_loopw [0, 3] (fun a b wr => ∃ (x : Nat) (ao : Option Addr) (cap : Nat) (t : List UInt8), a = .int .u64 x ∧ b = .slice ao t.length cap ∧ Hid (digs n = digs x ++ t) ∧ t.length ≤ 8 ∧ x ≤ n ∧ wr.ownsRow W.heap.size 5 1 (.slice ao t.length cap) t.length (t.map u8) ∧ Below W.heap.size W wr) (fun a _ _ => (intOf a).toNat)
  case atStart => exact ⟨n, none, 0, [], rfl, rfl, by show _ = _; simp, by simp, by omega, World.ownsRow_nil _ _ _ _, Below.refl _ _⟩
  case round =>
    obtain ⟨x, ao, cap, t, rfl, rfl, ht, ht8, hxn, hown, hB⟩ := hrel
    by_cases hx0 : 0 < x
    · have hx1 : (0 : Int) < (x : Int) := by omega
      have hq : (x : Int).tdiv 256 = ((x / 256 : Nat) : Int) := by rw [Int.tdiv_eq_ediv_of_nonneg (by omega)]; omega
      obtain ⟨c, hc⟩ : ∃ c : UInt8, c = UInt8.ofNat x := ⟨_, rfl⟩
      have hcn : c.toNat = x % 256 := by rw [hc]; simp
      have hr : (x : Int).tmod 256 = (c.toNat : Int) := by rw [Int.tmod_eq_emod_of_nonneg (by omega), hcn]; omega
      have hc256 := c.toNat_lt
      have w1 : IntKind.u8.wrap (c.toNat : Int) = (c.toNat : Int) := IntWalk.u8_in _ (by omega)
      have w2 : IntKind.u64.wrap (c.toNat : Int) = (c.toNat : Int) := IntWalk.u64_in _ (by omega)
      have hdx : digs x = digs (x / 256) ++ [c] := by rw [digs_pos (by omega), hc]
      have Hdx := Lib.hid hdx
      obtain ⟨y, hy⟩ : ∃ y, y = x / 256 := ⟨_, rfl⟩
      have hyx : y < x := by omega
      have w3 : IntKind.u64.wrap (y : Int) = (y : Int) := IntWalk.u64_in _ (by omega)
      rw [← hy] at hq Hdx
      have ht9 : t.length + 1 ≤ 8 := by
        have h1 := congrArg List.length ht.out
        rw [Hdx.out] at h1
        simp at h1; omega
      clear hc hcn hdx hy hc256
      go_wp2_with (at_builtin; refine wpl_append_bs rfl (.tmp 9) (.tmp 10) 64 rfl W.heap.size 5 infoUB Try.underlying64 (some ⟨wr.heap.size, 0, none⟩) _ [c] rfl (own_lit wr W.heap.size 5 [c] #[.int .u8 (c.toNat : Int)] hB.size rfl (by simp)) _ _ t rfl ((Bs.of_own hown).below (below_new _ _)) ?_ ?_ ?_; (simp; omega); (have := hB.size; simp; omega); intro ao2 cap2 l2 W2 hl2 hown2 hg2)
      have hB2 := below_app (hB.alloc hB.size _) hg2 (own_lit wr W.heap.size 5 [c] #[.int .u8 (c.toNat : Int)] hB.size rfl (by simp)) (Nat.le_refl _) (by have := hB.size; simp; omega)
      have hl2' : l2 = c :: t := by rw [hl2.out]; rfl
      subst hl2'
      go_roundw
      case rel => exact ⟨y, ao2, cap2, c :: t, rfl, rfl, by show _ = _; rw [ht.out, Hdx.out, List.append_assoc]; rfl, by simpa using ht9, by omega, hown2, hB2⟩
      case measure => simp [intOf]; omega
    · have hx0' : x = 0 := by omega
      subst hx0'
      have htd : digs n = t := by rw [ht.out, digs_zero]; rfl
      have HN2 := HN.out
      rw [htd] at HN2
      have HN3 := Lib.hid HN2
      obtain ⟨c, hc⟩ : ∃ c : UInt8, c = UInt8.ofNat t.length := ⟨_, rfl⟩
      have hcn : c.toNat = t.length := by rw [hc]; simp; omega
      have w1 : IntKind.u8.wrap (t.length : Int) = (c.toNat : Int) := by rw [hcn]; exact IntWalk.u8_in _ (by omega)
      have Hc := Lib.hid hc
      clear hc hcn HN2 htd HN
      go_wp2_with (at_builtin; refine wpl_append_bs rfl (.tmp 17) (.tmp 18) 64 rfl W.heap.size 5 infoUB Try.underlying64 (some ⟨wr.heap.size, 0, none⟩) _ [c] rfl (own_lit wr W.heap.size 5 [c] #[.int .u8 (c.toNat : Int)] hB.size rfl (by simp)) _ _ t rfl ((Bs.of_own hown).below (below_new _ _)) ?_ ?_ ?_; (simp; omega); (have := hB.size; simp; omega); intro ao2 cap2 l2 W2 hl2 hown2 hg2)
      go_ret
      have hB2 := below_app (hB.alloc hB.size _) hg2 (own_lit wr W.heap.size 5 [c] #[.int .u8 (c.toNat : Int)] hB.size rfl (by simp)) (Nat.le_refl _) (by have := hB.size; simp; omega)
      have hl2' : l2 = numB n := by rw [hl2.out, HN3.out, Hc.out]; rfl
      subst hl2'
      exact ⟨ao2, cap2, rfl, hown2, hB2⟩
end Go.Proofs.Ytedlplkomfiahaa
