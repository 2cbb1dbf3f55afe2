/- Lemmas for BagOnce (Qr Qn CrcLaw Crc CrcB CrcC Qt CrcO FrameLaw Frame). No statement of the seat is proved here. -/
import Derived.Laws.Bits64b
import Derived.WalkLawsBesides
import Derived.BigQuiet
import Derived.Deep.QuietTactic
import Derived.Deep.RegionWith
import Derived.Laws.IdiomStrings
import Derived.Test.YtbmkgcoolofmpaaO1
import Derived.Test.YtbmkgcoolofmpaaO2
namespace Go.Proofs.Ytbmkgcoolofmpaa
set_option linter.unusedVariables false
set_option linter.unusedSimpArgs false
set_option linter.unusedSectionVars false
open Go Go.RowKit Go.Shelf
/-- a reader that has l left -/
structure Rd (T : TypeId) (W : World) (p : Nat) (ao : Option Addr) (cap : Nat) (l : List UInt8) (bad : Bool) : Prop where
  blk : W.heap[p]? = some (.cells #[.slice ao l.length cap, .bool bad] T (0, 0))
  bs : Bs W ao cap l
theorem Rd.below {T : TypeId} {W W' : World} {p : Nat} {ao : Option Addr} {cap : Nat} {l : List UInt8} {bad : Bool} (h : Rd T W p ao cap l bad) (hb : Below W.heap.size W W') : Rd T W' p ao cap l bad :=
  ⟨(hb.block p (Array.getElem?_eq_some_iff.1 h.blk).1).trans h.blk, h.bs.below hb⟩
theorem Rd.cells {T : TypeId} {W : World} {p : Nat} {ao : Option Addr} {cap : Nat} {l : List UInt8} {bad : Bool} (h : Rd T W p ao cap l bad) :
    W.cell? ⟨p, 0, none⟩ = some (.slice ao l.length cap) ∧ W.cell? ⟨p, 1, none⟩ = some (.bool bad) ∧ W.frozen? ⟨p, 0, none⟩ = false ∧ W.frozen? ⟨p, 1, none⟩ = false :=
  ⟨block_cell h.blk 0, block_cell h.blk 1, block_free h.blk 0, block_free h.blk 1⟩
/-- bytes lie in no reader -/
theorem Bs.set {W : World} {T : TypeId} {p i : Nat} {ao : Option Addr} {cap : Nat} {l : List UInt8} {x : Value} {u : Bool} {y : Value} (h : Bs W ao cap l) (hx : ∀ n : Int, x ≠ .int .u8 n) (hp : W.heap[p]? = some (.cells #[x, .bool u] T (0, 0))) : Bs (W.setCell ⟨p, i, none⟩ y) ao cap l :=
  ⟨h.len, h.le, h.max, h.none, fun j v hv => by
    obtain ⟨b, off, e, hc⟩ := h.cell j v hv
    refine ⟨b, off, e, ?_⟩
    have hne : b ≠ p := by
      intro e2
      subst e2
      rw [block_cell hp] at hc
      rw [List.getElem?_map] at hv
      cases hl : l[j]? with
      | none => rw [hl] at hv; cases hv
      | some z =>
        rw [hl] at hv
        simp only [Option.map_some, Option.some.injEq] at hv
        subst hv
        match hk : off + j with
        | 0 => rw [hk] at hc; simp at hc; exact hx _ hc
        | 1 => rw [hk] at hc; simp at hc
        | k + 2 => rw [hk] at hc; simp at hc
    rw [World.cell?_setCell_other _ _ _ _ (by first | (simp; done) | (simp; intro e2; exact absurd e2 hne) | (simp; exact hne) | (intro e2; simp at e2; exact hne e2.1))]; exact hc⟩
/-- what a reader's method leaves -/
theorem Rd.put {T : TypeId} {W : World} {p : Nat} {ao ao' : Option Addr} {cap cap' : Nat} {l l' : List UInt8} {bad : Bool} (h : Rd T W p ao cap l bad) (hb : Bs W ao' cap' l') :
    Rd T (W.setCell ⟨p, 0, none⟩ (.slice ao' l'.length cap')) p ao' cap' l' bad ∧ W.grownBy (W.setCell ⟨p, 0, none⟩ (.slice ao' l'.length cap')) (some p) := by
  have hs := block_set h.blk 0 (.slice ao' l'.length cap')
  simp only [List.setIfInBounds_toArray, List.set_cons_zero] at hs
  exact ⟨⟨hs, hb.set (fun n e => by cases e) h.blk⟩, grown_set _ _ _ _⟩
theorem Bs.nil (W : World) : Bs W none 0 [] := ⟨by simp, by simp, by decide, fun _ => rfl, fun j u hu => by simp at hu⟩
theorem Rd.fail {T : TypeId} {W : World} {p : Nat} {ao : Option Addr} {cap : Nat} {l : List UInt8} {bad : Bool} (h : Rd T W p ao cap l bad) :
    Rd T ((W.setCell ⟨p, 0, none⟩ (.slice none 0 0)).setCell ⟨p, 1, none⟩ (.bool true)) p none 0 [] true ∧ W.grownBy ((W.setCell ⟨p, 0, none⟩ (.slice none 0 0)).setCell ⟨p, 1, none⟩ (.bool true)) (some p) := by
  have hs := block_set (block_set h.blk 0 (.slice none 0 0)) 1 (.bool true)
  simp only [List.setIfInBounds_toArray, List.set_cons_zero, List.set_cons_succ] at hs
  exact ⟨⟨hs, Bs.nil _⟩, grown_trans (grown_set _ _ _ _) (grown_set _ _ _ _)⟩
/-- a reader's method that failed -/
def RdBad (T : TypeId) (p : Nat) (V : Value) (W : World) (e : Ending) (W' : World) : Prop := e = .returned V ∧ Rd T W' p none 0 [] true ∧ W.grownBy W' (some p)
theorem fail_rd {W : World} {p : Nat} {ao : Option Addr} {cap : Nat} {l : List UInt8} {bad : Bool} (h : Rd 123 W p ao cap l bad) :
    Calls Try.prog 77 #[.pointer (some ⟨p, 0, none⟩)] W (RdBad 123 p (.tuple #[]) W) := by
  obtain ⟨c0, c1, f0, f1⟩ := h.cells
  have hpz := (Array.getElem?_eq_some_iff.1 h.blk).1
  go_enter Try.func77, Try.ntmps77
  go_wp2_with fail
  refine bodyPost_ret (v := .tuple #[]) (by simp [results, Try.results77, go_sem]) rfl ?_
  exact ⟨rfl, h.fail⟩
theorem left_rd {W : World} {p : Nat} {ao : Option Addr} {cap : Nat} {l : List UInt8} {bad : Bool} (h : Rd 123 W p ao cap l bad) :
    Calls Try.prog 91 #[.pointer (some ⟨p, 0, none⟩)] W fun e W' => e = .returned (.int .i64 l.length) ∧ W = W' := by
  obtain ⟨c0, c1, f0, f1⟩ := h.cells
  go_enter Try.func91, Try.ntmps91
  go_wp2_with fail
  go_ret
  exact ⟨rfl, rfl⟩
theorem open_rd (ao : Option Addr) (cap : Nat) (l : List UInt8) (W : World) (h : Bs W ao cap l) :
    Calls Try.prog 47 #[.slice ao l.length cap] W fun e W' => e = .returned (.pointer (some ⟨W.heap.size, 0, none⟩)) ∧ Rd 123 W' W.heap.size ao cap l false ∧ Below W.heap.size W W' := by
  go_enter Try.func47, Try.ntmps47
  go_wp2_with fail
  go_ret
  exact ⟨rfl, ⟨heap_alloc_new _ _, h.below (below_new _ _)⟩, below_new _ _⟩
set_option maxRecDepth 100000 in
set_option maxHeartbeats 4000000 in
theorem bytes_wr {W : World} {base p : Nat} {v : Value} {l : List UInt8} (h : Wr W base p v l) (hl : l.length ≤ 1099511627776) :
    Calls Try.prog 58 #[.pointer (some ⟨p, 0, none⟩)] W fun e W' => ∃ ao cap, e = .returned (.slice ao l.length cap) ∧ W'.ownsRow W.heap.size 5 1 (.slice ao l.length cap) l.length (l.map u8) ∧ Below W.heap.size W W' := by
  obtain ⟨ao, cap, rfl⟩ := own_slice h.own
  have c0 := block_cell h.blk 0
  simp at c0
  cases ao with
  | none =>
    have hs := Bs.of_own h.own
    have hle := hs.le
    have hno := hs.none rfl
    have : l = [] := List.eq_nil_of_length_eq_zero (by omega)
    subst this
    subst hno
    have he : ∀ W : World, (binOp .eql 33 (.slice none 0 0) (.slice none 0 0)).run Try.prog W = .ok (.bool true) W := fun _ => by kernel_rfl
    have hcl : Calls Try.prog 72 #[.slice none 0 0] W fun e W' => e = .returned (.slice none 0 0) ∧ W = W' := by
      go_enter Try.func72, Try.ntmps72
      go_wp2_with fail
      go_ret
      exact ⟨rfl, rfl⟩
    simp only [List.length_nil] at c0 ⊢
    have Hcl := Lib.hid hcl
    clear hcl
    go_enter Try.func58, Try.ntmps58
    go_wp2_with fail
    refine Hcl.out.mono ?_
    rintro e W2 ⟨rfl, rfl⟩
    go_wp2_with fail
    go_ret
    exact ⟨none, 0, rfl, World.ownsRow_nil _ _ _ _, Below.refl _ _⟩
  | some ad =>
    have hbs := Bs.of_own h.own
    have he : ∀ W : World, (binOp .eql 33 (.slice (some ad) l.length cap) (.slice none 0 0)).run Try.prog W = .ok (.bool false) W := fun _ => by kernel_rfl
    have hcl : Calls Try.prog 72 #[.slice (some ad) l.length cap] W fun e W' => ∃ ao cap, e = .returned (.slice ao l.length cap) ∧ W'.ownsRow W.heap.size 5 1 (.slice ao l.length cap) l.length (l.map u8) ∧ Below W.heap.size W W' := by
      go_enter Try.func72, Try.ntmps72
      go_wp2_with (at_builtin; refine wpl_append_bs rfl (.tmp 5) (.tmp 6) 33 rfl W.heap.size 5 infoUB Try.underlying33 _ _ [] rfl (own_empty W W.heap.size _ 1 (Nat.le_refl _)) _ _ l rfl (hbs.below (below_new _ _)) ?_ ?_ ?_; (simp; omega); simp; intro ao2 cap2 l2 W2 hl2 hown2 hg2)
      obtain rfl : l2 = l := hl2.out
      go_ret
      exact ⟨_, _, rfl, hown2, below_app (below_new W _) hg2 (own_empty W W.heap.size _ 1 (Nat.le_refl _)) (Nat.le_refl _) (by simp)⟩
    have Hcl := Lib.hid hcl
    clear hcl
    go_enter Try.func58, Try.ntmps58
    go_wp2_with fail
    refine Hcl.out.mono ?_
    rintro e W2 ⟨ao2, cap2, rfl, hown, hb⟩
    go_wp2_with fail
    go_ret
    exact ⟨ao2, cap2, rfl, hown, hb⟩
/-- in the same block -/
def SameBlk (ao ao' : Option Addr) : Prop := ∀ a', ao' = some a' → ∃ a, ao = some a ∧ a.block = a'.block
theorem SameBlk.trans {a b c : Option Addr} (h : SameBlk a b) (h2 : SameBlk b c) : SameBlk a c := fun a' e => by
  obtain ⟨x, e1, e2⟩ := h2 a' e
  obtain ⟨y, e3, e4⟩ := h x e1
  exact ⟨y, e3, e4.trans e2⟩
theorem SameBlk.none (a : Option Addr) : SameBlk a none := fun a' e => by cases e
theorem add_block (a : Addr) (n : Nat) : (a.add n).block = a.block := by unfold Addr.add; split <;> rfl
/-- a piece of bytes: the address and the list by name, and the block -/
theorem wpl_slice_bb {P : Program} {w : World} {ops : Array Oper} {rest : List Oper} {o : Oper} {a : Act} {Q : Exit → Act → World → Prop} (hw : Region.wanted o (yielded ops a.tmps) = true) (x : Operand) (olo ohi : Option Operand) (t e : TypeId)
    (ho : o.op = .slice t x olo ohi none) (ht : P.underlying t = some (.slice e)) (hsz : (P.info? e).map (·.size) = some 1)
    (ao : Option Addr) (c : Nat) (l : List UInt8) (hx : a.eval x = .slice ao l.length c) (hsl : Bs w ao c l)
    (p q : Nat) (hlo : (∃ i, olo.map a.eval = some (.int .i64 i) ∧ i = (p : Int)) ∨ olo.map a.eval = none ∧ p = 0) (hhi : (∃ i, ohi.map a.eval = some (.int .i64 i) ∧ i = (q : Int)) ∨ ohi.map a.eval = none ∧ q = l.length) (hp : p ≤ q) (hq : q ≤ l.length)
    (h : ∀ ao' cap' l', Hid (l' = (l.take q).drop p) → l'.length = q - p → Bs w ao' cap' l' → SameBlk ao ao' → wpList P ops Q rest (a.put o.dst (.slice ao' l'.length cap')) w) : wpList P ops Q (o :: rest) a w := by
  refine wpl_of hw fun K hK => ?_
  have hc := Sl.cut hsl p q hp hq (by decide)
  have hle := hsl.le
  have hrun := run_slice_sl (w := w) ht hsz ao l.length c _ _ p q (hlo.imp (fun ⟨i, h1, h2⟩ => h2 ▸ h1) id) (hhi.imp (fun ⟨i, h1, h2⟩ => h2 ▸ h1) id) hp (by omega)
  have hL : ((l.take q).drop p).length = q - p := by simp; omega
  have hB : SameBlk ao (if c = p then ao else ao.map (·.add (p * 1))) := fun a' e => by
    split at e
    · exact ⟨a', e, rfl⟩
    · cases ao with
      | none => simp at e
      | some a0 => simp at e; subst e; exact ⟨a0, rfl, (add_block _ _).symm⟩
  have hk := h _ _ ((l.take q).drop p) rfl hL (by unfold Bs; rw [hL]; simpa [List.map_drop, List.map_take] using hc) (by simpa using hB)
  rw [hL] at hk
  unfold Oper.wp
  simp [execOp, ho, hx, hrun, Result.andThen]
  exact hK _ _ (by simpa using hk)
end Go.Proofs.Ytbmkgcoolofmpaa
namespace Go.Proofs.Ytbmkgcoolofmpaa
set_option linter.unusedVariables false
set_option linter.unusedSimpArgs false
set_option linter.unusedSectionVars false
open Go Go.RowKit Go.Shelf
theorem readN_cons (most : Nat) (c : UInt8) (r : List UInt8) (bad : Bool) : readN most (c :: r) bad = if 8 < c.toNat ∨ r.length < c.toNat ∨ (0 < c.toNat ∧ r.head? = some 0) then (0, [], true) else if most < valN (r.take c.toNat) then (0, [], true) else (valN (r.take c.toNat), r.drop c.toNat, bad) := rfl
theorem readN_bad (most : Nat) (l : List UInt8) (bad : Bool) (h0 : 0 < l.length) (h : 8 < l[0].toNat ∨ l.length ≤ l[0].toNat ∨ (0 < l[0].toNat ∧ l[1]? = some 0)) : readN most l bad = (0, [], true) := by
  match l, h0 with
  | c :: r, _ =>
    simp only [List.getElem_cons_zero, List.length_cons, List.getElem?_cons_succ] at h
    rw [readN_cons, if_pos]
    rcases h with h | h | h
    · exact .inl h
    · exact .inr (.inl (by omega))
    · exact .inr (.inr ⟨h.1, by rw [List.head?_eq_getElem?]; exact h.2⟩)
theorem readN_big (most : Nat) (l : List UInt8) (bad : Bool) (h0 : 0 < l.length) (h : most < valN ((l.take (l[0].toNat + 1)).drop 1)) : readN most l bad = (0, [], true) := by
  match l, h0 with
  | c :: r, _ =>
    simp only [List.getElem_cons_zero, List.take_succ_cons, List.drop_succ_cons, List.drop_zero] at h
    rw [readN_cons]
    split
    · rfl
    · first | rfl | rw [if_pos h]
theorem readN_ok (most : Nat) (l : List UInt8) (bad : Bool) (h0 : 0 < l.length) (h1 : ¬ 8 < l[0].toNat) (h2 : ¬ l.length ≤ l[0].toNat) (h3 : ¬ (0 < l[0].toNat ∧ l[1]? = some 0)) (h : ¬ most < valN ((l.take (l[0].toNat + 1)).drop 1)) :
    readN most l bad = (valN ((l.take (l[0].toNat + 1)).drop 1), l.drop (l[0].toNat + 1), bad) := by
  match l, h0 with
  | c :: r, _ =>
    simp only [List.getElem_cons_zero, List.take_succ_cons, List.drop_succ_cons, List.drop_zero, List.length_cons, List.getElem?_cons_succ] at h h1 h2 h3 ⊢
    rw [readN_cons, if_neg, if_neg h]
    rintro (h4 | h4 | ⟨h4, h5⟩)
    · exact h1 h4
    · omega
    · exact h3 ⟨h4, by rw [← List.head?_eq_getElem?]; exact h5⟩
theorem readN_nil (most : Nat) (bad : Bool) : readN most [] bad = (0, [], true) := rfl
/-- what a reader's method tells -/
def RdTold (T : TypeId) (p : Nat) (ao : Option Addr) (mk : Int → Value) (r : Nat × List UInt8 × Bool) (W : World) (e : Ending) (W' : World) : Prop :=
  ∃ ao' cap', e = .returned (mk (r.1 : Int)) ∧ Rd T W' p ao' cap' r.2.1 r.2.2 ∧ W.grownBy W' (some p) ∧ SameBlk ao ao'
theorem valN_step (l : List UInt8) (i : Nat) (hi : i < l.length) : valN (l.take (i + 1)) = valN (l.take i) * 256 + l[i].toNat := by
  rw [List.take_succ_eq_append_getElem hi, valN_snoc]
theorem or_byte (x : Nat) (c : UInt8) (hx : x < 72057594037927936) : bits BinOp.or IntKind.u64 ((x : Int) * 256) (c.toNat : Int) = ((x * 256 + c.toNat : Nat) : Int) := by
  have hc := c.toNat_lt
  have h := bits_or_u64_nat (x * 256) c.toNat (by omega) (by omega)
  have e1 : ((x * 256 : Nat) : Int) = (x : Int) * 256 := by simp
  rw [e1] at h
  rw [h]
  congr 1
  have := Nat.two_pow_add_eq_or_of_lt (i := 8) (b := c.toNat) (by omega) x
  rw [show (2 : Nat) ^ 8 * x = x * 256 by omega] at this
  exact this.symm
theorem sizeUB : (Try.prog.info? 5).map (·.size) = some 1 := by kernel_rfl
set_option maxRecDepth 100000 in
set_option maxHeartbeats 4000000 in
theorem rnumber_any (most : Nat) (hm : most < 2 ^ 64) {W : World} {p : Nat} {ao : Option Addr} {cap : Nat} {l : List UInt8} {bad : Bool} (h : Rd 123 W p ao cap l bad) :
    Calls Try.prog 73 #[.pointer (some ⟨p, 0, none⟩), .int .u64 (most : Int), .bool false] W (RdTold 123 p ao (fun x => .tuple #[.int .u64 x, .bool false]) (readN most l bad) W) := by
  obtain ⟨c0, c1, f0, f1⟩ := h.cells
  have hpz := (Array.getElem?_eq_some_iff.1 h.blk).1
  have Hlf := Lib.hid (left_rd h)
  have Hfl := Lib.hid (fail_rd h)
  by_cases h0 : 0 < l.length
  · obtain ⟨b, off, rfl, hc0⟩ := h.bs.get 0 h0
    have hmax := h.bs.max
    have hle := h.bs.le
    have hc0' : W.cell? ⟨b, off, none⟩ = some (.int .u8 (l[0].toNat : Int)) := hc0
    have hbad := readN_bad most l bad h0
    have hbig := readN_big most l bad h0
    have hok := readN_ok most l bad h0
    obtain ⟨c, hc⟩ : ∃ c, c = l[0] := ⟨_, rfl⟩
    rw [← hc] at hc0' hbad hbig hok
    obtain ⟨s, hs⟩ : ∃ s, s = c.toNat := ⟨_, rfl⟩
    have hs256 : s < 256 := by rw [hs]; exact c.toNat_lt
    rw [← hs] at hc0' hbad hbig hok
    clear hc hs hc0
    have w8 : IntKind.i64.wrap (s : Int) = (s : Int) := IntWalk.i64_in _ (by omega)
    have l0 : ¬ ((l.length : Int) = 0) := by omega
    have l1 : (0 : Int) < (l.length : Int) := by omega
    by_cases hA : 8 < s
    · have HR := Lib.hid (hbad (.inl hA))
      clear hbad hbig hok
      have hA' : (8 : Int) < (s : Int) := by omega
      go_enter Try.func73, Try.ntmps73
      go_wp2_with fail
      refine Hlf.out.mono ?_
      rintro e W2 ⟨rfl, rfl⟩
      go_wp2_with fail
      refine Hfl.out.mono ?_
      rintro e W3 ⟨rfl, hr, hg⟩
      go_wp2_with fail
      go_ret2
      rw [HR.out]
      exact ⟨none, 0, rfl, hr, hg, SameBlk.none _⟩
    have hA' : ¬ (8 : Int) < (s : Int) := by omega
    by_cases hB : l.length ≤ s
    · have HR := Lib.hid (hbad (.inr (.inl hB)))
      clear hbad hbig hok
      have hB' : (l.length : Int) ≤ (s : Int) := by omega
      go_enter Try.func73, Try.ntmps73
      go_wp2_with fail
      refine Hlf.out.mono ?_
      rintro e W2 ⟨rfl, rfl⟩
      go_wp2_with fail
      refine Hfl.out.mono ?_
      rintro e W3 ⟨rfl, hr, hg⟩
      go_wp2_with fail
      go_ret2
      rw [HR.out]
      exact ⟨none, 0, rfl, hr, hg, SameBlk.none _⟩
    have hB' : ¬ (l.length : Int) ≤ (s : Int) := by omega
    have HS1 : 0 < s → ∃ d : UInt8, l[1]? = some d ∧ W.cell? ⟨b, off + 1, none⟩ = some (.int .u8 (d.toNat : Int)) := fun hs0 => by
      obtain ⟨b2, off2, e2, hc2⟩ := h.bs.get 1 (by omega)
      simp only [Option.some.injEq, Addr.mk.injEq] at e2
      obtain ⟨rfl, rfl, -⟩ := e2
      exact ⟨l[1], List.getElem?_eq_getElem (by omega), hc2⟩
    by_cases hC : 0 < s ∧ l[1]? = some 0
    · have HR := Lib.hid (hbad (.inr (.inr hC)))
      obtain ⟨hC1, hC2⟩ := hC
      obtain ⟨d, hd, hcd⟩ := HS1 hC1
      rw [hC2] at hd
      simp only [Option.some.injEq] at hd
      subst hd
      have l2 : (1 : Int) < (l.length : Int) := by omega
      have hC' : (0 : Int) < (s : Int) := by omega
      have hcd' : W.cell? ⟨b, off + 1, none⟩ = some (.int .u8 0) := hcd
      clear hbad hbig hok hC2 HS1 hcd
      go_enter Try.func73, Try.ntmps73
      go_wp2_with fail
      refine Hlf.out.mono ?_
      rintro e W2 ⟨rfl, rfl⟩
      go_wp2_with fail
      refine Hfl.out.mono ?_
      rintro e W3 ⟨rfl, hr, hg⟩
      go_wp2_with fail
      go_ret2
      rw [HR.out]
      exact ⟨none, 0, rfl, hr, hg, SameBlk.none _⟩
    have hok2 := hok hA hB hC
    have HS2 : (s = 0) ∨ ∃ d : UInt8, 0 < s ∧ d ≠ 0 ∧ W.cell? ⟨b, off + 1, none⟩ = some (.int .u8 (d.toNat : Int)) := by
      by_cases hs0 : s = 0
      · exact .inl hs0
      · obtain ⟨d, hd, hcd⟩ := HS1 (by omega)
        exact .inr ⟨d, by omega, fun e => hC ⟨by omega, by rw [hd, e]⟩, hcd⟩
    obtain ⟨X, hX⟩ : ∃ X, X = valN ((l.take (s + 1)).drop 1) := ⟨_, rfl⟩
    rw [← hX] at hbig hok2
    have HX := Lib.hid hX
    have Hbig := Lib.hid hbig
    have Hok := Lib.hid hok2
    clear hX hbig hok2 hok hbad HS1 hC
    have w0 : IntKind.i64.wrap ((s : Int) + 1) = (s : Int) + 1 := IntWalk.i64_in _ (by omega)
    have HS3 : (¬ (0 : Int) < (s : Int)) ∨ ∃ d : Int, (0 : Int) < (s : Int) ∧ ¬ d = 0 ∧ W.cell? ⟨b, off + 1, none⟩ = some (.int .u8 d) := by
      rcases HS2 with hs0 | ⟨d, hs0, hd0, hcd⟩
      · exact .inl (by omega)
      · refine .inr ⟨_, by omega, ?_, hcd⟩
        intro e
        exact hd0 (UInt8.toNat_inj.1 (by have : d.toNat = 0 := by omega
                                         rw [this]; rfl))
    clear HS2
    have l2 : (0 : Int) < (s : Int) → (1 : Int) < (l.length : Int) := fun _ => by omega
    rcases HS3 with hs0 | ⟨d, hs0, hd0, hcd⟩
    rotate_left
    have hd1 : (d == 0) = false := by simpa using hd0
    have l3 := l2 hs0
    rotate_left
    all_goals
      go_enter Try.func73, Try.ntmps73
      go_wp2_with fail
      refine Hlf.out.mono ?_
      rintro e W2 ⟨rfl, rfl⟩
      go_wp2_with ((with_reducible show wpList _ _ _ (⟨_, Op.slice _ (.tmp 57) _ _ _, _, _, _, _⟩ :: _) _ _); refine wpl_slice_bs rfl (.tmp 57) (some (.const (.int .i64 1))) (some (.tmp 59)) 33 5 rfl Try.underlying33 sizeUB _ _ l rfl h.bs 1 (s + 1) (.inl ⟨_, rfl, ?_⟩) (.inl ⟨_, rfl, ?_⟩) ?_ ?_ ?_; rfl; (simp); omega; omega; intro ao7 cap7 l7 hl7 hlen7 hb7; have h78 : l7.length ≤ 8 := (by omega); clear hlen7)
      have hX7 : Hid (X = valN l7) := by show X = _; rw [HX.out, hl7.out]
      go_loopw [6, 62] (fun a b wr => ∃ (i x : Nat), a = .int .u64 x ∧ b = .int .i64 i ∧ i ≤ l7.length ∧ Hid (x = valN (l7.take i)) ∧ W = wr) (fun _ b _ => l7.length - (intOf b).toNat)
      case atStart => exact ⟨0, 0, rfl, rfl, by omega, by show _ = _; simp [valN], rfl⟩
      case round =>
        obtain ⟨i, x, rfl, rfl, hi, hx, rfl⟩ := hrel
        by_cases hlt : i < l7.length
        · obtain ⟨b2, off2, rfl, hc2⟩ := hb7.get i hlt
          have hst := valN_step l7 i hlt
          have hxb : x < 72057594037927936 := by
            rw [hx.out]
            have h1 := valN_lt (l7.take i)
            have h2 : (l7.take i).length ≤ 7 := by simp; omega
            have h3 : 256 ^ (l7.take i).length ≤ 256 ^ 7 := Nat.pow_le_pow_right (by decide) h2
            have h4 : (256 : Nat) ^ 7 = 72057594037927936 := by decide
            omega
          rw [← hx.out] at hst
          obtain ⟨c, hc⟩ : ∃ c, c = l7[i] := ⟨_, rfl⟩
          rw [← hc] at hst hc2
          have w1 : IntKind.u64.wrap ((x : Int) * 256) = (x : Int) * 256 := IntWalk.u64_in _ (by omega)
          have hc256 := c.toNat_lt
          have w2 : IntKind.u64.wrap (c.toNat : Int) = (c.toNat : Int) := IntWalk.u64_in _ (by omega)
          have w3 := or_byte x c hxb
          obtain ⟨y, hy⟩ : ∃ y, y = x * 256 + c.toNat := ⟨_, rfl⟩
          rw [← hy] at w3 hst
          have Hst := Lib.hid hst.symm
          clear hst hy hc hx
          have i0 : (0 : Int) ≤ (i : Int) := by omega
          have i1 : (i : Int) < (l7.length : Int) := by omega
          go_wp2_with fail
          go_roundw
          case rel => exact ⟨i + 1, y, by simp, by simp, by omega, Hst, by first | rfl | trivial⟩
          case measure => simp [intOf]; omega
        · have hi' : i = l7.length := by omega
          subst hi'
          have hxX : x = X := by rw [hx.out, hX7.out, List.take_length]
          subst hxX
          clear hx
          by_cases hD : most < x
          · have HR := Lib.hid (Hbig.out hD)
            have hD' : (most : Int) < (x : Int) := by omega
            go_wp2_with fail
            refine Hfl.out.mono ?_
            rintro e W3 ⟨rfl, hr, hg⟩
            go_wp2_with fail
            go_ret2
            rw [HR.out]
            exact ⟨none, 0, rfl, hr, hg, SameBlk.none _⟩
          · have HR := Lib.hid (Hok.out hD)
            have hD' : ¬ (most : Int) < (x : Int) := by omega
            go_wp2_with ((with_reducible show wpList _ _ _ (⟨_, Op.slice _ (.tmp 81) _ _ _, _, _, _, _⟩ :: _) _ _); refine wpl_slice_bb rfl (.tmp 81) (some (.tmp 83)) none 33 5 rfl Try.underlying33 sizeUB _ _ l rfl h.bs (s + 1) l.length (.inl ⟨_, rfl, ?_⟩) (.inr ⟨rfl, rfl⟩) ?_ ?_ ?_; (simp); omega; omega; intro ao8 cap8 l8 hl8 hlen8 hb8 hsb8; clear hlen8)
            go_ret2
            have hl8' : l8 = l.drop (s + 1) := by rw [hl8.out, List.take_length]
            rw [HR.out]
            obtain ⟨hp1, hp2⟩ := h.put hb8
            subst hl8'
            exact ⟨ao8, cap8, rfl, hp1, hp2, hsb8⟩
  · obtain rfl : l = [] := List.eq_nil_of_length_eq_zero (by omega)
    have HR := Lib.hid (readN_nil most bad)
    go_enter Try.func73, Try.ntmps73
    go_wp2_with fail
    refine Hlf.out.mono ?_
    rintro e W2 ⟨rfl, rfl⟩
    go_wp2_with fail
    refine Hfl.out.mono ?_
    rintro e W3 ⟨rfl, hr, hg⟩
    go_wp2_with fail
    go_ret2
    rw [HR.out]
    exact ⟨none, 0, rfl, hr, hg, SameBlk.none _⟩
theorem rnum_any (most : Nat) (hm : most < 2 ^ 64) {W : World} {p : Nat} {ao : Option Addr} {cap : Nat} {l : List UInt8} {bad : Bool} (h : Rd 123 W p ao cap l bad) :
    Calls Try.prog 49 #[.pointer (some ⟨p, 0, none⟩), .int .u64 (most : Int)] W (RdTold 123 p ao (fun x => .int .u64 x) (readN most l bad) W) := by
  have Hn := Lib.hid (rnumber_any most hm h)
  clear hm
  go_enter Try.func49, Try.ntmps49
  go_wp2_with fail
  refine Hn.out.mono ?_
  rintro e W2 ⟨ao', cap', rfl, hr, hg, hsb⟩
  go_wp2_with fail
  go_ret
  exact ⟨ao', cap', rfl, hr, hg, hsb⟩
end Go.Proofs.Ytbmkgcoolofmpaa
namespace Go.Proofs.Ytbmkgcoolofmpaa.Crc
set_option linter.unusedVariables false
set_option linter.unusedSimpArgs false
set_option linter.unusedSectionVars false
/-- one shift of the register, as the program does it -/
def shl1 (s : Nat) : Nat := if s * 2 / 16777216 = 0 then s * 2 else (s * 2 % 16777216) ^^^ 8801531
def iter (n : Nat) (s : Nat) : Nat := match n with
  | 0 => s
  | n + 1 => shl1 (iter n s)
def byteP (s c : Nat) : Nat := iter 8 (s ^^^ (c * 65536))
/-- the sum goes on over bytes -/
def on (s : Nat) (l : List UInt8) : Nat := l.foldl (fun s c => byteP s c.toNat) s
/-- one bit, as the reference does it -/
def refBit (s b : Nat) : Nat := if s / 8388608 % 2 = b then s * 2 % 16777216 else (s * 2 % 16777216) ^^^ 8801531
/-- the first n bits of a byte, from the highest on -/
def refBits (n : Nat) (s c : Nat) : Nat := match n with
  | 0 => s
  | n + 1 => refBit (refBits n s c) (c / 2 ^ (7 - n) % 2)
theorem shl1_eq (s : Nat) (h : s < 16777216) : shl1 s = (s * 2 % 2 ^ 24) ^^^ (if s.testBit 23 then 8801531 else 0) := by
  have hb : s.testBit 23 = decide (s / 8388608 % 2 = 1) := by
    rw [Nat.testBit_eq_decide_div_mod_eq]
  unfold shl1
  by_cases h2 : s * 2 / 16777216 = 0
  · rw [if_pos h2, hb, if_neg (by simp; omega), Nat.xor_zero]; omega
  · rw [if_neg h2, hb, if_pos (by simp; omega)]
theorem xor_lt {x y : Nat} (hx : x < 16777216) (hy : y < 16777216) : x ^^^ y < 16777216 := Nat.xor_lt_two_pow (n := 24) hx hy
theorem shl1_lt (s : Nat) (h : s < 16777216) : shl1 s < 16777216 := by
  rw [shl1_eq s h]
  refine xor_lt (by omega) ?_
  split <;> omega
theorem shl1_xor (x y : Nat) (hx : x < 16777216) (hy : y < 16777216) : shl1 (x ^^^ y) = shl1 x ^^^ shl1 y := by
  rw [shl1_eq _ hx, shl1_eq _ hy, shl1_eq _ (xor_lt hx hy), Nat.testBit_xor]
  have e : (x ^^^ y) * 2 % 2 ^ 24 = (x * 2 % 2 ^ 24) ^^^ (y * 2 % 2 ^ 24) := by
    rw [← Nat.xor_mod_two_pow]
    congr 1
    have := Nat.shiftLeft_xor_distrib (a := x) (b := y) (i := 1)
    rwa [Nat.shiftLeft_eq, Nat.shiftLeft_eq, Nat.shiftLeft_eq, Nat.pow_one] at this
  rw [e]
  have a4 : ∀ a b c d : Nat, (a ^^^ c) ^^^ (b ^^^ d) = (a ^^^ b) ^^^ (c ^^^ d) := by
    intro a b c d
    rw [Nat.xor_assoc, Nat.xor_assoc, ← Nat.xor_assoc c, Nat.xor_comm c b, Nat.xor_assoc b]
  cases x.testBit 23 <;> cases y.testBit 23 <;> simp [a4, Nat.xor_assoc]
  · rw [← Nat.xor_assoc _ (y * 2 % 16777216), Nat.xor_comm 8801531, Nat.xor_assoc]
  · rw [← Nat.xor_assoc 8801531, Nat.xor_comm 8801531, Nat.xor_assoc, Nat.xor_self, Nat.xor_zero]
theorem refBit_eq (s b : Nat) (h : s < 16777216) (hb : b < 2) : refBit s b = shl1 (s ^^^ (b * 8388608)) := by
  have h2 : b * 8388608 < 16777216 := by omega
  rw [shl1_xor _ _ h h2, shl1_eq s h]
  have ht : s.testBit 23 = decide (s / 8388608 % 2 = 1) := by rw [Nat.testBit_eq_decide_div_mod_eq]
  rw [ht]
  unfold refBit
  have hb2 : b = 0 ∨ b = 1 := by omega
  rcases hb2 with rfl | rfl
  · have : shl1 (0 * 8388608) = 0 := by decide
    rw [this, Nat.xor_zero]
    by_cases h1 : s / 8388608 % 2 = 1
    · rw [if_neg (by omega), if_pos (by simpa using h1)]
    · rw [if_pos (by omega), if_neg (by simpa using h1), Nat.xor_zero]
  · have : shl1 (1 * 8388608) = 8801531 := by decide
    rw [this]
    by_cases h1 : s / 8388608 % 2 = 1
    · rw [if_pos h1, if_pos (by simpa using h1), Nat.xor_assoc, Nat.xor_self, Nat.xor_zero]
    · rw [if_neg h1, if_neg (by simpa using h1), Nat.xor_zero]
theorem refBit_lt (s b : Nat) : refBit s b < 16777216 := by
  unfold refBit
  split
  · omega
  · exact xor_lt (by omega) (by omega)
theorem refBits_lt (n s c : Nat) (h : s < 16777216) : refBits n s c < 16777216 := by
  cases n with
  | zero => exact h
  | succ n => exact refBit_lt _ _
theorem split_top (y : Nat) (h : y < 16777216) : y = (y / 8388608 * 8388608) ^^^ (y % 8388608) := by
  have h1 : y / 8388608 = 0 ∨ y / 8388608 = 1 := by omega
  rcases h1 with h1 | h1
  · rw [h1, Nat.zero_mul, Nat.zero_xor]; omega
  · rw [h1]
    have := Nat.two_pow_add_eq_or_of_lt (b := y % 8388608) (i := 23) (by omega) 1
    have e2 : (1 * 8388608) ^^^ (y % 8388608) = (1 * 8388608) ||| (y % 8388608) := by
      apply Nat.eq_of_testBit_eq
      intro j
      rw [Nat.testBit_xor, Nat.testBit_or]
      by_cases hj : j = 23
      · subst hj
        have : (y % 8388608).testBit 23 = false := Nat.testBit_lt_two_pow (by omega)
        rw [this]; simp
      · have : (1 * 8388608).testBit j = false := by
          rw [show 1 * 8388608 = 2 ^ 23 from rfl, Nat.testBit_two_pow]
          simp; omega
        rw [this]; simp
    have e3 : 2 ^ 23 * 1 + y % 8388608 = y := by omega
    rw [e3] at this
    exact this.trans e2.symm
theorem shl1_low (z : Nat) (h : z < 8388608) : shl1 z = z * 2 := by
  unfold shl1; rw [if_pos (by omega)]
theorem iter_lt (n s : Nat) (h : s < 16777216) : iter n s < 16777216 := by
  induction n with
  | zero => exact h
  | succ n ih => exact shl1_lt _ ih
theorem iter_ref (s c : Nat) (hs : s < 16777216) (hc : c < 256) : ∀ n, n ≤ 8 → iter n (s ^^^ (c * 65536)) = refBits n s c ^^^ (c * 65536 * 2 ^ n % 16777216) := by
  intro n
  induction n with
  | zero => intro _; simp only [iter, refBits, Nat.pow_zero, Nat.mul_one]; rw [Nat.mod_eq_of_lt (by omega)]
  | succ n ih =>
    intro hn
    have ih := ih (by omega)
    simp only [iter, refBits]
    rw [ih]
    have hy : c * 65536 * 2 ^ n % 16777216 < 16777216 := Nat.mod_lt _ (by decide)
    have hr := refBits_lt n s c hs
    generalize hr' : refBits n s c = r at *
    have hb : c / 2 ^ (7 - n) % 2 = c * 65536 * 2 ^ n % 16777216 / 8388608 := by
      have : n = 0 ∨ n = 1 ∨ n = 2 ∨ n = 3 ∨ n = 4 ∨ n = 5 ∨ n = 6 ∨ n = 7 := by omega
      rcases this with rfl | rfl | rfl | rfl | rfl | rfl | rfl | rfl <;> simp only [Nat.reducePow, Nat.reduceSub] <;> omega
    have hnext : c * 65536 * 2 ^ (n + 1) % 16777216 = (c * 65536 * 2 ^ n % 16777216 % 8388608) * 2 := by
      rw [Nat.pow_succ, ← Nat.mul_assoc]; omega
    rw [hb, hnext]
    generalize hyy : c * 65536 * 2 ^ n % 16777216 = y at *
    have hsp := split_top y hy
    have hb2 : y / 8388608 < 2 := by omega
    rw [refBit_eq r (y / 8388608) hr hb2]
    conv => lhs; rw [hsp]
    rw [← Nat.xor_assoc, shl1_xor (r ^^^ (y / 8388608 * 8388608)) (y % 8388608) (xor_lt hr (by omega)) (by omega), shl1_low (y % 8388608) (by omega)]
theorem byteP_ref (s c : Nat) (hs : s < 16777216) (hc : c < 256) : byteP s c = refBits 8 s c := by
  unfold byteP
  rw [iter_ref s c hs hc 8 (by omega)]
  have : c * 65536 * 2 ^ 8 % 16777216 = 0 := by omega
  rw [this, Nat.xor_zero]
theorem byteP_lt (s c : Nat) (hs : s < 16777216) (hc : c < 256) : byteP s c < 16777216 := by
  rw [byteP_ref s c hs hc]; exact refBits_lt _ _ _ hs
theorem on_lt (l : List UInt8) : ∀ s, s < 16777216 → on s l < 16777216 := by
  induction l with
  | nil => intro s h; exact h
  | cons c l ih => intro s h; exact ih _ (byteP_lt s _ h c.toNat_lt)
theorem on_append (s : Nat) (a b : List UInt8) : on s (a ++ b) = on (on s a) b := List.foldl_append ..
theorem on_snoc (s : Nat) (a : List UInt8) (c : UInt8) : on s (a ++ [c]) = byteP (on s a) c.toNat := by rw [on_append]; rfl
theorem on_take (s : Nat) (l : List UInt8) (k : Nat) (h : k < l.length) : on s (l.take (k + 1)) = byteP (on s (l.take k)) l[k].toNat := by
  rw [List.take_succ_eq_append_getElem h, on_snoc]
/-- the sum of bytes -/
def sum (l : List UInt8) : Nat := on 11994318 l
/-- a sum as bytes -/
def tail (n : Nat) : List UInt8 := [UInt8.ofNat (n / 65536), UInt8.ofNat (n / 256), UInt8.ofNat n]
def sealed (l : List UInt8) : List UInt8 := l ++ tail (sum l)
theorem sum_lt (l : List UInt8) : sum l < 16777216 := on_lt l _ (by decide)
theorem sealed_length (l : List UInt8) : (sealed l).length = l.length + 3 := by simp [sealed, tail]
def num (c2 c1 c0 : UInt8) : Nat := c2.toNat * 65536 + c1.toNat * 256 + c0.toNat
theorem num_tail (n : Nat) (h : n < 16777216) : num (UInt8.ofNat (n / 65536)) (UInt8.ofNat (n / 256)) (UInt8.ofNat n) = n := by
  simp only [num, UInt8.toNat_ofNat', Nat.reducePow]; omega
theorem tail_num (c2 c1 c0 : UInt8) : tail (num c2 c1 c0) = [c2, c1, c0] := by
  have h2 := c2.toNat_lt; have h1 := c1.toNat_lt; have h0 := c0.toNat_lt
  have e2 : num c2 c1 c0 / 65536 = c2.toNat := by unfold num; omega
  have e1 : UInt8.ofNat (num c2 c1 c0 / 256) = c1 := by
    apply UInt8.toNat_inj.1; simp only [UInt8.toNat_ofNat', Nat.reducePow, num]; omega
  have e0 : UInt8.ofNat (num c2 c1 c0) = c0 := by
    apply UInt8.toNat_inj.1; simp only [UInt8.toNat_ofNat', Nat.reducePow, num]; omega
  unfold tail
  rw [e2, e1, e0]; simp
theorem sealed_iff (l : List UInt8) (c2 c1 c0 : UInt8) : sealed l = l ++ [c2, c1, c0] ↔ sum l = num c2 c1 c0 := by
  constructor
  · intro h
    unfold sealed at h
    have h' := List.append_cancel_left h
    unfold tail at h'
    injection h' with e2 h'
    injection h' with e1 h'
    injection h' with e0 h'
    rw [← num_tail (sum l) (sum_lt l), e2, e1, e0]
  · intro h
    rw [sealed, h, tail_num]
/-- what is opened -/
def opened (l : List UInt8) : Option (List UInt8) := if 3 ≤ l.length ∧ sealed (l.take (l.length - 3)) = l then some (l.take (l.length - 3)) else none
theorem take_len3 (l : List UInt8) (h : 3 ≤ l.length) : l = l.take (l.length - 3) ++ [l[l.length - 3], l[l.length - 3 + 1], l[l.length - 3 + 2]] := by
  have : l.drop (l.length - 3) = [l[l.length - 3], l[l.length - 3 + 1], l[l.length - 3 + 2]] := by
    rw [List.drop_eq_getElem_cons (by omega), List.drop_eq_getElem_cons (by omega), List.drop_eq_getElem_cons (by omega), List.drop_eq_nil_of_le (by omega)]
  rw [← this, List.take_append_drop]
theorem opened_some (l : List UInt8) (h : 3 ≤ l.length) (hs : sum (l.take (l.length - 3)) = num l[l.length - 3] l[l.length - 3 + 1] l[l.length - 3 + 2]) : opened l = some (l.take (l.length - 3)) := by
  have e := (sealed_iff _ _ _ _).2 hs
  rw [← take_len3 l h] at e
  exact if_pos ⟨h, e⟩
theorem opened_none (l : List UInt8) (h : 3 ≤ l.length) (hs : sum (l.take (l.length - 3)) ≠ num l[l.length - 3] l[l.length - 3 + 1] l[l.length - 3 + 2]) : opened l = none := by
  refine if_neg fun ⟨_, e⟩ => hs ?_
  refine (sealed_iff _ _ _ _).1 ?_
  rw [← take_len3 l h]; exact e
theorem opened_short (l : List UInt8) (h : l.length < 3) : opened l = none := if_neg fun e => by omega
theorem opened_sealed (l : List UInt8) : opened (sealed l) = some l := by
  have e : (sealed l).take ((sealed l).length - 3) = l := by
    rw [sealed_length, Nat.add_sub_cancel]; unfold sealed; exact List.take_left
  unfold opened
  rw [e, if_pos ⟨by rw [sealed_length]; omega, rfl⟩]
end Go.Proofs.Ytbmkgcoolofmpaa.Crc
namespace Go.Proofs.Ytbmkgcoolofmpaa
set_option linter.unusedVariables false
set_option linter.unusedSimpArgs false
set_option linter.unusedSectionVars false
open Go Go.RowKit
theorem setCell_setCell (w : World) (a : Addr) (u v : Value) : (w.setCell a u).setCell a v = w.setCell a v := by
  unfold World.setCell
  congr 1
  apply Array.ext_getElem?
  intro i
  simp only [Array.getElem?_modify]
  split
  · cases w.heap[i]? with
    | none => rfl
    | some o => cases o <;> simp; split <;> simp
  · rfl
theorem shl1_yes (s : Nat) (h1 : s < 16777216) (h : ((s : Int) * 2 / 16777216 != 0) = true) : bits BinOp.xor IntKind.u32 (bits BinOp.and IntKind.u32 (↑s * 2) 16777215) 8801531 = (Crc.shl1 s : Int) := by
  have h' : (s : Int) * 2 / 16777216 ≠ 0 := by simpa using h
  have e := u32_and_nat (s * 2) 16777215 (by omega) (by omega)
  have e2 : (s * 2) &&& 16777215 = s * 2 % 16777216 := Nat.and_two_pow_sub_one_eq_mod _ 24
  rw [e2] at e
  have e' : bits BinOp.and IntKind.u32 (↑s * 2) 16777215 = ((s * 2 % 16777216 : Nat) : Int) := by simpa using e
  rw [e']
  have e3 := u32_xor_nat (s * 2 % 16777216) 8801531 (by omega) (by omega)
  unfold Crc.shl1
  rw [if_neg (by omega)]
  simpa using e3
theorem shl1_no (s : Nat) (h : ((s : Int) * 2 / 16777216 != 0) = false) : (s : Int) * 2 = (Crc.shl1 s : Int) := by
  have h' : (s : Int) * 2 / 16777216 = 0 := by simpa using h
  unfold Crc.shl1
  rw [if_pos (by omega)]; omega
theorem step_any (a : Addr) (s : Nat) (w : World) (h1 : s < 16777216) (hc : w.cell? a = some (.int .u32 s)) (hf : w.frozen? a = false) :
    Calls Try.prog 106 #[.pointer (some a)] w fun e w' => e = .returned (.tuple #[]) ∧ w' = w.setCell a (.int .u32 (Crc.shl1 s : Nat)) := by
  go_enter Try.func106, Try.ntmps106
  go_wp2
  · go_end0
    rename_i h
    exact ⟨rfl, by rw [setCell_setCell, shl1_yes s h1 h]⟩
  · go_end0
    rename_i h
    exact ⟨rfl, by rw [shl1_no s h]⟩
set_option maxHeartbeats 400000 in
theorem on_any (s : Int) (h0 : 0 ≤ s) (h1 : s ≤ 4294967295) (ao : Option Addr) (cap : Nat) (l : List UInt8) (w : World) (hl : l.length ≤ 140737488355328) (hb : Bs w ao cap l) :
    Calls Try.prog 102 #[.int .u32 s, .slice ao l.length cap] w fun e w' => e = .returned (.int .u32 (Crc.on (s.toNat % 16777216) l : Nat)) ∧ Below w.heap.size w w' := by
  obtain ⟨n, rfl⟩ := Int.eq_ofNat_of_zero_le h0
  have e : bits BinOp.and IntKind.u32 ↑n 16777215 = ((n % 16777216 : Nat) : Int) := by
    have := u32_and_nat n 16777215 (by omega) (by omega)
    rw [show n &&& 16777215 = n % 16777216 from Nat.and_two_pow_sub_one_eq_mod _ 24] at this
    simpa using this
  go_enter Try.func102, Try.ntmps102
  go_wp2
  have hm : ((n : Int) % 16777216) = ((n % 16777216 : Nat) : Int) := by omega
  rw [hm]
  obtain ⟨s0, hs0⟩ : ∃ s0, s0 = n % 16777216 := ⟨_, rfl⟩
  rw [← hs0]
  have hs1 : s0 < 16777216 := by omega
  have Hs := Lib.hid hs0
  clear hs0 hm e h1
  go_loopw [13] (fun i wr => ∃ k : Nat, k ≤ l.length ∧ i = .int .i64 k ∧ wr = w.alloc (.cells #[.int .u32 (Crc.on s0 (l.take k) : Nat)] 145)) (fun i _ => l.length - (intOf i).toNat)
  case atStart => exact ⟨0, Nat.zero_le _, rfl, rfl⟩
  case round =>
    obtain ⟨k, hk, rfl, rfl⟩ := hrel
    by_cases hlt : k < l.length
    · obtain ⟨b, off, rfl, hc⟩ := hb.get k hlt
      have hbw := cell?_lt hc
      have hx := Crc.on_lt (l.take k) s0 hs1
      have hn := Crc.on_take s0 l k hlt
      obtain ⟨s, hs⟩ : ∃ s, s = Crc.on s0 (l.take k) := ⟨_, rfl⟩
      rw [← hs] at hx hn
      rw [← hs]
      have Hn := Lib.hid hn
      clear hn
      have Hs' := Lib.hid hs
      clear hs
      have h255 : (l[k].toNat : Int) ≤ 255 := by have := l[k].toNat_lt; omega
      have hc255 : l[k].toNat < 256 := l[k].toNat_lt
      obtain ⟨x, hxe⟩ : ∃ x, x = s ^^^ (l[k].toNat * 65536) := ⟨_, rfl⟩
      have hxl : x < 16777216 := by rw [hxe]; exact Crc.xor_lt hx (by omega)
      have hbx : bits BinOp.xor IntKind.u32 (↑s) (↑l[k].toNat * 65536) = (x : Int) := by
        rw [hxe, ← u32_xor_nat s (l[k].toNat * 65536) (by omega) (by omega)]; simp
      have Hx := Lib.hid hxe
      clear hxe
      go_wp2
      go_loopw [22] (fun j wr => ∃ m : Nat, m ≤ 8 ∧ j = .int .i64 m ∧ wr = w.alloc (.cells #[.int .u32 (Crc.iter m x : Nat)] 145)) (fun j _ => 8 - (intOf j).toNat)
      case atStart => exact ⟨0, by omega, rfl, rfl⟩
      case round =>
        obtain ⟨m, hm8, rfl, rfl⟩ := hrel
        by_cases hm : m < 8
        · have hil := Crc.iter_lt m x hxl
          go_wp2_with (go_at_call 106; refine (step_any _ (Crc.iter m x) _ hil (by simp [go_sem]) (by simp [go_sem])).mono ?_; rintro e w' ⟨rfl, rfl⟩)
          go_roundw
          case rel => exact ⟨m + 1, by omega, by go_num, rfl⟩
          case measure => simp [intOf]; omega
        · obtain rfl : m = 8 := by omega
          go_wp2
          go_roundw
          case rel => exact ⟨k + 1, by omega, by go_num, by rw [Hn.out, Crc.byteP, ← Hx.out]⟩
          case measure => simp [intOf]; omega
    · obtain rfl : k = l.length := by omega
      go_wp2
      go_ret
      exact ⟨ret_int (by rw [Hs.out]; rfl), (Below.refl _ _).alloc (Nat.le_refl _) _⟩
set_option maxHeartbeats 400000 in
theorem sum_any (ao : Option Addr) (cap : Nat) (ls : List (List UInt8)) (w : World) (hls : ls.length ≤ 140737488355328) (hl : ∀ l ∈ ls, l.length ≤ 140737488355328) (hb : Bss w ao cap ls) :
    Calls Try.prog 96 #[.slice ao ls.length cap] w fun e w' => e = .returned (.int .u32 (Crc.on 11994318 ls.flatten : Nat)) ∧ Below w.heap.size w w' := by
  go_enter Try.func96, Try.ntmps96
  go_wp2
  go_loopw [3, 8] (fun v i wr => ∃ k : Nat, k ≤ ls.length ∧ i = .int .i64 k ∧ v = .int .u32 (Crc.on 11994318 (ls.take k).flatten : Nat) ∧ Below w.heap.size w wr) (fun _ i _ => ls.length - (intOf i).toNat)
  case atStart => exact ⟨0, Nat.zero_le _, rfl, rfl, Below.refl _ _⟩
  case round =>
    obtain ⟨k, hk, rfl, rfl, hbel⟩ := hrel
    by_cases hlt : k < ls.length
    · obtain ⟨b, off, ak, ck, rfl, hc0, hs0⟩ := (hb.below hbel).cell k hlt
      have hx := Crc.on_lt (ls.take k).flatten 11994318 (by decide)
      have hn : Crc.on 11994318 (ls.take (k + 1)).flatten = Crc.on (Crc.on 11994318 (ls.take k).flatten) ls[k] := by
        rw [List.take_succ_eq_append_getElem hlt, List.flatten_append, Crc.on_append]; simp
      obtain ⟨s, hs⟩ : ∃ s, s = Crc.on 11994318 (ls.take k).flatten := ⟨_, rfl⟩
      rw [← hs] at hx hn ⊢
      have Hn := Lib.hid hn
      clear hn hs
      have hlk := hl _ (List.getElem_mem hlt)
      go_wp2_with (go_at_call 102; refine (on_any s (by omega) (by omega) ak ck _ _ hlk hs0).mono ?_; rintro e w' ⟨rfl, hbel'⟩)
      go_roundw
      case rel => exact ⟨k + 1, by omega, by go_num, by rw [Hn.out]; congr 2; congr 1; exact Nat.mod_eq_of_lt hx, below_on hbel hbel' (Nat.le_refl _)⟩
      case measure => simp [intOf]; omega
    · obtain rfl : k = ls.length := by omega
      go_wp2
      go_ret
      exact ⟨ret_int (by simp), hbel⟩
theorem fits_any (ao : Option Addr) (cap : Nat) (l : List UInt8) (s : Int) (w : World) (hl : l.length ≤ 140737488355328) (hb : Bs w ao cap l) :
    Calls Try.prog 100 #[.slice ao l.length cap, .int .u32 s] w fun e w' => e = .returned (.bool ((Crc.sum l : Int) == s)) ∧ Below w.heap.size w w' := by
  go_enter Try.func100, Try.ntmps100
  go_wp2_with (go_at_call 96; refine (sum_any _ 1 [l] _ (by simp) (by simpa using hl) (Bss.one hb _)).mono ?_; rintro e w' ⟨rfl, hbel'⟩)
  go_ret
  exact ⟨ret_bool (by simp [Crc.sum]), below_on (below_new _ _) hbel' (Nat.le_refl _)⟩
end Go.Proofs.Ytbmkgcoolofmpaa
namespace Go.Proofs.Ytbmkgcoolofmpaa
set_option linter.unusedVariables false
set_option linter.unusedSimpArgs false
set_option linter.unusedSectionVars false
open Go Go.RowKit
theorem infoU8 : (Try.prog.info? 5).map (fun i => (i.zero, i.size, i.bytes)) = some (some (.int .u8 0), 1, 1) := by kernel_rfl
theorem sizeU8 : (Try.prog.info? 5).map (·.size) = some 1 := by kernel_rfl
/-- a new slice of bytes of the call's own -/
structure Fresh (w w' : World) (ao : Option Addr) (cap : Nat) (l : List UInt8) : Prop where
  own : w'.ownsRow w.heap.size 5 1 (.slice ao l.length cap) l.length (l.map u8)
  bel : Below w.heap.size w w'
theorem clone_any (ao : Option Addr) (cap : Nat) (l : List UInt8) (w : World) (hl : l.length ≤ 70000000000000) (hb : Bs w ao cap l) :
    Calls Try.prog 72 #[.slice ao l.length cap] w fun e w' => ∃ ao' cap', e = .returned (.slice ao' l.length cap') ∧ Fresh w w' ao' cap' l := by
  cases ao with
  | none =>
    have h1 := hb.none rfl
    have h2 := hb.le
    obtain rfl : l = [] := List.eq_nil_of_length_eq_zero (by omega)
    subst h1
    have hn := fun wx : World => run_eql_nil_slice (P := Try.prog) wx 33 5 none 0 0 0 0 Try.underlying33
    go_enter Try.func72, Try.ntmps72
    go_wp2
    go_ret
    exact ⟨_, _, rfl, ⟨World.ownsRow_nil _ _ _ _, Below.refl _ _⟩⟩
  | some a =>
    have hn := fun wx : World => Lib.run_eql_slice_nil (P := Try.prog) wx 33 5 (some a) l.length cap 0 0 Try.underlying33
    go_enter Try.func72, Try.ntmps72
    go_wp2_with (at_builtin; refine wpl_append_bs rfl (.tmp 5) (.tmp 6) 33 rfl w.heap.size 5 infoU8 Try.underlying33 _ _ [] rfl (own_empty w w.heap.size _ _ (Nat.le_refl _)) _ _ l rfl (hb.below (below_new _ _)) ?_ ?_ ?_; rotate_right; intro ao' cap' l' w' hl' hown' hg')
    · obtain rfl : l' = l := hl'
      go_ret
      exact ⟨_, _, rfl, ⟨hown', below_app (below_new _ _) hg' (own_empty w w.heap.size _ 1 (Nat.le_refl _)) (Nat.le_refl _) (by simp)⟩⟩
    · simp; omega
    · simp
theorem ofNat_u8 (n : Nat) : (((UInt8.ofNat n).toNat : Nat) : Int) = (n : Int) % 256 := by simp
set_option maxHeartbeats 400000 in
theorem seal_any (ao : Option Addr) (cap : Nat) (l : List UInt8) (w : World) (hl : l.length ≤ 70000000000000) (hb : Bs w ao cap l) :
    Calls Try.prog 84 #[.slice ao l.length cap] w fun e w' => ∃ ao' cap', e = .returned (.slice ao' (Crc.sealed l).length cap') ∧ Fresh w w' ao' cap' (Crc.sealed l) := by
  obtain ⟨i0, hi, hz0, hz1', hz2⟩ := info_parts infoU8
  have hs1 := Crc.sum_lt l
  have hs2 : Crc.on 11994318 [l].flatten = Crc.sum l := by simp [Crc.sum]
  have Hs2 := Lib.hid hs2
  clear hs2
  obtain ⟨s, hs⟩ : ∃ s, s = Crc.sum l := ⟨_, rfl⟩
  rw [← hs] at hs1
  obtain ⟨b2, hb2⟩ : ∃ b : UInt8, b = UInt8.ofNat (s / 65536) := ⟨_, rfl⟩
  obtain ⟨b1, hb1⟩ : ∃ b : UInt8, b = UInt8.ofNat (s / 256) := ⟨_, rfl⟩
  obtain ⟨b0, hb0⟩ : ∃ b : UInt8, b = UInt8.ofNat s := ⟨_, rfl⟩
  have e2 : (s : Int) / 65536 = (b2.toNat : Int) := by rw [hb2, ofNat_u8]; omega
  have e1 : (s : Int) / 256 % 256 = (b1.toNat : Int) := by rw [hb1, ofNat_u8]; simp
  have e0 : (s : Int) % 256 = (b0.toNat : Int) := by rw [hb0, ofNat_u8]
  have hfin : Crc.sealed l = (l ++ [b2, b1, b0]) := by rw [Crc.sealed, Crc.tail, hb2, hb1, hb0, hs]
  rw [← hs] at Hs2
  have Hfin := Lib.hid hfin
  clear hfin hb2 hb1 hb0 hs
  go_enter Try.func84, Try.ntmps84
  go_wp2_with (first
    | (go_at_call 96; refine (sum_any _ 1 [l] _ (by simp) (by simpa using (by omega)) (Bss.one hb _)).mono ?_; rintro e w1 ⟨rfl, hbel1⟩; rw [Hs2.out]; have hb1 := below_on (below_new _ _) hbel1 (Nat.le_refl _); have hz1 := hb1.size)
    | (at_make; refine wpList_make_own _ rfl _ _ 33 rfl w.heap.size 5 i0 (.int .u8 0) 1 Try.underlying33 hi hz0 hz1' _ _ _ (l.length + 3) rfl rfl (by omega) (by rw [hz2]; omega) (by unfold maxLen; omega) hz1 ?_; intro w2 hown2 hg2; have hb2 := hb1.grown hg2 hz1 (by intro k hk; cases hk))
    | (at_builtin; refine wpl_append_bs rfl (.tmp 12) (.tmp 13) 33 rfl w.heap.size 5 infoU8 Try.underlying33 _ _ [] rfl hown2 _ _ l rfl (hb.below hb2) (by simp; omega) hb2.size ?_; intro ao3 cap3 l3 w3 hl3 hown3 hg3; have hb3 := below_app hb2 hg3 hown2 (Nat.le_refl _) hb2.size; have hlen3 : l3.length ≤ 70000000000000 := by rw [hl3.out]; exact hl)
    | (at_builtin; refine wpl_append_bs rfl (.tmp 14) (.tmp 23) 33 rfl w.heap.size 5 infoU8 Try.underlying33 _ _ l3 rfl (hown3.alloc _) _ _ [b2, b1, b0] rfl (Bs.lit _ _ _ _ rfl rfl (by simp)) (by simp; omega) ((hb3.alloc hb3.size _).size) ?_; intro ao4 cap4 l4 w4 hl4 hown4 hg4; have hb4 := below_app (hb3.alloc hb3.size _) hg4 (hown3.alloc _) (Nat.le_refl _) (hb3.alloc hb3.size _).size))
  have hs : Crc.sealed l = l4 := by rw [Hfin.out, hl4.out, hl3.out]; rfl
  rw [hs]
  go_ret
  exact ⟨_, _, rfl, ⟨hown4, hb4⟩⟩
/-- what Open answers -/
def OpenIs (w : World) (l : List UInt8) (e : Ending) (w' : World) : Prop :=
  match Crc.opened l with
  | some l' => ∃ ao' cap', e = .returned (.tuple #[.slice ao' l'.length cap', .bool true]) ∧ Fresh w w' ao' cap' l'
  | none => e = .returned (.tuple #[.slice none 0 0, .bool false]) ∧ Below w.heap.size w w'
theorem OpenIs.yes {w w' : World} {l l' : List UInt8} {ao' cap'} (h : Crc.opened l = some l') (hf : Fresh w w' ao' cap' l') : OpenIs w l (.returned (.tuple #[.slice ao' l'.length cap', .bool true])) w' := by
  unfold OpenIs; rw [h]; exact ⟨_, _, rfl, hf⟩
theorem OpenIs.no {w w' : World} {l : List UInt8} (h : Crc.opened l = none) (hf : Below w.heap.size w w') : OpenIs w l (.returned (.tuple #[.slice none 0 0, .bool false])) w' := by
  unfold OpenIs; rw [h]; exact ⟨rfl, hf⟩
set_option maxHeartbeats 400000 in
theorem open_short (ao : Option Addr) (cap : Nat) (l : List UInt8) (w : World) (h : l.length < 3) :
    Calls Try.prog 90 #[.slice ao l.length cap] w (OpenIs w l) := by
  go_enter Try.func90, Try.ntmps90
  go_wp2
  go_ret2
  exact OpenIs.no (Crc.opened_short l h) (Below.refl _ _)
theorem be3 (a b c : Nat) (ha : a < 256) (hb : b < 256) (hc : c < 256) :
    bits BinOp.or IntKind.u32 (bits BinOp.or IntKind.u32 ((a : Int) % 4294967296 * 65536 % 4294967296) ((b : Int) % 4294967296 * 256 % 4294967296)) ((c : Int) % 4294967296) = ((a * 65536 + b * 256 + c : Nat) : Int) := by
  have e1 : ((a : Int) % 4294967296 * 65536 % 4294967296) = ((a * 65536 : Nat) : Int) := by omega
  have e2 : ((b : Int) % 4294967296 * 256 % 4294967296) = ((b * 256 : Nat) : Int) := by omega
  have e3 : ((c : Int) % 4294967296) = (c : Int) := by omega
  rw [e1, e2, e3, u32_or_nat _ _ (by omega) (by omega), nat_join 16 _ _ (by omega) (by omega), u32_or_nat _ _ (by omega) (by omega), nat_join 8 _ _ (by omega) (by omega)]
set_option maxHeartbeats 400000 in
theorem open_long (b off cap : Nat) (l : List UInt8) (w : World) (hl : l.length ≤ 70000000000000) (hb : Bs w (some ⟨b, off, none⟩) cap l) (h : 3 ≤ l.length) :
    Calls Try.prog 90 #[.slice (some ⟨b, off, none⟩) l.length cap] w (OpenIs w l) := by
  have c2 := hb.all (l.length - 3) (by omega)
  have c1 := hb.all (l.length - 3 + 1) (by omega)
  have c0 := hb.all (l.length - 3 + 2) (by omega)
  have hv := be3 l[l.length - 3].toNat l[l.length - 3 + 1].toNat l[l.length - 3 + 2].toNat (UInt8.toNat_lt _) (UInt8.toNat_lt _) (UInt8.toNat_lt _)
  have hx : Crc.num l[l.length - 3] l[l.length - 3 + 1] l[l.length - 3 + 2] = l[l.length - 3].toNat * 65536 + l[l.length - 3 + 1].toNat * 256 + l[l.length - 3 + 2].toNat := rfl
  have hy := Crc.opened_some l h
  have hn := Crc.opened_none l h
  rw [← hx] at hv
  generalize Crc.num l[l.length - 3] l[l.length - 3 + 1] l[l.length - 3 + 2] = x at *
  have Hy := Lib.hid hy
  have Hn := Lib.hid hn
  have Hv := Lib.hid hv
  clear hx hy hn hv
  obtain ⟨l1, hl1⟩ : ∃ l1, l1 = l.take (l.length - 3) := ⟨_, rfl⟩
  rw [← hl1] at Hy Hn
  have Hl1 := Lib.hid hl1
  clear hl1
  by_cases hs : Crc.sum l1 = x
  · have hsb : ((Crc.sum l1 : Int) == (x : Int)) = true := by simp; omega
    have Hsb := Lib.hid hsb
    have Hs := Lib.hid hs
    clear hsb hs
    go_enter Try.func90, Try.ntmps90
    go_wp2
    go_quiet (fail)
    rw [Hv.out]
    clear c2 c1 c0
    have hbN : ∀ n, Bs (w.drewN n) (some ⟨b, off, none⟩) cap l := fun n => hb.below (below_drewN (Below.refl _ _) _)
    have hBN : ∀ n, Below w.heap.size w (w.drewN n) := fun n => below_drewN (Below.refl _ _) _
    go_wp2_with (first
      | ((with_reducible show wpList _ _ _ (⟨_, Op.slice _ (.tmp 32) _ _ _, _, _, _, _⟩ :: _) _ _); go_loud (refine wpl_slice_bs rfl (.tmp 32) none (some (.tmp 33)) 33 5 rfl Try.underlying33 sizeU8 _ _ l rfl (hbN _) 0 (l.length - 3) (.inr ⟨rfl, rfl⟩) (.inl ⟨_, rfl, ?_⟩) ?_ ?_ ?_; omega; omega; omega; intro ao2 cap2 l2 hl2 hlen2 hb2; obtain rfl : l2 = l1 := hl2.out.trans Hl1.out.symm; have hle2 : l2.length ≤ 70000000000000 := (by omega); clear hlen2; clear hl2; have hb2' := hb2))
      | (go_at_call 100; go_loud (refine (fits_any _ _ l2 _ _ (by omega) hb2).mono ?_); rintro e w3 ⟨rfl, hbel3⟩; rw [Hsb.out])
      | ((with_reducible show wpList _ _ _ (⟨_, Op.slice _ (.tmp 38) _ _ _, _, _, _, _⟩ :: _) _ _); refine wpl_slice_bs rfl (.tmp 38) none (some (.tmp 39)) 33 5 rfl Try.underlying33 sizeU8 _ _ l rfl ((hb.below (below_on (hBN _) hbel3 (Nat.le_refl _)))) 0 (l.length - 3) (.inr ⟨rfl, rfl⟩) (.inl ⟨_, rfl, ?_⟩) ?_ ?_ ?_; omega; omega; omega; intro ao4 cap4 l4 hl4 hlen4 hb4; obtain rfl : l4 = l2 := hl4.out.trans Hl1.out.symm; clear hlen4 hl4)
      | (go_at_call 72; refine (clone_any _ _ l4 _ hle2 hb4).mono ?_; rintro e w5 ⟨ao5, cap5, rfl, hf5⟩))
    go_ret2
    exact OpenIs.yes (Hy.out Hs.out) ⟨own_base hf5.own ((below_on (hBN _) hbel3 (Nat.le_refl _)).size), below_on (below_on (hBN _) hbel3 (Nat.le_refl _)) hf5.bel (Nat.le_refl _)⟩
  · have hsb : ((Crc.sum l1 : Int) == (x : Int)) = false := by simp; omega
    have Hsb := Lib.hid hsb
    have Hs := Lib.hid hs
    clear hsb hs
    go_enter Try.func90, Try.ntmps90
    go_wp2
    go_quiet (fail)
    rw [Hv.out]
    clear c2 c1 c0
    have hbN : ∀ n, Bs (w.drewN n) (some ⟨b, off, none⟩) cap l := fun n => hb.below (below_drewN (Below.refl _ _) _)
    have hBN : ∀ n, Below w.heap.size w (w.drewN n) := fun n => below_drewN (Below.refl _ _) _
    go_wp2_with (first
      | ((with_reducible show wpList _ _ _ (⟨_, Op.slice _ (.tmp 32) _ _ _, _, _, _, _⟩ :: _) _ _); go_loud (refine wpl_slice_bs rfl (.tmp 32) none (some (.tmp 33)) 33 5 rfl Try.underlying33 sizeU8 _ _ l rfl (hbN _) 0 (l.length - 3) (.inr ⟨rfl, rfl⟩) (.inl ⟨_, rfl, ?_⟩) ?_ ?_ ?_; omega; omega; omega; intro ao2 cap2 l2 hl2 hlen2 hb2; obtain rfl : l2 = l1 := hl2.out.trans Hl1.out.symm; have hle2 : l2.length ≤ 70000000000000 := (by omega); clear hlen2; clear hl2; have hb2' := hb2))
      | (go_at_call 100; go_loud (refine (fits_any _ _ l2 _ _ (by omega) hb2).mono ?_); rintro e w3 ⟨rfl, hbel3⟩; rw [Hsb.out]))
    go_ret2
    exact OpenIs.no (Hn.out Hs.out) (below_on (hBN _) hbel3 (Nat.le_refl _))
theorem open_any (ao : Option Addr) (cap : Nat) (l : List UInt8) (w : World) (hl : l.length ≤ 70000000000000) (hb : Bs w ao cap l) :
    Calls Try.prog 90 #[.slice ao l.length cap] w (OpenIs w l) := by
  by_cases h : l.length < 3
  · exact open_short ao cap l w h
  · obtain ⟨b, off, rfl, _⟩ := hb.get 0 (by omega)
    exact open_long b off cap l w hl hb (by omega)
end Go.Proofs.Ytbmkgcoolofmpaa
namespace Go.Proofs.Ytbmkgcoolofmpaa
set_option linter.unusedVariables false
set_option linter.unusedSimpArgs false
set_option linter.unusedSectionVars false
open Go Go.RowKit
theorem conv_any {w : World} {ao : Option Addr} {cap : Nat} {l : List UInt8} (hb : Bs w ao cap l) :
    (convert 33 9 (.slice ao l.length cap)).run Try.prog w = .ok (.string ⟨l.toArray⟩) w :=
  run_string_bs _ _ 5 Try.underlying33 Try.underlying5 Try.underlying9 ao cap l hb
end Go.Proofs.Ytbmkgcoolofmpaa
namespace Go.Proofs.Ytbmkgcoolofmpaa
set_option linter.unusedVariables false
set_option linter.unusedSimpArgs false
set_option linter.unusedSectionVars false
open Go Go.RowKit Go.Shelf
/-- a text read: its bytes, what is left, whether it is bad -/
def readT (most : Nat) (l : List UInt8) (bad : Bool) : List UInt8 × List UInt8 × Bool :=
  if (readN most l bad).2.1.length < (readN most l bad).1 then ([], [], true) else ((readN most l bad).2.1.take (readN most l bad).1, (readN most l bad).2.1.drop (readN most l bad).1, (readN most l bad).2.2)
theorem readT_le (most : Nat) (l : List UInt8) (bad : Bool) : (readT most l bad).1.length ≤ most := by
  unfold readT
  split
  · simp
  · have := readN_le most l bad
    simp; omega
theorem readT_enc (most : Nat) (s rest : List UInt8) (bad : Bool) (h : s.length ≤ most) (hn : s.length < 2 ^ 64) : readT most (numB s.length ++ s ++ rest) bad = (s, rest, bad) := by
  unfold readT
  rw [List.append_assoc, readN_numB most s.length (s ++ rest) bad h hn]
  simp only
  rw [if_neg (by simp)]
  simp
/-- []byte(s) -/
theorem bytes_of (l : List UInt8) (hl : l.length ≤ maxLen) (W : World) : ∃ c W', (convert 9 33 (.string ⟨l.toArray⟩)).run Try.prog W = .ok (.slice (some ⟨W.heap.size, 0, none⟩) l.length c) W' ∧ Bs W' (some ⟨W.heap.size, 0, none⟩) c l ∧ Below W.heap.size W W' ∧ elem? W' W.heap.size = some 5 := by
  have h := run_bytes_of_string (P := Try.prog) W 9 33 5 ⟨l.toArray⟩ Try.underlying9 Try.underlying33 Try.underlying5
  have hs : (⟨l.toArray⟩ : ByteArray).size = l.length := by simp [ByteArray.size]
  rw [hs] at h
  refine ⟨_, _, h, ⟨by simp, grownCap_ge _ _ _ _, grownCap_le_maxLen _ _ _ _ hl, by simp, fun j u hu => ⟨_, 0, rfl, ?_⟩⟩, ((Below.refl _ W).drew).alloc (Nat.le_refl _) _, elem?_of (heap_alloc_new W.drew _)⟩
  rw [List.getElem?_map] at hu
  cases hj : l[j]? with
  | none => rw [hj] at hu; cases hu
  | some z =>
    rw [hj] at hu
    simp only [Option.map_some, Option.some.injEq] at hu
    subst hu
    have hjl : j < l.length := (List.getElem?_eq_some_iff.1 hj).1
    have e := bytesRow_at ⟨l.toArray⟩ (grownCap W l.length 0 5) j (by simpa using hjl)
    rw [Nat.zero_add]
    refine (cell?_new W.drew _ _ _ j).trans (e.trans ?_)
    have hz : l[j] = z := (List.getElem?_eq_some_iff.1 hj).2
    simp [hz]
/-- what End tells -/
def endR (l : List UInt8) (bad : Bool) : Int := if bad = true ∨ 0 < l.length then 20 else 0
theorem end_rd {W : World} {p : Nat} {ao : Option Addr} {cap : Nat} {l : List UInt8} {bad : Bool} (h : Rd 123 W p ao cap l bad) :
    Calls Try.prog 51 #[.pointer (some ⟨p, 0, none⟩)] W fun e W' => e = .returned (.int .i64 (endR l bad)) ∧ W = W' := by
  obtain ⟨c0, c1, f0, f1⟩ := h.cells
  obtain ⟨r, hr⟩ : ∃ r, r = endR l bad := ⟨_, rfl⟩
  rw [← hr]
  have Hr := Lib.hid hr
  clear hr
  cases bad with
  | true =>
    go_enter Try.func51, Try.ntmps51
    go_wp2_with fail
    go_ret
    exact ⟨by rw [Hr.out]; simp [endR], rfl⟩
  | false =>
    by_cases hl : 0 < l.length
    · have hl1 : (0 : Int) < (l.length : Int) := by omega
      go_enter Try.func51, Try.ntmps51
      go_wp2_with fail
      go_ret
      exact ⟨by rw [Hr.out]; simp [endR, hl], rfl⟩
    · have hl1 : ¬ (0 : Int) < (l.length : Int) := by omega
      go_enter Try.func51, Try.ntmps51
      go_wp2_with fail
      go_ret
      exact ⟨by rw [Hr.out]; simp [endR, hl], rfl⟩
/-- Raw of what is there -/
def RawTold (T : TypeId) (p n : Nat) (ao : Option Addr) (l : List UInt8) (bad : Bool) (W : World) (e : Ending) (W' : World) : Prop :=
  ∃ ab cb ao' cap', e = .returned (.slice ab (l.take n).length cb) ∧ Bs W' ab cb (l.take n) ∧ Rd T W' p ao' cap' (l.drop n) bad ∧ W.grownBy W' (some p) ∧ SameBlk ao ao'
set_option maxHeartbeats 1000000 in
theorem raw_rd (n : Nat) {W : World} {p : Nat} {ao : Option Addr} {cap : Nat} {l : List UInt8} {bad : Bool} (h : Rd 123 W p ao cap l bad) (hn : n ≤ l.length) (hl : l.length ≤ 70000000000000) :
    Calls Try.prog 92 #[.pointer (some ⟨p, 0, none⟩), .int .i64 (n : Int)] W (RawTold 123 p n ao l bad W) := by
  obtain ⟨c0, c1, f0, f1⟩ := h.cells
  have hpz := (Array.getElem?_eq_some_iff.1 h.blk).1
  have n0 : ¬ (n : Int) < 0 := by omega
  have n1 : ¬ (l.length : Int) < (n : Int) := by omega
  have hlt : ¬ l.length < n := by omega
  have hnl : (n : Int) ≤ (l.length : Int) := by omega
  go_enter Try.func92, Try.ntmps92
  go_wp2_with (first
    | (go_at_call 91; refine (left_rd h).mono ?_; rintro e w1 ⟨rfl, rfl⟩)
    | ((with_reducible show wpList _ _ _ (⟨_, Op.slice _ (.tmp 21) _ _ _, _, _, _, _⟩ :: _) _ _); refine wpl_slice_bb rfl (.tmp 21) none (some (.tmp 22)) 33 5 rfl Try.underlying33 sizeU8 _ _ l rfl h.bs 0 n (.inr ⟨rfl, rfl⟩) (.inl ⟨_, rfl, rfl⟩) (Nat.zero_le _) hn ?_; intro a1 k1 l1 hl1 hlen1 hb1 hsb1; have hle1 : l1.length ≤ 70000000000000 := (by omega); clear hlen1))
  refine (clone_any a1 k1 l1 W hle1 hb1).mono ?_
  rintro e W2 ⟨ab, cb, rfl, hfr⟩
  have h2 := h.below hfr.bel
  obtain ⟨d0, d1, g0, g1⟩ := h2.cells
  have hz2 := hfr.bel.size
  have hb2 := Bs.of_own hfr.own
  go_wp2_with ((with_reducible show wpList _ _ _ (⟨_, Op.slice _ (.tmp 29) _ _ _, _, _, _, _⟩ :: _) _ _); refine wpl_slice_bb rfl (.tmp 29) (some (.tmp 30)) none 33 5 rfl Try.underlying33 sizeU8 _ _ l rfl h2.bs n l.length (.inl ⟨_, rfl, rfl⟩) (.inr ⟨rfl, rfl⟩) hn (Nat.le_refl _) ?_; intro a3 k3 l3 hl3 hlen3 hb3 hsb3; clear hlen3)
  go_ret
  have e1 : l1 = l.take n := by rw [hl1.out]; simp
  have e3 : l3 = l.drop n := by rw [hl3.out, List.take_length]
  subst e1
  subst e3
  obtain ⟨r1, r2⟩ := h2.put hb3
  exact ⟨ab, cb, a3, k3, rfl, hb2.set (fun n e => by cases e) h2.blk, r1, grown_trans (grown_below hfr.bel) r2, hsb3⟩
/-- what Text tells -/
def TextTold (T : TypeId) (p : Nat) (ao : Option Addr) (r : List UInt8 × List UInt8 × Bool) (W : World) (e : Ending) (W' : World) : Prop :=
  ∃ ao' cap', e = .returned (.string ⟨r.1.toArray⟩) ∧ Rd T W' p ao' cap' r.2.1 r.2.2 ∧ W.grownBy W' (some p) ∧ SameBlk ao ao'
set_option maxRecDepth 100000 in
set_option maxHeartbeats 1000000 in
theorem text_rd (most : Nat) (hm : most ≤ 1048576) {W : World} {p : Nat} {ao : Option Addr} {cap : Nat} {l : List UInt8} {bad : Bool} (h : Rd 123 W p ao cap l bad) (hl : l.length ≤ 70000000000000) :
    Calls Try.prog 76 #[.pointer (some ⟨p, 0, none⟩), .int .i64 (most : Int)] W (TextTold 123 p ao (readT most l bad) W) := by
  have hnum := rnum_any most (by omega) h
  have hle := readN_le most l bad
  have hlen := readN_len most l bad
  obtain ⟨R, hR⟩ : ∃ R, R = readT most l bad := ⟨_, rfl⟩
  rw [← hR]
  unfold readT at hR
  obtain ⟨r, hr⟩ : ∃ r, r = readN most l bad := ⟨_, rfl⟩
  simp only [← hr] at hnum hle hlen hR
  obtain ⟨x, l1, b1⟩ := r
  simp only at hnum hle hlen hR
  have HR := Lib.hid hR
  have Hnum := Lib.hid hnum
  clear hR hr hnum
  have m0 : ¬ (most : Int) < 0 := by omega
  have m1 : IntKind.u64.wrap (most : Int) = (most : Int) := IntWalk.u64_in _ (by omega)
  have x1 : IntKind.i64.wrap (x : Int) = (x : Int) := IntWalk.i64_in _ (by omega)
  have m2 : IntKind.u64.wrap (l1.length : Int) = (l1.length : Int) := IntWalk.u64_in _ (by omega)
  go_enter Try.func76, Try.ntmps76
  go_wp2_with fail
  refine Hnum.out.mono ?_
  rintro e W1 ⟨ao1, cap1, rfl, h1, hg1, hs1⟩
  simp only at h1
  go_wp2_with fail
  refine (left_rd h1).mono ?_
  rintro e W2 ⟨rfl, rfl⟩
  by_cases hbig : l1.length < x
  · have hb2 : (l1.length : Int) < (x : Int) := by omega
    have hfl := fail_rd h1
    have Hfl := Lib.hid hfl
    clear hfl
    go_wp2_with fail
    refine Hfl.out.mono ?_
    rintro e W3 ⟨rfl, h3, hg3⟩
    go_wp2_with fail
    go_ret
    rw [HR.out, if_pos hbig]
    exact ⟨none, 0, rfl, h3, grown_trans hg1 hg3, SameBlk.none _⟩
  · have hb2 : ¬ (l1.length : Int) < (x : Int) := by omega
    have hrw := raw_rd x h1 (by omega) (by omega)
    have Hrw := Lib.hid hrw
    clear hrw
    go_wp2_with fail
    refine Hrw.out.mono ?_
    rintro e W3 ⟨ab, cb, ao3, cap3, rfl, hb3, h3, hg3, hs3⟩
    obtain ⟨d, hd⟩ : ∃ d, d = l1.take x := ⟨_, rfl⟩
    rw [← hd] at hb3 ⊢
    have Hd := Lib.hid hd
    clear hd
    have hcv := conv_any hb3
    go_wp2_with fail
    go_ret
    rw [HR.out, if_neg hbig]
    simp only
    rw [← Hd.out]
    exact ⟨ao3, cap3, rfl, h3, grown_trans hg1 hg3, hs1.trans hs3⟩
end Go.Proofs.Ytbmkgcoolofmpaa
namespace Go.Proofs.Ytbmkgcoolofmpaa
set_option linter.unusedVariables false
set_option linter.unusedSimpArgs false
set_option linter.unusedSectionVars false
open Go Go.RowKit
theorem open_yes (ao : Option Addr) (cap : Nat) (l l' : List UInt8) (w : World) (hl : l.length ≤ 70000000000000) (hb : Bs w ao cap l) (h : Crc.opened l = some l') :
    Calls Try.prog 90 #[.slice ao l.length cap] w fun e w' => ∃ ao' cap', e = .returned (.tuple #[.slice ao' l'.length cap', .bool true]) ∧ Fresh w w' ao' cap' l' := by
  refine (open_any ao cap l w hl hb).mono fun e w' h' => ?_
  unfold OpenIs at h'
  rw [h] at h'
  exact h'
theorem open_none (ao : Option Addr) (cap : Nat) (l : List UInt8) (w : World) (hl : l.length ≤ 70000000000000) (hb : Bs w ao cap l) (h : Crc.opened l = none) :
    Calls Try.prog 90 #[.slice ao l.length cap] w fun e w' => e = .returned (.tuple #[.slice none 0 0, .bool false]) ∧ Below w.heap.size w w' := by
  refine (open_any ao cap l w hl hb).mono fun e w' h' => ?_
  unfold OpenIs at h'
  rw [h] at h'
  exact h'
end Go.Proofs.Ytbmkgcoolofmpaa
namespace Go.Proofs.Ytbmkgcoolofmpaa.Fr
set_option linter.unusedVariables false
set_option linter.unusedSimpArgs false
set_option linter.unusedSectionVars false
open Crc (num tail sealed opened)
def hdr (kind : UInt8) (n : Nat) : List UInt8 := [102, kind, UInt8.ofNat (n / 65536), UInt8.ofNat (n / 256), UInt8.ofNat n]
def wrapped (kind : UInt8) (body : List UInt8) : List UInt8 := sealed (hdr kind body.length ++ body)
theorem wrapped_length (kind : UInt8) (body : List UInt8) : (wrapped kind body).length = body.length + 8 := by
  simp [wrapped, Crc.sealed_length, hdr]
/-- how long the frame is with which bytes begin, and the error's number -/
def size (l : List UInt8) : Nat × Nat :=
  if l.length = 0 then (0, 23)
  else if l.getD 0 0 ≠ 102 then (0, 20)
  else if l.length < 2 then (0, 23)
  else if l.getD 1 0 = 0 then (0, 20)
  else if l.length < 5 then (0, 23)
  else if 65536 < num (l.getD 2 0) (l.getD 3 0) (l.getD 4 0) then (0, 20)
  else if l.length < num (l.getD 2 0) (l.getD 3 0) (l.getD 4 0) + 8 then (0, 23)
  else (num (l.getD 2 0) (l.getD 3 0) (l.getD 4 0) + 8, 0)
structure Taken where
  kind : UInt8
  body : List UInt8
  n : Nat
  err : Nat
/-- the frame with which bytes begin -/
def take (l : List UInt8) : Taken :=
  if (size l).2 ≠ 0 then ⟨0, [], 0, (size l).2⟩
  else match opened (l.take (size l).1) with
    | none => ⟨0, [], 0, 22⟩
    | some own => ⟨own.getD 1 0, own.drop 5, (size l).1, 0⟩
theorem size_ok (l : List UInt8) (h : (size l).2 = 0) : 5 ≤ l.length ∧ l.getD 0 0 = 102 ∧ l.getD 1 0 ≠ 0 ∧ num (l.getD 2 0) (l.getD 3 0) (l.getD 4 0) ≤ 65536 ∧ (size l).1 = num (l.getD 2 0) (l.getD 3 0) (l.getD 4 0) + 8 ∧ (size l).1 ≤ l.length := by
  revert h
  unfold size
  split
  · intro h; cases h
  split
  · intro h; cases h
  split
  · intro h; cases h
  split
  · intro h; cases h
  split
  · intro h; cases h
  split
  · intro h; cases h
  split
  · intro h; cases h
  · intro h
    rename_i h0 h1 h2 h3 h4 h5 h6
    exact ⟨by omega, by simpa using h1, h3, by omega, rfl, by simp only; omega⟩
theorem opened_take (l own : List UInt8) (h : opened l = some own) : own = l.take (l.length - 3) ∧ 3 ≤ l.length := by
  unfold opened at h
  split at h
  · rename_i hc
    exact ⟨by simpa using h.symm, hc.1⟩
  · cases h
theorem num_hdr (n : Nat) (h : n < 16777216) : num (UInt8.ofNat (n / 65536)) (UInt8.ofNat (n / 256)) (UInt8.ofNat n) = n := Crc.num_tail n h
theorem wrapped_at (kind : UInt8) (body more : List UInt8) : ∃ r, wrapped kind body ++ more = 102 :: kind :: UInt8.ofNat (body.length / 65536) :: UInt8.ofNat (body.length / 256) :: UInt8.ofNat body.length :: r := by
  simp [wrapped, hdr, sealed]
theorem size_wrapped (kind : UInt8) (body more : List UInt8) (hk : kind ≠ 0) (hb : body.length ≤ 65536) : size (wrapped kind body ++ more) = (body.length + 8, 0) := by
  have hl : (wrapped kind body ++ more).length = body.length + 8 + more.length := by rw [List.length_append, wrapped_length]
  obtain ⟨r, hr⟩ := wrapped_at kind body more
  have hn := num_hdr body.length (by omega)
  unfold size
  rw [hl, hr]
  simp only [List.getD_cons_zero, List.getD_cons_succ, hn]
  rw [if_neg (by omega), if_neg (by simp), if_neg (by omega), if_neg hk, if_neg (by omega), if_neg (by omega), if_neg (by omega)]
theorem take_wrapped (kind : UInt8) (body more : List UInt8) (hk : kind ≠ 0) (hb : body.length ≤ 65536) : take (wrapped kind body ++ more) = ⟨kind, body, body.length + 8, 0⟩ := by
  have hs := size_wrapped kind body more hk hb
  unfold take
  rw [hs]
  have e : (wrapped kind body ++ more).take (body.length + 8) = wrapped kind body := by
    rw [← wrapped_length kind body]; exact List.take_left
  simp only [e, ne_eq, not_true_eq_false, if_false]
  rw [wrapped, Crc.opened_sealed]
  simp [hdr]
theorem five (l : List UInt8) (h : 5 ≤ l.length) : ∃ a b c d e r, l = a :: b :: c :: d :: e :: r := by
  match l, h with
  | a :: b :: c :: d :: e :: r, _ => exact ⟨a, b, c, d, e, r, rfl⟩
/-- the bytes as the reference holds them against -/
theorem rebuilt (l : List UInt8) (h : (size l).2 = 0) : wrapped (l.getD 1 0) ((l.take ((size l).1 - 3)).drop 5) = sealed (l.take ((size l).1 - 3)) := by
  obtain ⟨h5, h0, h1, hn, hs, hle⟩ := size_ok l h
  have hb : ((l.take ((size l).1 - 3)).drop 5).length = num (l.getD 2 0) (l.getD 3 0) (l.getD 4 0) := by
    simp only [List.length_drop, List.length_take]; omega
  unfold wrapped
  rw [hb]
  congr 1
  have ht := Crc.tail_num (l.getD 2 0) (l.getD 3 0) (l.getD 4 0)
  have hk : (size l).1 - 3 = num (l.getD 2 0) (l.getD 3 0) (l.getD 4 0) + 5 := by omega
  rw [hk]
  clear hk hb hs hn hle h
  unfold tail at ht
  injection ht with t2 ht
  injection ht with t1 ht
  injection ht with t0 _
  generalize num (l.getD 2 0) (l.getD 3 0) (l.getD 4 0) = m at *
  obtain ⟨a, b, c, d, e, r, rfl⟩ := five l h5
  simp only [List.getD_cons_zero, List.getD_cons_succ] at *
  simp [hdr, t2, t1, t0, h0]
theorem take_err (l : List UInt8) (h : (size l).2 ≠ 0) : take l = ⟨0, [], 0, (size l).2⟩ := by unfold take; rw [if_pos h]
theorem take_sum (l : List UInt8) (h : (size l).2 = 0) (ho : opened (l.take (size l).1) = none) : take l = ⟨0, [], 0, 22⟩ := by unfold take; rw [if_neg (by simpa using h), ho]
theorem take_yes (l : List UInt8) (h : (size l).2 = 0) (ho : opened (l.take (size l).1) ≠ none) : opened (l.take (size l).1) = some (l.take ((size l).1 - 3)) ∧ take l = ⟨l.getD 1 0, (l.take ((size l).1 - 3)).drop 5, (size l).1, 0⟩ := by
  obtain ⟨h5, h0, h1, hn, hs, hle⟩ := size_ok l h
  cases hc : opened (l.take (size l).1) with
  | none => exact absurd hc ho
  | some own =>
    obtain ⟨e, _⟩ := opened_take _ _ hc
    have e2 : own = l.take ((size l).1 - 3) := by
      rw [e, List.length_take, List.take_take]
      congr 1; omega
    refine ⟨by rw [e2], ?_⟩
    unfold take
    rw [if_neg (by simpa using h), hc]
    simp only
    rw [e2]
    congr 1
    have hk : (size l).1 - 3 = ((size l).1 - 5) + 2 := by omega
    rw [hk]
    generalize (size l).1 - 5 = m
    obtain ⟨a, b, c, d, e, r, rfl⟩ := five l h5
    simp
end Go.Proofs.Ytbmkgcoolofmpaa.Fr
namespace Go.Proofs.Ytbmkgcoolofmpaa.Crc
end Go.Proofs.Ytbmkgcoolofmpaa.Crc
namespace Go.Proofs.Ytbmkgcoolofmpaa
set_option linter.unusedVariables false
set_option linter.unusedSimpArgs false
set_option linter.unusedSectionVars false
open Go Go.RowKit
theorem kind_ne {kind : UInt8} (h : kind ≠ 0) : ((kind.toNat : Int) == 0) = false := by
  simp
  intro e
  exact h (UInt8.toNat_inj.1 (by simpa using e))
set_option maxHeartbeats 400000 in
theorem wrap_ok (kind : UInt8) (ao : Option Addr) (cap : Nat) (l : List UInt8) (w : World) (hb : Bs w ao cap l) (h : kind ≠ 0) (hl : l.length ≤ 65536) :
    Calls Try.prog 57 #[.int .u8 kind.toNat, .slice ao l.length cap] w fun e w' => ∃ ao' cap', e = .returned (.tuple #[.slice ao' (Fr.wrapped kind l).length cap', .int .i64 0]) ∧ Fresh w w' ao' cap' (Fr.wrapped kind l) := by
  have hk := kind_ne h
  obtain ⟨b2, hb2⟩ : ∃ b : UInt8, b = UInt8.ofNat (l.length / 65536) := ⟨_, rfl⟩
  obtain ⟨b1, hb1⟩ : ∃ b : UInt8, b = UInt8.ofNat (l.length / 256) := ⟨_, rfl⟩
  obtain ⟨b0, hb0⟩ : ∃ b : UInt8, b = UInt8.ofNat l.length := ⟨_, rfl⟩
  have e2 : (l.length : Int) / 65536 = (b2.toNat : Int) := by rw [hb2, ofNat_u8]; omega
  have e1 : (l.length : Int) / 256 % 256 = (b1.toNat : Int) := by rw [hb1, ofNat_u8]; simp
  have e0 : (l.length : Int) % 256 = (b0.toNat : Int) := by rw [hb0, ofNat_u8]
  have hfin : Fr.wrapped kind l = Crc.sealed ([102, kind, b2, b1, b0] ++ l) := by rw [Fr.wrapped, Fr.hdr, hb2, hb1, hb0]
  have Hfin := Lib.hid hfin
  clear hfin hb2 hb1 hb0
  have hB := below_new w (.cells #[.int .u8 102, u8 kind, u8 b2, u8 b1, u8 b0] 5)
  have hown0 : (w.alloc (.cells #[.int .u8 102, u8 kind, u8 b2, u8 b1, u8 b0] 5)).ownsRow w.heap.size 5 1 (.slice (some ⟨w.heap.size, 0, none⟩) 5 5) 5 ([102, kind, b2, b1, b0].map u8) :=
    World.ownsRow_lit w _ 5 (Nat.le_refl _) (by decide) rfl
  go_enter Try.func57, Try.ntmps57
  go_wp2_with (first
    | (at_builtin; refine wpl_append_bs rfl (.tmp 25) (.tmp 26) 33 rfl w.heap.size 5 infoU8 Try.underlying33 _ _ [102, kind, b2, b1, b0] rfl hown0 _ _ l rfl (hb.below hB) (by simp; omega) hB.size ?_; intro ao3 cap3 l3 w3 hl3 hown3 hg3; have hb3 := below_app hB hg3 hown0 (Nat.le_refl _) hB.size; have hlen3 : l3.length ≤ 70000000000000 := (by rw [hl3.out]; simp; omega))
    | fail)
  refine (seal_any ao3 cap3 l3 w3 hlen3 (Bs.of_own hown3)).mono ?_
  rintro e w4 ⟨ao4, cap4, rfl, hf4⟩
  go_wp2_with fail
  rw [Hfin.out, ← hl3.out]
  go_ret2
  exact ⟨_, _, rfl, ⟨own_base hf4.own hb3.size, below_on hb3 hf4.bel (Nat.le_refl _)⟩⟩
/-- what 'size' answers -/
def SizeIs (w : World) (l : List UInt8) (e : Ending) (w' : World) : Prop := e = .returned (.tuple #[.int .i64 ((Fr.size l).1 : Nat), .int .i64 ((Fr.size l).2 : Nat)]) ∧ Below w.heap.size w w'
theorem ofInt_i64 (a : Nat) (ha : a < 9223372036854775808) : (BitVec.ofInt 64 (a : Int)).toNat = a := by
  rw [BitVec.ofInt_natCast, BitVec.toNat_ofNat]; omega
theorem i64_or_nat (a b : Nat) (ha : a < 9223372036854775808) (hb : b < 9223372036854775808) : bits .or .i64 (a : Int) (b : Int) = ((a ||| b : Nat) : Int) := by
  have h : a ||| b < 2 ^ 63 := Nat.or_lt_two_pow (by simpa using ha) (by simpa using hb)
  show IntKind.i64.wrap ((BitVec.ofInt 64 (a : Int) ||| BitVec.ofInt 64 (b : Int)).toNat : Int) = _
  rw [BitVec.toNat_or, ofInt_i64 a ha, ofInt_i64 b hb]
  exact IntWalk.i64_in _ (by omega)
theorem be3i (a b c : Nat) (ha : a < 256) (hb : b < 256) (hc : c < 256) :
    bits BinOp.or IntKind.i64 (bits BinOp.or IntKind.i64 (wrap64 (wrap64 (a : Int) * 65536)) (wrap64 (wrap64 (b : Int) * 256))) (wrap64 (c : Int)) = ((a * 65536 + b * 256 + c : Nat) : Int) := by
  have e1 : wrap64 (wrap64 (a : Int) * 65536) = ((a * 65536 : Nat) : Int) := by rw [IntWalk.wrap64_in (a : Int) (by omega), IntWalk.wrap64_in _ (by omega)]; omega
  have e2 : wrap64 (wrap64 (b : Int) * 256) = ((b * 256 : Nat) : Int) := by rw [IntWalk.wrap64_in (b : Int) (by omega), IntWalk.wrap64_in _ (by omega)]; omega
  have e3 : wrap64 (c : Int) = (c : Int) := IntWalk.wrap64_in _ (by omega)
  rw [e1, e2, e3, i64_or_nat _ _ (by omega) (by omega), nat_join 16 _ _ (by omega) (by omega), i64_or_nat _ _ (by omega) (by omega), nat_join 8 _ _ (by omega) (by omega)]
theorem size_bad (n k : Nat) (l : List UInt8) (h : Fr.size l = (n, k)) (w w' : World) (hb : Below w.heap.size w w') : SizeIs w l (.returned (.tuple #[.int .i64 (n : Nat), .int .i64 (k : Nat)])) w' := by
  refine ⟨?_, hb⟩; rw [h]
theorem size_nil (ao : Option Addr) (cap : Nat) (l : List UInt8) (w : World) (h : l.length = 0) :
    Calls Try.prog 89 #[.slice ao l.length cap] w (SizeIs w l) := by
  have hs : Fr.size l = (0, 23) := by unfold Fr.size; rw [if_pos h]
  have Hs := Lib.hid hs
  clear hs
  go_enter Try.func89, Try.ntmps89
  go_wp2
  go_ret2
  exact size_bad 0 23 l Hs.out w w (Below.refl _ _)
theorem u8_ne {c : UInt8} {k : UInt8} (h : c ≠ k) : ((c.toNat : Int) != (k.toNat : Int)) = true := by
  simp
  intro e
  exact h (UInt8.toNat_inj.1 (by omega))
theorem u8_eq {c : UInt8} {k : UInt8} (h : c = k) : ((c.toNat : Int) != (k.toNat : Int)) = false := by
  subst h; simp
set_option maxHeartbeats 400000 in
theorem size_one (b off cap : Nat) (l : List UInt8) (w : World) (hb : Bs w (some ⟨b, off, none⟩) cap l) (h : l.length = 1) :
    Calls Try.prog 89 #[.slice (some ⟨b, off, none⟩) l.length cap] w (SizeIs w l) := by
  have c0 : w.cell? ⟨b, off, none⟩ = some (.int .u8 (l[0].toNat : Int)) := hb.all 0 (by omega)
  have hg0 : l.getD 0 0 = l[0] := by simp [List.getD, List.getElem?_eq_getElem (show 0 < l.length by omega)]
  by_cases h1 : l[0] = 102
  · have hs : Fr.size l = (0, 23) := by unfold Fr.size; rw [if_neg (by omega), if_neg (by rw [hg0]; simpa using h1), if_pos (by omega)]
    have Hs := Lib.hid hs
    have t1 := u8_eq h1
    have t1' : ((l[0].toNat : Int) != 102) = false := t1
    clear hs t1 hg0 h1
    go_enter Try.func89, Try.ntmps89
    go_wp2
    go_ret2
    exact size_bad 0 23 l Hs.out w w (Below.refl _ _)
  · have hs : Fr.size l = (0, 20) := by unfold Fr.size; rw [if_neg (by omega), if_pos (by rw [hg0]; exact h1)]
    have Hs := Lib.hid hs
    have t1' : ((l[0].toNat : Int) != 102) = true := u8_ne h1
    clear hs hg0 h1
    go_enter Try.func89, Try.ntmps89
    go_wp2
    go_ret2
    exact size_bad 0 20 l Hs.out w w (Below.refl _ _)
set_option maxHeartbeats 400000 in
theorem size_few (b off cap : Nat) (l : List UInt8) (w : World) (hb : Bs w (some ⟨b, off, none⟩) cap l) (h : l.length = 2 ∨ l.length = 3 ∨ l.length = 4) :
    Calls Try.prog 89 #[.slice (some ⟨b, off, none⟩) l.length cap] w (SizeIs w l) := by
  have c0 : w.cell? ⟨b, off, none⟩ = some (.int .u8 (l[0].toNat : Int)) := hb.all 0 (by omega)
  have c1 := hb.all 1 (by omega)
  have hg0 : l.getD 0 0 = l[0] := by simp [List.getD, List.getElem?_eq_getElem (show 0 < l.length by omega)]
  have hg1 : l.getD 1 0 = l[1] := by simp [List.getD, List.getElem?_eq_getElem (show 1 < l.length by omega)]
  have three : (Fr.size l = (0, 20) ∧ ((l[0].toNat : Int) != 102) = true) ∨ (Fr.size l = (0, 20) ∧ ((l[0].toNat : Int) != 102) = false ∧ ((l[1].toNat : Int) == 0) = true) ∨
      (Fr.size l = (0, 23) ∧ ((l[0].toNat : Int) != 102) = false ∧ ((l[1].toNat : Int) == 0) = false) := by
    by_cases h1 : l[0] = 102
    · by_cases h2 : l[1] = 0
      · exact .inr (.inl ⟨by unfold Fr.size; rw [if_neg (by omega), if_neg (by rw [hg0]; simpa using h1), if_neg (by omega), if_pos (by rw [hg1]; exact h2)], u8_eq h1, by rw [h2]; rfl⟩)
      · exact .inr (.inr ⟨by unfold Fr.size; rw [if_neg (by omega), if_neg (by rw [hg0]; simpa using h1), if_neg (by omega), if_neg (by rw [hg1]; exact h2), if_pos (by omega)], u8_eq h1, kind_ne h2⟩)
    · exact .inl ⟨by unfold Fr.size; rw [if_neg (by omega), if_pos (by rw [hg0]; exact h1)], u8_ne h1⟩
  clear hg0 hg1
  rcases h with h | h | h <;> rcases three with ⟨hs, t1⟩ | ⟨hs, t1, t2⟩ | ⟨hs, t1, t2⟩
  all_goals
    have Hs := Lib.hid hs
    clear hs
    go_enter Try.func89, Try.ntmps89
    go_wp2
    all_goals
      go_ret2
      first | exact size_bad 0 20 l Hs.out w w (Below.refl _ _) | exact size_bad 0 23 l Hs.out w w (Below.refl _ _)
set_option maxHeartbeats 1000000 in
theorem size_many (b off cap : Nat) (l : List UInt8) (w : World) (hl : l.length ≤ 70000000000000) (hb : Bs w (some ⟨b, off, none⟩) cap l) (h : 5 ≤ l.length) :
    Calls Try.prog 89 #[.slice (some ⟨b, off, none⟩) l.length cap] w (SizeIs w l) := by
  have c0 : w.cell? ⟨b, off, none⟩ = some (.int .u8 (l[0].toNat : Int)) := hb.all 0 (by omega)
  have c1 := hb.all 1 (by omega)
  have c2 := hb.all 2 (by omega)
  have c3 := hb.all 3 (by omega)
  have c4 := hb.all 4 (by omega)
  have hv := be3i l[2].toNat l[3].toNat l[4].toNat (UInt8.toNat_lt _) (UInt8.toNat_lt _) (UInt8.toNat_lt _)
  have hx : Crc.num (l.getD 2 0) (l.getD 3 0) (l.getD 4 0) = l[2].toNat * 65536 + l[3].toNat * 256 + l[4].toNat := by
    simp [List.getD, List.getElem?_eq_getElem (show 2 < l.length by omega), List.getElem?_eq_getElem (show 3 < l.length by omega), List.getElem?_eq_getElem (show 4 < l.length by omega), Crc.num]
  have hxl : Crc.num (l.getD 2 0) (l.getD 3 0) (l.getD 4 0) < 16777216 := by
    rw [hx]; have := l[2].toNat_lt; have := l[3].toNat_lt; have := l[4].toNat_lt; omega
  rw [← hx] at hv
  have hg0 : l.getD 0 0 = l[0] := by simp [List.getD, List.getElem?_eq_getElem (show 0 < l.length by omega)]
  have hg1 : l.getD 1 0 = l[1] := by simp [List.getD, List.getElem?_eq_getElem (show 1 < l.length by omega)]
  have hsz : Fr.size l = if l[0] ≠ 102 then (0, 20) else if l[1] = 0 then (0, 20) else if 65536 < Crc.num (l.getD 2 0) (l.getD 3 0) (l.getD 4 0) then (0, 20)
      else if l.length < Crc.num (l.getD 2 0) (l.getD 3 0) (l.getD 4 0) + 8 then (0, 23) else (Crc.num (l.getD 2 0) (l.getD 3 0) (l.getD 4 0) + 8, 0) := by
    unfold Fr.size
    rw [if_neg (by omega), hg0, hg1, if_neg (show ¬ l.length < 2 by omega), if_neg (show ¬ l.length < 5 by omega)]
  clear hx hg0 hg1
  generalize Crc.num (l.getD 2 0) (l.getD 3 0) (l.getD 4 0) = x at *
  have Hv := Lib.hid hv
  clear hv
  by_cases hbig : 65536 < x
  · have hs : Fr.size l = (0, 20) := by rw [hsz, if_pos hbig]; split <;> (try split) <;> rfl
    have Hs := Lib.hid hs
    clear hs hsz
    go_enter Try.func89, Try.ntmps89
    go_wp2
    go_quiet (fail)
    rw [Hv.out]
    go_wp2
    go_ret2
    exact size_bad 0 20 l Hs.out w _ (below_drewN (Below.refl _ _) _)
  rw [if_neg hbig] at hsz
  by_cases h2 : l[1] = 0
  · have hs : Fr.size l = (0, 20) := by rw [hsz, if_pos h2]; split <;> rfl
    have Hs := Lib.hid hs
    have t2 : ((l[1].toNat : Int) == 0) = true := by rw [h2]; rfl
    clear hs hsz h2
    go_enter Try.func89, Try.ntmps89
    go_wp2
    go_quiet (fail)
    rw [Hv.out]
    go_wp2
    go_ret2
    exact size_bad 0 20 l Hs.out w _ (below_drewN (Below.refl _ _) _)
  rw [if_neg h2] at hsz
  have t2 := kind_ne h2
  clear h2
  by_cases h1 : l[0] = 102
  · rw [if_neg (by simpa using h1)] at hsz
    have t1 : ((l[0].toNat : Int) != 102) = false := u8_eq h1
    clear h1
    by_cases h3 : l.length < x + 8
    · rw [if_pos h3] at hsz
      have Hs := Lib.hid hsz
      have hz : ((x : Int) + 8 == 0) = false := by simp; omega
      clear hsz
      go_enter Try.func89, Try.ntmps89
      go_wp2
      go_quiet (fail)
      rw [Hv.out]
      go_wp2
      go_ret2
      exact size_bad 0 23 l Hs.out w _ (below_drewN (Below.refl _ _) _)
    · rw [if_neg h3] at hsz
      have Hs := Lib.hid hsz
      have hz : ((x : Int) + 8 == 0) = false := by simp; omega
      clear hsz
      go_enter Try.func89, Try.ntmps89
      go_wp2
      go_quiet (fail)
      rw [Hv.out]
      go_wp2
      go_ret2
      exact size_bad (x + 8) 0 l Hs.out w _ (below_drewN (Below.refl _ _) _)
  · rw [if_pos h1] at hsz
    have t1 : ((l[0].toNat : Int) != 102) = true := u8_ne h1
    have Hs := Lib.hid hsz
    clear h1 hsz
    go_enter Try.func89, Try.ntmps89
    go_wp2
    go_quiet (fail)
    rw [Hv.out]
    go_wp2
    go_ret2
    exact size_bad 0 20 l Hs.out w _ (below_drewN (Below.refl _ _) _)
theorem size_any (ao : Option Addr) (cap : Nat) (l : List UInt8) (w : World) (hl : l.length ≤ 70000000000000) (hb : Bs w ao cap l) :
    Calls Try.prog 89 #[.slice ao l.length cap] w (SizeIs w l) := by
  by_cases h0 : l.length = 0
  · exact size_nil ao cap l w h0
  · obtain ⟨b, off, rfl, _⟩ := hb.get 0 (by omega)
    by_cases h1 : l.length = 1
    · exact size_one b off cap l w hb h1
    · by_cases h5 : 5 ≤ l.length
      · exact size_many b off cap l w hl hb h5
      · exact size_few b off cap l w hb (by omega)
end Go.Proofs.Ytbmkgcoolofmpaa
