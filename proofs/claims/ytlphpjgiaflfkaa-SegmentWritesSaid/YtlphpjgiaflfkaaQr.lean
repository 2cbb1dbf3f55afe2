/- Contracts of quill's Writer.Bytes and of its Reader: Fail, Left, Bad, number, Num. No statement of the seat is proved here. -/
import Derived.Test.YtlphpjgiaflfkaaQw
import Derived.Laws.Bits64b
namespace Go.Proofs.Ytlphpjgiaflfkaa
set_option linter.unusedVariables false
set_option linter.unusedSimpArgs false
set_option linter.unusedSectionVars false
open Go Go.RowKit Go.Shelf

/-- a reader that has l left -/
structure Rd (T : TypeId) (W : World) (p : Nat) (ao : Option Addr) (cap : Nat) (l : List UInt8) (bad : Bool) : Prop where
  blk : W.heap[p]? = some (.cells #[.slice ao l.length cap, .bool bad] T (0, 0))
  bs : Bs W ao cap l
theorem Rd.below {T : TypeId} {W W' : World} {p : Nat} {ao : Option Addr} {cap : Nat} {l : List UInt8} {bad : Bool} (h : Rd T W p ao cap l bad) (hb : Below W.heap.size W W') : Rd T W' p ao cap l bad :=
  ⟨(hb.block p (Array.getElem?_eq_some_iff.1 h.blk).1).trans h.blk, h.bs.below hb⟩
theorem Rd.cells {T : TypeId} {W : World} {p : Nat} {ao : Option Addr} {cap : Nat} {l : List UInt8} {bad : Bool} (h : Rd T W p ao cap l bad) :
    W.cell? ⟨p, 0, none⟩ = some (.slice ao l.length cap) ∧ W.cell? ⟨p, 1, none⟩ = some (.bool bad) ∧ W.frozen? ⟨p, 0, none⟩ = false ∧ W.frozen? ⟨p, 1, none⟩ = false :=
  ⟨block_cell h.blk 0, block_cell h.blk 1, block_free h.blk 0, block_free h.blk 1⟩
/-- bytes lie in no reader -/
theorem Bs.set {W : World} {T : TypeId} {p i : Nat} {ao : Option Addr} {cap : Nat} {l : List UInt8} {x : Value} {u : Bool} {y : Value} (h : Bs W ao cap l) (hx : ∀ n : Int, x ≠ .int .u8 n) (hp : W.heap[p]? = some (.cells #[x, .bool u] T (0, 0))) : Bs (W.setCell ⟨p, i, none⟩ y) ao cap l :=
  ⟨h.len, h.le, h.max, h.none, fun j v hv => by
    obtain ⟨b, off, e, hc⟩ := h.cell j v hv
    refine ⟨b, off, e, ?_⟩
    have hne : b ≠ p := by
      intro e2
      subst e2
      rw [block_cell hp] at hc
      rw [List.getElem?_map] at hv
      cases hl : l[j]? with
      | none => rw [hl] at hv; cases hv
      | some z =>
        rw [hl] at hv
        simp only [Option.map_some, Option.some.injEq] at hv
        subst hv
        match hk : off + j with
        | 0 => rw [hk] at hc; simp at hc; exact hx _ hc
        | 1 => rw [hk] at hc; simp at hc
        | k + 2 => rw [hk] at hc; simp at hc
    rw [World.cell?_setCell_other _ _ _ _ (by first | (simp; done) | (simp; intro e2; exact absurd e2 hne) | (simp; exact hne) | (intro e2; simp at e2; exact hne e2.1))]; exact hc⟩
/-- what a reader's method leaves -/
theorem Rd.put {T : TypeId} {W : World} {p : Nat} {ao ao' : Option Addr} {cap cap' : Nat} {l l' : List UInt8} {bad : Bool} (h : Rd T W p ao cap l bad) (hb : Bs W ao' cap' l') :
    Rd T (W.setCell ⟨p, 0, none⟩ (.slice ao' l'.length cap')) p ao' cap' l' bad ∧ W.grownBy (W.setCell ⟨p, 0, none⟩ (.slice ao' l'.length cap')) (some p) := by
  have hs := block_set h.blk 0 (.slice ao' l'.length cap')
  simp only [List.setIfInBounds_toArray, List.set_cons_zero] at hs
  exact ⟨⟨hs, hb.set (fun n e => by cases e) h.blk⟩, grown_set _ _ _ _⟩
theorem Bs.nil (W : World) : Bs W none 0 [] := ⟨by simp, by simp, by decide, fun _ => rfl, fun j u hu => by simp at hu⟩
theorem Rd.fail {T : TypeId} {W : World} {p : Nat} {ao : Option Addr} {cap : Nat} {l : List UInt8} {bad : Bool} (h : Rd T W p ao cap l bad) :
    Rd T ((W.setCell ⟨p, 0, none⟩ (.slice none 0 0)).setCell ⟨p, 1, none⟩ (.bool true)) p none 0 [] true ∧ W.grownBy ((W.setCell ⟨p, 0, none⟩ (.slice none 0 0)).setCell ⟨p, 1, none⟩ (.bool true)) (some p) := by
  have hs := block_set (block_set h.blk 0 (.slice none 0 0)) 1 (.bool true)
  simp only [List.setIfInBounds_toArray, List.set_cons_zero, List.set_cons_succ] at hs
  exact ⟨⟨hs, Bs.nil _⟩, grown_trans (grown_set _ _ _ _) (grown_set _ _ _ _)⟩
/-- a reader's method that failed -/
def RdBad (T : TypeId) (p : Nat) (V : Value) (W : World) (e : Ending) (W' : World) : Prop := e = .returned V ∧ Rd T W' p none 0 [] true ∧ W.grownBy W' (some p)
theorem fail_rd {W : World} {p : Nat} {ao : Option Addr} {cap : Nat} {l : List UInt8} {bad : Bool} (h : Rd 131 W p ao cap l bad) :
    Calls Try.prog 100 #[.pointer (some ⟨p, 0, none⟩)] W (RdBad 131 p (.tuple #[]) W) := by
  obtain ⟨c0, c1, f0, f1⟩ := h.cells
  have hpz := (Array.getElem?_eq_some_iff.1 h.blk).1
  go_enter Try.func100, Try.ntmps100
  go_wp2_with fail
  refine bodyPost_ret (v := .tuple #[]) (by simp [results, Try.results100, go_sem]) rfl ?_
  exact ⟨rfl, h.fail⟩
theorem left_rd {W : World} {p : Nat} {ao : Option Addr} {cap : Nat} {l : List UInt8} {bad : Bool} (h : Rd 131 W p ao cap l bad) :
    Calls Try.prog 107 #[.pointer (some ⟨p, 0, none⟩)] W fun e W' => e = .returned (.int .i64 l.length) ∧ W = W' := by
  obtain ⟨c0, c1, f0, f1⟩ := h.cells
  go_enter Try.func107, Try.ntmps107
  go_wp2_with fail
  go_ret
  exact ⟨rfl, rfl⟩
theorem open_rd (ao : Option Addr) (cap : Nat) (l : List UInt8) (W : World) (h : Bs W ao cap l) :
    Calls Try.prog 73 #[.slice ao l.length cap] W fun e W' => e = .returned (.pointer (some ⟨W.heap.size, 0, none⟩)) ∧ Rd 131 W' W.heap.size ao cap l false ∧ Below W.heap.size W W' := by
  go_enter Try.func73, Try.ntmps73
  go_wp2_with fail
  go_ret
  exact ⟨rfl, ⟨heap_alloc_new _ _, h.below (below_new _ _)⟩, below_new _ _⟩
set_option maxRecDepth 100000 in
set_option maxHeartbeats 4000000 in
theorem bytes_wr {W : World} {base p : Nat} {v : Value} {l : List UInt8} (h : Wr W base p v l) (hl : l.length ≤ 1099511627776) :
    Calls Try.prog 68 #[.pointer (some ⟨p, 0, none⟩)] W fun e W' => ∃ ao cap, e = .returned (.slice ao l.length cap) ∧ W'.ownsRow W.heap.size 5 1 (.slice ao l.length cap) l.length (l.map u8) ∧ Below W.heap.size W W' := by
  obtain ⟨ao, cap, rfl⟩ := own_slice h.own
  have c0 := block_cell h.blk 0
  simp at c0
  cases ao with
  | none =>
    have hs := Bs.of_own h.own
    have hle := hs.le
    have hno := hs.none rfl
    have : l = [] := List.eq_nil_of_length_eq_zero (by omega)
    subst this
    subst hno
    have he : ∀ W : World, (binOp .eql 22 (.slice none 0 0) (.slice none 0 0)).run Try.prog W = .ok (.bool true) W := fun _ => by kernel_rfl
    have hcl : Calls Try.prog 62 #[.slice none 0 0] W fun e W' => e = .returned (.slice none 0 0) ∧ W = W' := by
      go_enter Try.func62, Try.ntmps62
      go_wp2_with fail
      go_ret
      exact ⟨rfl, rfl⟩
    simp only [List.length_nil] at c0 ⊢
    have Hcl := Lib.hid hcl
    clear hcl
    go_enter Try.func68, Try.ntmps68
    go_wp2_with fail
    refine Hcl.out.mono ?_
    rintro e W2 ⟨rfl, rfl⟩
    go_wp2_with fail
    go_ret
    exact ⟨none, 0, rfl, World.ownsRow_nil _ _ _ _, Below.refl _ _⟩
  | some ad =>
    have hbs := Bs.of_own h.own
    have he : ∀ W : World, (binOp .eql 22 (.slice (some ad) l.length cap) (.slice none 0 0)).run Try.prog W = .ok (.bool false) W := fun _ => by kernel_rfl
    have hcl : Calls Try.prog 62 #[.slice (some ad) l.length cap] W fun e W' => ∃ ao cap, e = .returned (.slice ao l.length cap) ∧ W'.ownsRow W.heap.size 5 1 (.slice ao l.length cap) l.length (l.map u8) ∧ Below W.heap.size W W' := by
      go_enter Try.func62, Try.ntmps62
      go_wp2_with (at_builtin; refine wpl_append_bs rfl (.tmp 5) (.tmp 6) 22 rfl W.heap.size 5 infoUB Try.underlying22 _ _ [] rfl (own_empty W W.heap.size _ 1 (Nat.le_refl _)) _ _ l rfl (hbs.below (below_new _ _)) ?_ ?_ ?_; (simp; omega); simp; intro ao2 cap2 l2 W2 hl2 hown2 hg2)
      obtain rfl : l2 = l := hl2.out
      go_ret
      exact ⟨_, _, rfl, hown2, below_app (below_new W _) hg2 (own_empty W W.heap.size _ 1 (Nat.le_refl _)) (Nat.le_refl _) (by simp)⟩
    have Hcl := Lib.hid hcl
    clear hcl
    go_enter Try.func68, Try.ntmps68
    go_wp2_with fail
    refine Hcl.out.mono ?_
    rintro e W2 ⟨ao2, cap2, rfl, hown, hb⟩
    go_wp2_with fail
    go_ret
    exact ⟨ao2, cap2, rfl, hown, hb⟩
/-- in the same block -/
def SameBlk (ao ao' : Option Addr) : Prop := ∀ a', ao' = some a' → ∃ a, ao = some a ∧ a.block = a'.block
theorem SameBlk.refl (ao : Option Addr) : SameBlk ao ao := fun a' e => ⟨a', e, rfl⟩
theorem SameBlk.trans {a b c : Option Addr} (h : SameBlk a b) (h2 : SameBlk b c) : SameBlk a c := fun a' e => by
  obtain ⟨x, e1, e2⟩ := h2 a' e
  obtain ⟨y, e3, e4⟩ := h x e1
  exact ⟨y, e3, e4.trans e2⟩
theorem SameBlk.none (a : Option Addr) : SameBlk a none := fun a' e => by cases e
theorem add_block (a : Addr) (n : Nat) : (a.add n).block = a.block := by unfold Addr.add; split <;> rfl
/-- a piece of bytes: the address and the list by name, and the block -/
theorem wpl_slice_bb {P : Program} {w : World} {ops : Array Oper} {rest : List Oper} {o : Oper} {a : Act} {Q : Exit → Act → World → Prop} (hw : Region.wanted o (yielded ops a.tmps) = true) (x : Operand) (olo ohi : Option Operand) (t e : TypeId)
    (ho : o.op = .slice t x olo ohi none) (ht : P.underlying t = some (.slice e)) (hsz : (P.info? e).map (·.size) = some 1)
    (ao : Option Addr) (c : Nat) (l : List UInt8) (hx : a.eval x = .slice ao l.length c) (hsl : Bs w ao c l)
    (p q : Nat) (hlo : (∃ i, olo.map a.eval = some (.int .i64 i) ∧ i = (p : Int)) ∨ olo.map a.eval = none ∧ p = 0) (hhi : (∃ i, ohi.map a.eval = some (.int .i64 i) ∧ i = (q : Int)) ∨ ohi.map a.eval = none ∧ q = l.length) (hp : p ≤ q) (hq : q ≤ l.length)
    (h : ∀ ao' cap' l', Hid (l' = (l.take q).drop p) → l'.length = q - p → Bs w ao' cap' l' → SameBlk ao ao' → wpList P ops Q rest (a.put o.dst (.slice ao' l'.length cap')) w) : wpList P ops Q (o :: rest) a w := by
  refine wpl_of hw fun K hK => ?_
  have hc := Sl.cut hsl p q hp hq (by decide)
  have hle := hsl.le
  have hrun := run_slice_sl (w := w) ht hsz ao l.length c _ _ p q (hlo.imp (fun ⟨i, h1, h2⟩ => h2 ▸ h1) id) (hhi.imp (fun ⟨i, h1, h2⟩ => h2 ▸ h1) id) hp (by omega)
  have hL : ((l.take q).drop p).length = q - p := by simp; omega
  have hB : SameBlk ao (if c = p then ao else ao.map (·.add (p * 1))) := fun a' e => by
    split at e
    · exact ⟨a', e, rfl⟩
    · cases ao with
      | none => simp at e
      | some a0 => simp at e; subst e; exact ⟨a0, rfl, (add_block _ _).symm⟩
  have hk := h _ _ ((l.take q).drop p) rfl hL (by unfold Bs; rw [hL]; simpa [List.map_drop, List.map_take] using hc) (by simpa using hB)
  rw [hL] at hk
  unfold Oper.wp
  simp [execOp, ho, hx, hrun, Result.andThen]
  exact hK _ _ (by simpa using hk)
end Go.Proofs.Ytlphpjgiaflfkaa
