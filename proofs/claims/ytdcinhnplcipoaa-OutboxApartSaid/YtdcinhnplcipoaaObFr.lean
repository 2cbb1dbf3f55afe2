/- A frame for two boxes that live side by side. No statement of the seat is proved here. -/
import Derived.Test.YtdcinhnplcipoaaObN
import Derived.Test.YtdcinhnplcipoaaObLt
namespace Go.Proofs.Ytdcinhnplcipoaa
set_option linter.unusedVariables false
set_option linter.unusedSimpArgs false
set_option linter.unusedSectionVars false
open Go Go.RowKit Go.Shelf

/-- below D only box c, the row v and block Y have changed -/
structure Fr3 (D c Y : Nat) (v : Value) (W W' : World) : Prop where
  os : W'.os = W.os
  tape : W'.tape = W.tape
  output : W'.output = W.output
  size : W.heap.size ≤ W'.heap.size
  block : ∀ k, k < D → k ≠ c → k ≠ Y → v.ownBlock ≠ some k → W'.heap[k]? = W.heap[k]?
theorem Fr3.refl (D c Y : Nat) (v : Value) (W : World) : Fr3 D c Y v W W := ⟨rfl, rfl, rfl, Nat.le_refl _, fun _ _ _ _ _ => rfl⟩
theorem Fr3.step {D c Y : Nat} {v v' : Value} {W0 W W' : World} (h : Fr3 D c Y v W0 W) (h2 : Fr2 W.heap.size c v' W W') (hD : D ≤ W.heap.size) (hv : ∀ k, v'.ownBlock = some k → v.ownBlock = some k ∨ D ≤ k) : Fr3 D c Y v W0 W' :=
  ⟨h2.os.trans h.os, h2.tape.trans h.tape, h2.output.trans h.output, Nat.le_trans h.size h2.size, fun k hk h3 h4 h5 => (h2.block k (by omega) h3 (fun e => by rcases hv k e with h6 | h6; exact h5 h6; omega)).trans (h.block k hk h3 h4 h5)⟩
theorem Fr3.below {D c Y : Nat} {v : Value} {W0 W W' : World} (h : Fr3 D c Y v W0 W) (h2 : Below W.heap.size W W') (hD : D ≤ W.heap.size) : Fr3 D c Y v W0 W' :=
  ⟨h2.os.trans h.os, h2.tape.trans h.tape, h2.output.trans h.output, Nat.le_trans h.size h2.size, fun k hk h3 h4 h5 => (h2.block k (by omega)).trans (h.block k hk h3 h4 h5)⟩
theorem Fr3.set {D c Y : Nat} {v : Value} {W0 W W' : World} (h : Fr3 D c Y v W0 W) (h2 : W.grownBy W' (some Y)) (hD : D ≤ W.heap.size) : Fr3 D c Y v W0 W' :=
  ⟨h2.os.trans h.os, h2.tape.trans h.tape, h2.output.trans h.output, Nat.le_trans h.size h2.size, fun k hk h3 h4 h5 => (h2.block k (by omega) (fun e => h4 (by simpa using e))).trans (h.block k hk h3 h4 h5)⟩
theorem Fr3.ns {D c Y : Nat} {v vc : Value} {W W' : World} {ao : Option Addr} {cap Bc : Nat} {lastc : Int} {lc l : List No} {x y : Value} (h : Fr3 D c Y v W W') (hD : D = W.heap.size) (hs : Ns W ao cap l) (hc : Bx W Bc c lastc vc lc)
    (hY : W.heap[Y]? = some (.cells #[x, y] 53 (0, 0))) (hne : 0 < l.length → ∀ a, ao = some a → v.ownBlock ≠ some a.block) : Ns W' ao cap l :=
  hs.kept fun k off s e h0 => by
    obtain ⟨T, ht, hf⟩ := hs.typ k off s e h0
    refine h.block k (by rw [hD]; exact elem?_lt ht) (fun e2 => ?_) (fun e2 => ?_) (hne h0 _ e)
    · subst e2
      rw [elem?_of hc.blk] at ht
      simp only [Option.some.injEq] at ht
      subst ht
      exact absurd hf (by decide)
    · subst e2
      rw [elem?_of hY] at ht
      simp only [Option.some.injEq] at ht
      subst ht
      exact absurd hf (by decide)
theorem Fr3.bx {D c Y : Nat} {v vb : Value} {W W' : World} {B b : Nat} {last : Int} {l : List No} (h : Fr3 D c Y v W W') (hD : D = W.heap.size) (hb : Bx W B b last vb l) (h1 : b ≠ c) (h2 : b ≠ Y) (h3 : v.ownBlock ≠ some b) (h4 : vb.ownBlock ≠ some c) (h5 : vb.ownBlock ≠ some Y)
    (h6 : ∀ k, vb.ownBlock = some k → v.ownBlock ≠ some k) : Bx W' B b last vb l :=
  ⟨(h.block b (by rw [hD]; exact (Array.getElem?_eq_some_iff.1 hb.blk).1) h1 h2 h3).trans hb.blk, by
    obtain ⟨q1, q2⟩ := hb.own
    refine ⟨q1, ?_⟩
    rcases q2 with q2 | ⟨g, cap, cur, hv', hg', hh, r'⟩
    · exact .inl q2
    · refine .inr ⟨g, cap, cur, hv', hg', ?_, r'⟩
      have ho : vb.ownBlock = some g := by rw [hv']; rfl
      rw [h.block g (by rw [hD]; exact (Array.getElem?_eq_some_iff.1 hh).1) (fun e => h4 (by rw [ho, e])) (fun e => h5 (by rw [ho, e])) (h6 g ho)]; exact hh, hb.le, hb.ne, Nat.le_trans hb.sz h.size⟩
theorem Fr3.below_of {D c Y B0 : Nat} {v : Value} {w W W' : World} (h : Fr3 D c Y v W W') (hb : Below B0 w W) (hB : B0 ≤ D) (h1 : B0 ≤ c) (h3 : B0 ≤ Y) (h2 : ∀ k, v.ownBlock = some k → B0 ≤ k) : Below B0 w W' :=
  ⟨h.os.trans hb.os, h.tape.trans hb.tape, h.output.trans hb.output, Nat.le_trans hb.size h.size, fun k hk => (h.block k (by omega) (by omega) (by omega) (fun e => by have := h2 k e; omega)).trans (hb.block k hk)⟩
theorem Fr3.of2 {b : Nat} {v : Value} {W W' : World} (h : Fr2 W.heap.size b v W W') : Fr3 W.heap.size b b v W W' := ⟨h.os, h.tape, h.output, h.size, fun k hk h3 _ h5 => h.block k hk h3 h5⟩
end Go.Proofs.Ytdcinhnplcipoaa
