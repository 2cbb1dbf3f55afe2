/- Helper lemmas for the walk of ReadsPlays. No statement of the seat is proved here. -/
import Derived.Test.YtiboaafelabpfaaReadsI
import Derived.Test.YtiboaafelabpfaaReadsH
import Derived.Test.YtiboaafelabpfaaOpenR
import Derived.Deep.CutBlock
import Derived.Deep.RegionHeld3
import Derived.Deep.DrawnRows
namespace Go.Proofs.Ytiboaafelabpfaa
set_option linter.unusedVariables false
set_option linter.unusedSimpArgs false
set_option linter.unusedSectionVars false
open Go Go.RowKit

/-- the program's queue at b and the reference's in the variable at m say the same -/
def Both (wx : World) (b m : Nat) : Prop :=
  ∃ (begun sure : Int) (l : List Rd) (ao : Option Addr) (cap : Nat) (ar : Option Addr) (cr : Nat), 0 ≤ begun ∧ begun ≤ 1152921504606846976 ∧ l.length ≤ 32 ∧ Q wx b true begun sure ao l.length cap ∧ Wait wx ao cap l ∧
    wx.heap[m]? = some (.cells #[.int .u64 begun, .int .u64 sure, .slice ar l.length cr] 29 (0, 0)) ∧ RW wx ar cr l

/-- the reference's variable written anew -/
theorem both_store {W : World} {b m : Nat} {begun sure : Int} {l : List Rd} {aq ar : Option Addr} {cq cr : Nat} {x0 x1 x2 : Value} (hne : b ≠ m) (g0 : 0 ≤ begun) (g1 : begun ≤ 1152921504606846976) (gl : l.length ≤ 32)
    (hQ : Q W b true begun sure aq l.length cq) (hW : Wait W aq cq l) (hR : RW W ar cr l) (hM : W.heap[m]? = some (.cells #[x0, x1, x2] 29 (0, 0))) :
    Both (((W.setCell ⟨m, 0, none⟩ (.int .u64 begun)).setCell ⟨m, 1, none⟩ (.int .u64 sure)).setCell ⟨m, 2, none⟩ (.slice ar l.length cr)) b m := by
  have hg := grown_sets0 W m (.int .u64 begun) (.int .u64 sure) (.slice ar l.length cr)
  refine ⟨begun, sure, l, aq, cq, ar, cr, g0, g1, gl, ?_, Rw.grown hW hg (elem?_of hM) (by decide), ?_, Rw.grown hR hg (elem?_of hM) (by decide)⟩
  · exact (hg.block b (Array.getElem?_eq_some_iff.1 hQ).1 (by simpa using hne)).trans hQ
  · have := block_set (block_set (block_set hM 0 (.int .u64 begun)) 1 (.int .u64 sure)) 2 (.slice ar l.length cr)
    simpa using this
theorem below_store {w W : World} {m : Nat} {u0 u1 u2 : Value} (h : Below w.heap.size w W) (hm : w.heap.size ≤ m) : Below w.heap.size w (((W.setCell ⟨m, 0, none⟩ u0).setCell ⟨m, 1, none⟩ u1).setCell ⟨m, 2, none⟩ u2) :=
  below_grown h (grown_sets0 _ _ _ _ _) hm h.size


/-- what each round keeps -/
def St (w w1 wx : World) : Prop := Both wx w.heap.size w1.heap.size ∧ Below w.heap.size w wx ∧ w1.heap.size < wx.heap.size
theorem Both.below {wx wy : World} {b m : Nat} (h : Both wx b m) (hB : Below wx.heap.size wx wy) : Both wy b m := by
  obtain ⟨begun, sure, l, ao, cap, ar, cr, h1, h2, h3, h4, h5, h6, h7⟩ := h
  exact ⟨begun, sure, l, ao, cap, ar, cr, h1, h2, h3, (hB.block _ (Array.getElem?_eq_some_iff.1 h4).1).trans h4, Rw.below h5 hB, (hB.block _ (Array.getElem?_eq_some_iff.1 h6).1).trans h6, Rw.below h7 hB⟩
theorem St.below {w w1 wx wy : World} (h : St w w1 wx) (hB : Below wx.heap.size wx wy) : St w w1 wy := ⟨h.1.below hB, below_on h.2.1 hB (Nat.le_refl _), Nat.lt_of_lt_of_le h.2.2 hB.size⟩
theorem St.drew {w w1 wx : World} (h : St w w1 wx) : St w w1 wx.drew := h.below (Below.refl _ _).drew
theorem st_store {w w1 W : World} {begun sure : Int} {l : List Rd} {aq ar : Option Addr} {cq cr : Nat} {x0 x1 x2 : Value} (hne : w.heap.size < w1.heap.size) (g0 : 0 ≤ begun) (g1 : begun ≤ 1152921504606846976) (gl : l.length ≤ 32)
    (hQ : Q W w.heap.size true begun sure aq l.length cq) (hW : Wait W aq cq l) (hR : RW W ar cr l) (hM : W.heap[w1.heap.size]? = some (.cells #[x0, x1, x2] 29 (0, 0))) (hB : Below w.heap.size w W) :
    St w w1 (((W.setCell ⟨w1.heap.size, 0, none⟩ (.int .u64 begun)).setCell ⟨w1.heap.size, 1, none⟩ (.int .u64 sure)).setCell ⟨w1.heap.size, 2, none⟩ (.slice ar l.length cr)) :=
  ⟨both_store (by omega) g0 g1 gl hQ hW hR hM, below_store hB (by omega), by simpa using (Array.getElem?_eq_some_iff.1 hM).1⟩

/-- what the region of the third arm reads: the reference's answer at p, the operation at o, the reference's variable at m -/
def Com (w w1 W : World) (p o : Nat) (begun sure x : Int) (l1 l2 : List Rd) (a1 : Option Addr) (c1 : Nat) (a2 : Option Addr) (c2 : Nat) (M : Array Value) : Prop :=
  W.heap[p]? = some (.cells #[.int .u64 begun, .int .u64 sure, .slice a2 l2.length c2] 29 (0, 0)) ∧ W.cell? ⟨o, 1, none⟩ = some (.int .u64 x) ∧ RW W a1 c1 l1 ∧ RW W a2 c2 l2 ∧
    W.heap[w1.heap.size]? = some (.cells M 29 (0, 0)) ∧ Below w.heap.size w W ∧ w.heap.size < w1.heap.size ∧ w1.heap.size < p ∧ w1.heap.size < o ∧ M.size = 3
theorem Com.below {w w1 W W' : World} {p o : Nat} {begun sure x : Int} {l1 l2 : List Rd} {a1 : Option Addr} {c1 : Nat} {a2 : Option Addr} {c2 : Nat} {M : Array Value} (h : Com w w1 W p o begun sure x l1 l2 a1 c1 a2 c2 M) (hB : Below W.heap.size W W') :
    Com w w1 W' p o begun sure x l1 l2 a1 c1 a2 c2 M := by
  obtain ⟨h1, h2, h3, h4, h5, h6, h7⟩ := h
  exact ⟨(hB.block _ (Array.getElem?_eq_some_iff.1 h1).1).trans h1, (hB.cell (p := ⟨o, 1, none⟩) (cell?_lt h2)).trans h2, Rw.below h3 hB, Rw.below h4 hB, (hB.block _ (Array.getElem?_eq_some_iff.1 h5).1).trans h5, below_on h6 hB (Nat.le_refl _), h7⟩
theorem Com.grown {w w1 W W' : World} {p o : Nat} {begun sure x : Int} {l1 l2 : List Rd} {a1 : Option Addr} {c1 : Nat} {a2 : Option Addr} {c2 : Nat} {M : Array Value} {T : TypeId} (h : Com w w1 W p o begun sure x l1 l2 a1 c1 a2 c2 M) (hB : W.grownBy W' (some w.heap.size)) (hT : elem? W w.heap.size = some T) (hne : T ≠ 59) :
    Com w w1 W' p o begun sure x l1 l2 a1 c1 a2 c2 M := by
  obtain ⟨h1, h2, h3, h4, h5, h6, h7, h8, h9, h10⟩ := h
  exact ⟨(hB.block _ (Array.getElem?_eq_some_iff.1 h1).1 (by simp; omega)).trans h1, (World.cell?_of_block (hB.block o (cell?_lt h2) (by simp; omega))).trans h2, Rw.grown h3 hB hT hne, Rw.grown h4 hB hT hne,
    (hB.block _ (Array.getElem?_eq_some_iff.1 h5).1 (by simp; omega)).trans h5, below_grown h6 hB (Nat.le_refl _) h6.size, h7, h8, h9, h10⟩
theorem Com.store {w w1 W : World} {p o : Nat} {begun sure x : Int} {l1 l2 : List Rd} {a1 : Option Addr} {c1 : Nat} {a2 : Option Addr} {c2 : Nat} {M : Array Value} {u0 u1 u2 : Value} (h : Com w w1 W p o begun sure x l1 l2 a1 c1 a2 c2 M) :
    Com w w1 (((W.setCell ⟨w1.heap.size, 0, none⟩ u0).setCell ⟨w1.heap.size, 1, none⟩ u1).setCell ⟨w1.heap.size, 2, none⟩ u2) p o begun sure x l1 l2 a1 c1 a2 c2 #[u0, u1, u2] := by
  obtain ⟨h1, h2, h3, h4, h5, h6, h7, h8, h9, h10⟩ := h
  have hB := grown_sets0 W w1.heap.size u0 u1 u2
  refine ⟨(hB.block _ (Array.getElem?_eq_some_iff.1 h1).1 (by simp; omega)).trans h1, (World.cell?_of_block (hB.block o (cell?_lt h2) (by simp; omega))).trans h2, Rw.grown h3 hB (elem?_of h5) (by decide), Rw.grown h4 hB (elem?_of h5) (by decide), ?_, below_grown h6 hB (by omega) h6.size, h7, h8, h9, rfl⟩
  have := block_set (block_set (block_set h5 0 u0) 1 u1) 2 u2
  obtain ⟨m0, m1, m2, rfl⟩ : ∃ m0 m1 m2, M = #[m0, m1, m2] := by
    match M, h10 with
    | ⟨[m0, m1, m2]⟩, _ => exact ⟨m0, m1, m2, rfl⟩
  simpa using this


theorem st_confirm {w w1 W W3 : World} {begun sure sure' : Int} {l : List Rd} {aq ar : Option Addr} {cq cr : Nat} {x0 x1 x2 : Value} (hne : w.heap.size < w1.heap.size) (g0 : 0 ≤ begun) (g1 : begun ≤ 1152921504606846976) (gl : l.length ≤ 32)
    (hQ : Q W w.heap.size true begun sure aq l.length cq) (hW : Wait W aq cq l) (hR : RW W ar cr l) (hM : W.heap[w1.heap.size]? = some (.cells #[x0, x1, x2] 29 (0, 0))) (hB : Below w.heap.size w W)
    (hQ6 : Q W3 w.heap.size true begun sure' aq l.length cq) (hg : (((W.setCell ⟨w1.heap.size, 0, none⟩ (.int .u64 begun)).setCell ⟨w1.heap.size, 1, none⟩ (.int .u64 sure')).setCell ⟨w1.heap.size, 2, none⟩ (.slice ar l.length cr)).grownBy W3 (some w.heap.size)) : St w w1 W3 := by
  have h3 := grown_sets0 W w1.heap.size (.int .u64 begun) (.int .u64 sure') (.slice ar l.length cr)
  have hM2 := block_set (block_set (block_set hM 0 (.int .u64 begun)) 1 (.int .u64 sure')) 2 (.slice ar l.length cr)
  have hlt := (Array.getElem?_eq_some_iff.1 hM).1
  have hQ3 := (h3.block w.heap.size (Array.getElem?_eq_some_iff.1 hQ).1 (by simp; omega)).trans hQ
  have hB3 := below_grown hB h3 (by omega) hB.size
  have hz := hg.size
  simp at hz
  refine ⟨⟨begun, sure', l, aq, cq, ar, cr, g0, g1, gl, hQ6, Rw.grown (Rw.grown hW h3 (elem?_of hM) (by decide)) hg (elem?_of hQ3) (by decide), ?_, Rw.grown (Rw.grown hR h3 (elem?_of hM) (by decide)) hg (elem?_of hQ3) (by decide)⟩, below_grown hB3 hg (Nat.le_refl _) hB3.size, by omega⟩
  exact (hg.block _ (by simpa using hlt) (by simp; omega)).trans (by simpa using hM2)

section
variable (w w1 : World) (p o : Nat) (begun sure x : Int) (lr : List Rd) (a1 : Option Addr) (c1 : Nat) (a2 : Option Addr) (c2 : Nat)
/-- ahead of Take -/
def Sa (W : World) (M : Array Value) : Prop := (∃ aq cq, Q W w.heap.size true begun sure aq lr.length cq ∧ Wait W aq cq lr) ∧ Com w w1 W p o begun sure x (lr.filter (ripe sure x)) (lr.filter (fun r => !ripe sure x r)) a1 c1 a2 c2 M
/-- behind Take -/
def Sb (a : Option Addr) (c : Nat) (W : World) (M : Array Value) : Prop := (∃ aq cq, Q W w.heap.size true begun sure aq (lr.filter (fun r => !ripe sure x r)).length cq ∧ Wait W aq cq (lr.filter (fun r => !ripe sure x r))) ∧ Wait W a c (lr.filter (ripe sure x)) ∧
  Com w w1 W p o begun sure x (lr.filter (ripe sure x)) (lr.filter (fun r => !ripe sure x r)) a1 c1 a2 c2 M
/-- behind plain -/
def Sc (a : Option Addr) (c : Nat) (W : World) (M : Array Value) : Prop := (∃ aq cq, Q W w.heap.size true begun sure aq (lr.filter (fun r => !ripe sure x r)).length cq ∧ Wait W aq cq (lr.filter (fun r => !ripe sure x r))) ∧ RW W a c (lr.filter (ripe sure x)) ∧
  Com w w1 W p o begun sure x (lr.filter (ripe sure x)) (lr.filter (fun r => !ripe sure x r)) a1 c1 a2 c2 M
end
theorem q_below {W W' : World} {b n cap : Nat} {begun sure : Int} {ao : Option Addr} (h : Q W b true begun sure ao n cap) (hB : Below W.heap.size W W') : Q W' b true begun sure ao n cap := (hB.block _ (Array.getElem?_eq_some_iff.1 h).1).trans h
section
variable {w w1 : World} {p o : Nat} {begun sure x : Int} {lr : List Rd} {a1 : Option Addr} {c1 : Nat} {a2 : Option Addr} {c2 : Nat}
theorem Com.cells {W : World} {l1 l2 : List Rd} {M : Array Value} (h : Com w w1 W p o begun sure x l1 l2 a1 c1 a2 c2 M) :
    W.cell? ⟨p, 0, none⟩ = some (.int .u64 begun) ∧ W.cell? ⟨p, 1, none⟩ = some (.int .u64 sure) ∧ W.cell? ⟨p, 2, none⟩ = some (.slice a2 l2.length c2) ∧ W.cell? ⟨o, 1, none⟩ = some (.int .u64 x) := by
  obtain ⟨h1, h2, _⟩ := h
  have e0 := block_cell h1 0
  have e1 := block_cell h1 1
  have e2 := block_cell h1 2
  simp at e0 e1 e2
  exact ⟨e0, e1, e2, h2⟩
theorem Com.tell {W : World} {l1 l2 : List Rd} {M : Array Value} (h : Com w w1 W p o begun sure x l1 l2 a1 c1 a2 c2 M) : (∃ v0, W.cell? ⟨w1.heap.size, 0, none⟩ = some v0) ∧ (∃ v1, W.cell? ⟨w1.heap.size, 1, none⟩ = some v1) ∧ (∃ v2, W.cell? ⟨w1.heap.size, 2, none⟩ = some v2) ∧
    W.frozen? ⟨w1.heap.size, 0, none⟩ = false ∧ W.frozen? ⟨w1.heap.size, 1, none⟩ = false ∧ W.frozen? ⟨w1.heap.size, 2, none⟩ = false := by
  obtain ⟨_, _, _, _, h5, _, _, _, _, h10⟩ := h
  obtain ⟨m0, m1, m2, rfl⟩ : ∃ m0 m1 m2, M = #[m0, m1, m2] := by
    match M, h10 with
    | ⟨[m0, m1, m2]⟩, _ => exact ⟨m0, m1, m2, rfl⟩
  have e0 := block_cell h5 0
  have e1 := block_cell h5 1
  have e2 := block_cell h5 2
  simp at e0 e1 e2
  exact ⟨⟨_, e0⟩, ⟨_, e1⟩, ⟨_, e2⟩, block_free h5 0, block_free h5 1, block_free h5 2⟩
theorem Sa.below {W W' : World} {M : Array Value} (h : Sa w w1 p o begun sure x lr a1 c1 a2 c2 W M) (hB : Below W.heap.size W W') : Sa w w1 p o begun sure x lr a1 c1 a2 c2 W' M := by
  obtain ⟨⟨aq, cq, h1, h2⟩, h3⟩ := h
  exact ⟨⟨aq, cq, q_below h1 hB, Rw.below h2 hB⟩, h3.below hB⟩
theorem Sb.below {W W' : World} {M : Array Value} {a : Option Addr} {c : Nat} (h : Sb w w1 p o begun sure x lr a1 c1 a2 c2 a c W M) (hB : Below W.heap.size W W') : Sb w w1 p o begun sure x lr a1 c1 a2 c2 a c W' M := by
  obtain ⟨⟨aq, cq, h1, h2⟩, h4, h3⟩ := h
  exact ⟨⟨aq, cq, q_below h1 hB, Rw.below h2 hB⟩, Rw.below h4 hB, h3.below hB⟩
theorem Sc.below {W W' : World} {M : Array Value} {a : Option Addr} {c : Nat} (h : Sc w w1 p o begun sure x lr a1 c1 a2 c2 a c W M) (hB : Below W.heap.size W W') : Sc w w1 p o begun sure x lr a1 c1 a2 c2 a c W' M := by
  obtain ⟨⟨aq, cq, h1, h2⟩, h4, h3⟩ := h
  exact ⟨⟨aq, cq, q_below h1 hB, Rw.below h2 hB⟩, Rw.below h4 hB, h3.below hB⟩
theorem Sa.drew {W : World} {M : Array Value} (h : Sa w w1 p o begun sure x lr a1 c1 a2 c2 W M) : Sa w w1 p o begun sure x lr a1 c1 a2 c2 W.drew M := h.below (Below.refl _ _).drew
theorem Sb.drew {W : World} {M : Array Value} {a : Option Addr} {c : Nat} (h : Sb w w1 p o begun sure x lr a1 c1 a2 c2 a c W M) : Sb w w1 p o begun sure x lr a1 c1 a2 c2 a c W.drew M := h.below (Below.refl _ _).drew
theorem Sc.drew {W : World} {M : Array Value} {a : Option Addr} {c : Nat} (h : Sc w w1 p o begun sure x lr a1 c1 a2 c2 a c W M) : Sc w w1 p o begun sure x lr a1 c1 a2 c2 a c W.drew M := h.below (Below.refl _ _).drew
theorem Sa.store {W : World} {M : Array Value} {u0 u1 u2 : Value} (h : Sa w w1 p o begun sure x lr a1 c1 a2 c2 W M) : Sa w w1 p o begun sure x lr a1 c1 a2 c2 (((W.setCell ⟨w1.heap.size, 0, none⟩ u0).setCell ⟨w1.heap.size, 1, none⟩ u1).setCell ⟨w1.heap.size, 2, none⟩ u2) #[u0, u1, u2] := by
  obtain ⟨⟨aq, cq, h1, h2⟩, h3⟩ := h
  have hB := grown_sets0 W w1.heap.size u0 u1 u2
  have h5 := elem?_of h3.2.2.2.2.1
  exact ⟨⟨aq, cq, (hB.block _ (Array.getElem?_eq_some_iff.1 h1).1 (by simp; have := h3.2.2.2.2.2.2.1; omega)).trans h1, Rw.grown h2 hB h5 (by decide)⟩, h3.store⟩
theorem Sb.store {W : World} {M : Array Value} {u0 u1 u2 : Value} {a : Option Addr} {c : Nat} (h : Sb w w1 p o begun sure x lr a1 c1 a2 c2 a c W M) : Sb w w1 p o begun sure x lr a1 c1 a2 c2 a c (((W.setCell ⟨w1.heap.size, 0, none⟩ u0).setCell ⟨w1.heap.size, 1, none⟩ u1).setCell ⟨w1.heap.size, 2, none⟩ u2) #[u0, u1, u2] := by
  obtain ⟨⟨aq, cq, h1, h2⟩, h4, h3⟩ := h
  have hB := grown_sets0 W w1.heap.size u0 u1 u2
  have h5 := elem?_of h3.2.2.2.2.1
  exact ⟨⟨aq, cq, (hB.block _ (Array.getElem?_eq_some_iff.1 h1).1 (by simp; have := h3.2.2.2.2.2.2.1; omega)).trans h1, Rw.grown h2 hB h5 (by decide)⟩, Rw.grown h4 hB h5 (by decide), h3.store⟩
theorem Sc.store {W : World} {M : Array Value} {u0 u1 u2 : Value} {a : Option Addr} {c : Nat} (h : Sc w w1 p o begun sure x lr a1 c1 a2 c2 a c W M) : Sc w w1 p o begun sure x lr a1 c1 a2 c2 a c (((W.setCell ⟨w1.heap.size, 0, none⟩ u0).setCell ⟨w1.heap.size, 1, none⟩ u1).setCell ⟨w1.heap.size, 2, none⟩ u2) #[u0, u1, u2] := by
  obtain ⟨⟨aq, cq, h1, h2⟩, h4, h3⟩ := h
  have hB := grown_sets0 W w1.heap.size u0 u1 u2
  have h5 := elem?_of h3.2.2.2.2.1
  exact ⟨⟨aq, cq, (hB.block _ (Array.getElem?_eq_some_iff.1 h1).1 (by simp; have := h3.2.2.2.2.2.2.1; omega)).trans h1, Rw.grown h2 hB h5 (by decide)⟩, Rw.grown h4 hB h5 (by decide), h3.store⟩
theorem take_s {W : World} {M : Array Value} (hn : lr.length ≤ 1000) (h : Sa w w1 p o begun sure x lr a1 c1 a2 c2 W M) :
    Calls Try.prog 15 #[.pointer (some ⟨w.heap.size, 0, none⟩), .int .u64 x] W fun e W' => ∃ a c, e = .returned (.slice a (lr.filter (ripe sure x)).length c) ∧ Sb w w1 p o begun sure x lr a1 c1 a2 c2 a c W' M := by
  obtain ⟨⟨aq, cq, h1, h2⟩, h3⟩ := h
  refine (take_at W w.heap.size begun sure x aq cq lr h1 h2 hn).mono ?_
  rintro e W' ⟨a, c, aq', cq', rfl, r1, r2, r3, r4⟩
  exact ⟨a, c, rfl, ⟨aq', cq', r2, r3⟩, r1, h3.grown r4 (elem?_of h1) (by decide)⟩
theorem plain_s {W : World} {M : Array Value} {a : Option Addr} {c : Nat} (hn : lr.length ≤ 1000) (h : Sb w w1 p o begun sure x lr a1 c1 a2 c2 a c W M) :
    Calls Try.prog 14 #[.slice a (lr.filter (ripe sure x)).length c] W fun e W' => ∃ a c, e = .returned (.slice a (lr.filter (ripe sure x)).length c) ∧ Sc w w1 p o begun sure x lr a1 c1 a2 c2 a c W' M := by
  obtain ⟨⟨aq, cq, h1, h2⟩, h4, h3⟩ := h
  have := List.length_filter_le (ripe sure x) lr
  refine (plain_at W a c _ h4 (by omega)).mono ?_
  rintro e W' ⟨a', c', rfl, r1, r2⟩
  exact ⟨a', c', rfl, ⟨aq, cq, q_below h1 r2, Rw.below h2 r2⟩, r1, h3.below r2⟩
theorem same_s {W : World} {M : Array Value} {a : Option Addr} {c : Nat} (hn : lr.length ≤ 1000) (h : Sc w w1 p o begun sure x lr a1 c1 a2 c2 a c W M) :
    Calls Try.prog 13 #[.slice a (lr.filter (ripe sure x)).length c, .slice a1 (lr.filter (ripe sure x)).length c1] W fun e W' => e = .returned (.bool true) ∧ Sc w w1 p o begun sure x lr a1 c1 a2 c2 a c W' M := by
  have := List.length_filter_le (ripe sure x) lr
  refine (rsame_eq W a a1 c c1 _ h.2.1 h.2.2.2.2.1 (by omega)).mono ?_
  rintro e W' ⟨rfl, r2⟩
  exact ⟨rfl, h.below r2⟩
theorem Sc.fin {W : World} {a : Option Addr} {c : Nat} (g0 : 0 ≤ begun) (g1 : begun ≤ 1152921504606846976) (gl : lr.length ≤ 32) (h : Sc w w1 p o begun sure x lr a1 c1 a2 c2 a c W #[.int .u64 begun, .int .u64 sure, .slice a2 (lr.filter (fun r => !ripe sure x r)).length c2]) : St w w1 W := by
  obtain ⟨⟨aq, cq, h1, h2⟩, h4, h3⟩ := h
  have := List.length_filter_le (fun r => !ripe sure x r) lr
  exact ⟨⟨begun, sure, _, aq, cq, a2, c2, g0, g1, by omega, h1, h2, h3.2.2.2.2.1, h3.2.2.2.1⟩, h3.2.2.2.2.2.1, (Array.getElem?_eq_some_iff.1 h3.2.2.2.2.1).1⟩
end

/-! the fourth arm: all are dropped -/
section
variable (w w1 : World) (begun sure : Int) (lr : List Rd) (ar : Option Addr) (cr : Nat)
def Co4 (W : World) : Prop := W.heap[w1.heap.size]? = some (.cells #[.int .u64 begun, .int .u64 sure, .slice ar lr.length cr] 29 (0, 0)) ∧ RW W ar cr lr ∧ Below w.heap.size w W ∧ w.heap.size < w1.heap.size
def Sd (W : World) : Prop := (∃ aq cq, Q W w.heap.size true begun sure aq lr.length cq ∧ Wait W aq cq lr) ∧ Co4 w w1 begun sure lr ar cr W
def Se (a : Option Addr) (c : Nat) (W : World) : Prop := (∃ aq cq, Q W w.heap.size true begun sure aq 0 cq ∧ Wait W aq cq []) ∧ Wait W a c lr ∧ Co4 w w1 begun sure lr ar cr W
def Sf (a : Option Addr) (c : Nat) (W : World) : Prop := (∃ aq cq, Q W w.heap.size true begun sure aq 0 cq ∧ Wait W aq cq []) ∧ RW W a c lr ∧ Co4 w w1 begun sure lr ar cr W
end
section
variable {w w1 : World} {begun sure : Int} {lr : List Rd} {ar : Option Addr} {cr : Nat}
theorem Co4.below {W W' : World} (h : Co4 w w1 begun sure lr ar cr W) (hB : Below W.heap.size W W') : Co4 w w1 begun sure lr ar cr W' := by
  obtain ⟨h1, h2, h3, h4⟩ := h
  exact ⟨(hB.block _ (Array.getElem?_eq_some_iff.1 h1).1).trans h1, Rw.below h2 hB, below_on h3 hB (Nat.le_refl _), h4⟩
theorem Sd.drew {W : World} (h : Sd w w1 begun sure lr ar cr W) : Sd w w1 begun sure lr ar cr W.drew := by
  obtain ⟨⟨aq, cq, h1, h2⟩, h3⟩ := h
  exact ⟨⟨aq, cq, q_below h1 (Below.refl _ _).drew, Rw.below h2 (Below.refl _ _).drew⟩, h3.below (Below.refl _ _).drew⟩
theorem Se.drew {a : Option Addr} {c : Nat} {W : World} (h : Se w w1 begun sure lr ar cr a c W) : Se w w1 begun sure lr ar cr a c W.drew := by
  obtain ⟨⟨aq, cq, h1, h2⟩, h4, h3⟩ := h
  exact ⟨⟨aq, cq, q_below h1 (Below.refl _ _).drew, Rw.below h2 (Below.refl _ _).drew⟩, Rw.below h4 (Below.refl _ _).drew, h3.below (Below.refl _ _).drew⟩
theorem Sf.below {a : Option Addr} {c : Nat} {W W' : World} (h : Sf w w1 begun sure lr ar cr a c W) (hB : Below W.heap.size W W') : Sf w w1 begun sure lr ar cr a c W' := by
  obtain ⟨⟨aq, cq, h1, h2⟩, h4, h3⟩ := h
  exact ⟨⟨aq, cq, q_below h1 hB, Rw.below h2 hB⟩, Rw.below h4 hB, h3.below hB⟩
theorem Sf.drew {a : Option Addr} {c : Nat} {W : World} (h : Sf w w1 begun sure lr ar cr a c W) : Sf w w1 begun sure lr ar cr a c W.drew := h.below (Below.refl _ _).drew
theorem Co4.cell {W : World} (h : Co4 w w1 begun sure lr ar cr W) : W.cell? ⟨w1.heap.size, 2, none⟩ = some (.slice ar lr.length cr) := by
  have := block_cell h.1 2
  simpa using this
theorem drop_s {W : World} (hn : lr.length ≤ 1000) (h : Sd w w1 begun sure lr ar cr W) :
    Calls Try.prog 16 #[.pointer (some ⟨w.heap.size, 0, none⟩)] W fun e W' => ∃ a c, e = .returned (.slice a lr.length c) ∧ Se w w1 begun sure lr ar cr a c W' := by
  obtain ⟨⟨aq, cq, h1, h2⟩, h3, h4, h5, h6⟩ := h
  have e1 : lr.filter (fun _ => true) = lr := by simp
  have e2 : lr.filter (fun r => !(fun _ => true) r) = [] := by simp
  refine (drop_at W w.heap.size begun sure aq cq lr h1 h2 hn).mono ?_
  rintro e W' ⟨a, c, aq', cq', rfl, r1, r2, r3, r4⟩
  rw [e1] at r1 ⊢
  rw [e2] at r2 r3
  exact ⟨a, c, rfl, ⟨aq', cq', r2, r3⟩, r1, (r4.block _ (Array.getElem?_eq_some_iff.1 h3).1 (by simp; omega)).trans h3, Rw.grown h4 r4 (elem?_of h1) (by decide), below_grown h5 r4 (Nat.le_refl _) h5.size, h6⟩
theorem plain_s4 {W : World} {a : Option Addr} {c : Nat} (hn : lr.length ≤ 1000) (h : Se w w1 begun sure lr ar cr a c W) :
    Calls Try.prog 14 #[.slice a lr.length c] W fun e W' => ∃ a c, e = .returned (.slice a lr.length c) ∧ Sf w w1 begun sure lr ar cr a c W' := by
  obtain ⟨⟨aq, cq, h1, h2⟩, h4, h3⟩ := h
  refine (plain_at W a c _ h4 (by omega)).mono ?_
  rintro e W' ⟨a', c', rfl, r1, r2⟩
  exact ⟨a', c', rfl, ⟨aq, cq, q_below h1 r2, Rw.below h2 r2⟩, r1, h3.below r2⟩
theorem same_s4 {W : World} {a : Option Addr} {c : Nat} (hn : lr.length ≤ 1000) (h : Sf w w1 begun sure lr ar cr a c W) :
    Calls Try.prog 13 #[.slice a lr.length c, .slice ar lr.length cr] W fun e W' => e = .returned (.bool true) ∧ Sf w w1 begun sure lr ar cr a c W' := by
  refine (rsame_eq W a ar c cr _ h.2.1 h.2.2.2.1 (by omega)).mono ?_
  rintro e W' ⟨rfl, r2⟩
  exact ⟨rfl, h.below r2⟩
theorem Sf.fin {W : World} {a : Option Addr} {c : Nat} (g0 : 0 ≤ begun) (g1 : begun ≤ 1152921504606846976) (h : Sf w w1 begun sure lr ar cr a c W) : St w w1 (W.setCell ⟨w1.heap.size, 2, none⟩ (.slice none 0 0)) := by
  obtain ⟨⟨aq, cq, h1, h2⟩, h4, h3, h5, h6, h7⟩ := h
  have hg := grown_set W w1.heap.size 2 (.slice none 0 0)
  refine ⟨⟨begun, sure, [], aq, cq, none, 0, g0, g1, by simp, (hg.block _ (Array.getElem?_eq_some_iff.1 h1).1 (by simp; omega)).trans h1, Rw.grown h2 hg (elem?_of h3) (by decide), ?_, Rw.nil _ _ _⟩, below_grown h6 hg (by omega) h6.size, by simpa using (Array.getElem?_eq_some_iff.1 h3).1⟩
  have := block_set h3 2 (.slice none 0 0)
  simpa using this
end
theorem rask_ok (w : World) (begun sure x y : Int) (ao : Option Addr) (cap : Nat) (l : List Rd) (hw : RW w ao cap l) (hn : l.length < 32) (h0 : 0 ≤ begun) (hg : begun < 1152921504606846976) :
    Calls Try.prog 17 #[RQ begun sure ao l.length cap, .int .u64 x, .int .u64 y] w (RAsked w begun sure x y l) := by
  cases l with
  | cons r l => exact rask_some w begun sure x y ao cap _ hw hn h0 hg (by simp)
  | nil =>
    cases ao with
    | none => exact rask_nil0 w begun sure x y cap h0 hg
    | some a => exact rask_nil1 w begun sure x y a cap h0 hg
end Go.Proofs.Ytiboaafelabpfaa
