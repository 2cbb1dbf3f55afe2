/- Contracts of package reads: Ask. No statement of the seat is proved here. -/
import Derived.Test.YtiboaafelabpfaaReads
import Derived.Deep.RegionLawGrows
namespace Go.Proofs.Ytiboaafelabpfaa
set_option linter.unusedVariables false
set_option linter.unusedSimpArgs false
set_option linter.unusedSectionVars false
open Go Go.RowKit

theorem begin_more (w : World) (b : Nat) (begun sure : Int) (ao : Option Addr) (n cap : Nat) (h : Q w b true begun sure ao n cap) (h0 : 0 ≤ begun) (h1 : begun < 1152921504606846976) :
    Calls Try.prog 9 #[.pointer (some ⟨b, 0, none⟩)] w fun e w' => e = .returned (.int .u64 (begun + 1)) ∧ w' = w.setCell ⟨b, 1, none⟩ (.int .u64 (begun + 1)) := by
  have e : min (begun + 1) 1152921504606846976 = begun + 1 := by omega
  have := begin_at w b begun sure ao n cap h h0 (by omega)
  rwa [e] at this

theorem rw_olds {w : World} {E : TypeId} {k n cap : Nat} {ao : Option Addr} {rows : List (List Value)} (h : Rw w E k ao n cap rows) : ∀ a, ao = some a → ∀ j u, rows.flatten[j]? = some u → w.cell? (a.add j) = some u := by
  intro a ha j u hu
  obtain ⟨b, off, e, hc⟩ := h.sl.cell j u hu
  rw [ha] at e
  simp only [Option.some.injEq] at e
  subst e
  rw [Addr.add_none]; exact hc

/-- what Ask leaves behind -/
def Asked (w : World) (b : Nat) (begun sure x y : Int) (l : List Rd) (e : Ending) (w' : World) : Prop :=
  e = .returned (.tuple #[.int .u64 (begun + 1), .int .i64 0]) ∧ ∃ ao' cap', Q w' b true (begun + 1) sure ao' (l.length + 1) cap' ∧ Wait w' ao' cap' (l ++ [⟨x, y, begun + 1⟩]) ∧ w.grownBy w' (some b)

theorem grown_none {w w' : World} {row : Option Nat} (h : w.grownBy w' none) : w.grownBy w' row := ⟨h.os, h.tape, h.output, h.size, fun k hk _ => h.block k hk (by simp)⟩
theorem asked_mk {w W1 W2 : World} {b : Nat} {begun sure x y : Int} {ao a' : Option Addr} {cap c' : Nat} {l : List Rd} (h1 : w.grownBy W1 (some b)) (h2 : W1.grownBy W2 none)
    (hb : W2.heap[b]? = some (.cells #[.bool true, .int .u64 (begun + 1), .int .u64 sure, .slice ao l.length cap] 56 (0, 0)))
    (hown : W2.ownsRow W1.heap.size 53 3 (.slice a' (l.length + 1) c') (l.length + 1) ((l.map rdCells).flatten ++ rdCells ⟨x, y, begun + 1⟩)) :
    Asked w b begun sure x y l (.returned (.tuple #[.int .u64 (begun + 1), .int .i64 0])) (W2.setCell ⟨b, 3, none⟩ (.slice a' (l.length + 1) c')) := by
  refine ⟨rfl, a', c', block_set hb 3 _, ?_, grown_trans (grown_trans h1 (grown_none h2)) (grown_set _ _ _ _)⟩
  have e : (l.map rdCells).flatten ++ rdCells ⟨x, y, begun + 1⟩ = ((l ++ [(⟨x, y, begun + 1⟩ : Rd)]).map rdCells).flatten := by simp
  rw [e] at hown
  have := Rw.of_own hown (by simp) (rd_each _)
  unfold Wait
  rw [show (l ++ [(⟨x, y, begun + 1⟩ : Rd)]).length = l.length + 1 from by simp]
  exact Rw.grown this (grown_set _ _ _ _) (elem?_of hb) (by decide)

set_option maxHeartbeats 2000000 in
theorem ask_ok (w : World) (b : Nat) (begun sure x y : Int) (ao : Option Addr) (cap : Nat) (l : List Rd) (h : Q w b true begun sure ao l.length cap) (hw : Wait w ao cap l) (hn : l.length < 32) (h0 : 0 ≤ begun) (hg : begun < 1152921504606846976) :
    Calls Try.prog 18 #[.pointer (some ⟨b, 0, none⟩), .int .u64 x, .int .u64 y] w (Asked w b begun sure x y l) := by
  have c3 := block_cell h 3
  have c1 := block_cell h 1
  have f3 := block_free h 3
  simp at c3 c1
  have hbz := cell?_lt c3
  have hle := hw.sl.le
  obtain ⟨i0, hi, hz0, hz1, hz2⟩ := info_parts infoRd
  -- the world ahead of the append
  obtain ⟨W1, hW1⟩ : ∃ W1, W1 = ((w.setCell ⟨b, 1, none⟩ (.int .u64 (begun + 1))).alloc (.cells #[.int .u64 x, .int .u64 y, .int .u64 (begun + 1)] 53)).drew := ⟨_, rfl⟩
  have hs1 := block_set h 1 (.int .u64 (begun + 1))
  have hwt : Wait W1 ao cap l := by
    rw [hW1]
    exact (Rw.grown hw (grown_set w b 1 _) (elem?_of h) (by decide)).below ((below_new _ _).drew)
  have hnews : ∀ j u, (rdCells ⟨x, y, begun + 1⟩)[j]? = some u → W1.cell? ((⟨w.heap.size, 0, none⟩ : Addr).add j) = some u := by
    intro j u hu
    have := news_at (w := w.setCell ⟨b, 1, none⟩ (.int .u64 (begun + 1))) (cs := #[.int .u64 x, .int .u64 y, .int .u64 (begun + 1)]) (T := 53) (rdCells ⟨x, y, begun + 1⟩) rfl j u hu
    rw [hW1]
    simpa using this
  have hz : w.heap.size + 1 = W1.heap.size := by rw [hW1]; simp
  have hgr1 : w.grownBy W1 (some b) := by rw [hW1]; exact grown_trans (grown_set w b 1 _) (grown_drew (World.grownBy_alloc _ _ _))
  have hb1 : W1.heap[b]? = some (.cells #[.bool true, .int .u64 (begun + 1), .int .u64 sure, .slice ao l.length cap] 56 (0, 0)) := by
    rw [hW1]
    exact (heap_alloc_old _ _ (by simpa using hbz)).trans hs1
  have holds := rw_olds hwt
  have hlen1 := hwt.sl.len
  subst hW1
  have Hnews := Lib.hid hnews
  have Hgr1 := Lib.hid hgr1
  have Hb1 := Lib.hid hb1
  have Holds := Lib.hid holds
  have Hwt := Lib.hid hwt
  have Hz := Lib.hid hz
  clear hnews hgr1 hb1 holds hwt hs1 hz
  go_enter Try.func18, Try.ntmps18
  go_wp2_with (go_at_call 21; refine (none_at _ b _ _ _ _ _ _ h).mono ?_; rintro e w1 ⟨rfl, rfl⟩)
  go_region_law (first
    | (go_simp; go_at_call 9; refine (begin_more w.drew b begun sure ao l.length cap h h0 hg).mono ?_; rintro e w' ⟨rfl, rfl⟩)
    | (refine step_append_grows rfl (.tmp 37) (.tmp 43) 41 rfl 53 i0 (.agg #[.int .u64 0, .int .u64 0, .int .u64 0]) 3 24 Try.underlying41 hi hz0 hz1 hz2 rfl (by decide) _ l.length l.length (l.map rdCells).flatten rfl ?_ hlen1 Holds.out _ 1 1 (rdCells ⟨x, y, begun + 1⟩) rfl rfl Hnews.out (rd_one _) ?_ ?_ ?_ ?_; (intro e; have := hw.sl.none e; omega); omega; (unfold maxLen; omega); omega; intro v' w' hown hgr; obtain ⟨a', c', rfl⟩ := own_slice hown; have hbw := (hgr.block b (by rw [← Hz.out]; omega) (by simp)).trans Hb1.out; have k3 := block_cell hbw 3; have k3f := block_free hbw 3; have k1 := block_cell hbw 1; simp at k3 k1))
  all_goals go_wp2
  all_goals
    go_ret2
    exact asked_mk Hgr1.out hgr hbw hown

/-- what a closure answers that looks at a read: p, and nothing is changed -/
def Tells (k : FuncId) (caps : Array Value) (B : Nat) (w : World) (p : Rd → Bool) : Prop :=
  ∀ (W : World) (r : Rd), Below B w W → Calls Try.prog k (#[.agg #[.int .u64 r.id, .int .u64 r.index, .int .u64 r.round]] ++ caps) W fun e W' => e = .returned (.bool (p r)) ∧ Below W.heap.size W W'

theorem drop_tells (B : Nat) (w : World) : Tells 24 #[] B w (fun _ => true) := by
  intro W r _
  simp only [Array.append_empty]
  go_enter Try.func24, Try.ntmps24
  go_wp2
  go_ret
  exact ⟨rfl, below_new _ _⟩

/-- can it be answered? -/
def ripe (sure applied : Int) (r : Rd) : Bool := decide (r.round ≤ sure) && decide (r.index ≤ applied)

theorem take_tells (B : Nat) (w : World) (b c1 c2 : Nat) (begun sure applied : Int) (ao : Option Addr) (n cap : Nat) (hb : b < B) (hq : Q w b true begun sure ao n cap)
    (hc1 : c1 < B) (h1 : w.cell? ⟨c1, 0, none⟩ = some (.pointer (some ⟨b, 0, none⟩))) (hc2 : c2 < B) (h2 : w.cell? ⟨c2, 0, none⟩ = some (.int .u64 applied)) :
    Tells 23 #[.pointer (some ⟨c1, 0, none⟩), .pointer (some ⟨c2, 0, none⟩)] B w (ripe sure applied) := by
  intro W r hW
  have k1 := (hW.cell (p := ⟨c1, 0, none⟩) hc1).trans h1
  have k2 := (hW.cell (p := ⟨c2, 0, none⟩) hc2).trans h2
  have ks := block_cell ((hW.block b hb).trans hq) 2
  simp at ks
  have z1 := cell?_lt k1
  have z2 := cell?_lt k2
  have z3 := cell?_lt ks
  have hr : ripe sure applied r = (decide (r.round ≤ sure) && decide (r.index ≤ applied)) := rfl
  have Hr := Lib.hid hr
  clear hr
  obtain ⟨id, index, round⟩ := r
  simp only at Hr ⊢
  by_cases g1 : round ≤ sure
  · have g1' : decide (round ≤ sure) = true := by simpa using g1
    rw [g1'] at Hr
    show Calls Try.prog 23 #[.agg #[.int .u64 id, .int .u64 index, .int .u64 round], .pointer (some ⟨c1, 0, none⟩), .pointer (some ⟨c2, 0, none⟩)] W _
    go_enter Try.func23, Try.ntmps23
    go_wp2
    go_quiet (fail)
    go_wp2
    go_ret
    exact ⟨ret_bool (by rw [Hr.out]; simp), below_drewN (below_new _ _) _⟩
  · have g1' : decide (round ≤ sure) = false := by simpa using g1
    rw [g1'] at Hr
    show Calls Try.prog 23 #[.agg #[.int .u64 id, .int .u64 index, .int .u64 round], .pointer (some ⟨c1, 0, none⟩), .pointer (some ⟨c2, 0, none⟩)] W _
    go_enter Try.func23, Try.ntmps23
    go_wp2
    go_quiet (fail)
    go_wp2
    go_ret
    exact ⟨ret_bool (by rw [Hr.out]; simp), below_drewN (below_new _ _) _⟩
end Go.Proofs.Ytiboaafelabpfaa
