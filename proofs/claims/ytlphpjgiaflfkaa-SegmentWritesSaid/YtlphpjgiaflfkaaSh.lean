/- segment.Head and segment.Line. No statement of the seat is proved here. -/
import Derived.Test.YtlphpjgiaflfkaaQv
import Derived.Test.YtlphpjgiaflfkaaSg
import Derived.Test.YtlphpjgiaflfkaaFrameC
namespace Go.Proofs.Ytlphpjgiaflfkaa
set_option linter.unusedVariables false
set_option linter.unusedSimpArgs false
set_option linter.unusedSectionVars false
open Go Go.RowKit Go.Shelf

def headB (n : Nat) : List UInt8 := Fr.wrapped 1 (numB n)
def lineN (index term kind : Nat) (d : List UInt8) : List UInt8 := numsB [index, term, kind] ++ (numB d.length ++ d)
def lineB (index term kind : Nat) (d : List UInt8) : List UInt8 := Fr.wrapped 2 (lineN index term kind d)
theorem lineN_len (i t k : Nat) (d : List UInt8) (hi : i < 2 ^ 64) (ht : t < 2 ^ 64) (hk : k < 2 ^ 64) (hd : d.length ≤ 1000000) : (lineN i t k d).length ≤ d.length + 36 := by
  have h1 := numsB_len [i, t, k] (by intro n hn; simp at hn; rcases hn with rfl | rfl | rfl <;> assumption)
  have h2 := numB_len d.length (by omega)
  simp at h1
  unfold lineN
  simp
  omega
/-- a new writer -/
theorem Wr.new (w : World) : Wr (w.alloc (.cells #[.slice none 0 0] 99)) w.heap.size w.heap.size (.slice none 0 0) [] :=
  ⟨heap_alloc_new _ _, World.ownsRow_nil _ _ _ _, Nat.le_refl _, by simp [Value.ownBlock], by simp⟩
theorem Wr.below_of {w W W' : World} {base p : Nat} {v : Value} {l : List UInt8} (h : Wr W base p v l) (hf : FrO W.heap.size p v W W') (hb : Below w.heap.size w W) (hp : w.heap.size ≤ base) : Below w.heap.size w W' :=
  hf.below_of hb hb.size (Nat.le_trans hp h.le) (fun k e => Nat.le_trans hp (h.own.lt k e).1)
set_option maxRecDepth 100000 in
set_option maxHeartbeats 2000000 in
theorem segHead_any (n : Nat) (hn : n < 2 ^ 64) (w : World) :
    Calls Try.prog 31 #[.int .u64 (n : Nat)] w fun e w' => ∃ ao cap, e = .returned (.slice ao (headB n).length cap) ∧ Fresh w w' ao cap (headB n) := by
  have hnl := numB_len n hn
  have hns : numsB [n] = numB n := by simp [numsB]
  have hB1 := below_new w (.cells #[.slice none 0 0] 99)
  have hw1 := Wr.new w
  obtain ⟨W1, hW1⟩ : ∃ W1, W1 = w.alloc (.cells #[.slice none 0 0] 99) := ⟨_, rfl⟩
  rw [← hW1] at hB1 hw1
  obtain ⟨W2, hW2⟩ : ∃ W2, W2 = W1.alloc (.cells #[.int .u64 (n : Int)] 24) := ⟨_, rfl⟩
  have hB2 : Below W1.heap.size W1 W2 := by rw [hW2]; exact below_new _ _
  have hz1 : W1.heap.size = w.heap.size + 1 := by rw [hW1]; exact World.size_alloc _ _
  have hus : Us W2 (some ⟨W1.heap.size, 0, none⟩) 1 [n] := by rw [hW2]; exact Us.lit [n] #[.int .u64 (n : Int)] _ rfl (by simp)
  have hnum := num_any [n] (by simpa using hn) (some ⟨W1.heap.size, 0, none⟩) 1 (hw1.below hB2) (by simp) hus (fun a e => by cases e; exact ⟨by simp only; omega, fun e => by cases e⟩)
  rw [hns, List.nil_append, hz1] at hnum
  have Hnum := Lib.hid hnum
  have hwr2 := hw1.below hB2
  have hBw2 := below_on hB1 hB2 (by omega)
  have Hz1 := Lib.hid hz1
  clear hnum hus hns hz1
  go_enter Try.func31, Try.ntmps31
  go_wp2_with fail
  rw [← hW1, ← hW2]
  clear hW1 hW2
  refine Hnum.out.mono ?_
  rintro e W3 ⟨rfl, v3, hwr3, hfr3, hv3⟩
  have hBw3 := hwr2.below_of hfr3 hBw2 (Nat.le_refl _)
  have hby := bytes_wr hwr3 (by omega)
  have Hby := Lib.hid hby
  clear hby
  go_wp2_with fail
  refine Hby.out.mono ?_
  rintro e W4 ⟨a4, c4, rfl, hown4, hB4⟩
  have hBw4 := below_on hBw3 hB4 (Nat.le_refl _)
  have hwrap := wrap_ok 1 a4 c4 (numB n) W4 (Bs.of_own hown4) (by decide) (by omega)
  rw [show (((1 : UInt8).toNat : Nat) : Int) = 1 from rfl] at hwrap
  have Hwrap := Lib.hid hwrap
  clear hwrap
  go_wp2_with fail
  refine Hwrap.out.mono ?_
  rintro e W5 ⟨a5, c5, rfl, hfr5⟩
  go_wp2_with fail
  go_ret
  exact ⟨a5, c5, rfl, own_base hfr5.own hBw4.size, below_on hBw4 hfr5.bel (Nat.le_refl _)⟩
set_option maxRecDepth 100000 in
set_option maxHeartbeats 2000000 in
theorem segLine_bad (i : Int) (x1 x2 : Int) (ad : Option Addr) (cd : Nat) (d : List UInt8) (w : World) (hs : soundE ⟨x1, x2, d⟩ = false) :
    Calls Try.prog 32 #[.int .u64 i, .agg #[.int .u64 x1, .int .i64 x2, .slice ad d.length cd]] w fun e w' => e = .returned (.tuple #[.slice none 0 0, .int .i64 2]) ∧ Below w.heap.size w w' := by
  have hsnd := fun W => sound_e x1 x2 ad d.length cd d rfl W
  rw [hs] at hsnd
  have Hsnd := Lib.hid hsnd
  clear hsnd hs
  have hB1 := below_new w (.cells #[.int .u64 x1, .int .i64 x2, .slice ad d.length cd] 38)
  go_enter Try.func32, Try.ntmps32
  go_wp2_with fail
  refine (Hsnd.out _).mono ?_
  rintro e w2 ⟨rfl, hB2⟩
  go_wp2_with fail
  go_ret2
  exact ⟨rfl, below_on hB1 hB2 (Nat.le_refl _)⟩
set_option maxRecDepth 100000 in
set_option maxHeartbeats 2000000 in
theorem segLine_ok (i t k : Nat) (hi : i < 2 ^ 64) (ad : Option Addr) (cd : Nat) (d : List UInt8) (w : World) (hd : Bs w ad cd d) (hs : soundE ⟨(t : Nat), (k : Nat), d⟩ = true) :
    Calls Try.prog 32 #[.int .u64 (i : Nat), .agg #[.int .u64 (t : Nat), .int .i64 (k : Nat), .slice ad d.length cd]] w fun e w' => ∃ ao cap, e = .returned (.tuple #[.slice ao (lineB i t k d).length cap, .int .i64 0]) ∧ Fresh w w' ao cap (lineB i t k d) := by
  obtain ⟨s1, s2, s3, s4, s5⟩ := soundE_iff.1 hs
  simp only at s1 s2 s3 s4 s5
  have hsnd := fun W => sound_e (t : Nat) (k : Nat) ad d.length cd d rfl W
  rw [hs] at hsnd
  have Hsnd := Lib.hid hsnd
  have ht : t < 2 ^ 64 := by omega
  have hk : k < 2 ^ 64 := by omega
  have hall : ∀ n ∈ [i, t, k], n < 2 ^ 64 := by intro n hn; simp at hn; rcases hn with rfl | rfl | rfl <;> assumption
  have hnl := numsB_len [i, t, k] hall
  have hln := lineN_len i t k d hi ht hk (by omega)
  have wk : IntKind.u64.wrap (k : Int) = (k : Int) := IntWalk.u64_in _ (by omega)
  simp at hnl
  have hdl : d.length ≤ 4096 := s5
  clear hsnd hs s1 s2 s3 s4 s5
  obtain ⟨W1, hW1⟩ : ∃ W1, W1 = w.alloc (.cells #[.int .u64 (t : Nat), .int .i64 (k : Nat), .slice ad d.length cd] 38) := ⟨_, rfl⟩
  have hB1 : Below w.heap.size w W1 := by rw [hW1]; exact below_new _ _
  have k1 : W1.heap[w.heap.size]? = some (.cells #[.int .u64 (t : Nat), .int .i64 (k : Nat), .slice ad d.length cd] 38) := by rw [hW1]; exact heap_alloc_new _ _
  have z1 : w.heap.size < W1.heap.size := (Array.getElem?_eq_some_iff.1 k1).1
  have p0 : W1.cell? ⟨w.heap.size, 0, none⟩ = some (.int .u64 (t : Nat)) := block_cell k1 0
  have p1 : W1.cell? ⟨w.heap.size, 1, none⟩ = some (.int .i64 (k : Nat)) := block_cell k1 1
  have p2 : W1.cell? ⟨w.heap.size, 2, none⟩ = some (.slice ad d.length cd) := block_cell k1 2
  go_enter Try.func32, Try.ntmps32
  go_wp2_with fail
  rw [← hW1]
  clear hW1
  go_wp2_with fail
  refine (Hsnd.out _).mono ?_
  rintro e W2 ⟨rfl, hB2⟩
  have k2 := (hB2.block _ z1).trans k1
  have hBw2 := below_on hB1 hB2 (Nat.le_refl _)
  have z2 := hB2.size
  clear p0 p1 p2 Hsnd
  have hB3 := below_new W2 (.cells #[.slice none 0 0] 99)
  have hw3 := Wr.new W2
  obtain ⟨W3, hW3⟩ : ∃ W3, W3 = W2.alloc (.cells #[.slice none 0 0] 99) := ⟨_, rfl⟩
  have e3 : W3.heap.size = W2.heap.size + 1 := by rw [hW3]; exact World.size_alloc _ _
  rw [← hW3] at hB3 hw3
  have k3 := (hB3.block _ (by omega)).trans k2
  have p0 : W2.cell? ⟨w.heap.size, 0, none⟩ = some (.int .u64 (t : Nat)) := block_cell k2 0
  have p1 : W2.cell? ⟨w.heap.size, 1, none⟩ = some (.int .i64 (k : Nat)) := block_cell k2 1
  have q2 : w.heap.size < W2.heap.size := by omega
  have q3 : w.heap.size < W3.heap.size := by omega
  obtain ⟨W4, hW4⟩ : ∃ W4, W4 = W3.alloc (.cells #[.int .u64 (i : Int), .int .u64 (t : Int), .int .u64 (k : Int)] 24) := ⟨_, rfl⟩
  have hB4 : Below W3.heap.size W3 W4 := by rw [hW4]; exact below_new _ _
  have hus : Us W4 (some ⟨W3.heap.size, 0, none⟩) 3 [i, t, k] := by rw [hW4]; exact Us.lit [i, t, k] #[.int .u64 (i : Int), .int .u64 (t : Int), .int .u64 (k : Int)] _ rfl (by simp)
  have hnum := num_any [i, t, k] hall (some ⟨W3.heap.size, 0, none⟩) 3 (hw3.below hB4) (by simp) hus (fun a e => by cases e; exact ⟨by simp only; omega, fun e => by cases e⟩)
  rw [List.nil_append, e3] at hnum
  have Hnum := Lib.hid hnum
  have hwr4 := hw3.below hB4
  have hBw4 := below_on (below_on hBw2 hB3 (Nat.le_refl _)) hB4 (by have := hB3.size; omega)
  have k4 := (hB4.block _ q3).trans k3
  have E3 := Lib.hid e3
  clear hnum hus e3 k1 k2 hall
  go_wp2_with fail
  rw [← hW3, ← hW4]
  clear hW3 hW4 p0 p1
  refine Hnum.out.mono ?_
  rintro e W5 ⟨rfl, v5, hwr5, hfr5, hv5⟩
  have hBw5 := hwr4.below_of hfr5 hBw4 (by omega)
  have k5 := (hfr5.block _ (by have := hB4.size; omega) (by omega) (fun e => by cases e)).trans k4
  have p2 : W5.cell? ⟨w.heap.size, 2, none⟩ = some (.slice ad d.length cd) := block_cell k5 2
  have hcv := conv_any (hd.below hBw5)
  have htx := wtext_any (d := d) hwr5 (by omega)
  have Htx := Lib.hid htx
  have z5 : w.heap.size < W5.heap.size := (Array.getElem?_eq_some_iff.1 k5).1
  clear htx Hnum hwr4 hfr5 k4 k3
  go_wp2_with fail
  refine Htx.out.mono ?_
  rintro e W6 ⟨rfl, v6, hwr6, hfr6, hv6⟩
  have hBw6 := hwr5.below_of hfr6 hBw5 (by omega)
  rw [show numsB [i, t, k] ++ (numB d.length ++ d) = lineN i t k d from rfl] at hwr6
  have hby := bytes_wr hwr6 (by omega)
  have Hby := Lib.hid hby
  clear hby hcv p2
  go_wp2_with fail
  refine Hby.out.mono ?_
  rintro e W7 ⟨a7, c7, rfl, hown7, hB7⟩
  have hBw7 := below_on hBw6 hB7 (Nat.le_refl _)
  have hwrap := wrap_ok 2 a7 c7 (lineN i t k d) W7 (Bs.of_own hown7) (by decide) (by omega)
  rw [show (((2 : UInt8).toNat : Nat) : Int) = 2 from rfl] at hwrap
  have Hwrap := Lib.hid hwrap
  clear hwrap
  go_wp2_with fail
  refine Hwrap.out.mono ?_
  rintro e W8 ⟨a8, c8, rfl, hfr8⟩
  go_wp2_with fail
  go_ret2
  exact ⟨a8, c8, rfl, own_base hfr8.own hBw7.size, below_on hBw7 hfr8.bel (Nat.le_refl _)⟩
end Go.Proofs.Ytlphpjgiaflfkaa
