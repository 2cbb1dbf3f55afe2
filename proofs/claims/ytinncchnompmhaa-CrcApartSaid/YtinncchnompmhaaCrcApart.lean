/- The walk of the law CrcApart. -/
import Derived.Test.YtinncchnompmhaaCrcO
namespace Go.Proofs.Ytinncchnompmhaa
open Go Go.RowKit

theorem grown_trans {w w' w'' : World} {row : Option Nat} (h : w.grownBy w' row) (h2 : w'.grownBy w'' row) : w.grownBy w'' row :=
  ⟨h2.os.trans h.os, h2.tape.trans h.tape, h2.output.trans h.output, Nat.le_trans h.size h2.size, fun k hk hne => (h2.block k (Nat.lt_of_lt_of_le hk h.size) hne).trans (h.block k hk hne)⟩

/-- cells of an owned slice are written one by one -/
def Wiping (w0 wr : World) (base n : Nat) (v : Value) : Prop := ∃ xs, wr.ownsRow base 5 1 v n xs ∧ w0.grownBy wr v.ownBlock
theorem Wiping.cell {w0 wr : World} {base n cap : Nat} {ao : Option Addr} (h : Wiping w0 wr base n (.slice ao n cap)) (k : Nat) (hk : k < n) :
    ∃ g u, ao = some ⟨g, 0, none⟩ ∧ wr.cell? ⟨g, k, none⟩ = some u ∧ wr.frozen? ⟨g, k, none⟩ = false ∧ ∀ x, Wiping w0 (wr.setCell ⟨g, k, none⟩ x) base n (.slice ao n cap) := by
  obtain ⟨xs, h1, h2⟩ := h
  have hl := h1.1
  obtain ⟨g, rfl⟩ : ∃ g, ao = some ⟨g, 0, none⟩ := by
    rcases h1.2 with ⟨_, hn⟩ | ⟨g, cap', cur, hv, _⟩
    · omega
    · simp only [Value.slice.injEq] at hv
      exact ⟨g, hv.1⟩
  have hc := h1.cellAt k (by omega)
  rw [List.getElem?_eq_getElem (by omega)] at hc
  exact ⟨g, _, rfl, hc, h1.frozenAt k, fun x => ⟨_, (h1.stored k x).1, grown_trans h2 (h1.stored k x).2⟩⟩

theorem crcApart_far (ao : Option Addr) (cap : Nat) (a : List UInt8) (x : Int) (w : World) (h : 500 < a.length) :
    Calls Try.prog 6 #[.slice ao a.length cap, .int .u8 x] w fun e w' => e = .returned (.bool true) ∧ Below w.heap.size w w' := by
  go_enter Try.func6, Try.ntmps6
  go_wp2_with (go_at_call 12; refine (lives_any _).mono ?_; rintro e w1 ⟨rfl, hb1⟩)
  go_ret
  exact ⟨rfl, hb1⟩

set_option maxHeartbeats 1000000 in
theorem crcApart_near (ao : Option Addr) (cap : Nat) (a : List UInt8) (x : Int) (w : World) (hb : Bs w ao cap a) (ha : ¬ 500 < a.length) :
    Calls Try.prog 6 #[.slice ao a.length cap, .int .u8 x] w fun e w' => e = .returned (.bool true) ∧ Below w.heap.size w w' := by
  have hsl := Crc.sealed_length a
  have hos := Crc.opened_sealed a
  generalize hsg : Crc.sealed a = sa at *
  have Hsg := Lib.hid hsg
  clear hsg
  have hs2 : (sa.length : Int) ≤ 503 := by omega
  have Hos := Lib.hid hos
  clear hsl hos
  have hB0 := below_new w (.cells #[] 5)
  go_enter Try.func6, Try.ntmps6
  go_wp2_with (first
    | (at_builtin; refine wpl_append_bs rfl (.tmp 15) (.tmp 16) 25 rfl w.heap.size 5 infoU8 Try.underlying25 _ _ [] rfl (own_empty w w.heap.size _ 1 (Nat.le_refl _)) _ _ a rfl (hb.below hB0) (by simp; omega) hB0.size ?_; intro ao1 cap1 l1 w1 hl1 hown1 hg1; have hB1 := below_app hB0 hg1 (own_empty w w.heap.size _ 1 (Nat.le_refl _)) (Nat.le_refl _) hB0.size; obtain rfl : l1 = a := hl1.out)
    | fail)
  refine (seal_any ao1 cap1 l1 w1 (by omega) (Bs.of_own hown1)).mono ?_
  rintro e w2 ⟨aS, cs, rfl, hf2⟩
  rw [Hsg.out] at hf2 ⊢
  go_wp2_with fail
  refine (open_yes aS cs sa l1 w2 (by omega) (Bs.of_own hf2.own) Hos.out).mono ?_
  rintro e w3 ⟨ab, cb, rfl, hf3⟩
  have hB3 := below_on (below_on hB1 hf2.bel (Nat.le_refl _)) hf3.bel (Nat.le_refl _)
  have hown3 := own_below (own_below hown1 hf2.bel) hf3.bel
  have hs3 := own_below hf2.own hf3.bel
  have hb3 := hf3.own
  have hz1 := hown1.lt
  have hz2 := hf2.own.lt
  have hz3 := hf3.own.lt
  have d1 : (Value.slice ab l1.length cb).ownBlock = none ∨ (Value.slice ab l1.length cb).ownBlock ≠ (Value.slice ao1 l1.length cap1).ownBlock := by
    cases h : (Value.slice ab l1.length cb).ownBlock with
    | none => exact .inl rfl
    | some k =>
      refine .inr fun e => ?_
      have := hz3 k h; have := hz1 k e.symm; have := hf2.bel.size; omega
  have d2 : (Value.slice ab l1.length cb).ownBlock = none ∨ (Value.slice ab l1.length cb).ownBlock ≠ (Value.slice aS sa.length cs).ownBlock := by
    cases h : (Value.slice ab l1.length cb).ownBlock with
    | none => exact .inl rfl
    | some k =>
      refine .inr fun e => ?_
      have := hz3 k h; have := hz2 k e.symm; omega
  have d3 : (Value.slice aS sa.length cs).ownBlock = none ∨ (Value.slice aS sa.length cs).ownBlock ≠ (Value.slice ao1 l1.length cap1).ownBlock := by
    cases h : (Value.slice aS sa.length cs).ownBlock with
    | none => exact .inl rfl
    | some k =>
      refine .inr fun e => ?_
      have := hz2 k h; have := hz1 k e.symm; omega
  have hw1 : ∀ k, (Value.slice ao1 l1.length cap1).ownBlock = some k → w.heap.size ≤ k := fun k h => (hz1 k h).1
  have hw2 : ∀ k, (Value.slice aS sa.length cs).ownBlock = some k → w.heap.size ≤ k := fun k h => by have := hz2 k h; have := hB1.size; omega
  clear hz1 hz2 hz3 hf2 hf3 hown1
  have Hd1 := Lib.hid d1
  have Hd2 := Lib.hid d2
  have Hd3 := Lib.hid d3
  have Hw1 := Lib.hid hw1
  have Hw2 := Lib.hid hw2
  clear d1 d2 d3 hw1 hw2
  go_wp2_with fail
  go_loopw [27] (fun v wr => ∃ i : Nat, i ≤ l1.length ∧ v = .int .i64 i ∧ Wiping w3 wr w.heap.size l1.length (.slice ao1 l1.length cap1)) (fun v _ => l1.length - (intOf v).toNat)
  case atStart => exact ⟨0, by omega, rfl, _, hown3, World.grownBy.refl _ _⟩
  case round =>
    obtain ⟨i, hi, rfl, hR⟩ := hrel
    by_cases hlt : i < l1.length
    · obtain ⟨g, u, rfl, hc, hfr, hnx⟩ := hR.cell i hlt
      go_wp2
      go_roundw
      case rel => exact ⟨i + 1, by omega, by go_num, hnx _⟩
      case measure => simp [intOf]; omega
    · obtain rfl : i = l1.length := by omega
      obtain ⟨xs, hx1, hx2⟩ := hR
      have hb4 := hb3.kept hx2 Hd1.out
      have hs4 := hs3.kept hx2 Hd3.out
      have hB4 := hB3.grown hx2 hB3.size Hw1.out
      clear hx1
      go_wp2_with fail
      go_loopw [37] (fun v w5 => ∃ i : Nat, i ≤ sa.length ∧ v = .int .i64 i ∧ Wiping wr w5 w1.heap.size sa.length (.slice aS sa.length cs)) (fun v _ => sa.length - (intOf v).toNat)
      case atStart => exact ⟨0, by omega, rfl, _, hs4, World.grownBy.refl _ _⟩
      case round =>
        obtain ⟨i, hi, rfl, hR⟩ := hrel
        by_cases hlt : i < sa.length
        · obtain ⟨g, u, rfl, hc, hfr, hnx⟩ := hR.cell i hlt
          go_wp2
          go_roundw
          case rel => exact ⟨i + 1, by omega, by go_num, hnx _⟩
          case measure => simp [intOf]; omega
        · obtain rfl : i = sa.length := by omega
          obtain ⟨ys, hy1, hy2⟩ := hR
          have hb5 := hb4.kept hy2 Hd2.out
          have hB5 := hB4.grown hy2 hB4.size Hw2.out
          have c1 := conv_any (Bs.of_own hb5)
          have c2 := conv_any (hb.below hB5)
          clear hy1 hb5
          go_wp2_with fail
          refine (lives_any _).mono ?_
          rintro e w6 ⟨rfl, hB6⟩
          go_wp2_with fail
          go_ret
          exact ⟨rfl, below_on hB5 hB6 (Nat.le_refl _)⟩

theorem crcApart_walk (ao : Option Addr) (cap : Nat) (a : List UInt8) (x : Int) (w : World) (hb : Bs w ao cap a) (_h0 : 0 ≤ x) (_h1 : x ≤ 255) :
    Calls Try.prog 6 #[.slice ao a.length cap, .int .u8 x] w fun e w' => e = .returned (.bool true) ∧ Below w.heap.size w w' := by
  by_cases h : 500 < a.length
  · exact crcApart_far ao cap a x w h
  · exact crcApart_near ao cap a x w hb h
end Go.Proofs.Ytinncchnompmhaa
