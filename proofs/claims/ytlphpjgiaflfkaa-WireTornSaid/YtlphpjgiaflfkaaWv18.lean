/- Lemmas for WireReads (Ng). No statement of the seat is proved here. -/
import Derived.Test.YtlphpjgiaflfkaaWv17
namespace Go.Proofs.Ytlphpjgiaflfkaa
set_option linter.unusedVariables false
set_option linter.unusedSimpArgs false
set_option linter.unusedSectionVars false
open Go Go.RowKit Go.Shelf
/-- what Get tells -/
def GetTold (TR : TypeId) (W0 : World) (p : Nat) (r : Sn × St) (W : World) (e : Ending) (W' : World) : Prop :=
  ∃ mo mc ao ac, e = .returned (.agg #[.int .u64 r.1.index, .int .u64 r.1.term, .slice mo r.1.members.length mc, .slice ao r.1.data.length ac]) ∧ IzT W' mo mc r.1.members ∧ BsT W' ao ac r.1.data ∧ RdS TR W0 W' p r.2
set_option maxRecDepth 100000 in
set_option maxHeartbeats 8000000 in
theorem refGet_any {W0 W : World} {p : Nat} {s0 : St} (h : RdS 78 W0 W p s0) (hl : s0.1.length ≤ 70000000000000) :
    Calls Try.prog 115 #[.pointer (some ⟨p, 0, none⟩)] W (GetTold 78 W0 p (gSn 6 s0) W) := by
  have hN : ∀ W s, RdS 78 W0 W p s → _ := fun W s h => rds_refNum 576460752303423488 (by decide) h
  have HN1 := Lib.hid hN
  have hN2 : ∀ W s, RdS 78 W0 W p s → _ := fun W s h => rds_refNum 1152921504606846976 (by decide) h
  have HN2 := Lib.hid hN2
  have hN3 : ∀ W s, RdS 78 W0 W p s → _ := fun W s h => rds_refNum 7 (by decide) h
  have HN3 := Lib.hid hN3
  have hN4 : ∀ W s, RdS 78 W0 W p s → _ := fun W s h => rds_refNum 6 (by decide) h
  have HN4 := Lib.hid hN4
  clear hN hN2 hN3 hN4
  obtain ⟨⟨xi, s1⟩, hs1⟩ : ∃ r, r = gN 576460752303423488 s0 := ⟨_, rfl⟩
  obtain ⟨⟨xt, s2⟩, hs2⟩ : ∃ r, r = gN 1152921504606846976 s1 := ⟨_, rfl⟩
  obtain ⟨⟨xn, s3⟩, hs3⟩ : ∃ r, r = gN 7 s2 := ⟨_, rfl⟩
  have hxn : xn ≤ 7 := by have := gN_le 7 s2; rw [← hs3] at this; exact this
  have Hs1 := Lib.hid hs1
  have Hs2 := Lib.hid hs2
  have Hs3 := Lib.hid hs3
  obtain ⟨R, hR⟩ : ∃ R, R = gSn 6 s0 := ⟨_, rfl⟩
  rw [← hR]
  have HR := Lib.hid hR
  have wn : IntKind.i64.wrap (xn : Int) = (xn : Int) := IntWalk.i64_in _ (by omega)
  have hpz := h.lt
  have hbel0 := h.bel.size
  clear hs1 hs2 hs3 hR
  -- the result's block, the snapshot's block
  obtain ⟨W1, hW1⟩ : ∃ W1, W1 = W.alloc (.cells #[.int .u64 0, .int .u64 0, .slice none 0 0, .slice none 0 0] 47) := ⟨_, rfl⟩
  have hB1 : Below W.heap.size W W1 := by rw [hW1]; exact below_new _ _
  have k1 : W1.heap[W.heap.size]? = some (.cells #[.int .u64 0, .int .u64 0, .slice none 0 0, .slice none 0 0] 47) := by rw [hW1]; exact heap_alloc_new _ _
  have e1 : W1.heap.size = W.heap.size + 1 := by rw [hW1]; exact World.size_alloc _ _
  obtain ⟨q, hq⟩ : ∃ q, q = W.heap.size + 1 := ⟨_, rfl⟩
  obtain ⟨W2, hW2⟩ : ∃ W2, W2 = W1.alloc (.cells #[.int .u64 0, .int .u64 0, .slice none 0 0, .slice none 0 0] 47) := ⟨_, rfl⟩
  have hB2 : Below W1.heap.size W1 W2 := by rw [hW2]; exact below_new _ _
  have k2 : W2.heap[q]? = some (.cells #[.int .u64 0, .int .u64 0, .slice none 0 0, .slice none 0 0] 47) := by rw [hW2, hq, ← e1]; exact heap_alloc_new _ _
  have kr2 := (hB2.block _ (by omega)).trans k1
  have hrs2 := (h.below hB1).below hB2
  have hqz : W0.heap.size ≤ q := by rw [hq]; omega
  have hqp : q ≠ p := by rw [hq]; omega
  have hqr : q ≠ W.heap.size := by rw [hq]; omega
  have hrz : W0.heap.size ≤ W.heap.size := hbel0
  have hrp : W.heap.size ≠ p := by omega
  clear k1 hB1 hB2 h
  go_enter Try.func115, Try.ntmps115
  go_upto_region 2 with fail
  rw [← hW1, ← hW2, ← hq]
  clear hW1 hW2 hq e1
  have hc1 := HN1.out _ _ hrs2
  rw [← Hs1.out] at hc1
  have Hc1 := Lib.hid hc1
  clear hc1
  have c0 := block_cell k2 0
  simp at c0
  go_wp2_with fail
  refine Hc1.out.mono ?_
  rintro e W3 ⟨rfl, hrs3, hg3⟩
  simp only at hrs3 ⊢
  have k3 := (hg3.block q (Array.getElem?_eq_some_iff.1 k2).1 (by simp; omega)).trans k2
  have kr3 := (hg3.block W.heap.size (Array.getElem?_eq_some_iff.1 kr2).1 (by simp; omega)).trans kr2
  clear k2 kr2 c0 hg3 hrs2
  have c0 := block_cell k3 0
  have f0 := block_free k3 0
  simp at c0
  have k4 := block_set k3 0 (.int .u64 (xi : Int))
  simp only [List.setIfInBounds_toArray, List.set_cons_zero, List.set_cons_succ] at k4
  have kr4 := ((grown_set W3 q 0 (.int .u64 (xi : Int))).block W.heap.size (Array.getElem?_eq_some_iff.1 kr3).1 (by simp; omega)).trans kr3
  have hrs4 := hrs3.store (i := 0) hqz hqp (.int .u64 (xi : Int))
  go_upto_region 3 with fail
  obtain ⟨W4, hW4⟩ : ∃ W4, W4 = W3.setCell ⟨q, 0, none⟩ (.int .u64 (xi : Int)) := ⟨_, rfl⟩
  rw [← hW4] at k4 kr4 hrs4 ⊢
  clear hW4 c0 f0 k3 kr3 hrs3
  have hc2 := HN2.out _ _ hrs4
  rw [← Hs2.out] at hc2
  have Hc2 := Lib.hid hc2
  clear hc2
  go_wp2_with fail
  refine Hc2.out.mono ?_
  rintro e W5 ⟨rfl, hrs5, hg5⟩
  simp only at hrs5 ⊢
  have k5 := (hg5.block q (Array.getElem?_eq_some_iff.1 k4).1 (by simp; omega)).trans k4
  have kr5 := (hg5.block W.heap.size (Array.getElem?_eq_some_iff.1 kr4).1 (by simp; omega)).trans kr4
  clear k4 kr4 hg5 hrs4
  have c1 := block_cell k5 1
  have f1 := block_free k5 1
  simp at c1
  have k6 := block_set k5 1 (.int .u64 (xt : Int))
  simp only [List.setIfInBounds_toArray, List.set_cons_zero, List.set_cons_succ] at k6
  have kr6 := ((grown_set W5 q 1 (.int .u64 (xt : Int))).block W.heap.size (Array.getElem?_eq_some_iff.1 kr5).1 (by simp; omega)).trans kr5
  have hrs6 := hrs5.store (i := 1) hqz hqp (.int .u64 (xt : Int))
  go_upto_region 4 with fail
  obtain ⟨W6, hW6⟩ : ∃ W6, W6 = W5.setCell ⟨q, 1, none⟩ (.int .u64 (xt : Int)) := ⟨_, rfl⟩
  rw [← hW6] at k6 kr6 hrs6 ⊢
  clear hW6 c1 f1 k5 kr5 hrs5
  have hc3 := HN3.out _ _ hrs6
  rw [← Hs3.out] at hc3
  have Hc3 := Lib.hid hc3
  clear hc3
  have hsn6 : SnA W0 W6 q xi xt none 0 [] := ⟨k6, World.ownsRow_nil _ _ _ _⟩
  go_wp2_with fail
  refine Hc3.out.mono ?_
  rintro e W7 ⟨rfl, hrs7, hg7⟩
  simp only at hrs7 ⊢
  have hsn7 := hsn6.grown hg7 hrs6.elem (by decide) (by decide)
  have kr7 := (hg7.block W.heap.size (Array.getElem?_eq_some_iff.1 kr6).1 (by simp; omega)).trans kr6
  clear k6 hsn6 hrs6 hg7 Hc1 Hc2 Hc3 kr6
  go_wp2_with fail
  go_loopw [5] (fun u wr => ∃ (k : Nat) (mo : Option Addr) (mc : Nat) (ml : List Int) (s' : St), u = .int .i64 (k : Nat) ∧ k ≤ xn ∧ Hid ((ml, s') = gMems 6 k s3) ∧ SnA W0 wr q xi xt mo mc ml ∧ RdS 78 W0 wr p s' ∧ wr.heap[W.heap.size]? = some (.cells #[.int .u64 0, .int .u64 0, .slice none 0 0, .slice none 0 0] 47)) (fun u _ => xn - (intOf u).toNat)
  case atStart => exact ⟨0, none, 0, [], s3, rfl, Nat.zero_le _, Lib.hid rfl, hsn7, hrs7, kr7⟩
  case round =>
    clear hsn7 hrs7 kr7
    obtain ⟨k, mo, mc, ml, s', rfl, hk, hms, hsn, hrs, kr⟩ := hrel
    have hmlk : ml.length = k := by have := gMems_len 6 k s3; rw [← hms.out] at this; exact this
    have hml7 : ml.length ≤ 7 := by omega
    have Hmlk := Lib.hid hmlk
    clear hmlk
    have i0 : (0 : Int) ≤ (k : Int) := by omega
    by_cases hlt : k < xn
    · have i1 : (k : Int) < (xn : Int) := by omega
      obtain ⟨⟨z, s4⟩, hz⟩ : ∃ r, r = gN 6 s' := ⟨_, rfl⟩
      have hz7 : z ≤ 6 := by have := gN_le 6 s'; rw [← hz] at this; exact this
      have hdr : Below wr.heap.size wr wr.drew := (Below.refl _ _).drew
      have hsnd := hsn.below hdr
      have hrsd := hrs.below hdr
      have krd := (hdr.block _ (Array.getElem?_eq_some_iff.1 kr).1).trans kr
      have hc := HN4.out _ _ hrsd
      rw [← hz] at hc
      have Hc := Lib.hid hc
      have Hz := Lib.hid hz
      have wz : IntKind.i64.wrap (z : Int) = (z : Int) := IntWalk.i64_in _ (by omega)
      have c2 : wr.cell? ⟨q, 2, none⟩ = some (.slice mo ml.length mc) := block_cell hsn.blk 2
      have helr := hrsd.elem
      have Hel := Lib.hid helr
      have hqw := (Array.getElem?_eq_some_iff.1 hsn.blk).1
      have hnext : ∀ s'', s'' = s4 → Hid ((ml ++ [(z : Int)], s'') = gMems 6 (k + 1) s3) := fun s'' e => by
        show _ = _
        subst e
        unfold gMems
        rw [← hms.out]
        simp only
        rw [← Hz.out]
      have Hnext := Lib.hid hnext
      have Krd := Lib.hid krd
      clear hz hc hnext helr krd kr
      go_upto_region 8 with fail
      go_region_law (first
        | (go_simp; go_at_call 43; refine Hc.out.mono ?_; rintro e w3 ⟨rfl, hrs3, hg3⟩; have hsn3 := hsnd.grown hg3 Hel.out (by decide) (by decide); have kr3 := (hg3.block W.heap.size (Array.getElem?_eq_some_iff.1 Krd.out).1 (by simp; omega)).trans Krd.out; have c3 : w3.cell? ⟨q, 2, none⟩ = some (.slice mo ml.length mc) := block_cell hsn3.blk 2; have hq3 := (Array.getElem?_eq_some_iff.1 hsn3.blk).1; have hsn3a := hsn3.below (below_new w3 (.cells #[.int .i64 (z : Int)] 3)); have hrs3a := hrs3.below (below_new w3 (.cells #[.int .i64 (z : Int)] 3)); have kr3a := ((below_new w3 (.cells #[.int .i64 (z : Int)] 3)).block _ (Array.getElem?_eq_some_iff.1 kr3).1).trans kr3; have hz3a := hrs3a.bel.size)
        | (refine step_append_one rfl (.tmp 21) (.tmp 25) 45 rfl W0.heap.size 3 infoInt Try.underlying45 rfl (by decide) _ ml.length (ml.map fun a => [Value.int .i64 a]) rfl hsn3a.own _ 1 [.int .i64 (z : Int)] rfl rfl (news_at _ rfl) (fun u hu => by simp at hu; subst hu; rfl) ?_ ?_ ?_ ?_; omega; (unfold maxLen; omega); exact hz3a; intro g4 c4 w4 how4 hg4 hlie; obtain ⟨kq4, hsn4⟩ := hsn3a.push hqz how4 hg4; have cc4 := block_cell kq4 2; have ff4 := block_free kq4 2; simp at cc4; have hrs4 := (hrs3a.app hsn3a.own (by decide) hg4).store (i := 2) hqz hqp (.slice (some ⟨g4, 0, none⟩) (ml.length + 1) c4); have kr4 := (hg4.block W.heap.size (Array.getElem?_eq_some_iff.1 kr3a).1 (fun e2 => (by have := own_elemE hsn3a.own _ e2.symm; rw [elem?_of kr3a] at this; exact absurd this (by decide)))).trans kr3a; have kr5 := ((grown_set w4 q 2 (.slice (some ⟨g4, 0, none⟩) (ml.length + 1) c4)).block W.heap.size (Array.getElem?_eq_some_iff.1 kr4).1 (by simp; omega)).trans kr4))
      all_goals
        go_wp2_with fail
        go_roundw
        case rel => exact ⟨k + 1, some ⟨g4, 0, none⟩, c4, ml ++ [(z : Int)], s4, by simp, by omega, Hnext.out _ rfl, hsn4, hrs4, kr5⟩
        case measure => simp [intOf]; omega
    · obtain rfl : k = xn := by omega
      obtain ⟨⟨d, s5⟩, hd⟩ : ∃ r, r = gT 32768 s' := ⟨_, rfl⟩
      have hdl : d.length ≤ 32768 := by have := gT_le 32768 s'; rw [← hd] at this; exact this
      have hs'l : s'.1.length ≤ 70000000000000 := by
        have a1 := gMems_bytes 6 k s3
        rw [← hms.out] at a1
        have a2 := gN_len 7 s2
        rw [← Hs3.out] at a2
        have a3 := gN_len 1152921504606846976 s1
        rw [← Hs2.out] at a3
        have a4 := gN_len 576460752303423488 s0
        rw [← Hs1.out] at a4
        simp only at a1 a2 a3 a4
        omega
      have hR3 : R = (⟨xi, xt, ml, d⟩, s5) := by
        rw [HR.out]
        unfold gSn
        simp only [← Hs1.out, ← Hs2.out, ← Hs3.out, ← hms.out, ← hd]
      have HR3 := Lib.hid hR3
      have hc := rds_refText 32768 (by decide) hrs hs'l
      rw [← hd] at hc
      have Hc := Lib.hid hc
      have Hd := Lib.hid hd
      clear hR3 hc hd HR hs'l i0
      go_wp2_with fail
      refine Hc.out.mono ?_
      rintro e W8 ⟨rfl, hrs8, hg8⟩
      have hsn8 := hsn.grown hg8 hrs.elem (by decide) (by decide)
      have kr8 := (hg8.block W.heap.size (Array.getElem?_eq_some_iff.1 kr).1 (by simp; omega)).trans kr
      obtain ⟨cd, W9, hcv, hbd9, hB9, hT9⟩ := bytes_of d (by unfold maxLen; omega) W8
      have hsn9 := hsn8.below hB9
      have hrs9 := hrs8.below hB9
      have kr9 := (hB9.block _ (Array.getElem?_eq_some_iff.1 kr8).1).trans kr8
      have hbt9 : BsT W9 (some ⟨W8.heap.size, 0, none⟩) cd d := ⟨hbd9, fun b off s e => by cases e; exact hT9⟩
      have c9 := block_cell hsn9.blk 3
      have f9 := block_free hsn9.blk 3
      simp at c9
      have k10 := block_set hsn9.blk 3 (.slice (some ⟨W8.heap.size, 0, none⟩) d.length cd)
      simp only [List.setIfInBounds_toArray, List.set_cons_zero, List.set_cons_succ] at k10
      have hgq := grown_set W9 q 3 (.slice (some ⟨W8.heap.size, 0, none⟩) d.length cd)
      have hrs10 := hrs9.store (i := 3) hqz hqp (.slice (some ⟨W8.heap.size, 0, none⟩) d.length cd)
      have kR := (hgq.block W.heap.size (Array.getElem?_eq_some_iff.1 kr9).1 (by simp; omega)).trans kr9
      have hbt10 := hbt9.grown hgq (elem?_of hsn9.blk) (by decide)
      have hit10 := (IzT.of_own hsn9.own).grown hgq (elem?_of hsn9.blk) (by decide)
      clear hsn hrs hg8 hsn8 hrs8 hbd9 hT9 hB9 hbt9 Hc hgq kr kr8 kr9
      simp only
      go_upto_region 10 with fail
      obtain ⟨W10, hW10⟩ : ∃ W10, W10 = W9.setCell ⟨q, 3, none⟩ (.slice (some ⟨W8.heap.size, 0, none⟩) d.length cd) := ⟨_, rfl⟩
      rw [← hW10] at k10 hrs10 hbt10 hit10 kR ⊢
      clear hW10 hcv c9 f9 hsn9 hrs9
      obtain ⟨q0, q1, q2, q3⟩ := (⟨block_cell k10 0, block_cell k10 1, block_cell k10 2, block_cell k10 3⟩ : W10.cell? ⟨q, 0, none⟩ = some (.int .u64 (xi : Int)) ∧ W10.cell? ⟨q, 1, none⟩ = some (.int .u64 (xt : Int)) ∧ W10.cell? ⟨q, 2, none⟩ = some (.slice mo ml.length mc) ∧ W10.cell? ⟨q, 3, none⟩ = some (.slice (some ⟨W8.heap.size, 0, none⟩) d.length cd))
      obtain ⟨cR0, cR1, cR2, cR3⟩ := (⟨block_cell kR 0, block_cell kR 1, block_cell kR 2, block_cell kR 3⟩ : W10.cell? ⟨W.heap.size, 0, none⟩ = some (.int .u64 0) ∧ W10.cell? ⟨W.heap.size, 1, none⟩ = some (.int .u64 0) ∧ W10.cell? ⟨W.heap.size, 2, none⟩ = some (.slice none 0 0) ∧ W10.cell? ⟨W.heap.size, 3, none⟩ = some (.slice none 0 0))
      have zR0 := block_free kR 0
      have zR1 := block_free kR 1
      have zR2 := block_free kR 2
      have zR3 := block_free kR 3
      have zR := (Array.getElem?_eq_some_iff.1 kR).1
      obtain ⟨kS, hgS⟩ := set4 kR (.int .u64 (xi : Int)) (.int .u64 (xt : Int)) (.slice mo ml.length mc) (.slice (some ⟨W8.heap.size, 0, none⟩) d.length cd)
      have u0 := block_cell kS 0
      have u1 := block_cell kS 1
      have u2 := block_cell kS 2
      have u3 := block_cell kS 3
      simp at u0 u1 u2 u3
      go_wp2_with fail
      refine bodyPost_ret (v := .agg #[.int .u64 (xi : Int), .int .u64 (xt : Int), .slice mo ml.length mc, .slice (some ⟨W8.heap.size, 0, none⟩) d.length cd]) (by simp [results, Try.results115, go_sem, u0, u1, u2, u3]) rfl ?_
      rw [HR3.out]
      exact ⟨mo, mc, _, cd, rfl, hit10.grown hgS (elem?_of kR) (by decide), hbt10.grown hgS (elem?_of kR) (by decide), hrs10.grown hgS (fun k e => by cases e; exact ⟨hrz, hrp⟩)⟩
set_option maxRecDepth 100000 in
set_option maxHeartbeats 8000000 in
theorem refSnapRead_any (ao : Option Addr) (cap : Nat) (l : List UInt8) (w : World) (hb : Bs w ao cap l) (hl : l.length ≤ 70000000000000) :
    Calls Try.prog 104 #[.slice ao l.length cap] w (SnTold (snR 6 l) w) := by
  obtain ⟨R, hR⟩ : ∃ R, R = snR 6 l := ⟨_, rfl⟩
  rw [← hR]
  have HR := Lib.hid hR
  clear hR
  obtain ⟨W1, hW1⟩ : ∃ W1, W1 = w.alloc (.cells #[.int .u64 0, .int .u64 0, .slice none 0 0, .slice none 0 0] 47) := ⟨_, rfl⟩
  have hB1 : Below w.heap.size w W1 := by rw [hW1]; exact below_new _ _
  have k1 : W1.heap[w.heap.size]? = some (.cells #[.int .u64 0, .int .u64 0, .slice none 0 0, .slice none 0 0] 47) := by rw [hW1]; exact heap_alloc_new _ _
  have Hwh := Lib.hid (refTake_any ao cap l W1 hl (hb.below hB1))
  have hlm : l.length ≤ 70000000000000 := hl
  go_enter Try.func104, Try.ntmps104
  go_upto_region 1 with fail
  rw [← hW1]
  clear hW1
  go_wp2_with fail
  refine Hwh.out.mono ?_
  rintro e W2 ⟨ab, cb, rfl, hbody, hB2⟩
  have k2 := (hB2.block _ (Array.getElem?_eq_some_iff.1 k1).1).trans k1
  have z2 := (Array.getElem?_eq_some_iff.1 k2).1
  have hBw2 := below_on hB1 hB2 (Nat.le_refl _)
  have hno : ∀ w', Below w.heap.size w w' → R = (sn0, false) → SnTold R w (.returned (.tuple #[.agg #[.int .u64 0, .int .u64 0, .slice none 0 0, .slice none 0 0], .bool false])) w' := fun w' hw h => by
    rw [h]; exact ⟨none, 0, none, 0, rfl, IzT.nil _, ⟨Bs.nil _, fun b off s e => by cases e⟩, hw⟩
  have Hno := Lib.hid hno
  clear hno k1 Hwh
  have hwf : Hid (wholeF 4 l ↔ ((Fr.take l).err = 0 ∧ (Fr.take l).kind = 4 ∧ (Fr.take l).n = l.length)) := by show _ ↔ _; unfold wholeF; exact ⟨fun h => ⟨h.1.1, h.2, h.1.2⟩, fun h => ⟨⟨h.1, h.2.2⟩, h.2.1⟩⟩
  obtain ⟨E, hE⟩ : ∃ E, E = (Fr.take l).err := ⟨_, rfl⟩
  obtain ⟨K, hK⟩ : ∃ K, K = (Fr.take l).kind := ⟨_, rfl⟩
  obtain ⟨N, hN⟩ : ∃ N, N = (Fr.take l).n := ⟨_, rfl⟩
  obtain ⟨body, hbd⟩ : ∃ body, body = (Fr.take l).body := ⟨_, rfl⟩
  have Hbd := Lib.hid hbd
  rw [← hE, ← hK, ← hN] at hwf ⊢
  rw [← hbd] at hbody ⊢
  clear hE hK hN hbd
  by_cases h1 : E = 0
  rotate_left
  · have n1 : ((E : Int) != 0) = true := by simp; omega
    have hnw : ¬ wholeF 4 l := fun h => h1 (hwf.out.1 h).1
    have hnr : R = (sn0, false) := by rw [HR.out]; unfold snR; rw [if_neg hnw]
    have HnoR := Lib.hid hnr
    have hbel := Below.refl W2.heap.size W2
    clear hnw hnr h1 HR
    have kR := (hbel.block _ z2).trans k2
    obtain ⟨cR0, cR1, cR2, cR3⟩ := (⟨block_cell kR 0, block_cell kR 1, block_cell kR 2, block_cell kR 3⟩ : W2.cell? ⟨w.heap.size, 0, none⟩ = some (.int .u64 0) ∧ W2.cell? ⟨w.heap.size, 1, none⟩ = some (.int .u64 0) ∧ W2.cell? ⟨w.heap.size, 2, none⟩ = some (.slice none 0 0) ∧ W2.cell? ⟨w.heap.size, 3, none⟩ = some (.slice none 0 0))
    have zR0 := block_free kR 0
    have zR1 := block_free kR 1
    have zR2 := block_free kR 2
    have zR3 := block_free kR 3
    have zR := (Array.getElem?_eq_some_iff.1 kR).1
    obtain ⟨kS, hgS⟩ := set4 kR (.int .u64 0) (.int .u64 0) (.slice none 0 0) (.slice none 0 0)
    have u0 := block_cell kS 0
    have u1 := block_cell kS 1
    have u2 := block_cell kS 2
    have u3 := block_cell kS 3
    simp at u0 u1 u2 u3
    go_wp2_with fail
    refine bodyPost_ret (v := .tuple #[.agg #[.int .u64 0, .int .u64 0, .slice none 0 0, .slice none 0 0], .bool false]) (by simp [results, Try.results104, go_sem, u0, u1, u2, u3]) rfl ?_
    exact Hno.out _ (grown_row (below_on hBw2 hbel (Nat.le_refl _)) hgS (Nat.le_refl _) (by omega)) HnoR.out
  subst h1
  by_cases h3 : K = 4
  rotate_left
  · have n3 := u8_ne h3
    rw [show (((4 : UInt8).toNat : Nat) : Int) = 4 from rfl] at n3
    have hnw : ¬ wholeF 4 l := fun h => h3 (hwf.out.1 h).2.1
    have hnr : R = (sn0, false) := by rw [HR.out]; unfold snR; rw [if_neg hnw]
    have HnoR := Lib.hid hnr
    have hbel := Below.refl W2.heap.size W2
    clear hnw hnr h3 HR
    have kR := (hbel.block _ z2).trans k2
    obtain ⟨cR0, cR1, cR2, cR3⟩ := (⟨block_cell kR 0, block_cell kR 1, block_cell kR 2, block_cell kR 3⟩ : W2.cell? ⟨w.heap.size, 0, none⟩ = some (.int .u64 0) ∧ W2.cell? ⟨w.heap.size, 1, none⟩ = some (.int .u64 0) ∧ W2.cell? ⟨w.heap.size, 2, none⟩ = some (.slice none 0 0) ∧ W2.cell? ⟨w.heap.size, 3, none⟩ = some (.slice none 0 0))
    have zR0 := block_free kR 0
    have zR1 := block_free kR 1
    have zR2 := block_free kR 2
    have zR3 := block_free kR 3
    have zR := (Array.getElem?_eq_some_iff.1 kR).1
    obtain ⟨kS, hgS⟩ := set4 kR (.int .u64 0) (.int .u64 0) (.slice none 0 0) (.slice none 0 0)
    have u0 := block_cell kS 0
    have u1 := block_cell kS 1
    have u2 := block_cell kS 2
    have u3 := block_cell kS 3
    simp at u0 u1 u2 u3
    go_wp2_with fail
    refine bodyPost_ret (v := .tuple #[.agg #[.int .u64 0, .int .u64 0, .slice none 0 0, .slice none 0 0], .bool false]) (by simp [results, Try.results104, go_sem, u0, u1, u2, u3]) rfl ?_
    exact Hno.out _ (grown_row (below_on hBw2 hbel (Nat.le_refl _)) hgS (Nat.le_refl _) (by omega)) HnoR.out
  subst h3
  rw [show (((4 : UInt8).toNat : Nat) : Int) = 4 from rfl]
  by_cases h2 : N = l.length
  rotate_left
  · have n2 : ((N : Int) != (l.length : Int)) = true := by simp; omega
    have hnw : ¬ wholeF 4 l := fun h => h2 (hwf.out.1 h).2.2
    have hnr : R = (sn0, false) := by rw [HR.out]; unfold snR; rw [if_neg hnw]
    have HnoR := Lib.hid hnr
    have hbel := Below.refl W2.heap.size W2
    clear hnw hnr h2 HR
    have kR := (hbel.block _ z2).trans k2
    obtain ⟨cR0, cR1, cR2, cR3⟩ := (⟨block_cell kR 0, block_cell kR 1, block_cell kR 2, block_cell kR 3⟩ : W2.cell? ⟨w.heap.size, 0, none⟩ = some (.int .u64 0) ∧ W2.cell? ⟨w.heap.size, 1, none⟩ = some (.int .u64 0) ∧ W2.cell? ⟨w.heap.size, 2, none⟩ = some (.slice none 0 0) ∧ W2.cell? ⟨w.heap.size, 3, none⟩ = some (.slice none 0 0))
    have zR0 := block_free kR 0
    have zR1 := block_free kR 1
    have zR2 := block_free kR 2
    have zR3 := block_free kR 3
    have zR := (Array.getElem?_eq_some_iff.1 kR).1
    obtain ⟨kS, hgS⟩ := set4 kR (.int .u64 0) (.int .u64 0) (.slice none 0 0) (.slice none 0 0)
    have u0 := block_cell kS 0
    have u1 := block_cell kS 1
    have u2 := block_cell kS 2
    have u3 := block_cell kS 3
    simp at u0 u1 u2 u3
    go_wp2_with fail
    refine bodyPost_ret (v := .tuple #[.agg #[.int .u64 0, .int .u64 0, .slice none 0 0, .slice none 0 0], .bool false]) (by simp [results, Try.results104, go_sem, u0, u1, u2, u3]) rfl ?_
    exact Hno.out _ (grown_row (below_on hBw2 hbel (Nat.le_refl _)) hgS (Nat.le_refl _) (by omega)) HnoR.out
  have hwh : wholeF 4 l := hwf.out.2 ⟨rfl, rfl, h2⟩
  have n2 : ((N : Int) != (l.length : Int)) = false := by simp; omega
  have HR2 : Hid (R = if doneR (gSn 6 (body, false)).2 = true ∧ soundSn (gSn 6 (body, false)).1 = true then ((gSn 6 (body, false)).1, true) else (sn0, false)) := by
    show _ = _
    rw [HR.out]; unfold snR; rw [if_pos hwh, ← Hbd.out]
  have hbl : body.length ≤ 70000000000000 := by
    have := (wrapped_of 4 l hwh).2; rw [← Hbd.out] at this; omega
  have hrs3 : RdS 78 W2 (W2.alloc (.cells #[.slice ab body.length cb, .bool false] 78)) W2.heap.size (body, false) := rds_box hbody
  obtain ⟨W3, hW3⟩ : ∃ W3, W3 = W2.alloc (.cells #[.slice ab body.length cb, .bool false] 78) := ⟨_, rfl⟩
  rw [← hW3] at hrs3
  obtain ⟨G, hG⟩ : ∃ G, G = gSn 6 (body, false) := ⟨_, rfl⟩
  rw [← hG] at HR2
  have hget := refGet_any hrs3 hbl
  rw [← hG] at hget
  obtain ⟨⟨gi, gt, ml, d⟩, s5⟩ := G
  have Hget := Lib.hid hget
  have hml7 : ml.length ≤ 7 := by
    have h0 : ml.length = (gSn 6 (body, false)).1.members.length := by rw [← hG]
    rw [h0]
    unfold gSn
    simp only [gMems_len]
    exact gN_le 7 _
  clear HR hwh h2 hwf hget hG hrs3 hbl Hbd hbody
  go_upto_region 5 with fail
  rw [← hW3]
  clear hW3 n2
  go_wp2_with fail
  refine Hget.out.mono ?_
  rintro e W4 ⟨mo, mc, ao4, ac, rfl, hit, hbt, hrs4⟩
  simp only at hit hbt hrs4 ⊢
  obtain ⟨q, hq⟩ : ∃ q, q = W4.heap.size := ⟨_, rfl⟩
  obtain ⟨W10, hW10⟩ : ∃ W10, W10 = W4.alloc (.cells #[.int .u64 gi, .int .u64 gt, .slice mo ml.length mc, .slice ao4 d.length ac] 47) := ⟨_, rfl⟩
  have hB10 : Below W4.heap.size W4 W10 := by rw [hW10]; exact below_new _ _
  have k10 : W10.heap[q]? = some (.cells #[.int .u64 gi, .int .u64 gt, .slice mo ml.length mc, .slice ao4 d.length ac] 47) := by rw [hW10, hq]; exact heap_alloc_new _ _
  have hrs10 := hrs4.below hB10
  have hit10 := hit.below hB10
  have hbt10 := hbt.below hB10
  go_upto_region 6 with fail
  rw [← hW10, ← hq]
  clear hW10 hq hit hbt hrs4 hB10 Hget
  have hen := rds_refEnd hrs10
  cases hdone : doneR s5 with
  | false =>
    rw [hdone] at hen
    simp only [Bool.false_eq_true, if_false] at hen
    have hnr : R = (sn0, false) := by rw [HR2.out, hdone]; simp
    have HnoR := Lib.hid hnr
    have Hen := Lib.hid hen
    clear hnr hen hdone HR2
    go_wp2_with fail
    refine Hen.out.mono ?_
    rintro e W11 ⟨rfl, rfl⟩
    have hbel := hrs10.bel
    have kR := (hbel.block _ z2).trans k2
    obtain ⟨cR0, cR1, cR2, cR3⟩ := (⟨block_cell kR 0, block_cell kR 1, block_cell kR 2, block_cell kR 3⟩ : W10.cell? ⟨w.heap.size, 0, none⟩ = some (.int .u64 0) ∧ W10.cell? ⟨w.heap.size, 1, none⟩ = some (.int .u64 0) ∧ W10.cell? ⟨w.heap.size, 2, none⟩ = some (.slice none 0 0) ∧ W10.cell? ⟨w.heap.size, 3, none⟩ = some (.slice none 0 0))
    have zR0 := block_free kR 0
    have zR1 := block_free kR 1
    have zR2 := block_free kR 2
    have zR3 := block_free kR 3
    have zR := (Array.getElem?_eq_some_iff.1 kR).1
    obtain ⟨kS, hgS⟩ := set4 kR (.int .u64 0) (.int .u64 0) (.slice none 0 0) (.slice none 0 0)
    have u0 := block_cell kS 0
    have u1 := block_cell kS 1
    have u2 := block_cell kS 2
    have u3 := block_cell kS 3
    simp at u0 u1 u2 u3
    go_wp2_with fail
    refine bodyPost_ret (v := .tuple #[.agg #[.int .u64 0, .int .u64 0, .slice none 0 0, .slice none 0 0], .bool false]) (by simp [results, Try.results104, go_sem, u0, u1, u2, u3]) rfl ?_
    exact Hno.out _ (grown_row (below_on hBw2 hbel (Nat.le_refl _)) hgS (Nat.le_refl _) (by omega)) HnoR.out
  | true =>
    rw [hdone] at hen
    simp only [if_true] at hen
    have Hen := Lib.hid hen
    have hR4 : R = if soundSn ⟨gi, gt, ml, d⟩ = true then (⟨gi, gt, ml, d⟩, true) else (sn0, false) := by rw [HR2.out, hdone]; simp
    have HR4 := Lib.hid hR4
    have Hso := Lib.hid (refSnapSound_any gi gt mo ao4 mc ac ml d W10 hit10.1 (by omega))
    clear hen hdone HR2 hR4
    obtain ⟨q0, q1, q2, q3⟩ := (⟨block_cell k10 0, block_cell k10 1, block_cell k10 2, block_cell k10 3⟩ : W10.cell? ⟨q, 0, none⟩ = some (.int .u64 gi) ∧ W10.cell? ⟨q, 1, none⟩ = some (.int .u64 gt) ∧ W10.cell? ⟨q, 2, none⟩ = some (.slice mo ml.length mc) ∧ W10.cell? ⟨q, 3, none⟩ = some (.slice ao4 d.length ac))
    go_wp2_with fail
    refine Hen.out.mono ?_
    rintro e W11 ⟨rfl, rfl⟩
    cases hsd : soundSn ⟨gi, gt, ml, d⟩ with
    | false =>
      rw [hsd] at Hso
      have hnr : R = (sn0, false) := by rw [HR4.out, hsd]; simp
      have HnoR := Lib.hid hnr
      clear hnr hsd HR4
      go_wp2_with fail
      refine Hso.out.mono ?_
      rintro e W12 ⟨rfl, hB12⟩
      have hbel := below_on hrs10.bel hB12 (Nat.le_refl _)
      clear q0 q1 q2 q3
      have kR := (hbel.block _ z2).trans k2
      obtain ⟨cR0, cR1, cR2, cR3⟩ := (⟨block_cell kR 0, block_cell kR 1, block_cell kR 2, block_cell kR 3⟩ : W12.cell? ⟨w.heap.size, 0, none⟩ = some (.int .u64 0) ∧ W12.cell? ⟨w.heap.size, 1, none⟩ = some (.int .u64 0) ∧ W12.cell? ⟨w.heap.size, 2, none⟩ = some (.slice none 0 0) ∧ W12.cell? ⟨w.heap.size, 3, none⟩ = some (.slice none 0 0))
      have zR0 := block_free kR 0
      have zR1 := block_free kR 1
      have zR2 := block_free kR 2
      have zR3 := block_free kR 3
      have zR := (Array.getElem?_eq_some_iff.1 kR).1
      obtain ⟨kS, hgS⟩ := set4 kR (.int .u64 0) (.int .u64 0) (.slice none 0 0) (.slice none 0 0)
      have u0 := block_cell kS 0
      have u1 := block_cell kS 1
      have u2 := block_cell kS 2
      have u3 := block_cell kS 3
      simp at u0 u1 u2 u3
      go_wp2_with fail
      refine bodyPost_ret (v := .tuple #[.agg #[.int .u64 0, .int .u64 0, .slice none 0 0, .slice none 0 0], .bool false]) (by simp [results, Try.results104, go_sem, u0, u1, u2, u3]) rfl ?_
      exact Hno.out _ (grown_row (below_on hBw2 hbel (Nat.le_refl _)) hgS (Nat.le_refl _) (by omega)) HnoR.out
    | true =>
      rw [hsd] at Hso
      have hyes : R = (⟨gi, gt, ml, d⟩, true) := by rw [HR4.out, hsd]; simp
      have HyesR := Lib.hid hyes
      clear hyes hsd HR4
      go_wp2_with fail
      refine Hso.out.mono ?_
      rintro e W12 ⟨rfl, hB12⟩
      have hbel := below_on hrs10.bel hB12 (Nat.le_refl _)
      have hbt12 := hbt10.below hB12
      have hit12 := hit10.below hB12
      have k12 := (hB12.block _ (Array.getElem?_eq_some_iff.1 k10).1).trans k10
      clear q0 q1 q2 q3
      obtain ⟨q0, q1, q2, q3⟩ := (⟨block_cell k12 0, block_cell k12 1, block_cell k12 2, block_cell k12 3⟩ : W12.cell? ⟨q, 0, none⟩ = some (.int .u64 gi) ∧ W12.cell? ⟨q, 1, none⟩ = some (.int .u64 gt) ∧ W12.cell? ⟨q, 2, none⟩ = some (.slice mo ml.length mc) ∧ W12.cell? ⟨q, 3, none⟩ = some (.slice ao4 d.length ac))
      have kR := (hbel.block _ z2).trans k2
      obtain ⟨cR0, cR1, cR2, cR3⟩ := (⟨block_cell kR 0, block_cell kR 1, block_cell kR 2, block_cell kR 3⟩ : W12.cell? ⟨w.heap.size, 0, none⟩ = some (.int .u64 0) ∧ W12.cell? ⟨w.heap.size, 1, none⟩ = some (.int .u64 0) ∧ W12.cell? ⟨w.heap.size, 2, none⟩ = some (.slice none 0 0) ∧ W12.cell? ⟨w.heap.size, 3, none⟩ = some (.slice none 0 0))
      have zR0 := block_free kR 0
      have zR1 := block_free kR 1
      have zR2 := block_free kR 2
      have zR3 := block_free kR 3
      have zR := (Array.getElem?_eq_some_iff.1 kR).1
      obtain ⟨kS, hgS⟩ := set4 kR (.int .u64 gi) (.int .u64 gt) (.slice mo ml.length mc) (.slice ao4 d.length ac)
      have u0 := block_cell kS 0
      have u1 := block_cell kS 1
      have u2 := block_cell kS 2
      have u3 := block_cell kS 3
      simp at u0 u1 u2 u3
      go_wp2_with fail
      refine bodyPost_ret (v := .tuple #[.agg #[.int .u64 gi, .int .u64 gt, .slice mo ml.length mc, .slice ao4 d.length ac], .bool true]) (by simp [results, Try.results104, go_sem, u0, u1, u2, u3]) rfl ?_
      rw [HyesR.out]
      exact ⟨mo, mc, ao4, ac, rfl, hit12.grown hgS (elem?_of kR) (by decide), hbt12.grown hgS (elem?_of kR) (by decide), grown_row (below_on hBw2 hbel (Nat.le_refl _)) hgS (Nat.le_refl _) (by omega)⟩
end Go.Proofs.Ytlphpjgiaflfkaa
