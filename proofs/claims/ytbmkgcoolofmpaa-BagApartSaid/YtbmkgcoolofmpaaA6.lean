/- Lemmas for BagApart (Mb Mc Md Wl Mfd Ml). No statement of the seat is proved here. -/
import Derived.Test.YtbmkgcoolofmpaaA1
import Derived.Test.YtbmkgcoolofmpaaA5
namespace Go.Proofs.Ytbmkgcoolofmpaa
set_option linter.unusedVariables false
set_option linter.unusedSimpArgs false
set_option linter.unusedSectionVars false
open Go Go.RowKit Go.Shelf
/-- a snapshot -/
structure Sn where
  index : Int
  term : Int
  members : List Int
  data : List UInt8
deriving DecidableEq
def soundSn (s : Sn) : Bool := decide (1 ≤ s.index) && decide (s.index < 576460752303423488) && decide (1 ≤ s.term) && decide (s.term ≤ 1152921504606846976) && mOk s.members && decide (s.data.length ≤ 32768)
theorem soundSn_iff {s : Sn} : soundSn s = true ↔ 1 ≤ s.index ∧ s.index < 576460752303423488 ∧ 1 ≤ s.term ∧ s.term ≤ 1152921504606846976 ∧ mOk s.members = true ∧ s.data.length ≤ 32768 := by
  simp only [soundSn, Bool.and_eq_true, decide_eq_true_eq, and_assoc]
set_option maxRecDepth 100000 in
set_option maxHeartbeats 2000000 in
theorem snapSound_any (i t : Int) (mo ao : Option Addr) (mc ac : Nat) (ml : List Int) (d : List UInt8) (w : World) (hm : Iz w .i64 mo mc ml) (hml : ml.length ≤ 1000000) :
    Calls Try.prog 80 #[.agg #[.int .u64 i, .int .u64 t, .slice mo ml.length mc, .slice ao d.length ac]] w fun e w' => e = .returned (.bool (soundSn ⟨i, t, ml, d⟩)) ∧ Below w.heap.size w w' := by
  obtain ⟨c, hc⟩ : ∃ c, c = soundSn ⟨i, t, ml, d⟩ := ⟨_, rfl⟩
  have hiff := soundSn_iff (s := ⟨i, t, ml, d⟩)
  rw [← hc] at hiff
  rw [← hc]
  have Hc := Lib.hid hiff
  have hb := below_new w (.cells #[.int .u64 i, .int .u64 t, .slice mo ml.length mc, .slice ao d.length ac] 35)
  have hm1 := rising_any mo mc ml _ (hm.below hb) hml
  have Hm := Lib.hid hm1
  clear hiff hc hm1
  obtain ⟨r, hr⟩ : ∃ r, r = mOk ml := ⟨_, rfl⟩
  rw [← hr] at Hm Hc
  clear hr
  by_cases q1 : 1 ≤ i
  · by_cases q2 : i < 576460752303423488
    · by_cases q3 : 1 ≤ t
      · by_cases q4 : t ≤ 1152921504606846976
        · go_enter Try.func80, Try.ntmps80
          go_wp2_with fail
          refine Hm.out.mono ?_
          rintro e w2 ⟨rfl, hb2⟩
          have c3 : w2.cell? ⟨w.heap.size, 3, none⟩ = some (.slice ao d.length ac) := block_cell ((hb2.block _ (by simp)).trans (heap_alloc_new _ _)) 3
          cases r
          · go_wp2_with fail
            go_ret
            refine ⟨ret_bool ?_, below_on hb hb2 (Nat.le_refl _)⟩
            rw [Bool.eq_iff_iff, Hc.out]
            simp
          · go_wp2_with fail
            go_ret
            refine ⟨ret_bool ?_, below_on hb hb2 (Nat.le_refl _)⟩
            rw [Bool.eq_iff_iff, Hc.out]
            simp
            omega
        · go_enter Try.func80, Try.ntmps80
          go_wp2_with fail
          go_ret
          refine ⟨ret_bool ?_, hb⟩
          rw [Bool.eq_iff_iff, Hc.out]
          simp
          omega
      · go_enter Try.func80, Try.ntmps80
        go_wp2_with fail
        go_ret
        refine ⟨ret_bool ?_, hb⟩
        rw [Bool.eq_iff_iff, Hc.out]
        simp
        omega
    · go_enter Try.func80, Try.ntmps80
      go_wp2_with fail
      go_ret
      refine ⟨ret_bool ?_, hb⟩
      rw [Bool.eq_iff_iff, Hc.out]
      simp
      omega
  · go_enter Try.func80, Try.ntmps80
    go_wp2_with fail
    go_ret
    refine ⟨ret_bool ?_, hb⟩
    rw [Bool.eq_iff_iff, Hc.out]
    simp
    omega
set_option maxRecDepth 100000 in
set_option maxHeartbeats 2000000 in
theorem refSnapSound_any (i t : Int) (mo ao : Option Addr) (mc ac : Nat) (ml : List Int) (d : List UInt8) (w : World) (hm : Iz w .i64 mo mc ml) (hml : ml.length ≤ 1000000) :
    Calls Try.prog 69 #[.agg #[.int .u64 i, .int .u64 t, .slice mo ml.length mc, .slice ao d.length ac]] w fun e w' => e = .returned (.bool (soundSn ⟨i, t, ml, d⟩)) ∧ Below w.heap.size w w' := by
  obtain ⟨c, hc⟩ : ∃ c, c = soundSn ⟨i, t, ml, d⟩ := ⟨_, rfl⟩
  have hiff := soundSn_iff (s := ⟨i, t, ml, d⟩)
  rw [← hc] at hiff
  rw [← hc]
  have Hc := Lib.hid hiff
  have hb := below_new w (.cells #[.int .u64 i, .int .u64 t, .slice mo ml.length mc, .slice ao d.length ac] 35)
  have hm1 := members_any mo mc ml _ (hm.below hb) hml
  have Hm := Lib.hid hm1
  clear hiff hc hm1
  obtain ⟨r, hr⟩ : ∃ r, r = mOk ml := ⟨_, rfl⟩
  rw [← hr] at Hm Hc
  clear hr
  by_cases q1 : 1 ≤ i
  · by_cases q2 : i < 576460752303423488
    · by_cases q3 : 1 ≤ t
      · by_cases q4 : t ≤ 1152921504606846976
        · go_enter Try.func69, Try.ntmps69
          go_wp2_with fail
          refine Hm.out.mono ?_
          rintro e w2 ⟨rfl, hb2⟩
          have c3 : w2.cell? ⟨w.heap.size, 3, none⟩ = some (.slice ao d.length ac) := block_cell ((hb2.block _ (by simp)).trans (heap_alloc_new _ _)) 3
          cases r
          · go_wp2_with fail
            go_ret
            refine ⟨ret_bool ?_, below_on hb hb2 (Nat.le_refl _)⟩
            rw [Bool.eq_iff_iff, Hc.out]
            simp
          · go_wp2_with fail
            go_ret
            refine ⟨ret_bool ?_, below_on hb hb2 (Nat.le_refl _)⟩
            rw [Bool.eq_iff_iff, Hc.out]
            simp
            omega
        · go_enter Try.func69, Try.ntmps69
          go_wp2_with fail
          go_ret
          refine ⟨ret_bool ?_, hb⟩
          rw [Bool.eq_iff_iff, Hc.out]
          simp
          omega
      · go_enter Try.func69, Try.ntmps69
        go_wp2_with fail
        go_ret
        refine ⟨ret_bool ?_, hb⟩
        rw [Bool.eq_iff_iff, Hc.out]
        simp
        omega
    · go_enter Try.func69, Try.ntmps69
      go_wp2_with fail
      go_ret
      refine ⟨ret_bool ?_, hb⟩
      rw [Bool.eq_iff_iff, Hc.out]
      simp
      omega
  · go_enter Try.func69, Try.ntmps69
    go_wp2_with fail
    go_ret
    refine ⟨ret_bool ?_, hb⟩
    rw [Bool.eq_iff_iff, Hc.out]
    simp
    omega
set_option maxRecDepth 100000 in
set_option maxHeartbeats 4000000 in
theorem snapSame_any (i1 t1 i2 t2 : Int) (mo1 ao1 mo2 ao2 : Option Addr) (mc1 ac1 mc2 ac2 : Nat) (ml1 ml2 : List Int) (d1 d2 : List UInt8) (w : World) (hm1 : Iz w .i64 mo1 mc1 ml1) (hm2 : Iz w .i64 mo2 mc2 ml2) (hd1 : Bs w ao1 ac1 d1) (hd2 : Bs w ao2 ac2 d2) (hl1 : ml1.length ≤ 1000000) (hl2 : ml2.length ≤ 1000000) :
    Calls Try.prog 41 #[.agg #[.int .u64 i1, .int .u64 t1, .slice mo1 ml1.length mc1, .slice ao1 d1.length ac1], .agg #[.int .u64 i2, .int .u64 t2, .slice mo2 ml2.length mc2, .slice ao2 d2.length ac2]] w fun e w' => e = .returned (.bool (decide ((⟨i1, t1, ml1, d1⟩ : Sn) = ⟨i2, t2, ml2, d2⟩))) ∧ Below w.heap.size w w' := by
  obtain ⟨c, hc⟩ : ∃ c, c = decide ((⟨i1, t1, ml1, d1⟩ : Sn) = ⟨i2, t2, ml2, d2⟩) := ⟨_, rfl⟩
  have hiff : c = true ↔ (i1 = i2 ∧ t1 = t2 ∧ ml1 = ml2 ∧ d1 = d2) := by rw [hc]; simp
  rw [← hc]
  have Hc := Lib.hid hiff
  have hb1 := below_new w (.cells #[.int .u64 i1, .int .u64 t1, .slice mo1 ml1.length mc1, .slice ao1 d1.length ac1] 35)
  have hb : Below w.heap.size w ((w.alloc (.cells #[.int .u64 i1, .int .u64 t1, .slice mo1 ml1.length mc1, .slice ao1 d1.length ac1] 35)).alloc (.cells #[.int .u64 i2, .int .u64 t2, .slice mo2 ml2.length mc2, .slice ao2 d2.length ac2] 35)) := hb1.alloc (by simp) _
  have Hm := Lib.hid (equalInt_any mo1 mo2 mc1 mc2 ml1 ml2 _ (hm1.below hb) (hm2.below hb) hl1 hl2)
  have Hd := Lib.hid (fun W hW1 hW2 => bytesEqual_any ao1 ao2 ac1 ac2 d1 d2 W hW1 hW2)
  have g1 := hd1.below hb
  have g2 := hd2.below hb
  clear hiff hc hb1
  by_cases q1 : i1 = i2
  · have e1 : (i1 == i2) = true := by simp [q1]
    by_cases q2 : t1 = t2
    · have e2 : (t1 == t2) = true := by simp [q2]
      have Q1 := Lib.hid q1
      have Q2 := Lib.hid q2
      clear q1 q2
      by_cases q3 : ml1 = ml2
      · rw [decide_eq_true q3] at Hm
        have Q3 := Lib.hid q3
        clear q3
        go_enter Try.func41, Try.ntmps41
        go_wp2_with fail
        refine Hm.out.mono ?_
        rintro e w2 ⟨rfl, hb2⟩
        have Hd2 := Lib.hid (Hd.out w2 (g1.below hb2) (g2.below hb2))
        have hbb := below_on hb hb2 (Nat.le_refl _)
        have k1 : ((w.alloc (.cells #[.int .u64 i1, .int .u64 t1, .slice mo1 ml1.length mc1, .slice ao1 d1.length ac1] 35)).alloc (.cells #[.int .u64 i2, .int .u64 t2, .slice mo2 ml2.length mc2, .slice ao2 d2.length ac2] 35)).heap[w.heap.size]? = some (.cells #[.int .u64 i1, .int .u64 t1, .slice mo1 ml1.length mc1, .slice ao1 d1.length ac1] 35) := ((below_new _ _).block _ (by simp)).trans (heap_alloc_new _ _)
        have k2 : ((w.alloc (.cells #[.int .u64 i1, .int .u64 t1, .slice mo1 ml1.length mc1, .slice ao1 d1.length ac1] 35)).alloc (.cells #[.int .u64 i2, .int .u64 t2, .slice mo2 ml2.length mc2, .slice ao2 d2.length ac2] 35)).heap[w.heap.size + 1]? = some (.cells #[.int .u64 i2, .int .u64 t2, .slice mo2 ml2.length mc2, .slice ao2 d2.length ac2] 35) := by
          have h := heap_alloc_new (w.alloc (.cells #[.int .u64 i1, .int .u64 t1, .slice mo1 ml1.length mc1, .slice ao1 d1.length ac1] 35)) (.cells #[.int .u64 i2, .int .u64 t2, .slice mo2 ml2.length mc2, .slice ao2 d2.length ac2] 35)
          rwa [World.size_alloc] at h
        have k1' := (hb2.block _ (Array.getElem?_eq_some_iff.1 k1).1).trans k1
        have k2' := (hb2.block _ (Array.getElem?_eq_some_iff.1 k2).1).trans k2
        have c3 : w2.cell? ⟨w.heap.size, 3, none⟩ = some (.slice ao1 d1.length ac1) := block_cell k1' 3
        have c4 : w2.cell? ⟨w.heap.size + 1, 3, none⟩ = some (.slice ao2 d2.length ac2) := block_cell k2' 3
        clear k1 k2 k1' k2'
        go_wp2_with fail
        refine Hd2.out.mono ?_
        rintro e w3 ⟨rfl, rfl⟩
        go_wp2_with fail
        go_ret
        exact ⟨ret_bool (by rw [Bool.eq_iff_iff, Hc.out]; simp [Q1.out, Q2.out, Q3.out]), hbb⟩
      · rw [decide_eq_false q3] at Hm
        have Q3 := Lib.hid q3
        clear q3
        go_enter Try.func41, Try.ntmps41
        go_wp2_with fail
        refine Hm.out.mono ?_
        rintro e w2 ⟨rfl, hb2⟩
        have hbb := below_on hb hb2 (Nat.le_refl _)
        go_wp2_with fail
        go_ret
        exact ⟨ret_bool (by rw [Bool.eq_iff_iff, Hc.out]; simp [Q3.out]), hbb⟩
    · have e2 : (t1 == t2) = false := by simp [q2]
      have Q2 := Lib.hid q2
      clear q1 q2
      go_enter Try.func41, Try.ntmps41
      go_wp2_with fail
      go_ret
      exact ⟨ret_bool (by rw [Bool.eq_iff_iff, Hc.out]; simp [Q2.out]), hb⟩
  · have e1 : (i1 == i2) = false := by simp [q1]
    have Q1 := Lib.hid q1
    clear q1
    go_enter Try.func41, Try.ntmps41
    go_wp2_with fail
    go_ret
    exact ⟨ret_bool (by rw [Bool.eq_iff_iff, Hc.out]; simp [Q1.out]), hb⟩
set_option maxRecDepth 100000 in
set_option maxHeartbeats 4000000 in
theorem refSnapSame_any (i1 t1 i2 t2 : Int) (mo1 ao1 mo2 ao2 : Option Addr) (mc1 ac1 mc2 ac2 : Nat) (ml1 ml2 : List Int) (d1 d2 : List UInt8) (w : World) (hm1 : Iz w .i64 mo1 mc1 ml1) (hm2 : Iz w .i64 mo2 mc2 ml2) (hd1 : Bs w ao1 ac1 d1) (hd2 : Bs w ao2 ac2 d2) (hl1 : ml1.length ≤ 1000000) (hl2 : ml2.length ≤ 1000000) :
    Calls Try.prog 67 #[.agg #[.int .u64 i1, .int .u64 t1, .slice mo1 ml1.length mc1, .slice ao1 d1.length ac1], .agg #[.int .u64 i2, .int .u64 t2, .slice mo2 ml2.length mc2, .slice ao2 d2.length ac2]] w fun e w' => e = .returned (.bool (decide ((⟨i1, t1, ml1, d1⟩ : Sn) = ⟨i2, t2, ml2, d2⟩))) ∧ Below w.heap.size w w' := by
  obtain ⟨c, hc⟩ : ∃ c, c = decide ((⟨i1, t1, ml1, d1⟩ : Sn) = ⟨i2, t2, ml2, d2⟩) := ⟨_, rfl⟩
  have hiff : c = true ↔ (i1 = i2 ∧ t1 = t2 ∧ ml1 = ml2 ∧ d1 = d2) := by rw [hc]; simp
  rw [← hc]
  have Hc := Lib.hid hiff
  have hb1 := below_new w (.cells #[.int .u64 i1, .int .u64 t1, .slice mo1 ml1.length mc1, .slice ao1 d1.length ac1] 35)
  have hb : Below w.heap.size w ((w.alloc (.cells #[.int .u64 i1, .int .u64 t1, .slice mo1 ml1.length mc1, .slice ao1 d1.length ac1] 35)).alloc (.cells #[.int .u64 i2, .int .u64 t2, .slice mo2 ml2.length mc2, .slice ao2 d2.length ac2] 35)) := hb1.alloc (by simp) _
  have cv1 := conv_any (hd1.below hb)
  have cv2 := conv_any (hd2.below hb)
  clear hiff hc hb1 hd1 hd2
  by_cases q1 : i1 = i2
  · have e1 : (i1 != i2) = false := by simp [q1]
    by_cases q2 : t1 = t2
    · have e2 : (t1 != t2) = false := by simp [q2]
      have Q1 := Lib.hid q1
      have Q2 := Lib.hid q2
      clear q1 q2
      by_cases q3 : ml1.length = ml2.length
      · have e3 : ((ml1.length : Int) != (ml2.length : Int)) = false := by simp [q3]
        have Q3 := Lib.hid q3
        clear q3
        by_cases q4 : d1 = d2
        · have e4 : (d1 == d2) = true := by simp [q4]
          have Q4 := Lib.hid q4
          clear q4
          have k1 : ((w.alloc (.cells #[.int .u64 i1, .int .u64 t1, .slice mo1 ml1.length mc1, .slice ao1 d1.length ac1] 35)).alloc (.cells #[.int .u64 i2, .int .u64 t2, .slice mo2 ml2.length mc2, .slice ao2 d2.length ac2] 35)).heap[w.heap.size]? = some (.cells #[.int .u64 i1, .int .u64 t1, .slice mo1 ml1.length mc1, .slice ao1 d1.length ac1] 35) := ((below_new _ _).block _ (by simp)).trans (heap_alloc_new _ _)
          have k2 : ((w.alloc (.cells #[.int .u64 i1, .int .u64 t1, .slice mo1 ml1.length mc1, .slice ao1 d1.length ac1] 35)).alloc (.cells #[.int .u64 i2, .int .u64 t2, .slice mo2 ml2.length mc2, .slice ao2 d2.length ac2] 35)).heap[w.heap.size + 1]? = some (.cells #[.int .u64 i2, .int .u64 t2, .slice mo2 ml2.length mc2, .slice ao2 d2.length ac2] 35) := by
            have h := heap_alloc_new (w.alloc (.cells #[.int .u64 i1, .int .u64 t1, .slice mo1 ml1.length mc1, .slice ao1 d1.length ac1] 35)) (.cells #[.int .u64 i2, .int .u64 t2, .slice mo2 ml2.length mc2, .slice ao2 d2.length ac2] 35)
            rwa [World.size_alloc] at h
          obtain ⟨W1, hW1⟩ : ∃ W1, W1 = ((w.alloc (.cells #[.int .u64 i1, .int .u64 t1, .slice mo1 ml1.length mc1, .slice ao1 d1.length ac1] 35)).alloc (.cells #[.int .u64 i2, .int .u64 t2, .slice mo2 ml2.length mc2, .slice ao2 d2.length ac2] 35)) := ⟨_, rfl⟩
          go_enter Try.func67, Try.ntmps67
          go_wp2_with fail
          rw [← hW1] at k1 k2 hb cv1 cv2 ⊢
          clear hW1
          have hm1' := hm1.below hb
          have hm2' := hm2.below hb
          have K1 := Lib.hid k1
          have K2 := Lib.hid k2
          clear hm1 hm2 k1 k2 cv1 cv2
          have z1 : w.heap.size < W1.heap.size := (Array.getElem?_eq_some_iff.1 K1.out).1
          have z2 : w.heap.size + 1 < W1.heap.size := (Array.getElem?_eq_some_iff.1 K2.out).1
          go_loopw [5] (fun u wr => ∃ i : Nat, u = .int .i64 (i : Nat) ∧ i ≤ ml1.length ∧ Hid (ml1.take i = ml2.take i) ∧ Below W1.heap.size W1 wr) (fun u _ => ml1.length - (intOf u).toNat)
          case atStart => exact ⟨0, rfl, Nat.zero_le _, Lib.hid (by simp), Below.refl _ _⟩
          case round =>
            obtain ⟨i, rfl, hi, Hinv, hB⟩ := hrel
            have c1 : wr.cell? ⟨w.heap.size, 2, none⟩ = some (.slice mo1 ml1.length mc1) := block_cell ((hB.block _ z1).trans K1.out) 2
            have c2 : wr.cell? ⟨w.heap.size + 1, 2, none⟩ = some (.slice mo2 ml2.length mc2) := block_cell ((hB.block _ z2).trans K2.out) 2
            have hbb := below_on hb hB (Nat.le_refl _)
            by_cases hlt : i < ml1.length
            · have hlt2 : i < ml2.length := by have := Q3.out; omega
              obtain ⟨b1, o1, rfl, p0⟩ := (hm1'.below hB).get i hlt
              obtain ⟨b2, o2, rfl, q0⟩ := (hm2'.below hB).get i hlt2
              have hne : ml1[i] ≠ ml2[i] → c = false := fun h => by
                rw [Bool.eq_false_iff, ne_eq, Hc.out]
                rintro ⟨_, _, he, _⟩
                apply h
                simp only [he]
              have heq : ml1[i] = ml2[i] → ml1.take (i + 1) = ml2.take (i + 1) := fun h => take_next hlt hlt2 Hinv.out h
              obtain ⟨x, hx⟩ : ∃ x, x = ml1[i] := ⟨_, rfl⟩
              obtain ⟨y, hy⟩ : ∃ y, y = ml2[i] := ⟨_, rfl⟩
              rw [← hx] at p0 hne heq
              rw [← hy] at q0 hne heq
              clear hx hy
              have i0 : (0 : Int) ≤ (i : Int) := by omega
              have i1 : (i : Int) < (ml1.length : Int) := by omega
              have i2 : (i : Int) < (ml2.length : Int) := by omega
              have Hne := Lib.hid hne
              have Heq := Lib.hid heq
              clear hne heq
              by_cases e1 : x = y
              · have e1b : (x != y) = false := by simp [e1]
                have Hgo := Lib.hid (Heq.out e1)
                clear e1 Hne Heq
                go_wp2_with fail
                go_quiet (fail)
                go_wp2_with fail
                go_roundw
                case rel => exact ⟨i + 1, by simp, by omega, Hgo, below_drewN hB _⟩
                case measure => simp [intOf]; omega
              · have e1b : (x != y) = true := by simpa using e1
                have Hf := Lib.hid (Hne.out e1)
                clear e1 Hne Heq
                go_wp2_with fail
                go_quiet (fail)
                go_wp2_with fail
                go_ret
                exact ⟨by rw [Hf.out]; rfl, below_drewN hbb _⟩
            · have hi' : i = ml1.length := by omega
              subst hi'
              have Ht : Hid (c = true) := Lib.hid (by
                rw [Hc.out]
                have h := Hinv.out
                rw [List.take_of_length_le (Nat.le_refl _), List.take_of_length_le (by rw [Q3.out]; exact Nat.le_refl _)] at h
                exact ⟨Q1.out, Q2.out, h, Q4.out⟩)
              go_wp2_with fail
              go_ret
              exact ⟨by rw [Ht.out]; rfl, hbb⟩
        · have e4 : (d1 == d2) = false := by simpa using q4
          have Q4 := Lib.hid q4
          clear q4
          go_enter Try.func67, Try.ntmps67
          go_wp2_with fail
          go_ret
          exact ⟨ret_bool (by rw [Bool.eq_iff_iff, Hc.out]; simp [Q4.out]), hb⟩
      · have e3 : ((ml1.length : Int) != (ml2.length : Int)) = true := by simp; omega
        have Q3 : Hid (¬ ml1 = ml2) := Lib.hid (fun h => q3 (congrArg List.length h))
        clear q3
        go_enter Try.func67, Try.ntmps67
        go_wp2_with fail
        go_ret
        exact ⟨ret_bool (by rw [Bool.eq_iff_iff, Hc.out]; simp [Q3.out]), hb⟩
    · have e2 : (t1 != t2) = true := by simpa using q2
      have Q2 := Lib.hid q2
      clear q1 q2
      go_enter Try.func67, Try.ntmps67
      go_wp2_with fail
      go_ret
      exact ⟨ret_bool (by rw [Bool.eq_iff_iff, Hc.out]; simp [Q2.out]), hb⟩
  · have e1 : (i1 != i2) = true := by simpa using q1
    have Q1 := Lib.hid q1
    clear q1
    go_enter Try.func67, Try.ntmps67
    go_wp2_with fail
    go_ret
    exact ⟨ret_bool (by rw [Bool.eq_iff_iff, Hc.out]; simp [Q1.out]), hb⟩
end Go.Proofs.Ytbmkgcoolofmpaa
namespace Go.Proofs.Ytbmkgcoolofmpaa
set_option linter.unusedVariables false
set_option linter.unusedSimpArgs false
set_option linter.unusedSectionVars false
open Go Go.RowKit Go.Shelf
/-- do bytes stand for members? -/
def memOk (d : List UInt8) : Bool := decide (endR (readN 127 d false).2.1 (readN 127 d false).2.2 = 0) && decide ((readN 127 d false).1 ≠ 0)
theorem infoInt : (Try.prog.info? 3).map (fun i => (i.zero, i.size, i.bytes)) = some (some (.int .i64 0), 1, 8) := by kernel_rfl
set_option maxRecDepth 100000 in
set_option maxHeartbeats 2000000 in
theorem memOf_any (s : Nat) (hs : s ≤ 127) (w : World) :
    Calls Try.prog 101 #[.int .u64 (s : Nat)] w fun e w' => (∃ ao n cap, e = .returned (.slice ao n cap)) ∧ Below w.heap.size w w' := by
  go_enter Try.func101, Try.ntmps101
  go_wp2_with fail
  go_loopw [2, 4] (fun v u wr => ∃ (i n : Nat) (rows : List (List Value)) (ao : Option Addr) (cap : Nat), v = .slice ao n cap ∧ u = .int .i64 (i : Nat) ∧ i ≤ 7 ∧ n ≤ i ∧ wr.ownsRow w.heap.size 3 1 (.slice ao n cap) n rows.flatten ∧ Below w.heap.size w wr) (fun _ u _ => 7 - (intOf u).toNat)
  case atStart => exact ⟨0, 0, [], none, 0, rfl, rfl, by omega, by omega, World.ownsRow_nil _ _ _ _, Below.refl _ _⟩
  case round =>
    obtain ⟨i, n, rows, ao, cap, rfl, rfl, hi, hn, how, hB⟩ := hrel
    by_cases hlt : i < 7
    · have i1 : (i : Int) < 7 := by omega
      have i0 : (0 : Int) ≤ (i : Int) := by omega
      have i2 : (i : Int) ≤ 64 := by omega
      have hba := below_new wr (.cells #[.int .i64 (i : Int)] 3)
      have how1 := own_below how hba
      have hzz : w.heap.size ≤ (wr.alloc (.cells #[.int .i64 (i : Int)] 3)).heap.size := by have := hB.size; simp; omega
      obtain ⟨bt, hbt⟩ : ∃ bt, bt = (bits BinOp.and IntKind.u64 ((s : Int) / 2 ^ i) 1 == 1) := ⟨_, rfl⟩
      cases bt
      · have hb2 := hbt.symm
        clear hbt
        go_wp2_with fail
        go_roundw
        case rel => exact ⟨i + 1, n, rows, ao, cap, rfl, by simp, by omega, by omega, how, hB⟩
        case measure => simp [intOf]; omega
      · have hb2 := hbt.symm
        clear hbt
        go_wp2_with (first
          | (at_builtin; refine wpl_append_one rfl (.tmp 12) (.tmp 14) 27 rfl w.heap.size 3 infoInt Try.underlying27 rfl (by decide) _ n rows rfl how1 _ 1 [.int .i64 (i : Int)] rfl rfl (news_at _ rfl) (fun u hu => by simp at hu; subst hu; rfl) ?_ ?_ ?_ ?_; omega; (unfold maxLen; omega); exact hzz; intro g4 c4 W12 hown12 hg12 hlie))
        have hB12 := below_app (below_on hB hba (Nat.le_refl _)) hg12 how1 (Nat.le_refl _) hzz
        go_roundw
        case rel => exact ⟨i + 1, n + 1, rows ++ [[.int .i64 (i : Int)]], some ⟨g4, 0, none⟩, c4, rfl, by simp, by omega, by omega, hown12, hB12⟩
        case measure => simp [intOf]; omega
    · have hii : i = 7 := by omega
      subst hii
      go_wp2_with fail
      go_ret
      exact ⟨⟨ao, n, cap, rfl⟩, hB⟩
set_option maxRecDepth 100000 in
set_option maxHeartbeats 2000000 in
theorem memRead_any (ao : Option Addr) (cap : Nat) (d : List UInt8) (w : World) (h : Bs w ao cap d) :
    Calls Try.prog 94 #[.slice ao d.length cap] w fun e w' => (∃ v, e = .returned (.tuple #[v, .bool (memOk d)])) ∧ Below w.heap.size w w' := by
  obtain ⟨ok, hok⟩ : ∃ ok, ok = memOk d := ⟨_, rfl⟩
  rw [← hok]
  unfold memOk at hok
  have Hop := Lib.hid (open_rd ao cap d w h)
  have n0 := fun (W : World) (p : Nat) (h : Rd 123 W p ao cap d false) => rnum_any 127 (by decide) h
  have m0 := readN_le 127 d false
  generalize readN 127 d false = r at hok n0 m0
  obtain ⟨x, l, bad⟩ := r
  simp only at hok n0 m0
  have Hn := Lib.hid n0
  have Hok := Lib.hid hok
  clear n0 hok
  go_enter Try.func94, Try.ntmps94
  go_wp2_with fail
  refine Hop.out.mono ?_
  rintro e w1 ⟨rfl, hrd1, hB1⟩
  have Hn1 := Lib.hid (Hn.out w1 _ hrd1)
  go_wp2_with fail
  refine Hn1.out.mono ?_
  rintro e w2 ⟨ar, cr, rfl, hrd2, hg2, hsb2⟩
  have hB2 : Below w.heap.size w w2 := hB1.grown hg2 hB1.size (fun q hq => by simp at hq; omega)
  have He := Lib.hid (end_rd hrd2)
  have Hof := Lib.hid (fun W => memOf_any x m0 W)
  obtain ⟨en, hen⟩ : ∃ en, en = endR l bad := ⟨_, rfl⟩
  rw [← hen] at He Hok
  clear hen Hn Hn1
  by_cases e0 : en = 0
  · subst e0
    by_cases e1 : x = 0
    · subst e1
      have Hf : Hid (ok = false) := by show _ = _; rw [Hok.out]; simp
      go_wp2_with fail
      refine He.out.mono ?_
      rintro e w3 ⟨rfl, rfl⟩
      go_wp2_with fail
      go_ret2
      exact ⟨⟨_, by rw [Hf.out]; rfl⟩, hB2⟩
    · have Hf : Hid (ok = true) := by show _ = _; rw [Hok.out]; simp [e1]
      have e1b : ((x : Int) == 0) = false := by simpa using e1
      clear e1
      go_wp2_with fail
      refine He.out.mono ?_
      rintro e w3 ⟨rfl, rfl⟩
      go_wp2_with fail
      refine (Hof.out _).mono ?_
      rintro e w4 ⟨⟨ao4, n4, c4, rfl⟩, hB4⟩
      go_wp2_with fail
      go_ret2
      exact ⟨⟨_, by rw [Hf.out]; rfl⟩, below_on hB2 hB4 (Nat.le_refl _)⟩
  · have Hf : Hid (ok = false) := by show _ = _; rw [Hok.out]; simp [e0]
    have e0b : (en != 0) = true := by simpa using e0
    clear e0
    go_wp2_with fail
    refine He.out.mono ?_
    rintro e w3 ⟨rfl, rfl⟩
    go_wp2_with fail
    go_ret2
    exact ⟨⟨_, by rw [Hf.out]; rfl⟩, hB2⟩
set_option maxRecDepth 100000 in
set_option maxHeartbeats 2000000 in
theorem refMemRead_any (ao : Option Addr) (cap : Nat) (d : List UInt8) (w : World) (h : Bs w ao cap d) :
    Calls Try.prog 87 #[.slice ao d.length cap] w fun e w' => (∃ v, e = .returned (.tuple #[v, .bool (memOk d)])) ∧ Below w.heap.size w w' := by
  obtain ⟨ok, hok⟩ : ∃ ok, ok = memOk d := ⟨_, rfl⟩
  rw [← hok]
  unfold memOk at hok
  have n0 := fun (W : World) (p : Nat) (h : Rd 150 W p ao cap d false) => refNum_rd 127 (by decide) h
  have m0 := readN_le 127 d false
  generalize readN 127 d false = r at hok n0 m0
  obtain ⟨x, l, bad⟩ := r
  simp only at hok n0 m0
  have Hok := Lib.hid hok
  have hB1 : Below w.heap.size w (w.alloc (.cells #[.slice ao d.length cap, .bool false] 150)) := below_new _ _
  have hrd1 : Rd 150 (w.alloc (.cells #[.slice ao d.length cap, .bool false] 150)) w.heap.size ao cap d false := ⟨heap_alloc_new _ _, h.below hB1⟩
  have Hn1 := Lib.hid (n0 _ _ hrd1)
  clear n0 hok
  go_enter Try.func87, Try.ntmps87
  go_wp2_with fail
  refine Hn1.out.mono ?_
  rintro e w2 ⟨ar, cr, rfl, hrd2, hg2, hsb2⟩
  have hB2 : Below w.heap.size w w2 := hB1.grown hg2 (by simp) (fun q hq => by simp at hq; omega)
  have He := Lib.hid (refEnd_rd hrd2)
  obtain ⟨en, hen⟩ : ∃ en, en = endR l bad := ⟨_, rfl⟩
  rw [← hen] at He Hok
  clear hen Hn1
  by_cases e0 : en = 0
  · subst e0
    by_cases e1 : x = 0
    · subst e1
      have Hf : Hid (ok = false) := by show _ = _; rw [Hok.out]; simp
      go_wp2_with fail
      refine He.out.mono ?_
      rintro e w3 ⟨rfl, rfl⟩
      go_wp2_with fail
      go_ret2
      exact ⟨⟨_, by rw [Hf.out]; rfl⟩, hB2⟩
    · have Hf : Hid (ok = true) := by show _ = _; rw [Hok.out]; simp [e1]
      have e1b : ((x : Int) == 0) = false := by simpa using e1
      clear e1
      go_wp2_with fail
      refine He.out.mono ?_
      rintro e w3 ⟨rfl, rfl⟩
      go_wp2_with fail
      go_loopw [5, 6, 7] (fun t v u wr => ∃ (i n s : Nat) (rows : List (List Value)) (ao : Option Addr) (cap : Nat), t = .int .u64 (s : Nat) ∧ s ≤ 127 ∧ v = .slice ao n cap ∧ u = .int .i64 (i : Nat) ∧ i ≤ 7 ∧ n ≤ i ∧ wr.ownsRow w.heap.size 3 1 (.slice ao n cap) n rows.flatten ∧ Below w.heap.size w wr) (fun _ _ u _ => 7 - (intOf u).toNat)
      case atStart => exact ⟨0, 0, x, [], none, 0, rfl, m0, rfl, rfl, by omega, by omega, World.ownsRow_nil _ _ _ _, hB2⟩
      case round =>
        obtain ⟨i, n, s, rows, ao5, cap5, rfl, hs, rfl, rfl, hi, hn, how, hB⟩ := hrel
        by_cases hlt : i < 7
        · have i1 : (i : Int) < 7 := by omega
          have i0 : (0 : Int) ≤ (i : Int) := by omega
          have hba := below_new wr (.cells #[.int .i64 (i : Int)] 3)
          have how1 := own_below how hba
          have hzz : w.heap.size ≤ (wr.alloc (.cells #[.int .i64 (i : Int)] 3)).heap.size := by have := hB.size; simp; omega
          obtain ⟨q, hq⟩ : ∃ q, q = s / 2 := ⟨_, rfl⟩
          obtain ⟨r, hr⟩ : ∃ r, r = s % 2 := ⟨_, rfl⟩
          have hq1 : q ≤ 127 := by omega
          have q1 : (s : Int).tdiv 2 = (q : Int) := by rw [hq]; rw [Int.tdiv_eq_ediv_of_nonneg (by omega)]; omega
          have r1 : (s : Int).tmod 2 = (r : Int) := by rw [hr]; rw [Int.tmod_eq_emod_of_nonneg (by omega)]; omega
          clear hq
          by_cases e2 : r = 1
          · subst e2
            clear hr
            go_wp2_with (first
              | (at_builtin; refine wpl_append_one rfl (.tmp 27) (.tmp 29) 27 rfl w.heap.size 3 infoInt Try.underlying27 rfl (by decide) _ n rows rfl how1 _ 1 [.int .i64 (i : Int)] rfl rfl (news_at _ rfl) (fun u hu => by simp at hu; subst hu; rfl) ?_ ?_ ?_ ?_; omega; (unfold maxLen; omega); exact hzz; intro g4 c4 W12 hown12 hg12 hlie))
            have hB12 := below_app (below_on hB hba (Nat.le_refl _)) hg12 how1 (Nat.le_refl _) hzz
            go_roundw
            case rel => exact ⟨i + 1, n + 1, q, rows ++ [[.int .i64 (i : Int)]], some ⟨g4, 0, none⟩, c4, rfl, hq1, rfl, by simp, by omega, by omega, hown12, hB12⟩
            case measure => simp [intOf]; omega
          · have e2b : ((r : Int) == 1) = false := by simp; omega
            clear hr e2
            go_wp2_with fail
            go_roundw
            case rel => exact ⟨i + 1, n, q, rows, ao5, cap5, rfl, hq1, rfl, by simp, by omega, by omega, how, hB⟩
            case measure => simp [intOf]; omega
        · have hii : i = 7 := by omega
          subst hii
          go_wp2_with fail
          go_ret2
          exact ⟨⟨_, by rw [Hf.out]; rfl⟩, hB⟩
  · have Hf : Hid (ok = false) := by show _ = _; rw [Hok.out]; simp [e0]
    have e0b : (en != 0) = true := by simpa using e0
    clear e0
    go_wp2_with fail
    refine He.out.mono ?_
    rintro e w3 ⟨rfl, rfl⟩
    go_wp2_with fail
    go_ret2
    exact ⟨⟨_, by rw [Hf.out]; rfl⟩, hB2⟩
theorem cell_at {w : World} {b : Nat} {cs : Array Value} {T : TypeId} (h : w.heap[b]? = some (.cells cs T (0, 0))) (i : Nat) (v : Value) (hv : cs[i]? = some v) : w.cell? ⟨b, i, .none⟩ = some v := (block_cell h i).trans hv
theorem al3 {w W : World} {A B C : Obj} (h : W = ((w.alloc A).alloc B).alloc C) : W.heap[w.heap.size]? = some A ∧ W.heap[w.heap.size + 1]? = some B ∧ W.heap[w.heap.size + 1 + 1]? = some C ∧ Below w.heap.size w W := by
  subst h
  refine ⟨?_, ?_, ?_, ?_⟩
  · exact ((below_new _ _).block _ (by simp only [World.size_alloc]; omega)).trans (((below_new _ _).block _ (by simp only [World.size_alloc]; omega)).trans (heap_alloc_new _ _))
  · have h := heap_alloc_new (w.alloc A) B
    rw [World.size_alloc] at h
    exact ((below_new _ _).block _ (by simp only [World.size_alloc]; omega)).trans h
  · have h := heap_alloc_new ((w.alloc A).alloc B) C
    rw [World.size_alloc, World.size_alloc] at h
    exact h
  · exact ((below_new w _).alloc (by simp only [World.size_alloc]; omega) _).alloc (by simp only [World.size_alloc]; omega) _
end Go.Proofs.Ytbmkgcoolofmpaa
namespace Go.Proofs.Ytbmkgcoolofmpaa
set_option linter.unusedVariables false
set_option linter.unusedSimpArgs false
set_option linter.unusedSectionVars false
open Go Go.RowKit Go.Shelf
/-- a message -/
structure Ms where
  kind : Int
  frm : Int
  dst : Int
  term : Int
  index : Int
  logTerm : Int
  commit : Int
  round : Int
  ok : Bool
  force : Bool
  es : List En
  sn : Sn
deriving DecidableEq
/-- a message, and where its rows lie -/
structure Mp where
  kind : Int
  frm : Int
  dst : Int
  term : Int
  index : Int
  logTerm : Int
  commit : Int
  round : Int
  ok : Bool
  force : Bool
  eo : Option Addr
  ec : Nat
  el : List Ep
  si : Int
  st : Int
  mo : Option Addr
  mc : Nat
  ml : List Int
  ao : Option Addr
  ac : Nat
  d : List UInt8
def Mp.v (x : Mp) : Ms := ⟨x.kind, x.frm, x.dst, x.term, x.index, x.logTerm, x.commit, x.round, x.ok, x.force, x.el.map Ep.e, ⟨x.si, x.st, x.ml, x.d⟩⟩
abbrev mpA (x : Mp) : Array Value := #[.int .i64 x.kind, .int .i64 x.frm, .int .i64 x.dst, .int .u64 x.term, .int .u64 x.index, .int .u64 x.logTerm, .int .u64 x.commit, .int .u64 x.round, .bool x.ok, .bool x.force, .slice x.eo x.el.length x.ec, .int .u64 x.si, .int .u64 x.st, .slice x.mo x.ml.length x.mc, .slice x.ao x.d.length x.ac]
/-- its rows read -/
structure MpAt (W : World) (x : Mp) : Prop where
  ens : Ens W x.eo x.ec x.el
  mem : Iz W .i64 x.mo x.mc x.ml
  dat : Bs W x.ao x.ac x.d
theorem MpAt.below {W W' : World} {x : Mp} (h : MpAt W x) (hb : Below W.heap.size W W') : MpAt W' x := ⟨h.ens.below hb, h.mem.below hb, h.dat.below hb⟩
def entB : Int → List En → Bool
  | _, [] => true
  | last, e :: r => soundE e && decide (last ≤ e.term) && (decide (e.kind ≠ 3) || memOk e.data) && entB e.term r
def lastT : Int → List En → Int
  | last, [] => last
  | _, e :: r => lastT e.term r
def entM (m : Ms) : Bool := entB m.logTerm m.es && decide (m.es.length ≤ 8) && decide (lastT m.logTerm m.es ≤ m.term) && decide (m.index ≤ 576460752303423488) && decide (m.index + m.es.length ≤ 576460752303423488)
def rowB : Int → Int → List En → Bool
  | _, _, [] => true
  | f, t, e :: r => soundE e && decide (f ≤ e.term) && decide (e.term ≤ t) && (decide (e.kind ≠ 3) || memOk e.data) && rowB e.term t r
theorem entB_drop (last : Int) (l : List En) (i : Nat) (hi : i < l.length) : entB last (l.drop i) = (soundE l[i] && decide (last ≤ l[i].term) && (decide (l[i].kind ≠ 3) || memOk l[i].data) && entB l[i].term (l.drop (i + 1))) := by
  rw [List.drop_eq_getElem_cons hi]; rfl
theorem lastT_drop (last : Int) (l : List En) (i : Nat) (hi : i < l.length) : lastT last (l.drop i) = lastT l[i].term (l.drop (i + 1)) := by
  rw [List.drop_eq_getElem_cons hi]; rfl
theorem rowB_drop (f t : Int) (l : List En) (i : Nat) (hi : i < l.length) : rowB f t (l.drop i) = (soundE l[i] && decide (f ≤ l[i].term) && decide (l[i].term ≤ t) && (decide (l[i].kind ≠ 3) || memOk l[i].data) && rowB l[i].term t (l.drop (i + 1))) := by
  rw [List.drop_eq_getElem_cons hi]; rfl
set_option maxRecDepth 100000 in
set_option maxHeartbeats 4000000 in
theorem entries_any (x : Mp) (w : World) (h : MpAt w x) (hl : x.el.length ≤ 1000000) (hx0 : 0 ≤ x.index) :
    Calls Try.prog 79 #[.agg (mpA x)] w fun e w' => e = .returned (.bool (entM x.v)) ∧ Below w.heap.size w w' := by
  obtain ⟨kind, frm, dst, term, index, logTerm, commit, round, ok, force, eo, ec, el, si, st, mo, mc, ml, ao, ac, d⟩ := x
  obtain ⟨hen, hmem, hdat⟩ := h
  simp only at hen hl hx0
  clear hmem hdat
  dsimp only [mpA, Mp.v, entM]
  obtain ⟨c0, hc0⟩ : ∃ c0, c0 = entB logTerm (el.map Ep.e) := ⟨_, rfl⟩
  obtain ⟨lt, hlt⟩ : ∃ lt, lt = lastT logTerm (el.map Ep.e) := ⟨_, rfl⟩
  rw [← hc0, ← hlt, List.length_map]
  obtain ⟨c, hc⟩ : ∃ c, c = (c0 && decide (el.length ≤ 8) && decide (lt ≤ term) && decide (index ≤ 576460752303423488) && decide (index + (el.length : Nat) ≤ 576460752303423488)) := ⟨_, rfl⟩
  rw [← hc]
  have hiff : c = true ↔ (c0 = true ∧ el.length ≤ 8 ∧ lt ≤ term ∧ index ≤ 576460752303423488 ∧ index + (el.length : Nat) ≤ 576460752303423488) := by rw [hc]; simp [and_assoc]
  have Hc := Lib.hid hiff
  clear hiff hc
  have HC0 := Lib.hid hc0
  have HLT := Lib.hid hlt
  clear hc0 hlt
  obtain ⟨W1, hW1⟩ : ∃ W1, W1 = w.alloc (.cells #[.int .i64 kind, .int .i64 frm, .int .i64 dst, .int .u64 term, .int .u64 index, .int .u64 logTerm, .int .u64 commit, .int .u64 round, .bool ok, .bool force, .slice eo el.length ec, .int .u64 si, .int .u64 st, .slice mo ml.length mc, .slice ao d.length ac] 37) := ⟨_, rfl⟩
  have hB1 : Below w.heap.size w W1 := by rw [hW1]; exact below_new _ _
  have k1 : W1.heap[w.heap.size]? = some (.cells #[.int .i64 kind, .int .i64 frm, .int .i64 dst, .int .u64 term, .int .u64 index, .int .u64 logTerm, .int .u64 commit, .int .u64 round, .bool ok, .bool force, .slice eo el.length ec, .int .u64 si, .int .u64 st, .slice mo ml.length mc, .slice ao d.length ac] 37) := by rw [hW1]; exact heap_alloc_new _ _
  have z1 : w.heap.size < W1.heap.size := (Array.getElem?_eq_some_iff.1 k1).1
  have p5 : W1.cell? ⟨w.heap.size, 5, none⟩ = some (.int .u64 logTerm) := block_cell k1 5
  have p10 : W1.cell? ⟨w.heap.size, 10, none⟩ = some (.slice eo el.length ec) := block_cell k1 10
  go_enter Try.func79, Try.ntmps79
  go_wp2_with fail
  rw [← hW1]
  clear hW1
  go_wp2_with fail
  have K1 := Lib.hid k1
  clear k1 p5 p10
  go_loopw [3, 14] (fun v u wr => ∃ (i : Nat) (last : Int), v = .int .u64 last ∧ u = .int .i64 (i : Nat) ∧ i ≤ el.length ∧ Hid (c0 = entB last ((el.map Ep.e).drop i)) ∧ Hid (lt = lastT last ((el.map Ep.e).drop i)) ∧ Below W1.heap.size W1 wr) (fun _ u _ => el.length - (intOf u).toNat)
  case atStart => exact ⟨0, logTerm, rfl, rfl, Nat.zero_le _, HC0, HLT, Below.refl _ _⟩
  case round =>
    obtain ⟨i, last, rfl, rfl, hi, Hinv, Hlt2, hB⟩ := hrel
    have hBw := below_on hB1 hB (Nat.le_refl _)
    by_cases hlt : i < el.length
    · have g1 := hen.below hBw
      obtain ⟨b1, o1, rfl, p0, p1, p2⟩ := g1.get i hlt
      have hd0 := hen.data _ (List.getElem_mem hlt)
      have hst := entB_drop last (el.map Ep.e) i (by simpa using hlt)
      have hst2 := lastT_drop last (el.map Ep.e) i (by simpa using hlt)
      simp only [List.getElem_map] at hst hst2
      obtain ⟨y, hy⟩ : ∃ y, y = el[i] := ⟨_, rfl⟩
      rw [← hy] at p0 p1 p2 hd0 hst hst2
      clear hy
      obtain ⟨⟨x1, x2, xd⟩, xa, xc⟩ := y
      simp only at p0 p1 p2 hd0 hst hst2
      have i0 : (0 : Int) ≤ (i : Int) := by omega
      have i1 : (i : Int) < (el.length : Int) := by omega
      have hba := below_new wr (.cells #[.int .u64 x1, .int .i64 x2, .slice xa xd.length xc] 88)
      have hB2 := below_on hBw hba (Nat.le_refl _)
      have ka : (wr.alloc (.cells #[.int .u64 x1, .int .i64 x2, .slice xa xd.length xc] 88)).heap[wr.heap.size]? = some (.cells #[.int .u64 x1, .int .i64 x2, .slice xa xd.length xc] 88) := heap_alloc_new _ _
      have Hs := Lib.hid (sound_e x1 x2 xa xd.length xc xd rfl (wr.alloc (.cells #[.int .u64 x1, .int .i64 x2, .slice xa xd.length xc] 88)))
      have Hm := Lib.hid (fun W hW => memRead_any xa xc xd W hW)
      obtain ⟨mk, hmk⟩ : ∃ mk, mk = memOk xd := ⟨_, rfl⟩
      obtain ⟨sk, hsk⟩ : ∃ sk, sk = soundE ⟨x1, x2, xd⟩ := ⟨_, rfl⟩
      rw [← hmk] at hst Hm
      rw [← hsk] at hst Hs
      clear hmk hsk
      have hcw : ∀ W', Below (wr.alloc (.cells #[.int .u64 x1, .int .i64 x2, .slice xa xd.length xc] 88)).heap.size (wr.alloc (.cells #[.int .u64 x1, .int .i64 x2, .slice xa xd.length xc] 88)) W' → (W'.cell? ⟨wr.heap.size, 0, none⟩ = some (.int .u64 x1) ∧ W'.cell? ⟨wr.heap.size, 1, none⟩ = some (.int .i64 x2) ∧ W'.cell? ⟨wr.heap.size, 2, none⟩ = some (.slice xa xd.length xc)) := fun W' hb => by
        have hk := (hb.block _ (Array.getElem?_eq_some_iff.1 ka).1).trans ka
        exact ⟨block_cell hk 0, block_cell hk 1, block_cell hk 2⟩
      have Hst2 := Lib.hid hst2
      have Hst := Lib.hid hst
      clear hst hst2 ka
      have hno : c0 = false → c = false := fun h => by
        rw [Bool.eq_false_iff, ne_eq, Hc.out, h]; simp
      have Hno := Lib.hid hno
      clear hno
      cases sk
      · have Hf := Lib.hid (Hno.out (by rw [Hinv.out, Hst.out]; rfl))
        go_wp2_with fail
        refine Hs.out.mono ?_
        rintro e w2 ⟨rfl, hb2⟩
        go_wp2_with fail
        go_ret
        exact ⟨by rw [Hf.out]; rfl, below_on hB2 hb2 (Nat.le_refl _)⟩
      · by_cases e1 : x1 < last
        · have Hf := Lib.hid (Hno.out (by rw [Hinv.out, Hst.out, decide_eq_false (p := last ≤ x1) (by omega)]; rfl))
          go_wp2_with fail
          refine Hs.out.mono ?_
          rintro e w2 ⟨rfl, hb2⟩
          obtain ⟨q0, q1, q2⟩ := hcw _ hb2
          go_wp2_with fail
          go_ret
          exact ⟨by rw [Hf.out]; rfl, below_on hB2 hb2 (Nat.le_refl _)⟩
        · by_cases e2 : x2 = 3
          · subst e2
            cases mk
            · have Hf := Lib.hid (Hno.out (by rw [Hinv.out, Hst.out]; simp))
              go_wp2_with fail
              refine Hs.out.mono ?_
              rintro e w2 ⟨rfl, hb2⟩
              obtain ⟨q0, q1, q2⟩ := hcw _ hb2
              have hB3 := below_on hB2 hb2 (Nat.le_refl _)
              have Hm2 := Lib.hid (Hm.out w2 (hd0.below hB3))
              go_wp2_with fail
              refine Hm2.out.mono ?_
              rintro e w3 ⟨⟨v3, rfl⟩, hb3⟩
              go_wp2_with fail
              go_ret
              exact ⟨by rw [Hf.out]; rfl, below_on hB3 hb3 (Nat.le_refl _)⟩
            · have Hgo : Hid (c0 = entB x1 ((el.map Ep.e).drop (i + 1))) := by show _ = _; rw [Hinv.out, Hst.out, decide_eq_true (p := last ≤ x1) (by omega)]; simp
              have Hgo2 : Hid (lt = lastT x1 ((el.map Ep.e).drop (i + 1))) := by show _ = _; rw [Hlt2.out, Hst2.out]
              go_wp2_with fail
              refine Hs.out.mono ?_
              rintro e w2 ⟨rfl, hb2⟩
              obtain ⟨q0, q1, q2⟩ := hcw _ hb2
              have hB3 := below_on hB2 hb2 (Nat.le_refl _)
              have Hm2 := Lib.hid (Hm.out w2 (hd0.below hB3))
              go_wp2_with fail
              refine Hm2.out.mono ?_
              rintro e w3 ⟨⟨v3, rfl⟩, hb3⟩
              have hb3' := below_on hb2 hb3 (Nat.le_refl _)
              obtain ⟨r0, r1, r2⟩ := hcw _ hb3'
              go_wp2_with fail
              go_roundw
              case rel => exact ⟨i + 1, x1, rfl, by simp, by omega, Hgo, Hgo2, below_on (below_on hB hba (Nat.le_refl _)) hb3' (Nat.le_refl _)⟩
              case measure => simp [intOf]; omega
          · have e2b : (x2 == 3) = false := by simpa using e2
            have Hgo : Hid (c0 = entB x1 ((el.map Ep.e).drop (i + 1))) := by show _ = _; rw [Hinv.out, Hst.out, decide_eq_true (p := last ≤ x1) (by omega)]; simp [e2]
            have Hgo2 : Hid (lt = lastT x1 ((el.map Ep.e).drop (i + 1))) := by show _ = _; rw [Hlt2.out, Hst2.out]
            clear e2
            go_wp2_with fail
            refine Hs.out.mono ?_
            rintro e w2 ⟨rfl, hb2⟩
            obtain ⟨q0, q1, q2⟩ := hcw _ hb2
            go_wp2_with fail
            go_roundw
            case rel => exact ⟨i + 1, x1, rfl, by simp, by omega, Hgo, Hgo2, below_on (below_on hB hba (Nat.le_refl _)) hb2 (Nat.le_refl _)⟩
            case measure => simp [intOf]; omega
    · have hii : i = el.length := by omega
      subst hii
      have Ht : Hid (c0 = true) := by show _ = _; rw [Hinv.out, List.drop_eq_nil_of_le (by simp)]; rfl
      have Hl : Hid (lt = last) := by show _ = _; rw [Hlt2.out, List.drop_eq_nil_of_le (by simp)]; rfl
      have Hc2 : Hid (c = true ↔ (el.length ≤ 8 ∧ last ≤ term ∧ index ≤ 576460752303423488 ∧ index + (el.length : Nat) ≤ 576460752303423488)) := by show _ ↔ _; rw [Hc.out, Ht.out, Hl.out]; simp
      have k2 := (hB.block _ z1).trans K1.out
      have p3 : wr.cell? ⟨w.heap.size, 3, none⟩ = some (.int .u64 term) := block_cell k2 3
      have p4 : wr.cell? ⟨w.heap.size, 4, none⟩ = some (.int .u64 index) := block_cell k2 4
      have p10 : wr.cell? ⟨w.heap.size, 10, none⟩ = some (.slice eo el.length ec) := block_cell k2 10
      have u1 : IntKind.u64.wrap (el.length : Int) = (el.length : Int) := IntWalk.u64_in _ (by omega)
      clear Hc Ht Hl Hinv Hlt2 HC0 HLT
      by_cases q1 : el.length ≤ 8
      · have q1' : (el.length : Int) ≤ 8 := by omega
        by_cases q2 : last ≤ term
        · by_cases q3 : index ≤ 576460752303423488
          · have u2 : IntKind.u64.wrap (index + (el.length : Int)) = index + (el.length : Int) := IntWalk.u64_in _ (by omega)
            by_cases q4 : index + (el.length : Int) ≤ 576460752303423488
            · have Hf : Hid (c = true) := by show _ = _; rw [Hc2.out]; exact ⟨q1, q2, q3, q4⟩
              go_wp2_with fail
              go_ret
              exact ⟨by rw [Hf.out]; rfl, hBw⟩
            · have Hf : Hid (c = false) := by show _ = _; rw [Bool.eq_false_iff, ne_eq, Hc2.out]; rintro ⟨_, _, _, h⟩; exact q4 h
              go_wp2_with fail
              go_ret
              exact ⟨by rw [Hf.out]; rfl, hBw⟩
          · have Hf : Hid (c = false) := by show _ = _; rw [Bool.eq_false_iff, ne_eq, Hc2.out]; rintro ⟨_, _, h, _⟩; exact q3 h
            go_wp2_with fail
            go_ret
            exact ⟨by rw [Hf.out]; rfl, hBw⟩
        · have Hf : Hid (c = false) := by show _ = _; rw [Bool.eq_false_iff, ne_eq, Hc2.out]; rintro ⟨_, h, _, _⟩; exact q2 h
          go_wp2_with fail
          go_ret
          exact ⟨by rw [Hf.out]; rfl, hBw⟩
      · have q1' : ¬ (el.length : Int) ≤ 8 := by omega
        have Hf : Hid (c = false) := by show _ = _; rw [Bool.eq_false_iff, ne_eq, Hc2.out]; rintro ⟨h, _, _, _⟩; exact q1 h
        go_wp2_with fail
        go_ret
        exact ⟨by rw [Hf.out]; rfl, hBw⟩
end Go.Proofs.Ytbmkgcoolofmpaa
namespace Go.Proofs.Ytbmkgcoolofmpaa
set_option linter.unusedVariables false
set_option linter.unusedSimpArgs false
set_option linter.unusedSectionVars false
open Go Go.RowKit
structure WL (P : Program) (ops : Array Oper) (Q : Exit → Act → World → Prop) (l : List Oper) (a : Act) (w : World) : Prop where
  out : wpList P ops Q l a w
theorem WL.skip {P : Program} {ops : Array Oper} {Q : Exit → Act → World → Prop} {o : Oper} {rest : List Oper} {a : Act} {w : World} (hw : Region.wanted o (yielded ops a.tmps) = false) (hk : WL P ops Q rest (a.put o.dst undef) w) : WL P ops Q (o :: rest) a w :=
  ⟨wpList_step fun K hK => by simp only [hw, Bool.false_eq_true, if_false]; exact hK _ _ hk.out⟩
theorem WL.val {P : Program} {ops : Array Oper} {Q : Exit → Act → World → Prop} {o : Oper} {rest : List Oper} {a : Act} {w : World} {v : Value} (hw : Region.wanted o (yielded ops a.tmps) = true) (h : (execOp a.eval o).run P w = .ok (.value v) w) (hk : WL P ops Q rest (a.put o.dst v) w) : WL P ops Q (o :: rest) a w :=
  ⟨wpList_step fun K hK => by
    simp only [hw, if_true]
    unfold Oper.wp
    rw [h]
    exact hK _ _ hk.out⟩
theorem WL.nil {P : Program} {ops : Array Oper} {Q : Exit → Act → World → Prop} {a : Act} {w : World} (h : Q .normal a w) : WL P ops Q [] a w := ⟨wpList_nil h⟩
theorem WL.any {P : Program} {ops : Array Oper} {Q : Exit → Act → World → Prop} {o : Oper} {rest : List Oper} {a : Act} {w : World} (hw : Region.wanted o (yielded ops a.tmps) = true) (h : ∀ K : Act → World → Prop, Hid (∀ a w, WL P ops Q rest a w → K a w) → o.wp P a w K Q) : WL P ops Q (o :: rest) a w :=
  ⟨wpList_step fun K hK => by
    simp only [hw, if_true]
    exact h K (Lib.hid fun a w h => hK a w h.out)⟩
theorem WL.start {P : Program} {ops : Array Oper} {Q : Exit → Act → World → Prop} {id : Nat} {a : Act} {w : World} (h : WL P ops Q ops.toList a w) : (Code.region id ops false).wp P Q a w := wp_region_list h.out
end Go.Proofs.Ytbmkgcoolofmpaa
namespace Go.Proofs.Ytbmkgcoolofmpaa
set_option linter.unusedVariables false
set_option linter.unusedSimpArgs false
set_option linter.unusedSectionVars false
open Go Go.RowKit Go.Shelf
/-- are all fields that a kind has not zero? -/
def spareM (m : Ms) : Bool :=
  (decide (m.kind = 1 ∨ m.kind = 3 ∨ m.kind = 5 ∨ m.kind = 6) || decide (m.index = 0)) && (decide (m.kind = 1 ∨ m.kind = 3 ∨ m.kind = 5) || decide (m.logTerm = 0)) &&
  (decide (m.kind = 5) || decide (m.commit = 0)) && (decide (m.kind = 5 ∨ m.kind = 6 ∨ m.kind = 7) || decide (m.round = 0)) &&
  (decide (m.kind = 2 ∨ m.kind = 4 ∨ m.kind = 6) || !m.ok) && (decide (m.kind = 3) || !m.force) &&
  (decide (m.kind = 5) || decide (m.es.length = 0)) && (decide (m.kind = 7) || decide (m.sn = ⟨0, 0, [], []⟩))
theorem spareM_iff {m : Ms} : spareM m = true ↔ ((m.kind = 1 ∨ m.kind = 3 ∨ m.kind = 5 ∨ m.kind = 6) ∨ m.index = 0) ∧ ((m.kind = 1 ∨ m.kind = 3 ∨ m.kind = 5) ∨ m.logTerm = 0) ∧ (m.kind = 5 ∨ m.commit = 0) ∧ ((m.kind = 5 ∨ m.kind = 6 ∨ m.kind = 7) ∨ m.round = 0) ∧ ((m.kind = 2 ∨ m.kind = 4 ∨ m.kind = 6) ∨ m.ok = false) ∧ (m.kind = 3 ∨ m.force = false) ∧ (m.kind = 5 ∨ m.es.length = 0) ∧ (m.kind = 7 ∨ m.sn = ⟨0, 0, [], []⟩) := by
  simp only [spareM, Bool.and_eq_true, Bool.or_eq_true, decide_eq_true_eq, and_assoc, Bool.not_eq_true']
end Go.Proofs.Ytbmkgcoolofmpaa
namespace Go.Proofs.Ytbmkgcoolofmpaa
set_option linter.unusedVariables false
set_option linter.unusedSimpArgs false
set_option linter.unusedSectionVars false
open Go Go.RowKit Go.Shelf
/-- may a message be? (as the program asks) -/
def soundM (m : Ms) : Bool :=
  decide (1 ≤ m.kind ∧ m.kind ≤ 8 ∧ 0 ≤ m.frm ∧ m.frm ≤ 6 ∧ 0 ≤ m.dst ∧ m.dst ≤ 6 ∧ m.frm ≠ m.dst) &&
  decide (1 ≤ m.term ∧ m.term ≤ 1152921504606846976 ∧ m.commit ≤ 576460752303423488 ∧ m.round ≤ 1152921504606846976) && entM m &&
  (decide (m.kind ≠ 7) || (soundSn m.sn && decide (m.sn.term ≤ m.term))) && spareM m
theorem soundM_iff {m : Ms} : soundM m = true ↔ (1 ≤ m.kind ∧ m.kind ≤ 8 ∧ 0 ≤ m.frm ∧ m.frm ≤ 6 ∧ 0 ≤ m.dst ∧ m.dst ≤ 6 ∧ m.frm ≠ m.dst) ∧ (1 ≤ m.term ∧ m.term ≤ 1152921504606846976 ∧ m.commit ≤ 576460752303423488 ∧ m.round ≤ 1152921504606846976) ∧ entM m = true ∧ (m.kind ≠ 7 ∨ (soundSn m.sn = true ∧ m.sn.term ≤ m.term)) ∧ spareM m = true := by
  simp only [soundM, Bool.and_eq_true, Bool.or_eq_true, decide_eq_true_eq, and_assoc]
theorem row_ent (term : Int) (es : List En) : ∀ last : Int, (entB last es = true ∧ lastT last es ≤ term) ↔ (rowB last term es = true ∧ last ≤ term) := by
  induction es with
  | nil => intro last; simp [entB, lastT, rowB]
  | cons e r ih =>
    intro last
    have h := ih e.term
    simp only [entB, lastT, rowB, Bool.and_eq_true, decide_eq_true_eq, Bool.or_eq_true] at h ⊢
    constructor
    · rintro ⟨⟨⟨⟨h1, h2⟩, h3⟩, h4⟩, h5⟩
      obtain ⟨h6, h7⟩ := h.1 ⟨h4, h5⟩
      exact ⟨⟨⟨⟨⟨h1, h2⟩, h7⟩, h3⟩, h6⟩, by omega⟩
    · rintro ⟨⟨⟨⟨⟨h1, h2⟩, h7⟩, h3⟩, h6⟩, h8⟩
      obtain ⟨h4, h5⟩ := h.2 ⟨h6, h7⟩
      exact ⟨⟨⟨⟨h1, h2⟩, h3⟩, h4⟩, h5⟩
theorem entM_iff {m : Ms} : entM m = true ↔ m.logTerm ≤ m.term ∧ m.index ≤ 576460752303423488 ∧ m.es.length ≤ 8 ∧ rowB m.logTerm m.term m.es = true ∧ m.index + m.es.length ≤ 576460752303423488 := by
  have h := row_ent m.term m.es m.logTerm
  simp only [entM, Bool.and_eq_true, decide_eq_true_eq, and_assoc]
  constructor
  · rintro ⟨h1, h2, h3, h4, h5⟩
    obtain ⟨h6, h7⟩ := h.1 ⟨h1, h3⟩
    exact ⟨h7, h4, h2, h6, h5⟩
  · rintro ⟨h7, h4, h2, h6, h5⟩
    obtain ⟨h1, h3⟩ := h.2 ⟨h6, h7⟩
    exact ⟨h1, h2, h3, h4, h5⟩
/-- a message with the fields alone that its kind has -/
def plainM (m : Ms) : Ms :=
  ⟨m.kind, m.frm, m.dst, m.term, if m.kind = 1 ∨ m.kind = 3 ∨ m.kind = 5 ∨ m.kind = 6 then m.index else 0, if m.kind = 1 ∨ m.kind = 3 ∨ m.kind = 5 then m.logTerm else 0,
    if m.kind = 5 then m.commit else 0, if m.kind = 5 ∨ m.kind = 6 ∨ m.kind = 7 then m.round else 0, if m.kind = 2 ∨ m.kind = 4 ∨ m.kind = 6 then m.ok else false, if m.kind = 3 then m.force else false,
    if m.kind = 5 then m.es else [], if m.kind = 7 then m.sn else ⟨0, 0, [], []⟩⟩
theorem ite_own {α : Type} {p : Prop} [Decidable p] {x y : α} : x = (if p then x else y) ↔ (p ∨ x = y) := by
  by_cases h : p <;> simp [h]
theorem plainM_iff {m : Ms} : spareM m = true ↔ m = plainM m := by
  rw [spareM_iff]
  obtain ⟨kind, frm, dst, term, index, logTerm, commit, round, ok, force, es, sn⟩ := m
  simp only [plainM, Ms.mk.injEq, true_and, ite_own, List.length_eq_zero_iff]
end Go.Proofs.Ytbmkgcoolofmpaa
