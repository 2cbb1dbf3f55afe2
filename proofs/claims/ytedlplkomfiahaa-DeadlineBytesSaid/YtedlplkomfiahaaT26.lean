/- Lemmas for DeadlineBytes (Eg). No statement of the seat is proved here. -/
import Derived.Test.YtedlplkomfiahaaT25
namespace Go.Proofs.Ytedlplkomfiahaa
set_option linter.unusedVariables false
set_option linter.unusedSimpArgs false
set_option linter.unusedSectionVars false
open Go Go.RowKit Go.Shelf Go.Maps Go.Deep
theorem slot0_app13 (l : List Th) (t : Th) : rtFlat (slot0 l) ++ rtFlat [(t, 0)] = rtFlat (slot0 (l ++ [t])) := by
  rw [← rt_two]
  unfold slot0
  rw [List.map_append]
  rfl
theorem rtx_of {W : World} {base cap : Nat} {ao : Option Addr} {l : List Th} (h : W.ownsRow base rtT 4 (.slice ao l.length cap) l.length (rtFlat (slot0 l))) : Rt W ao cap (slot0 l) := rx_own h (slot0_len l)
set_option maxRecDepth 100000 in
set_option maxHeartbeats 16000000 in
theorem refReadB_any {W : World} {p : Nat} {ao : Option Addr} {cap : Nat} {l : List UInt8} {bad : Bool} (h : Rd 78 W p ao cap l bad) :
    Calls Try.prog 29 #[.pointer (some ⟨p, 0, none⟩)] W (ReadToldB 78 rtT 4 (fun X => rtFlat (slot0 X)) p (readB (l, bad)) W) := by
  have hzs : ∀ w, (zeroValue rsT).run Try.prog w = .ok (.agg #[.int .i64 0, .int .u64 0, .slice none 0 0]) w := fun w => by kernel_rfl
  have HI : Hid (∀ (W : World) (ao : Option Addr) (cap : Nat) (l : List UInt8) (bad : Bool), Rd 78 W p ao cap l bad → Calls Try.prog 61 #[.pointer (some ⟨p, 0, none⟩)] W (RdToldI 78 p ao (readI l bad) W)) := Lib.hid fun W ao cap l bad h => refInt_rd h
  have HL : Hid (∀ (W : World) (ao : Option Addr) (cap : Nat) (l : List UInt8) (bad : Bool), Rd 78 W p ao cap l bad → Calls Try.prog 62 #[.pointer (some ⟨p, 0, none⟩), .int .u64 1152921504606846976] W (RdTold 78 p ao (fun x => .int .u64 x) (readN 1152921504606846976 l bad) W)) := Lib.hid fun W ao cap l bad h => refNum_rd 1152921504606846976 (by decide) h
  have HM : Hid (∀ (W : World) (ao : Option Addr) (cap : Nat) (l : List UInt8) (bad : Bool), Rd 78 W p ao cap l bad → Calls Try.prog 62 #[.pointer (some ⟨p, 0, none⟩), .int .u64 256] W (RdTold 78 p ao (fun x => .int .u64 x) (readN 256 l bad) W)) := Lib.hid fun W ao cap l bad h => refNum_rd 256 (by decide) h
  have HA : Hid (∀ (W : World) (ao : Option Addr) (cap : Nat) (l : List UInt8) (bad : Bool), Rd 78 W p ao cap l bad → Calls Try.prog 62 #[.pointer (some ⟨p, 0, none⟩), .int .u64 18446744073709551615] W (RdTold 78 p ao (fun x => .int .u64 x) (readN 18446744073709551615 l bad) W)) := Lib.hid fun W ao cap l bad h => refNum_rd 18446744073709551615 (by decide) h
  have HX : Hid (∀ (W : World) (ao : Option Addr) (cap : Nat) (l : List UInt8) (bad : Bool), Rd 78 W p ao cap l bad → Calls Try.prog 62 #[.pointer (some ⟨p, 0, none⟩), .int .u64 1125899906842624] W (RdTold 78 p ao (fun x => .int .u64 x) (readN 1125899906842624 l bad) W)) := Lib.hid fun W ao cap l bad h => refNum_rd 1125899906842624 (by decide) h
  have hpz := (Array.getElem?_eq_some_iff.1 h.blk).1
  have hru : RdU 78 W.heap.size W p ao cap l bad := ⟨h, Low13.of h.bs, hpz⟩
  clear h
  obtain ⟨W1, hW1⟩ : ∃ W1, W1 = W.alloc (.cells #[.int .i64 0, .int .u64 0, .slice none 0 0] rsT) := ⟨_, rfl⟩
  obtain ⟨b1, hb1⟩ : ∃ b, b = W.heap.size := ⟨_, rfl⟩
  have hB1 : Below W.heap.size W W1 := by rw [hW1]; exact below_new _ _
  have t1 : W1.heap[b1]? = some (.cells #[.int .i64 0, .int .u64 0, .slice none 0 0] rsT (0, 0)) := by rw [hW1, hb1]; exact heap_alloc_new _ _
  have T1 := Lib.hid t1
  have HB1 := Lib.hid hB1
  have Hup1 : Hid (W.heap.size ≤ b1) := (by omega : W.heap.size ≤ b1)
  have hru1 := hru.above hB1.block
  clear hru t1 hB1
  obtain ⟨⟨x, lx, bx⟩, hE⟩ : ∃ r, r = readI l bad := ⟨_, rfl⟩
  have hc := HI.out W1 ao cap l bad hru1.rd
  unfold RdToldI at hc
  simp only [← hE] at hc
  have HEx := Lib.hid hE
  have Hc := Lib.hid hc
  have Hru1 := Lib.hid hru1
  have Hpz := Lib.hid hpz
  clear hE hc hru1 hpz HI
  go_enter Try.func29, Try.ntmps29
  go_wp2_with fail
  rw [← hW1, ← hb1]
  clear hW1 hb1
  refine (show Calls _ _ _ _ _ from Hc.out).mono ?_
  rintro e V0 ⟨ar0, cr0, rfl, hrd0, hg0, hsb0⟩
  have hru := Hru1.out.int HEx.out hrd0 hsb0
  have t1 := (hg0.block b1 (Array.getElem?_eq_some_iff.1 T1.out).1 (by have := Hup1.out; have := Hpz.out; simp; omega)).trans T1.out
  have hfr0 : W.grownBy V0 (some p) := grown_trans (grown_below HB1.out) hg0
  obtain ⟨V1, hV1⟩ : ∃ V1, V1 = V0.alloc (.cells #[.int .i64 x, .int .u64 0, .slice none 0 0] rsT) := ⟨_, rfl⟩
  obtain ⟨b2, hb2⟩ : ∃ b, b = V0.heap.size := ⟨_, rfl⟩
  have hB2 : Below V0.heap.size V0 V1 := by rw [hV1]; exact below_new _ _
  have t2 : V1.heap[b2]? = some (.cells #[.int .i64 x, .int .u64 0, .slice none 0 0] rsT (0, 0)) := by rw [hV1, hb2]; exact heap_alloc_new _ _
  have hru' : RdU 78 W.heap.size V1 p ar0 cr0 lx bx := ⟨hru.rd.below hB2, hru.low, hru.pp⟩
  have hRB0 : RB rtT 4 rsT W V1 p b1 b2 x 0 none 0 0 [] := ⟨(hB2.block b1 (Array.getElem?_eq_some_iff.1 t1).1).trans t1, t2, World.ownsRow_nil _ _ _ _, grown_trans hfr0 (grown_below hB2), Hup1.out, by rw [hb2]; exact hfr0.size, Hpz.out, by have := (Array.getElem?_eq_some_iff.1 t1).1; omega, by decide⟩
  obtain ⟨⟨y, ly, by_⟩, hE⟩ : ∃ r, r = readN 1152921504606846976 lx bx := ⟨_, rfl⟩
  have hc := HL.out V1 ar0 cr0 lx bx hru'.rd
  unfold RdTold at hc
  simp only [← hE] at hc
  have HEy := Lib.hid hE
  have Hc1 := Lib.hid hc
  have Hru := Lib.hid hru'
  have HRB0 := Lib.hid hRB0
  clear hE hc hru hru' hfr0 t1 t2 hg0 hsb0 hrd0 Hc Hru1 hRB0 hB2
  go_wp2_with fail
  rw [← hV1, ← hb2]
  clear hV1 hb2
  refine (show Calls _ _ _ _ _ from Hc1.out).mono ?_
  rintro e V2 ⟨ar1, cr1, rfl, hrd1, hg1, hsb1⟩
  have hru := Hru.out.num HEy.out hrd1 hsb1
  have hRB1 := HRB0.out.grown hg1
  have q1 := block_cell hRB1.s 1
  have f1 := block_free hRB1.s 1
  have l2 := (Array.getElem?_eq_some_iff.1 hRB1.s).1
  simp at q1 f1
  have hRB : RB rtT 4 rsT W (V2.setCell ⟨b2, 1, none⟩ (.int .u64 (y : Int))) p b1 b2 x (y : Int) none 0 0 [] := by
    have hs := block_set hRB1.s 1 (.int .u64 (y : Int))
    simp only [List.setIfInBounds_toArray, List.set_cons_zero, List.set_cons_succ] at hs
    have hg2 := grown_set V2 b2 1 (.int .u64 (y : Int))
    exact ⟨(hg2.block b1 (Array.getElem?_eq_some_iff.1 hRB1.r).1 (by have := hRB1.rs; simp; omega)).trans hRB1.r, hs, World.ownsRow_nil _ _ _ _, grown_new13 hRB1.fr hg2 hRB1.sp, hRB1.rp, hRB1.sp, hRB1.pp, hRB1.rs, hRB1.far⟩
  have hru3 := hru.above (w' := V2.setCell ⟨b2, 1, none⟩ (.int .u64 (y : Int))) (fun k hk => (grown_set V2 b2 1 (.int .u64 (y : Int))).block k (by have := hRB1.fr.size; omega) (by have := hRB1.sp; simp; omega))
  obtain ⟨V2', hV2⟩ : ∃ V2', V2' = V2.setCell ⟨b2, 1, none⟩ (.int .u64 (y : Int)) := ⟨_, rfl⟩
  rw [← hV2] at hRB hru3
  obtain ⟨⟨m, lm, bm⟩, hE⟩ : ∃ r, r = readN 256 ly by_ := ⟨_, rfl⟩
  have hc := HM.out V2' ar1 cr1 ly by_ hru3.rd
  unfold RdTold at hc
  simp only [← hE] at hc
  have HEm := Lib.hid hE
  have hm256 : m ≤ 256 := by have := readN_le 256 ly by_; rw [← hE] at this; exact this
  have Hc2 := Lib.hid hc
  have HRB := Lib.hid hRB
  have Hru3 := Lib.hid hru3
  clear hE hc hru hg1 hsb1 hrd1 Hc1 Hru hRB hru3 HL HM T1 hRB1 HRB0
  go_wp2_with fail
  rw [← hV2]
  clear hV2 q1 f1 l2
  refine (show Calls _ _ _ _ _ from Hc2.out).mono ?_
  rintro e V3 ⟨ar3, cr3, rfl, hrd3, hg3, hsb3⟩
  have hru4 := Hru3.out.num HEm.out hrd3 hsb3
  have hRB4 := HRB.out.grown hg3
  have Hru4 := Lib.hid hru4
  have HRB4 := Lib.hid hRB4
  clear hg3 hsb3 hrd3 Hc2 HRB Hru3 hru4 hRB4
  go_wp2_with fail
  go_loopw [6] (fun a wr => ∃ (i : Nat) (aoL : Option Addr) (capL : Nat) (lL : List Th) (ar : Option Addr) (cr : Nat) (lb : List UInt8) (bb : Bool), a = .int .u64 i ∧ i ≤ m ∧ Hid ((lL, (lb, bb)) = readX i (lm, bm)) ∧ Hid (lL.length = i) ∧ Hid (RB rtT 4 rsT W wr p b1 b2 x (y : Int) aoL lL.length capL (rtFlat (slot0 lL))) ∧ Hid (RdU 78 W.heap.size wr p ar cr lb bb)) (fun a _ => m - (intOf a).toNat)
  case atStart => exact ⟨0, none, 0, [], ar3, cr3, lm, bm, rfl, Nat.zero_le _, rfl, rfl, HRB4, Hru4⟩
  case round =>
    clear HRB4 Hru4
    obtain ⟨i, aoL, capL, lL, ar, cr, lb, bb, rfl, hi, hlb, hlen, hRB, hru⟩ := hrel
    by_cases hlt : i < m
    · have i1 : (i : Int) < (m : Int) := by omega
      have w0 : IntKind.u64.wrap ((i : Int) + 1) = (i : Int) + 1 := IntWalk.u64_in _ (by omega)
      have hl256 : lL.length ≤ 256 := by rw [hlen.out]; omega
      have Hl256 := Lib.hid hl256
      have Hlt := Lib.hid hlt
      have W0' := Lib.hid w0
      clear hl256 hlt hi hm256 w0
      obtain ⟨V, hV⟩ : ∃ V, V = wr.alloc (.cells #[.int .u64 0, .int .u64 0, .int .i64 0, .int .i64 0] rtT) := ⟨_, rfl⟩
      obtain ⟨N, hNd⟩ : ∃ N, N = wr.heap.size := ⟨_, rfl⟩
      have hBV : Below wr.heap.size wr V := by rw [hV]; exact below_new _ _
      have hN : V.heap[N]? = some (.cells #[.int .u64 0, .int .u64 0, .int .i64 0, .int .i64 0] rtT (0, 0)) := by rw [hV, hNd]; exact heap_alloc_new _ _
      have hNN : Hid (W.heap.size ≤ N ∧ p ≠ N ∧ N ≠ b1 ∧ N ≠ b2 ∧ (Value.slice aoL lL.length capL).ownBlock ≠ some N) := by
        have a1 := hRB.out.fr.size
        have a2 := hRB.out.pp
        have a3 := (Array.getElem?_eq_some_iff.1 hRB.out.r).1
        have a4 := (Array.getElem?_eq_some_iff.1 hRB.out.s).1
        exact Lib.hid ⟨by omega, by omega, by omega, by omega, fun e => by have := (hRB.out.own.lt N e).2; omega⟩
      have hRBz := Lib.hid (hRB.out.below hBV)
      have hruz := Lib.hid (⟨hru.out.rd.below hBV, hru.out.low, hru.out.pp⟩ : RdU 78 W.heap.size V p ar cr lb bb)
      have HNz := Lib.hid hN
      have Hc := Lib.hid (HA.out V ar cr lb bb hruz.out.rd)
      clear hBV hN hRB hru
      go_wp2_with fail
      rw [← hV, ← hNd]
      clear hV hNd
      obtain ⟨⟨x0, l0, d0⟩, hE⟩ : ∃ r, r = readN 18446744073709551615 lb bb := ⟨_, rfl⟩
      have hc := Hc.out
      unfold RdTold at hc
      simp only [← hE] at hc
      have HE0 := Lib.hid hE
      clear hE Hc
      refine hc.mono ?_
      clear hc
      rintro e U0 ⟨as0, cs0, rfl, hr0, hg0, hs0⟩
      have hru0 := hruz.out.num HE0.out hr0 hs0
      have hRB0 := hRBz.out.grown hg0
      have hN0 := (hg0.block N (Array.getElem?_eq_some_iff.1 HNz.out).1 (by have := hNN.out.2.1; simp; omega)).trans HNz.out
      have zN := (Array.getElem?_eq_some_iff.1 hN0).1
      have fz := block_free hN0 0
      have fc := block_cell hN0 0
      simp at fc fz
      have hgs := grown_set U0 N 0 (.int .u64 (x0 : Int))
      have hNs := block_set hN0 0 (.int .u64 (x0 : Int))
      simp only [List.setIfInBounds_toArray, List.set_cons_zero, List.set_cons_succ] at hNs
      obtain ⟨V0, hV0⟩ : ∃ V, V = U0.setCell ⟨N, 0, none⟩ (.int .u64 (x0 : Int)) := ⟨_, rfl⟩
      rw [← hV0] at hgs hNs
      have hRBs0 := Lib.hid (hRB0.other hgs hNN.out.1 hNN.out.2.2.1 hNN.out.2.2.2.1 hNN.out.2.2.2.2)
      have hrus0 := Lib.hid (hru0.above (fun j hj => hgs.block j (by have := hRB0.fr.size; omega) (by have := hNN.out.1; simp; omega)))
      have HNs0 := Lib.hid hNs
      have Hc := Lib.hid ((show Calls _ _ _ _ (RdTold 78 p as0 (fun x => .int .u64 x) (readN 1152921504606846976 l0 d0) V0) from refNum_rd 1152921504606846976 (by decide) hrus0.out.rd))
      clear hr0 hg0 hs0 hru0 hRB0 hN0 hgs hNs hruz hRBz HNz
      go_wp2_with fail
      rw [← hV0]
      clear hV0 zN fz fc
      obtain ⟨⟨x1, l1, d1⟩, hE⟩ : ∃ r, r = readN 1152921504606846976 l0 d0 := ⟨_, rfl⟩
      have hc := Hc.out
      unfold RdTold at hc
      simp only [← hE] at hc
      have HE1 := Lib.hid hE
      clear hE Hc
      refine hc.mono ?_
      clear hc
      rintro e U1 ⟨as1, cs1, rfl, hr1, hg1, hs1⟩
      have hru1 := hrus0.out.num HE1.out hr1 hs1
      have hRB1 := hRBs0.out.grown hg1
      have hN1 := (hg1.block N (Array.getElem?_eq_some_iff.1 HNs0.out).1 (by have := hNN.out.2.1; simp; omega)).trans HNs0.out
      have zN := (Array.getElem?_eq_some_iff.1 hN1).1
      have fz := block_free hN1 1
      have fc := block_cell hN1 1
      simp at fc fz
      have hgs := grown_set U1 N 1 (.int .u64 (x1 : Int))
      have hNs := block_set hN1 1 (.int .u64 (x1 : Int))
      simp only [List.setIfInBounds_toArray, List.set_cons_zero, List.set_cons_succ] at hNs
      obtain ⟨V1, hV1⟩ : ∃ V, V = U1.setCell ⟨N, 1, none⟩ (.int .u64 (x1 : Int)) := ⟨_, rfl⟩
      rw [← hV1] at hgs hNs
      have hRBs1 := Lib.hid (hRB1.other hgs hNN.out.1 hNN.out.2.2.1 hNN.out.2.2.2.1 hNN.out.2.2.2.2)
      have hrus1 := Lib.hid (hru1.above (fun j hj => hgs.block j (by have := hRB1.fr.size; omega) (by have := hNN.out.1; simp; omega)))
      have HNs1 := Lib.hid hNs
      have Hc := Lib.hid ((show Calls _ _ _ _ (RdTold 78 p as1 (fun x => .int .u64 x) (readN 1125899906842624 l1 d1) V1) from refNum_rd 1125899906842624 (by decide) hrus1.out.rd))
      clear hr1 hg1 hs1 hru1 hRB1 hN1 hgs hNs hrus0 hRBs0 HNs0
      go_wp2_with fail
      rw [← hV1]
      clear hV1 zN fz fc
      obtain ⟨⟨x2, l2, d2⟩, hE⟩ : ∃ r, r = readN 1125899906842624 l1 d1 := ⟨_, rfl⟩
      have hc := Hc.out
      unfold RdTold at hc
      simp only [← hE] at hc
      have HE2 := Lib.hid hE
      have hle2 : x2 ≤ 1125899906842624 := by have := readN_le 1125899906842624 l1 d1; rw [← hE] at this; exact this
      have w2 : IntKind.i64.wrap (x2 : Int) = (x2 : Int) := IntWalk.i64_in _ (by omega)
      clear hE Hc
      refine hc.mono ?_
      clear hc
      rintro e U2 ⟨as2, cs2, rfl, hr2, hg2, hs2⟩
      have hru2 := hrus1.out.num HE2.out hr2 hs2
      have hRB2 := hRBs1.out.grown hg2
      have hN2 := (hg2.block N (Array.getElem?_eq_some_iff.1 HNs1.out).1 (by have := hNN.out.2.1; simp; omega)).trans HNs1.out
      have zN := (Array.getElem?_eq_some_iff.1 hN2).1
      have fz := block_free hN2 2
      have fc := block_cell hN2 2
      simp at fc fz
      have hgs := grown_set U2 N 2 (.int .i64 (x2 : Int))
      have hNs := block_set hN2 2 (.int .i64 (x2 : Int))
      simp only [List.setIfInBounds_toArray, List.set_cons_zero, List.set_cons_succ] at hNs
      obtain ⟨V2, hV2⟩ : ∃ V, V = U2.setCell ⟨N, 2, none⟩ (.int .i64 (x2 : Int)) := ⟨_, rfl⟩
      rw [← hV2] at hgs hNs
      have hRBs2 := Lib.hid (hRB2.other hgs hNN.out.1 hNN.out.2.2.1 hNN.out.2.2.2.1 hNN.out.2.2.2.2)
      have hrus2 := Lib.hid (hru2.above (fun j hj => hgs.block j (by have := hRB2.fr.size; omega) (by have := hNN.out.1; simp; omega)))
      have HNs2 := Lib.hid hNs
      clear hr2 hg2 hs2 hru2 hRB2 hN2 hgs hNs hrus1 hRBs1 HNs1
      go_upto_region 11 with fail
      rw [← hV2]
      clear hV2 zN fz fc w2
      have c2 := block_cell hRBs2.out.s 2
      have n0 := block_cell HNs2.out 0
      have n1 := block_cell HNs2.out 1
      have n2 := block_cell HNs2.out 2
      have n3 := block_cell HNs2.out 3
      have zN := (Array.getElem?_eq_some_iff.1 HNs2.out).1
      have zS := (Array.getElem?_eq_some_iff.1 hRBs2.out.s).1
      simp at c2 n0 n1 n2 n3
      have hB5 := below_new V2 (.cells #[.int .u64 (x0 : Int), .int .u64 (x1 : Int), .int .i64 (x2 : Int), .int .i64 0] rtT)
      have hRB5 := hRBs2.out.below hB5
      have hru5 : RdU 78 W.heap.size (V2.alloc (.cells #[.int .u64 (x0 : Int), .int .u64 (x1 : Int), .int .i64 (x2 : Int), .int .i64 0] rtT)) p as2 cs2 l2 d2 := ⟨hrus2.out.rd.below hB5, hrus2.out.low, hrus2.out.pp⟩
      have own1 : (V2.alloc (.cells #[.int .u64 (x0 : Int), .int .u64 (x1 : Int), .int .i64 (x2 : Int), .int .i64 0] rtT)).ownsRow W.heap.size rtT 4 (.slice (some ⟨V2.heap.size, 0, .none⟩) 1 1) 1 (rtFlat [((⟨(x0 : Int), (x1 : Int), (x2 : Int)⟩ : Th), 0)]) := own_rt V2 W.heap.size (⟨(x0 : Int), (x1 : Int), (x2 : Int)⟩, 0) hRBs2.out.fr.size
      have HRB5 := Lib.hid hRB5
      have Hru5 := Lib.hid hru5
      have Own1 := Lib.hid own1
      clear hB5 hRB5 hru5 own1
      go_wp2_with (at_builtin; refine wpl_append_lie rfl (.tmp 32) (.tmp 34) rtsT rfl W.heap.size rtT infoRt Try.underlying48 rfl (by decide) _ lL.length _ rfl HRB5.out.own _ _ _ _ rfl (Rt.of_own (l := [((⟨(x0 : Int), (x1 : Int), (x2 : Int)⟩ : Th), 0)]) Own1.out).sl (rts_one _) ?_ ?_ ?_ ?_; (unfold maxLen; have := Hl256.out; simp; omega); (have := Hl256.out; simp; omega); (exact HRB5.out.fr.size); intro a3 c3 V5 own3 hgr _; (obtain ⟨hs3, hRB6⟩ := HRB5.out.push own3 hgr); (have hru6 := Hru5.out.above (HRB5.out.kept (u := .slice a3 (lL.length + 1) c3) hgr)); rw [slot0_app13] at hRB6; (have HRB6 := Lib.hid hRB6); (have Hru6 := Lib.hid hru6); (have y2 := block_cell hs3 2); (have f2 := block_free hs3 2); (have z3 := (Array.getElem?_eq_some_iff.1 hs3).1); simp at y2 f2; clear hs3 hRB6 hru6 own3 hgr c2 n0 n1 n2 n3 zN zS)
      have hn4 : lL.length + 1 = (lL ++ [(⟨(x0 : Int), (x1 : Int), (x2 : Int)⟩ : Th)]).length := by simp
      have Hn4 := Lib.hid hn4
      have w0 := W0'.out
      clear hn4
      go_roundw
      case rel => exact ⟨i + 1, a3, c3, lL ++ [⟨(x0 : Int), (x1 : Int), (x2 : Int)⟩], as2, cs2, l2, d2, (by simp; exact w0), Hlt.out, Lib.hid (readX_next hlb.out HE0.out HE1.out HE2.out), (by show (lL ++ [_]).length = _; rw [List.length_append, hlen.out]; rfl), (by rw [← Hn4.out]; exact HRB6), Hru6⟩
      case measure => have := Hlt.out; simp [intOf]; omega
    · obtain rfl : i = m := Nat.le_antisymm hi (Nat.le_of_not_lt hlt)
      have Hok := Lib.hid (fun t ht => (readX_ok i (lm, bm) t (by rw [← hlb.out]; exact ht)).ids)
      have hl256 : lL.length ≤ 256 := by rw [hlen.out]; exact hm256
      obtain ⟨hyes, hno⟩ := readB_of HEx.out HEy.out HEm.out hlb.out
      have Hl256 := Lib.hid hl256
      have HUp := Lib.hid (And.intro hRB.out.rp hRB.out.sp)
      cases bb with
      | true =>
        obtain ⟨-, g1, -, -⟩ := hru.out.rd.cells
        have gz := (Array.getElem?_eq_some_iff.1 hru.out.rd.blk).1
        have Hfa := Lib.hid (refFail_rd hru.out.rd)
        have HR := Lib.hid (hno (by simp))
        clear hyes hno hl256
        go_wp2_with fail
        refine (show Calls _ _ _ _ _ from Hfa.out).mono ?_
        rintro e W9 ⟨rfl, hrd9, hg9⟩
        have hRB9 := hRB.out.grown hg9
        have cR0 := block_cell hRB9.r 0
        have cR1 := block_cell hRB9.r 1
        have cR2 := block_cell hRB9.r 2
        have zR0 := block_free hRB9.r 0
        have zR1 := block_free hRB9.r 1
        have zR2 := block_free hRB9.r 2
        have zR := (Array.getElem?_eq_some_iff.1 hRB9.r).1
        simp at cR0 cR1 cR2 zR0 zR1 zR2
        have hgR : W9.grownBy (((W9.setCell ⟨b1, 0, none⟩ (.int .i64 0)).setCell ⟨b1, 1, none⟩ (.int .u64 0)).setCell ⟨b1, 2, none⟩ (.slice none 0 0)) (some b1) := grown_trans (grown_trans (grown_set _ _ _ _) (grown_set _ _ _ _)) (grown_set _ _ _ _)
        have hR2 := block_set (block_set (block_set hRB9.r 0 (.int .i64 0)) 1 (.int .u64 0)) 2 (.slice none 0 0)
        simp only [List.setIfInBounds_toArray, List.set_cons_zero, List.set_cons_succ] at hR2
        have hru9 := (⟨hrd9, (fun h0 => by simp at h0), hru.out.pp⟩ : RdU 78 W.heap.size W9 p none 0 [] true).above (fun k hk => hgR.block k (by have := hRB9.fr.size; omega) (by have := HUp.out; simp; omega))
        have hfr := grown_new13 hRB9.fr hgR HUp.out.1
        clear hg9 hrd9
        go_wp2_with fail
        obtain ⟨U, hU⟩ : ∃ U, U = (((W9.setCell ⟨b1, 0, none⟩ (.int .i64 0)).setCell ⟨b1, 1, none⟩ (.int .u64 0)).setCell ⟨b1, 2, none⟩ (.slice none 0 0)) := ⟨_, rfl⟩
        rw [← hU] at hR2 hru9 hfr ⊢
        have u0 := block_cell hR2 0
        have u1 := block_cell hR2 1
        have u2 := block_cell hR2 2
        have ul := (Array.getElem?_eq_some_iff.1 hR2).1
        simp at u0 u1 u2
        clear hU hgR
        refine bodyPost_ret (v := .tuple #[dsV 0 0 none 0 0, .bool false]) (by simp [results, Try.results29, go_sem, u0, u1, u2, ul, dsV]) rfl ?_
        rw [HR.out]
        exact ⟨none, 0, none, 0, rfl, World.ownsRow_nil _ _ _ _, hru9.rd, hfr⟩
      | false =>
        obtain ⟨-, g1, -, -⟩ := hru.out.rd.cells
        have gz := (Array.getElem?_eq_some_iff.1 hru.out.rd.blk).1
        have Hsn := Lib.hid (rsound13 wr x (y : Int) aoL capL lL (rtx_of hRB.out.own) (by omega))
        have Hyes := Lib.hid hyes
        have Hno := Lib.hid hno
        unfold dsV at Hsn
        have c0 := block_cell hRB.out.s 0
        have c1 := block_cell hRB.out.s 1
        have c2 := block_cell hRB.out.s 2
        have m2 := (Array.getElem?_eq_some_iff.1 hRB.out.s).1
        simp at c0 c1 c2
        clear hyes hno hl256
        go_wp2_with fail
        refine (show Calls _ _ _ _ _ from Hsn.out).mono ?_
        rintro e W8 ⟨v, rfl, hv, hb8⟩
        have hRB := Lib.hid (hRB.out.below hb8)
        have hru : Hid (RdU 78 W.heap.size W8 p ar cr lb false) := (⟨hru.out.rd.below hb8, hru.out.low, hru.out.pp⟩ : RdU 78 W.heap.size W8 p ar cr lb false)
        clear c0 c1 c2 m2
        have c0 := block_cell hRB.out.s 0
        have c1 := block_cell hRB.out.s 1
        have c2 := block_cell hRB.out.s 2
        have m2 := (Array.getElem?_eq_some_iff.1 hRB.out.s).1
        simp at c0 c1 c2
        cases v with
        | false =>
          have hn : ¬ SoundP x (y : Int) lL := fun h => by have := hv.2 h; cases this
          have Hfa := Lib.hid (refFail_rd hru.out.rd)
          have HR := Lib.hid (Hno.out (fun h => hn h.2))
          clear hv hn hb8
          go_wp2_with fail
          refine (show Calls _ _ _ _ _ from Hfa.out).mono ?_
          rintro e W9 ⟨rfl, hrd9, hg9⟩
          have hRB9 := hRB.out.grown hg9
          have cR0 := block_cell hRB9.r 0
          have cR1 := block_cell hRB9.r 1
          have cR2 := block_cell hRB9.r 2
          have zR0 := block_free hRB9.r 0
          have zR1 := block_free hRB9.r 1
          have zR2 := block_free hRB9.r 2
          have zR := (Array.getElem?_eq_some_iff.1 hRB9.r).1
          simp at cR0 cR1 cR2 zR0 zR1 zR2
          have hgR : W9.grownBy (((W9.setCell ⟨b1, 0, none⟩ (.int .i64 0)).setCell ⟨b1, 1, none⟩ (.int .u64 0)).setCell ⟨b1, 2, none⟩ (.slice none 0 0)) (some b1) := grown_trans (grown_trans (grown_set _ _ _ _) (grown_set _ _ _ _)) (grown_set _ _ _ _)
          have hR2 := block_set (block_set (block_set hRB9.r 0 (.int .i64 0)) 1 (.int .u64 0)) 2 (.slice none 0 0)
          simp only [List.setIfInBounds_toArray, List.set_cons_zero, List.set_cons_succ] at hR2
          have hru9 := (⟨hrd9, (fun h0 => by simp at h0), hru.out.pp⟩ : RdU 78 W.heap.size W9 p none 0 [] true).above (fun k hk => hgR.block k (by have := hRB9.fr.size; omega) (by have := HUp.out; simp; omega))
          have hfr := grown_new13 hRB9.fr hgR HUp.out.1
          clear hg9 hrd9
          go_wp2_with fail
          obtain ⟨U, hU⟩ : ∃ U, U = (((W9.setCell ⟨b1, 0, none⟩ (.int .i64 0)).setCell ⟨b1, 1, none⟩ (.int .u64 0)).setCell ⟨b1, 2, none⟩ (.slice none 0 0)) := ⟨_, rfl⟩
          rw [← hU] at hR2 hru9 hfr ⊢
          have u0 := block_cell hR2 0
          have u1 := block_cell hR2 1
          have u2 := block_cell hR2 2
          have ul := (Array.getElem?_eq_some_iff.1 hR2).1
          simp at u0 u1 u2
          clear hU hgR
          refine bodyPost_ret (v := .tuple #[dsV 0 0 none 0 0, .bool false]) (by simp [results, Try.results29, go_sem, u0, u1, u2, ul, dsV]) rfl ?_
          rw [HR.out]
          exact ⟨none, 0, none, 0, rfl, World.ownsRow_nil _ _ _ _, hru9.rd, hfr⟩
        | true =>
          have HR := Lib.hid (Hyes.out (by simp) (hv.1 rfl))
          have cR0 := block_cell hRB.out.r 0
          have cR1 := block_cell hRB.out.r 1
          have cR2 := block_cell hRB.out.r 2
          have zR0 := block_free hRB.out.r 0
          have zR1 := block_free hRB.out.r 1
          have zR2 := block_free hRB.out.r 2
          have zR := (Array.getElem?_eq_some_iff.1 hRB.out.r).1
          simp at cR0 cR1 cR2 zR0 zR1 zR2
          have hgR : W8.grownBy (((W8.setCell ⟨b1, 0, none⟩ (.int .i64 x)).setCell ⟨b1, 1, none⟩ (.int .u64 (y : Int))).setCell ⟨b1, 2, none⟩ (.slice aoL lL.length capL)) (some b1) := grown_trans (grown_trans (grown_set _ _ _ _) (grown_set _ _ _ _)) (grown_set _ _ _ _)
          have hR2 := block_set (block_set (block_set hRB.out.r 0 (.int .i64 x)) 1 (.int .u64 (y : Int))) 2 (.slice aoL lL.length capL)
          simp only [List.setIfInBounds_toArray, List.set_cons_zero, List.set_cons_succ] at hR2
          have hown := hRB.out.own.kept hgR (.inr (hRB.out.noRow hRB.out.r hRB.out.far))
          have hru9 := hru.out.above (fun k hk => hgR.block k (by have := hRB.out.fr.size; omega) (by have := HUp.out; simp; omega))
          have hfr := grown_new13 hRB.out.fr hgR HUp.out.1
          clear hv hb8
          go_wp2_with fail
          obtain ⟨U, hU⟩ : ∃ U, U = (((W8.setCell ⟨b1, 0, none⟩ (.int .i64 x)).setCell ⟨b1, 1, none⟩ (.int .u64 (y : Int))).setCell ⟨b1, 2, none⟩ (.slice aoL lL.length capL)) := ⟨_, rfl⟩
          rw [← hU] at hR2 hown hru9 hfr ⊢
          have u0 := block_cell hR2 0
          have u1 := block_cell hR2 1
          have u2 := block_cell hR2 2
          have ul := (Array.getElem?_eq_some_iff.1 hR2).1
          simp at u0 u1 u2
          clear hU hgR
          refine bodyPost_ret (v := .tuple #[dsV x (y : Int) aoL lL.length capL, .bool true]) (by simp [results, Try.results29, go_sem, u0, u1, u2, ul, dsV]) rfl ?_
          rw [HR.out]
          exact ⟨aoL, capL, ar, cr, rfl, hown, hru9.rd, hfr⟩
end Go.Proofs.Ytedlplkomfiahaa
