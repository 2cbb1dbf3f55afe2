/- Contract of the reference's Read. No statement of the seat is proved here. -/
import Derived.Test.YtdcinhnplcipoaaObBr
import Derived.Test.YtdcinhnplcipoaaObSn
namespace Go.Proofs.Ytdcinhnplcipoaa
set_option linter.unusedVariables false
set_option linter.unusedSimpArgs false
set_option linter.unusedSectionVars false
open Go Go.RowKit Go.Shelf

set_option maxRecDepth 100000 in
set_option maxHeartbeats 16000000 in
theorem refReadS_any {W : World} {p : Nat} {ao : Option Addr} {cap : Nat} {l : List UInt8} {bad : Bool} (h : Rd 79 W p ao cap l bad) :
    Calls Try.prog 33 #[.pointer (some ⟨p, 0, none⟩)] W (ReadTold 79 p (readS (l, bad)) W) := by
  have hI : ∀ (W : World) (ao : Option Addr) (cap : Nat) (l : List UInt8) (bad : Bool), Rd 79 W p ao cap l bad → Calls Try.prog 66 #[.pointer (some ⟨p, 0, none⟩), .int .u64 1152921504606846976] W (RdTold 79 p ao (fun x => .int .u64 x) (readN 1152921504606846976 l bad) W) := fun W ao cap l bad h => refNum_rd 1152921504606846976 (by decide) h
  have HI := Lib.hid hI
  clear hI
  have hA : ∀ (W : World) (ao : Option Addr) (cap : Nat) (l : List UInt8) (bad : Bool), Rd 79 W p ao cap l bad → Calls Try.prog 66 #[.pointer (some ⟨p, 0, none⟩), .int .u64 18446744073709551615] W (RdTold 79 p ao (fun x => .int .u64 x) (readN 18446744073709551615 l bad) W) := fun W ao cap l bad h => refNum_rd 18446744073709551615 (by decide) h
  have HA := Lib.hid hA
  clear hA
  have hM : ∀ (W : World) (ao : Option Addr) (cap : Nat) (l : List UInt8) (bad : Bool), Rd 79 W p ao cap l bad → Calls Try.prog 66 #[.pointer (some ⟨p, 0, none⟩), .int .u64 128] W (RdTold 79 p ao (fun x => .int .u64 x) (readN 128 l bad) W) := fun W ao cap l bad h => refNum_rd 128 (by decide) h
  have HM := Lib.hid hM
  clear hM
  have h5 : ∀ (W : World) (ao : Option Addr) (cap : Nat) (l : List UInt8) (bad : Bool), Rd 79 W p ao cap l bad → Calls Try.prog 66 #[.pointer (some ⟨p, 0, none⟩), .int .u64 5] W (RdTold 79 p ao (fun x => .int .u64 x) (readN 5 l bad) W) := fun W ao cap l bad h => refNum_rd 5 (by decide) h
  have H5 := Lib.hid h5
  clear h5
  have h7 : ∀ (W : World) (ao : Option Addr) (cap : Nat) (l : List UInt8) (bad : Bool), Rd 79 W p ao cap l bad → Calls Try.prog 66 #[.pointer (some ⟨p, 0, none⟩), .int .u64 7] W (RdTold 79 p ao (fun x => .int .u64 x) (readN 7 l bad) W) := fun W ao cap l bad h => refNum_rd 7 (by decide) h
  have H7 := Lib.hid h7
  clear h7
  have h3 : ∀ (W : World) (ao : Option Addr) (cap : Nat) (l : List UInt8) (bad : Bool), Rd 79 W p ao cap l bad → Calls Try.prog 66 #[.pointer (some ⟨p, 0, none⟩), .int .u64 3] W (RdTold 79 p ao (fun x => .int .u64 x) (readN 3 l bad) W) := fun W ao cap l bad h => refNum_rd 3 (by decide) h
  have H3 := Lib.hid h3
  clear h3
  have h8 : ∀ (W : World) (ao : Option Addr) (cap : Nat) (l : List UInt8) (bad : Bool), Rd 79 W p ao cap l bad → Calls Try.prog 66 #[.pointer (some ⟨p, 0, none⟩), .int .u64 8] W (RdTold 79 p ao (fun x => .int .u64 x) (readN 8 l bad) W) := fun W ao cap l bad h => refNum_rd 8 (by decide) h
  have H8 := Lib.hid h8
  clear h8
  have hW : ∀ (W : World) (ao : Option Addr) (cap : Nat) (l : List UInt8) (bad : Bool), Rd 79 W p ao cap l bad → Calls Try.prog 66 #[.pointer (some ⟨p, 0, none⟩), .int .u64 1048576] W (RdTold 79 p ao (fun x => .int .u64 x) (readN 1048576 l bad) W) := fun W ao cap l bad h => refNum_rd 1048576 (by decide) h
  have HW := Lib.hid hW
  clear hW
  have hX : ∀ (W : World) (ao : Option Addr) (cap : Nat) (l : List UInt8) (bad : Bool), Rd 79 W p ao cap l bad → Calls Try.prog 66 #[.pointer (some ⟨p, 0, none⟩), .int .u64 1125899906842624] W (RdTold 79 p ao (fun x => .int .u64 x) (readN 1125899906842624 l bad) W) := fun W ao cap l bad h => refNum_rd 1125899906842624 (by decide) h
  have HX := Lib.hid hX
  clear hX
  have hpz := (Array.getElem?_eq_some_iff.1 h.blk).1
  obtain ⟨R, hR⟩ : ∃ R, R = W.heap.size := ⟨_, rfl⟩
  obtain ⟨W1, hW1⟩ : ∃ W1, W1 = W.alloc (.cells #[.int .u64 0, .slice none 0 0] 53) := ⟨_, rfl⟩
  have hB1 : Below W.heap.size W W1 := by rw [hW1]; exact below_new _ _
  have k1 : W1.heap[W.heap.size]? = _ := (congrArg (fun z : World => z.heap[W.heap.size]?) hW1).trans (heap_alloc_new _ _)
  rw [← hR] at k1
  have hRp : p < R := by omega
  have hWR0 : W.heap.size ≤ R := by omega
  go_enter Try.func33, Try.ntmps33
  go_wp2_with fail
  rw [← hR]
  try rw [← hW1]
  clear hW1 hR
  obtain ⟨⟨x, lx, bx⟩, hE⟩ : ∃ r, r = readN 1152921504606846976 l bad := ⟨_, rfl⟩
  have hc := HI.out W1 ao cap l bad (h.below hB1)
  unfold RdTold at hc
  simp only [← hE] at hc
  have HEx := Lib.hid hE
  clear hE
  refine hc.mono ?_
  clear hc
  rintro e W2 ⟨arx, crx, rfl, hrd, hg2, hsbx⟩
  have hlow := (Low.of h.bs).read HEx.out hsbx
  have k1 := (hg2.block R (Array.getElem?_eq_some_iff.1 k1).1 (by simp; omega)).trans k1
  have hfr2 : W.grownBy W2 (some p) := grown_trans (grown_below hB1) hg2
  have hR2 := (Array.getElem?_eq_some_iff.1 k1).1
  go_wp2_with fail
  obtain ⟨W3, hW3⟩ : ∃ W3, W3 = W2.alloc (.cells #[.int .u64 (x : Int), .slice none 0 0] 53) := ⟨_, rfl⟩
  have hb3 : Below W2.heap.size W2 W3 := by rw [hW3]; exact below_new _ _
  have k2 : W3.heap[W2.heap.size]? = _ := (congrArg (fun z : World => z.heap[W2.heap.size]?) hW3).trans (heap_alloc_new _ _)
  rw [← hW3]
  clear hW3
  obtain ⟨S, hS⟩ : ∃ S, S = W2.heap.size := ⟨_, rfl⟩
  rw [← hS] at k2 ⊢
  have hRS : RS 53 53 W W3 p R S (x : Int) none 0 [] := ⟨(hb3.block R hR2).trans k1, k2, World.ownsRow_nil _ _ _ _, grown_trans hfr2 (grown_below hb3), by omega, by have := hfr2.size; omega, hpz, by omega, by decide, by decide⟩
  have hrd := hrd.below hb3
  clear hb3 k2 k1 hfr2 hg2 hB1 hR2 hS
  obtain ⟨⟨m, lm, bm⟩, hE⟩ : ∃ r, r = readN 128 lx bx := ⟨_, rfl⟩
  have hc := HM.out W3 arx crx lx bx hrd
  unfold RdTold at hc
  simp only [← hE] at hc
  have HEm := Lib.hid hE
  have hm128 : m ≤ 128 := by have := readN_le 128 lx bx; rw [← hE] at this; exact this
  clear hE
  refine hc.mono ?_
  clear hc hrd
  rintro e W4 ⟨arm, crm, rfl, hrd, hg4, hsbm⟩
  have hlow := hlow.read HEm.out hsbm
  have hRS := hRS.grown hg4
  clear hg4
  go_wp2_with fail
  go_loopw [6] (fun a wr => ∃ (i : Nat) (aoL : Option Addr) (capL : Nat) (lL : List No) (ar : Option Addr) (cr : Nat) (lb : List UInt8) (bb : Bool), a = .int .u64 i ∧ i ≤ m ∧ Hid ((lL, (lb, bb)) = readL i (lm, bm)) ∧ lL.length ≤ i ∧ RS 53 53 W wr p R S (x : Int) aoL capL lL ∧ Rd 79 wr p ar cr lb bb ∧ Low W.heap.size lb ar) (fun a _ => m - (intOf a).toNat)
  case atStart => exact ⟨0, none, 0, [], arm, crm, lm, bm, rfl, by omega, rfl, by simp, hRS, hrd, hlow⟩
  case round =>
    clear hRS hrd hlow
    obtain ⟨i, aoL, capL, lL, ar, cr, lb, bb, rfl, hi, hlb, hlen, hRS, hrd, hlow⟩ := hrel
    by_cases hlt : i < m
    · have i1 : (i : Int) < (m : Int) := by omega
      have w0 : IntKind.u64.wrap ((i : Int) + 1) = (i : Int) + 1 := IntWalk.u64_in _ (by omega)
      go_wp2_with fail
      obtain ⟨V, hV⟩ : ∃ V, V = wr.alloc (.cells #[.int .u64 0, .int .u64 0, .int .i64 0, .int .i64 0, .int .i64 0, .int .i64 0, .int .i64 0, .int .i64 0, .int .i64 0] 24) := ⟨_, rfl⟩
      have hbV : Below wr.heap.size wr V := by rw [hV]; exact below_new _ _
      have hN : V.heap[wr.heap.size]? = some (.cells #[.int .u64 0, .int .u64 0, .int .i64 0, .int .i64 0, .int .i64 0, .int .i64 0, .int .i64 0, .int .i64 0, .int .i64 0] 24 (0, 0)) := (congrArg (fun z : World => z.heap[wr.heap.size]?) hV).trans (heap_alloc_new _ _)
      rw [← hV]
      clear hV
      obtain ⟨N, hNd⟩ : ∃ N, N = wr.heap.size := ⟨_, rfl⟩
      rw [← hNd] at hN ⊢
      have hsz0 := hRS.fr.size
      have hNp : p < N := by have := hRS.pp; omega
      have hNW : W.heap.size ≤ N := by omega
      have hNR : N ≠ R := by have := (Array.getElem?_eq_some_iff.1 hRS.r).1; omega
      have hNS : N ≠ S := by have := (Array.getElem?_eq_some_iff.1 hRS.s).1; omega
      have hNo : (Value.slice aoL lL.length capL).ownBlock ≠ some N := fun e => by have := (hRS.own.lt N e).2; omega
      have hRS := hRS.below hbV
      have hrd := hrd.below hbV
      clear hbV hNd hsz0
      obtain ⟨⟨x0, lb0, bb0⟩, hE0⟩ : ∃ r, r = readN 1152921504606846976 lb bb := ⟨_, rfl⟩
      have hc := HI.out V ar cr lb bb hrd
      unfold RdTold at hc
      simp only [← hE0] at hc
      have HE0 := Lib.hid hE0
      have hx0 : x0 ≤ 1152921504606846976 := by have := readN_le 1152921504606846976 lb bb; rw [← HE0.out] at this; exact this
      have HX0 := Lib.hid hx0
      clear hE0 hx0
      refine hc.mono ?_
      clear hc
      rintro e V0 ⟨ar0, cr0, rfl, hrd0, hg0, hsb0⟩
      have hlow := hlow.read HE0.out hsb0
      have hRS := hRS.grown hg0
      have hN := (hg0.block N (Array.getElem?_eq_some_iff.1 hN).1 (by simp; omega)).trans hN
      have hrd := hrd0
      clear hg0 hrd0
      have zN := (Array.getElem?_eq_some_iff.1 hN).1
      have fz := block_free hN 0
      have fc := block_cell hN 0
      simp at fc
      go_wp2_with fail
      have hgs := grown_set V0 N 0 (.int .u64 (x0 : Int))
      have hNs := block_set hN 0 (.int .u64 (x0 : Int))
      simp only [List.setIfInBounds_toArray, List.set_cons_zero, List.set_cons_succ] at hNs
      obtain ⟨U0, hU0⟩ : ∃ U0, U0 = V0.setCell ⟨N, 0, none⟩ (.int .u64 (x0 : Int)) := ⟨_, rfl⟩
      rw [← hU0] at hgs hNs ⊢
      clear hU0
      have hRS := hRS.other hgs hNW hNR hNS hNo
      have hrd := hrd.otherB hgs hN (by omega)
      clear hN
      have hN := hNs
      clear hNs hgs fz fc zN
      obtain ⟨⟨x1, lb1, bb1⟩, hE1⟩ : ∃ r, r = readN 18446744073709551615 lb0 bb0 := ⟨_, rfl⟩
      have hc := HA.out U0 ar0 cr0 lb0 bb0 hrd
      unfold RdTold at hc
      simp only [← hE1] at hc
      have HE1 := Lib.hid hE1
      have hx1 : x1 ≤ 18446744073709551615 := by have := readN_le 18446744073709551615 lb0 bb0; rw [← HE1.out] at this; exact this
      have HX1 := Lib.hid hx1
      clear hE1 hx1
      refine hc.mono ?_
      clear hc
      rintro e V1 ⟨ar1, cr1, rfl, hrd1, hg1, hsb1⟩
      have hlow := hlow.read HE1.out hsb1
      have hRS := hRS.grown hg1
      have hN := (hg1.block N (Array.getElem?_eq_some_iff.1 hN).1 (by simp; omega)).trans hN
      have hrd := hrd1
      clear hg1 hrd1
      have zN := (Array.getElem?_eq_some_iff.1 hN).1
      have fz := block_free hN 1
      have fc := block_cell hN 1
      simp at fc
      go_wp2_with fail
      have hgs := grown_set V1 N 1 (.int .u64 (x1 : Int))
      have hNs := block_set hN 1 (.int .u64 (x1 : Int))
      simp only [List.setIfInBounds_toArray, List.set_cons_zero, List.set_cons_succ] at hNs
      obtain ⟨U1, hU1⟩ : ∃ U1, U1 = V1.setCell ⟨N, 1, none⟩ (.int .u64 (x1 : Int)) := ⟨_, rfl⟩
      rw [← hU1] at hgs hNs ⊢
      clear hU1
      have hRS := hRS.other hgs hNW hNR hNS hNo
      have hrd := hrd.otherB hgs hN (by omega)
      clear hN
      have hN := hNs
      clear hNs hgs fz fc zN
      obtain ⟨⟨x2, lb2, bb2⟩, hE2⟩ : ∃ r, r = readN 5 lb1 bb1 := ⟨_, rfl⟩
      have hc := H5.out U1 ar1 cr1 lb1 bb1 hrd
      unfold RdTold at hc
      simp only [← hE2] at hc
      have HE2 := Lib.hid hE2
      have hx2 : x2 ≤ 5 := by have := readN_le 5 lb1 bb1; rw [← HE2.out] at this; exact this
      have HX2 := Lib.hid hx2
      have w2 : IntKind.i64.wrap (x2 : Int) = (x2 : Int) := IntWalk.i64_in _ (by omega)
      clear hE2 hx2
      refine hc.mono ?_
      clear hc
      rintro e V2 ⟨ar2, cr2, rfl, hrd2, hg2, hsb2⟩
      have hlow := hlow.read HE2.out hsb2
      have hRS := hRS.grown hg2
      have hN := (hg2.block N (Array.getElem?_eq_some_iff.1 hN).1 (by simp; omega)).trans hN
      have hrd := hrd2
      clear hg2 hrd2
      have zN := (Array.getElem?_eq_some_iff.1 hN).1
      have fz := block_free hN 2
      have fc := block_cell hN 2
      simp at fc
      go_wp2_with fail
      have hgs := grown_set V2 N 2 (.int .i64 (x2 : Int))
      have hNs := block_set hN 2 (.int .i64 (x2 : Int))
      simp only [List.setIfInBounds_toArray, List.set_cons_zero, List.set_cons_succ] at hNs
      obtain ⟨U2, hU2⟩ : ∃ U2, U2 = V2.setCell ⟨N, 2, none⟩ (.int .i64 (x2 : Int)) := ⟨_, rfl⟩
      rw [← hU2] at hgs hNs ⊢
      clear hU2
      have hRS := hRS.other hgs hNW hNR hNS hNo
      have hrd := hrd.otherB hgs hN (by omega)
      clear hN
      have hN := hNs
      clear hNs hgs fz fc zN w2
      obtain ⟨⟨x3, lb3, bb3⟩, hE3⟩ : ∃ r, r = readN 7 lb2 bb2 := ⟨_, rfl⟩
      have hc := H7.out U2 ar2 cr2 lb2 bb2 hrd
      unfold RdTold at hc
      simp only [← hE3] at hc
      have HE3 := Lib.hid hE3
      have hx3 : x3 ≤ 7 := by have := readN_le 7 lb2 bb2; rw [← HE3.out] at this; exact this
      have HX3 := Lib.hid hx3
      have w3 : IntKind.i64.wrap (x3 : Int) = (x3 : Int) := IntWalk.i64_in _ (by omega)
      clear hE3 hx3
      refine hc.mono ?_
      clear hc
      rintro e V3 ⟨ar3, cr3, rfl, hrd3, hg3, hsb3⟩
      have hlow := hlow.read HE3.out hsb3
      have hRS := hRS.grown hg3
      have hN := (hg3.block N (Array.getElem?_eq_some_iff.1 hN).1 (by simp; omega)).trans hN
      have hrd := hrd3
      clear hg3 hrd3
      have zN := (Array.getElem?_eq_some_iff.1 hN).1
      have fz := block_free hN 3
      have fc := block_cell hN 3
      simp at fc
      go_wp2_with fail
      have hgs := grown_set V3 N 3 (.int .i64 (x3 : Int))
      have hNs := block_set hN 3 (.int .i64 (x3 : Int))
      simp only [List.setIfInBounds_toArray, List.set_cons_zero, List.set_cons_succ] at hNs
      obtain ⟨U3, hU3⟩ : ∃ U3, U3 = V3.setCell ⟨N, 3, none⟩ (.int .i64 (x3 : Int)) := ⟨_, rfl⟩
      rw [← hU3] at hgs hNs ⊢
      clear hU3
      have hRS := hRS.other hgs hNW hNR hNS hNo
      have hrd := hrd.otherB hgs hN (by omega)
      clear hN
      have hN := hNs
      clear hNs hgs fz fc zN w3
      obtain ⟨⟨x4, lb4, bb4⟩, hE4⟩ : ∃ r, r = readN 3 lb3 bb3 := ⟨_, rfl⟩
      have hc := H3.out U3 ar3 cr3 lb3 bb3 hrd
      unfold RdTold at hc
      simp only [← hE4] at hc
      have HE4 := Lib.hid hE4
      have hx4 : x4 ≤ 3 := by have := readN_le 3 lb3 bb3; rw [← HE4.out] at this; exact this
      have HX4 := Lib.hid hx4
      have w4 : IntKind.i64.wrap (x4 : Int) = (x4 : Int) := IntWalk.i64_in _ (by omega)
      clear hE4 hx4
      refine hc.mono ?_
      clear hc
      rintro e V4 ⟨ar4, cr4, rfl, hrd4, hg4, hsb4⟩
      have hlow := hlow.read HE4.out hsb4
      have hRS := hRS.grown hg4
      have hN := (hg4.block N (Array.getElem?_eq_some_iff.1 hN).1 (by simp; omega)).trans hN
      have hrd := hrd4
      clear hg4 hrd4
      have zN := (Array.getElem?_eq_some_iff.1 hN).1
      have fz := block_free hN 4
      have fc := block_cell hN 4
      simp at fc
      go_wp2_with fail
      have hgs := grown_set V4 N 4 (.int .i64 (x4 : Int))
      have hNs := block_set hN 4 (.int .i64 (x4 : Int))
      simp only [List.setIfInBounds_toArray, List.set_cons_zero, List.set_cons_succ] at hNs
      obtain ⟨U4, hU4⟩ : ∃ U4, U4 = V4.setCell ⟨N, 4, none⟩ (.int .i64 (x4 : Int)) := ⟨_, rfl⟩
      rw [← hU4] at hgs hNs ⊢
      clear hU4
      have hRS := hRS.other hgs hNW hNR hNS hNo
      have hrd := hrd.otherB hgs hN (by omega)
      clear hN
      have hN := hNs
      clear hNs hgs fz fc zN w4
      obtain ⟨⟨x5, lb5, bb5⟩, hE5⟩ : ∃ r, r = readN 8 lb4 bb4 := ⟨_, rfl⟩
      have hc := H8.out U4 ar4 cr4 lb4 bb4 hrd
      unfold RdTold at hc
      simp only [← hE5] at hc
      have HE5 := Lib.hid hE5
      have hx5 : x5 ≤ 8 := by have := readN_le 8 lb4 bb4; rw [← HE5.out] at this; exact this
      have HX5 := Lib.hid hx5
      have w5 : IntKind.i64.wrap (x5 : Int) = (x5 : Int) := IntWalk.i64_in _ (by omega)
      clear hE5 hx5
      refine hc.mono ?_
      clear hc
      rintro e V5 ⟨ar5, cr5, rfl, hrd5, hg5, hsb5⟩
      have hlow := hlow.read HE5.out hsb5
      have hRS := hRS.grown hg5
      have hN := (hg5.block N (Array.getElem?_eq_some_iff.1 hN).1 (by simp; omega)).trans hN
      have hrd := hrd5
      clear hg5 hrd5
      have zN := (Array.getElem?_eq_some_iff.1 hN).1
      have fz := block_free hN 5
      have fc := block_cell hN 5
      simp at fc
      go_wp2_with fail
      have hgs := grown_set V5 N 5 (.int .i64 (x5 : Int))
      have hNs := block_set hN 5 (.int .i64 (x5 : Int))
      simp only [List.setIfInBounds_toArray, List.set_cons_zero, List.set_cons_succ] at hNs
      obtain ⟨U5, hU5⟩ : ∃ U5, U5 = V5.setCell ⟨N, 5, none⟩ (.int .i64 (x5 : Int)) := ⟨_, rfl⟩
      rw [← hU5] at hgs hNs ⊢
      clear hU5
      have hRS := hRS.other hgs hNW hNR hNS hNo
      have hrd := hrd.otherB hgs hN (by omega)
      clear hN
      have hN := hNs
      clear hNs hgs fz fc zN w5
      obtain ⟨⟨x6, lb6, bb6⟩, hE6⟩ : ∃ r, r = readN 8 lb5 bb5 := ⟨_, rfl⟩
      have hc := H8.out U5 ar5 cr5 lb5 bb5 hrd
      unfold RdTold at hc
      simp only [← hE6] at hc
      have HE6 := Lib.hid hE6
      have hx6 : x6 ≤ 8 := by have := readN_le 8 lb5 bb5; rw [← HE6.out] at this; exact this
      have HX6 := Lib.hid hx6
      have w6 : IntKind.i64.wrap (x6 : Int) = (x6 : Int) := IntWalk.i64_in _ (by omega)
      clear hE6 hx6
      refine hc.mono ?_
      clear hc
      rintro e V6 ⟨ar6, cr6, rfl, hrd6, hg6, hsb6⟩
      have hlow := hlow.read HE6.out hsb6
      have hRS := hRS.grown hg6
      have hN := (hg6.block N (Array.getElem?_eq_some_iff.1 hN).1 (by simp; omega)).trans hN
      have hrd := hrd6
      clear hg6 hrd6
      have zN := (Array.getElem?_eq_some_iff.1 hN).1
      have fz := block_free hN 6
      have fc := block_cell hN 6
      simp at fc
      go_wp2_with fail
      have hgs := grown_set V6 N 6 (.int .i64 (x6 : Int))
      have hNs := block_set hN 6 (.int .i64 (x6 : Int))
      simp only [List.setIfInBounds_toArray, List.set_cons_zero, List.set_cons_succ] at hNs
      obtain ⟨U6, hU6⟩ : ∃ U6, U6 = V6.setCell ⟨N, 6, none⟩ (.int .i64 (x6 : Int)) := ⟨_, rfl⟩
      rw [← hU6] at hgs hNs ⊢
      clear hU6
      have hRS := hRS.other hgs hNW hNR hNS hNo
      have hrd := hrd.otherB hgs hN (by omega)
      clear hN
      have hN := hNs
      clear hNs hgs fz fc zN w6
      obtain ⟨⟨x7, lb7, bb7⟩, hE7⟩ : ∃ r, r = readN 1048576 lb6 bb6 := ⟨_, rfl⟩
      have hc := HW.out U6 ar6 cr6 lb6 bb6 hrd
      unfold RdTold at hc
      simp only [← hE7] at hc
      have HE7 := Lib.hid hE7
      have hx7 : x7 ≤ 1048576 := by have := readN_le 1048576 lb6 bb6; rw [← HE7.out] at this; exact this
      have HX7 := Lib.hid hx7
      have w7 : IntKind.i64.wrap (x7 : Int) = (x7 : Int) := IntWalk.i64_in _ (by omega)
      clear hE7 hx7
      refine hc.mono ?_
      clear hc
      rintro e V7 ⟨ar7, cr7, rfl, hrd7, hg7, hsb7⟩
      have hlow := hlow.read HE7.out hsb7
      have hRS := hRS.grown hg7
      have hN := (hg7.block N (Array.getElem?_eq_some_iff.1 hN).1 (by simp; omega)).trans hN
      have hrd := hrd7
      clear hg7 hrd7
      have zN := (Array.getElem?_eq_some_iff.1 hN).1
      have fz := block_free hN 7
      have fc := block_cell hN 7
      simp at fc
      go_wp2_with fail
      have hgs := grown_set V7 N 7 (.int .i64 (x7 : Int))
      have hNs := block_set hN 7 (.int .i64 (x7 : Int))
      simp only [List.setIfInBounds_toArray, List.set_cons_zero, List.set_cons_succ] at hNs
      obtain ⟨U7, hU7⟩ : ∃ U7, U7 = V7.setCell ⟨N, 7, none⟩ (.int .i64 (x7 : Int)) := ⟨_, rfl⟩
      rw [← hU7] at hgs hNs ⊢
      clear hU7
      have hRS := hRS.other hgs hNW hNR hNS hNo
      have hrd := hrd.otherB hgs hN (by omega)
      clear hN
      have hN := hNs
      clear hNs hgs fz fc zN w7
      obtain ⟨⟨x8, lb8, bb8⟩, hE8⟩ : ∃ r, r = readN 1125899906842624 lb7 bb7 := ⟨_, rfl⟩
      have hc := HX.out U7 ar7 cr7 lb7 bb7 hrd
      unfold RdTold at hc
      simp only [← hE8] at hc
      have HE8 := Lib.hid hE8
      have hx8 : x8 ≤ 1125899906842624 := by have := readN_le 1125899906842624 lb7 bb7; rw [← HE8.out] at this; exact this
      have HX8 := Lib.hid hx8
      have w8 : IntKind.i64.wrap (x8 : Int) = (x8 : Int) := IntWalk.i64_in _ (by omega)
      clear hE8 hx8
      refine hc.mono ?_
      clear hc
      rintro e V8 ⟨ar8, cr8, rfl, hrd8, hg8, hsb8⟩
      have hlow := hlow.read HE8.out hsb8
      have hRS := hRS.grown hg8
      have hN := (hg8.block N (Array.getElem?_eq_some_iff.1 hN).1 (by simp; omega)).trans hN
      have hrd := hrd8
      clear hg8 hrd8
      have zN := (Array.getElem?_eq_some_iff.1 hN).1
      have fz := block_free hN 8
      have fc := block_cell hN 8
      simp at fc
      go_upto_region 16 with fail
      have hgs := grown_set V8 N 8 (.int .i64 (x8 : Int))
      have hNs := block_set hN 8 (.int .i64 (x8 : Int))
      simp only [List.setIfInBounds_toArray, List.set_cons_zero, List.set_cons_succ] at hNs
      obtain ⟨U8, hU8⟩ : ∃ U8, U8 = V8.setCell ⟨N, 8, none⟩ (.int .i64 (x8 : Int)) := ⟨_, rfl⟩
      rw [← hU8] at hgs hNs ⊢
      clear hU8
      have hRS := hRS.other hgs hNW hNR hNS hNo
      have hrd := hrd.otherB hgs hN (by omega)
      clear hN
      have hN := hNs
      clear hNs hgs fz fc zN w8
      obtain ⟨d0, d1, d2, d3, d4, d5, d6, d7, d8⟩ := blk9 hN
      have cS := block_cell hRS.s 1
      simp at cS
      have zN := (Array.getElem?_eq_some_iff.1 hN).1
      have zS := (Array.getElem?_eq_some_iff.1 hRS.s).1
      have hRS5 := hRS.below (below_new U8 (.cells #[.int .u64 (x0 : Int), .int .u64 (x1 : Int), .int .i64 (x2 : Int), .int .i64 (x3 : Int), .int .i64 (x4 : Int), .int .i64 (x5 : Int), .int .i64 (x6 : Int), .int .i64 (x7 : Int), .int .i64 (x8 : Int)] 24))
      have hNo2 := readNo_of HE0.out HE1.out HE2.out HE3.out HE4.out HE5.out HE6.out HE7.out HE8.out
      have hnext := Lib.hid (readL_next hlb.out hNo2)
      have hBU := hRS.fr.size
      have hsW := hRS5.own.lt
      clear hNo2
      go_wp2_with (at_builtin; refine wpl_append_one rfl (.tmp 53) (.tmp 55) 42 rfl W.heap.size 24 infoNo Try.underlying42 rfl (by decide) _ lL.length (lL.map noCells) rfl hRS5.own ⟨U8.heap.size, 0, none⟩ 1 (noCells ⟨x0, x1, x2, x3, x4, x5, x6, x7, x8⟩) rfl rfl (news_at _ rfl) (no_one _) ?_ ?_ ?_ ?_; omega; (unfold maxLen; omega); (simp; omega); intro g cap4 Y4 hown4 hg4 hlie; obtain ⟨s4, hRS4⟩ := hRS5.push (n := ⟨x0, x1, x2, x3, x4, x5, x6, x7, x8⟩) hown4 hg4 (fun g' e => by have hgg : g = g' := (by simpa [Value.ownBlock] using e); subst hgg; exact hlie.imp (fun h1 => h1) (fun h1 => Nat.le_of_eq h1.symm)); have cs4 := block_cell s4 1; have fs4 := block_free s4 1; simp at cs4)
      have hgs4 := grown_set Y4 S 1 (.slice (some ⟨g, 0, none⟩) (lL.length + 1) cap4)
      have hWS := hRS.sp
      have hWp := hRS.pp
      have hz45 := hg4.size
      have hkf : ∀ k, k < W.heap.size → (Y4.setCell ⟨S, 1, none⟩ (.slice (some ⟨g, 0, none⟩) (lL.length + 1) cap4)).heap[k]? = U8.heap[k]? := fun k hk => (hgs4.block k (by simp at hz45; omega) (by simp; omega)).trans ((hg4.block k (by simp; omega) (fun e => by have := (hsW k e.symm).1; omega)).trans (heap_alloc_old _ _ (by omega)))
      have hrd6 := hrd.above hWp hlow hkf
      go_roundw
      case rel => exact ⟨i + 1, some ⟨g, 0, none⟩, cap4, lL ++ [⟨x0, x1, x2, x3, x4, x5, x6, x7, x8⟩], ar8, cr8, lb8, bb8, by simp, by omega, hnext, by simp; omega, hRS4, hrd6, hlow⟩
      case measure => simp [intOf]; omega
    · have him : i = m := by omega
      subst him
      have hS := Lib.hid (readS_of HEx.out HEm.out hlb.out)
      have hlc : lL.length ≤ 1000000 := by omega
      have hWR := hRS.rp
      have hWp := hRS.pp
      obtain ⟨q0, q1, q2, q3⟩ := hrd.cells
      cases bb with
      | true =>
        have hS2 := hS.out
        rw [if_neg (by simp)] at hS2
        have HS2 := Lib.hid hS2
        clear hS2 hS
        go_wp2_with fail
        refine (refFail_rd hrd).mono ?_
        rintro e W9 ⟨rfl, hrd9, hg9⟩
        have hRS9 := hRS.grown hg9
        have cR0 := block_cell hRS9.r 0
        have cR1 := block_cell hRS9.r 1
        have zR0 := block_free hRS9.r 0
        have zR1 := block_free hRS9.r 1
        have zR := (Array.getElem?_eq_some_iff.1 hRS9.r).1
        simp at cR0 cR1
        have hgR := grown_set2 W9 R (.int .u64 0) (.slice none 0 0)
        have hR2 := block_set (block_set hRS9.r 0 (.int .u64 0)) 1 (.slice none 0 0)
        simp only [List.setIfInBounds_toArray, List.set_cons_zero, List.set_cons_succ] at hR2
        have u0 := block_cell hR2 0
        have u1 := block_cell hR2 1
        simp at u0 u1
        go_wp2_with fail
        refine bodyPost_ret (v := .tuple #[.agg #[.int .u64 0, .slice none 0 0], .bool false]) (by simp [results, Try.results33, go_sem, u0, u1]) rfl ?_
        rw [HS2.out]
        exact ⟨none, 0, none, 0, rfl, Ns.nil _, hrd9.above hWp (fun h0 => by simp at h0) (fun k hk => hgR.block k (by have := hRS9.fr.size; omega) (by simp; omega)), grown_new hRS9.fr hgR hWR, fun h0 => by simp at h0⟩
      | false =>
        have hso := refSound_any (x : Int) aoL capL lL wr hRS.row hlc
        have cS0 := block_cell hRS.s 0
        have cS1 := block_cell hRS.s 1
        simp at cS0 cS1
        cases hs : soundS (x : Int) lL with
        | false =>
          rw [hs] at hso
          have Hso := Lib.hid hso
          have hS2 := hS.out
          rw [if_neg (by simp [hs])] at hS2
          have HS2 := Lib.hid hS2
          clear hS2 hS hso hs
          go_wp2_with fail
          refine Hso.out.mono ?_
          rintro e w6 ⟨rfl, hb6⟩
          have hrd6 := hrd.below hb6
          have hRS6 := hRS.below hb6
          go_wp2_with fail
          refine (refFail_rd hrd6).mono ?_
          rintro e W9 ⟨rfl, hrd9, hg9⟩
          have hRS9 := hRS6.grown hg9
          have cR0 := block_cell hRS9.r 0
          have cR1 := block_cell hRS9.r 1
          have zR0 := block_free hRS9.r 0
          have zR1 := block_free hRS9.r 1
          have zR := (Array.getElem?_eq_some_iff.1 hRS9.r).1
          simp at cR0 cR1
          have hgR := grown_set2 W9 R (.int .u64 0) (.slice none 0 0)
          have hR2 := block_set (block_set hRS9.r 0 (.int .u64 0)) 1 (.slice none 0 0)
          simp only [List.setIfInBounds_toArray, List.set_cons_zero, List.set_cons_succ] at hR2
          have u0 := block_cell hR2 0
          have u1 := block_cell hR2 1
          simp at u0 u1
          go_wp2_with fail
          refine bodyPost_ret (v := .tuple #[.agg #[.int .u64 0, .slice none 0 0], .bool false]) (by simp [results, Try.results33, go_sem, u0, u1]) rfl ?_
          rw [HS2.out]
          exact ⟨none, 0, none, 0, rfl, Ns.nil _, hrd9.above hWp (fun h0 => by simp at h0) (fun k hk => hgR.block k (by have := hRS9.fr.size; omega) (by simp; omega)), grown_new hRS9.fr hgR hWR, fun h0 => by simp at h0⟩
        | true =>
          rw [hs] at hso
          have Hso := Lib.hid hso
          have hS2 := hS.out
          rw [if_pos ⟨rfl, hs⟩] at hS2
          have HS2 := Lib.hid hS2
          clear hS2 hS hso hs
          go_wp2_with fail
          refine Hso.out.mono ?_
          rintro e W9 ⟨rfl, hb6⟩
          have hrd9 := hrd.below hb6
          have hRS9 := hRS.below hb6
          have t0 := block_cell hRS9.s 0
          have t1 := block_cell hRS9.s 1
          simp at t0 t1
          have cR0 := block_cell hRS9.r 0
          have cR1 := block_cell hRS9.r 1
          have zR0 := block_free hRS9.r 0
          have zR1 := block_free hRS9.r 1
          have zR := (Array.getElem?_eq_some_iff.1 hRS9.r).1
          simp at cR0 cR1
          have hgR := grown_set2 W9 R (.int .u64 (x : Int)) (.slice aoL lL.length capL)
          have hR2 := block_set (block_set hRS9.r 0 (.int .u64 (x : Int))) 1 (.slice aoL lL.length capL)
          simp only [List.setIfInBounds_toArray, List.set_cons_zero, List.set_cons_succ] at hR2
          have u0 := block_cell hR2 0
          have u1 := block_cell hR2 1
          simp at u0 u1
          go_wp2_with fail
          have hnR : (Value.slice aoL lL.length capL).ownBlock ≠ some R := fun e => by
            have := own_elem hRS9.own R e
            rw [elem?_of hRS9.r] at this
            exact absurd this (by decide)
          have hown9 := hRS9.own.kept hgR (.inr hnR)
          refine bodyPost_ret (v := .tuple #[.agg #[.int .u64 (x : Int), .slice aoL lL.length capL], .bool true]) (by simp [results, Try.results33, go_sem, u0, u1]) rfl ?_
          rw [HS2.out]
          exact ⟨aoL, capL, ar, cr, rfl, Ns.of_own hown9, hrd9.above hWp hlow (fun k hk => hgR.block k (by have := hRS9.fr.size; omega) (by simp; omega)), grown_new hRS9.fr hgR hWR, fun _ a e => (hown9.lt a.block (by rw [e]; rfl)).1⟩
end Go.Proofs.Ytdcinhnplcipoaa
