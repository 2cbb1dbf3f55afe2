/- Lemmas for DeadlineBytes (Ef). No statement of the seat is proved here. -/
import Derived.Test.YtedlplkomfiahaaT24
namespace Go.Proofs.Ytedlplkomfiahaa
set_option linter.unusedVariables false
set_option linter.unusedSimpArgs false
set_option linter.unusedSectionVars false
open Go Go.RowKit Go.Shelf Go.Maps Go.Deep
theorem own_th13 (w : World) (base : Nat) (t : Th) (hb : base ≤ w.heap.size) : (w.alloc (.cells #[.int .u64 t.id, .int .u64 t.gen, .int .i64 t.due] thT)).ownsRow base thT 3 (.slice (some ⟨w.heap.size, 0, .none⟩) 1 1) 1 (thFlat [t]) :=
  ⟨by simp [thFlat, thCells], .inr ⟨w.heap.size, 1, _, rfl, hb, heap_alloc_new w _, Nat.le_refl _, by unfold maxLen; omega, by simp, by simp [thFlat, thCells]⟩⟩
theorem ThR.of13 {W : World} {base cap : Nat} {ao : Option Addr} {l : List Th} (h : W.ownsRow base thT 3 (.slice ao l.length cap) l.length (thFlat l)) : ThR W ao cap l := (Tt.of_own h).thr
set_option maxRecDepth 100000 in
set_option maxHeartbeats 16000000 in
theorem dread_any {W : World} {p : Nat} {ao : Option Addr} {cap : Nat} {l : List UInt8} {bad : Bool} (h : Rd 106 W p ao cap l bad) :
    Calls Try.prog 25 #[.pointer (some ⟨p, 0, none⟩)] W (ReadToldB 106 thT 3 thFlat p (readB (l, bad)) W) := by
  have hzs : ∀ w, (zeroValue dsT).run Try.prog w = .ok (.agg #[.int .i64 0, .int .u64 0, .slice none 0 0]) w := fun w => by kernel_rfl
  have HI : Hid (∀ (W : World) (ao : Option Addr) (cap : Nat) (l : List UInt8) (bad : Bool), Rd 106 W p ao cap l bad → Calls Try.prog 55 #[.pointer (some ⟨p, 0, none⟩)] W (RdToldI 106 p ao (readI l bad) W)) := Lib.hid fun W ao cap l bad h => rint_any h
  have HL : Hid (∀ (W : World) (ao : Option Addr) (cap : Nat) (l : List UInt8) (bad : Bool), Rd 106 W p ao cap l bad → Calls Try.prog 56 #[.pointer (some ⟨p, 0, none⟩), .int .u64 1152921504606846976] W (RdTold 106 p ao (fun x => .int .u64 x) (readN 1152921504606846976 l bad) W)) := Lib.hid fun W ao cap l bad h => rnum_any 1152921504606846976 (by decide) h
  have HM : Hid (∀ (W : World) (ao : Option Addr) (cap : Nat) (l : List UInt8) (bad : Bool), Rd 106 W p ao cap l bad → Calls Try.prog 56 #[.pointer (some ⟨p, 0, none⟩), .int .u64 256] W (RdTold 106 p ao (fun x => .int .u64 x) (readN 256 l bad) W)) := Lib.hid fun W ao cap l bad h => rnum_any 256 (by decide) h
  have HA : Hid (∀ (W : World) (ao : Option Addr) (cap : Nat) (l : List UInt8) (bad : Bool), Rd 106 W p ao cap l bad → Calls Try.prog 56 #[.pointer (some ⟨p, 0, none⟩), .int .u64 18446744073709551615] W (RdTold 106 p ao (fun x => .int .u64 x) (readN 18446744073709551615 l bad) W)) := Lib.hid fun W ao cap l bad h => rnum_any 18446744073709551615 (by decide) h
  have HX : Hid (∀ (W : World) (ao : Option Addr) (cap : Nat) (l : List UInt8) (bad : Bool), Rd 106 W p ao cap l bad → Calls Try.prog 56 #[.pointer (some ⟨p, 0, none⟩), .int .u64 1125899906842624] W (RdTold 106 p ao (fun x => .int .u64 x) (readN 1125899906842624 l bad) W)) := Lib.hid fun W ao cap l bad h => rnum_any 1125899906842624 (by decide) h
  have hpz := (Array.getElem?_eq_some_iff.1 h.blk).1
  have hru : RdU 106 W.heap.size W p ao cap l bad := ⟨h, Low13.of h.bs, hpz⟩
  clear h
  obtain ⟨W1, hW1⟩ : ∃ W1, W1 = W.alloc (.cells #[.int .i64 0, .int .u64 0, .slice none 0 0] dsT) := ⟨_, rfl⟩
  obtain ⟨W2, hW2⟩ : ∃ W2, W2 = W1.alloc (.cells #[.int .i64 0, .int .u64 0, .slice none 0 0] dsT) := ⟨_, rfl⟩
  obtain ⟨b1, hb1⟩ : ∃ b, b = W.heap.size := ⟨_, rfl⟩
  obtain ⟨b2, hb2⟩ : ∃ b, b = W.heap.size + 1 := ⟨_, rfl⟩
  have z1 : W1.heap.size = W.heap.size + 1 := by rw [hW1]; simp
  have B1 : Below W.heap.size W W1 := by rw [hW1]; exact below_new _ _
  have B2 : Below W1.heap.size W1 W2 := by rw [hW2]; exact below_new _ _
  have hB2 := below_on B1 B2 (Nat.le_refl _)
  have t1 : W2.heap[b1]? = some (.cells #[.int .i64 0, .int .u64 0, .slice none 0 0] dsT (0, 0)) := by
    rw [B2.block b1 (by omega), hW1, hb1]; exact heap_alloc_new _ _
  have t2 : W2.heap[b2]? = some (.cells #[.int .i64 0, .int .u64 0, .slice none 0 0] dsT (0, 0)) := by
    rw [hW2, hb2, ← z1]; exact heap_alloc_new _ _
  have Hup : Hid (W.heap.size ≤ b1 ∧ W.heap.size ≤ b2) := ⟨by omega, by omega⟩
  have Hap : Hid (b1 ≠ b2) := (by omega : b1 ≠ b2)
  have HB2 := Lib.hid hB2
  have T1 := Lib.hid t1
  have T2 := Lib.hid t2
  clear z1 B1 B2 hB2 t1 t2
  have hru2 := hru.above HB2.out.block
  clear hru
  obtain ⟨⟨x, lx, bx⟩, hE⟩ : ∃ r, r = readI l bad := ⟨_, rfl⟩
  have hc := HI.out W2 ao cap l bad hru2.rd
  unfold RdToldI at hc
  simp only [← hE] at hc
  have HEx := Lib.hid hE
  have Hc := Lib.hid hc
  have Hru2 := Lib.hid hru2
  have Hpz := Lib.hid hpz
  clear hE hc hru2 hpz HI
  go_enter Try.func25, Try.ntmps25
  go_wp2_with fail
  rw [← hW1, ← hW2, ← hb2, ← hb1]
  clear hW1 hW2 hb1 hb2
  refine (show Calls _ _ _ _ _ from Hc.out).mono ?_
  rintro e V0 ⟨ar0, cr0, rfl, hrd0, hg0, hsb0⟩
  have hru := Hru2.out.int HEx.out hrd0 hsb0
  have t1 := (hg0.block b1 (Array.getElem?_eq_some_iff.1 T1.out).1 (by have := Hup.out; have := Hpz.out; simp; omega)).trans T1.out
  have t2 := (hg0.block b2 (Array.getElem?_eq_some_iff.1 T2.out).1 (by have := Hup.out; have := Hpz.out; simp; omega)).trans T2.out
  have hfr0 : W.grownBy V0 (some p) := grown_trans (grown_below HB2.out) hg0
  have HT1 := Lib.hid t1
  have HT2 := Lib.hid t2
  have Hfr0 := Lib.hid hfr0
  obtain ⟨⟨y, ly, by_⟩, hE⟩ : ∃ r, r = readN 1152921504606846976 lx bx := ⟨_, rfl⟩
  have hc := HL.out V0 ar0 cr0 lx bx hru.rd
  unfold RdTold at hc
  simp only [← hE] at hc
  have HEy := Lib.hid hE
  have Hc1 := Lib.hid hc
  have Hru := Lib.hid hru
  clear hE hc hru hfr0 t1 t2 hg0 hsb0 hrd0 Hc Hru2
  go_wp2_with fail
  refine (show Calls _ _ _ _ _ from Hc1.out).mono ?_
  rintro e V1 ⟨ar1, cr1, rfl, hrd1, hg1, hsb1⟩
  have hru := Hru.out.num HEy.out hrd1 hsb1
  have t1 := (hg1.block b1 (Array.getElem?_eq_some_iff.1 HT1.out).1 (by have := Hup.out; have := Hpz.out; simp; omega)).trans HT1.out
  have t2 := (hg1.block b2 (Array.getElem?_eq_some_iff.1 HT2.out).1 (by have := Hup.out; have := Hpz.out; simp; omega)).trans HT2.out
  have hfr1 : W.grownBy V1 (some p) := grown_trans Hfr0.out hg1
  have q0 := block_cell t2 0
  have q1 := block_cell t2 1
  have f0 := block_free t2 0
  have f1 := block_free t2 1
  have l2 := (Array.getElem?_eq_some_iff.1 t2).1
  simp at q0 q1 f0 f1
  have hRB : RB thT 3 dsT W ((V1.setCell ⟨b2, 0, none⟩ (.int .i64 x)).setCell ⟨b2, 1, none⟩ (.int .u64 (y : Int))) p b1 b2 x (y : Int) none 0 0 [] := by
    have hs := block_set (block_set t2 0 (.int .i64 x)) 1 (.int .u64 (y : Int))
    simp only [List.setIfInBounds_toArray, List.set_cons_zero, List.set_cons_succ] at hs
    have hg2 : V1.grownBy ((V1.setCell ⟨b2, 0, none⟩ (.int .i64 x)).setCell ⟨b2, 1, none⟩ (.int .u64 (y : Int))) (some b2) := grown_trans (grown_set _ _ _ _) (grown_set _ _ _ _)
    exact ⟨(hg2.block b1 (Array.getElem?_eq_some_iff.1 t1).1 (by have := Hap.out; simp; omega)).trans t1, hs, World.ownsRow_nil _ _ _ _, grown_new13 hfr1 hg2 Hup.out.2, Hup.out.1, Hup.out.2, Hpz.out, Hap.out, by decide⟩
  have hru3 := hru.above (w' := (V1.setCell ⟨b2, 0, none⟩ (.int .i64 x)).setCell ⟨b2, 1, none⟩ (.int .u64 (y : Int))) (fun k hk => (grown_trans (grown_set V1 b2 0 (.int .i64 x)) (grown_set _ b2 1 (.int .u64 (y : Int)))).block k (by have := hfr1.size; omega) (by have := Hup.out; simp; omega))
  obtain ⟨V2, hV2⟩ : ∃ V2, V2 = (V1.setCell ⟨b2, 0, none⟩ (.int .i64 x)).setCell ⟨b2, 1, none⟩ (.int .u64 (y : Int)) := ⟨_, rfl⟩
  rw [← hV2] at hRB hru3
  obtain ⟨⟨m, lm, bm⟩, hE⟩ : ∃ r, r = readN 256 ly by_ := ⟨_, rfl⟩
  have hc := HM.out V2 ar1 cr1 ly by_ hru3.rd
  unfold RdTold at hc
  simp only [← hE] at hc
  have HEm := Lib.hid hE
  have hm256 : m ≤ 256 := by have := readN_le 256 ly by_; rw [← hE] at this; exact this
  have Hc2 := Lib.hid hc
  have HRB := Lib.hid hRB
  have Hru3 := Lib.hid hru3
  clear hE hc hru hfr1 t1 t2 hg1 hsb1 hrd1 Hc1 Hru HT1 HT2 Hfr0 hRB hru3 HL HM T1 T2
  go_wp2_with fail
  rw [← hV2]
  clear hV2 q0 q1 f0 f1 l2
  refine (show Calls _ _ _ _ _ from Hc2.out).mono ?_
  rintro e V3 ⟨ar3, cr3, rfl, hrd3, hg3, hsb3⟩
  have hru4 := Hru3.out.num HEm.out hrd3 hsb3
  have hRB4 := HRB.out.grown hg3
  have Hru4 := Lib.hid hru4
  have HRB4 := Lib.hid hRB4
  clear hg3 hsb3 hrd3 Hc2 HRB Hru3 hru4 hRB4
  go_wp2_with fail
  go_loopw [15] (fun a wr => ∃ (i : Nat) (aoL : Option Addr) (capL : Nat) (lL : List Th) (ar : Option Addr) (cr : Nat) (lb : List UInt8) (bb : Bool), a = .int .u64 i ∧ i ≤ m ∧ Hid ((lL, (lb, bb)) = readX i (lm, bm)) ∧ Hid (lL.length = i) ∧ Hid (RB thT 3 dsT W wr p b1 b2 x (y : Int) aoL lL.length capL (thFlat lL)) ∧ Hid (RdU 106 W.heap.size wr p ar cr lb bb)) (fun a _ => m - (intOf a).toNat)
  case atStart => exact ⟨0, none, 0, [], ar3, cr3, lm, bm, rfl, Nat.zero_le _, rfl, rfl, HRB4, Hru4⟩
  case round =>
    clear HRB4 Hru4
    obtain ⟨i, aoL, capL, lL, ar, cr, lb, bb, rfl, hi, hlb, hlen, hRB, hru⟩ := hrel
    by_cases hlt : i < m
    · have i1 : (i : Int) < (m : Int) := by omega
      have w0 : IntKind.u64.wrap ((i : Int) + 1) = (i : Int) + 1 := IntWalk.u64_in _ (by omega)
      have hl256 : lL.length ≤ 256 := by rw [hlen.out]; omega
      have Hl256 := Lib.hid hl256
      have Hlt := Lib.hid hlt
      have W0' := Lib.hid w0
      obtain ⟨⟨x0, l0, d0⟩, hE⟩ : ∃ r, r = readN 18446744073709551615 lb bb := ⟨_, rfl⟩
      have hc := HA.out wr ar cr lb bb hru.out.rd
      unfold RdTold at hc
      simp only [← hE] at hc
      have HE0 := Lib.hid hE
      have Hc := Lib.hid hc
      clear hE hc hl256 hlt hi hm256 w0
      go_wp2_with fail
      refine (show Calls _ _ _ _ _ from Hc.out).mono ?_
      rintro e U0 ⟨as0, cs0, rfl, hr0, hg0, hs0⟩
      have hru0 := hru.out.num HE0.out hr0 hs0
      have hRB0 := hRB.out.grown hg0
      obtain ⟨⟨x1, l1, d1⟩, hE⟩ : ∃ r, r = readN 1152921504606846976 l0 d0 := ⟨_, rfl⟩
      have hc := (show Calls _ _ _ _ (RdTold 106 p as0 (fun x => .int .u64 x) (readN 1152921504606846976 l0 d0) U0) from rnum_any 1152921504606846976 (by decide) hru0.rd)
      unfold RdTold at hc
      simp only [← hE] at hc
      have HE1 := Lib.hid hE
      have Hc1 := Lib.hid hc
      have Hru0 := Lib.hid hru0
      have HRB0 := Lib.hid hRB0
      clear hE hc hru0 hRB0 hr0 hg0 hs0 hru hRB Hc
      go_wp2_with fail
      refine (show Calls _ _ _ _ _ from Hc1.out).mono ?_
      rintro e U1 ⟨as1, cs1, rfl, hr1, hg1, hs1⟩
      have hru1 := Hru0.out.num HE1.out hr1 hs1
      have hRB1 := HRB0.out.grown hg1
      obtain ⟨⟨x2, l2, d2⟩, hE⟩ : ∃ r, r = readN 1125899906842624 l1 d1 := ⟨_, rfl⟩
      have hle2 : x2 ≤ 1125899906842624 := by have := readN_le 1125899906842624 l1 d1; rw [← hE] at this; exact this
      have w2 : IntKind.i64.wrap (x2 : Int) = (x2 : Int) := IntWalk.i64_in _ (by omega)
      have HE2 := Lib.hid hE
      obtain ⟨V0, hV0⟩ : ∃ V0, V0 = U1.drew := ⟨_, rfl⟩
      have hB0 : Below U1.heap.size U1 V0 := by rw [hV0]; exact (Below.refl _ U1).drew
      have hruV : RdU 106 W.heap.size V0 p as1 cs1 l1 d1 := ⟨hru1.rd.below hB0, hru1.low, hru1.pp⟩
      have hRBV := hRB1.below hB0
      have hc := (show Calls _ _ _ _ (RdTold 106 p as1 (fun x => .int .u64 x) (readN 1125899906842624 l1 d1) V0) from rnum_any 1125899906842624 (by decide) hruV.rd)
      unfold RdTold at hc
      simp only [← hE] at hc
      have Hc2 := Lib.hid hc
      have HruV := Lib.hid hruV
      have HRBV := Lib.hid hRBV
      have HU1 : Hid (V0.heap[b2]? = U1.heap[b2]?) := hB0.block b2 (Array.getElem?_eq_some_iff.1 hRB1.s).1
      have hld : ∀ W', W'.heap[b2]? = V0.heap[b2]? → (Instr.loadAt 35 (.pointer (some ⟨b2, 2, none⟩))).run Try.prog W' = .ok (.slice aoL lL.length capL) W' := fun W' hw => by
        have r1 := block_cell (hw.trans HRBV.out.s) 2
        simp at r1
        exact ldS35 r1
      have Hld := Lib.hid hld
      have Hle2 := Lib.hid hle2
      have HS := Lib.hid (And.intro (Array.getElem?_eq_some_iff.1 hRBV.s).1 (show p ≠ b2 from by have := hRBV.sp; have := hRBV.pp; omega))
      clear hE hc hru1 hRB1 hr1 hg1 hs1 Hru0 HRB0 Hc1 hB0 hruV hRBV hld hle2
      go_upto_region 6 with fail
      refine wp_region_late 11 (S := fun W' => W'.heap[b2]? = V0.heap[b2]?) (by kernel_rfl) (by rw [hV0]) (fun hHeld => ?_)
      rw [← hV0] at hHeld ⊢
      clear hV0
      refine wpLate_pure (i := 0) (v := ?_) rfl (by kernel_rfl) (by kernel_rfl) (by kernel_rfl) (by kernel_rfl) (fun _ _ _ h => h) (Or.inl ⟨by rfl, ?_⟩) (fun _ => by assumption) ?_
      rotate_left
      · intro w8 hSw; clear hSw; go_simp; (try with_reducible rfl)
      simp only [Act.put, List.getElem_toArray, List.getElem_cons_zero, List.getElem_cons_succ, List.setIfInBounds_toArray, List.set_cons_zero, List.set_cons_succ]
      refine wpLate_take [9, 11] (i := 1) (v := .slice aoL lL.length capL) rfl (by kernel_rfl) (by kernel_rfl) (by kernel_rfl) (by kernel_rfl) (by kernel_rfl) (fun _ _ _ h => h) (Or.inl ⟨by rfl, ?_⟩) (by assumption) ?_
      · intro w8 hSw; exact ld_takeT rfl (Hld.out w8 hSw) rfl
      simp only [Act.put, List.getElem_toArray, List.getElem_cons_zero, List.getElem_cons_succ, List.setIfInBounds_toArray, List.set_cons_zero, List.set_cons_succ]
      refine wpLate_pure (i := 2) (v := ?_) rfl (by kernel_rfl) (by kernel_rfl) (by kernel_rfl) (by kernel_rfl) (fun _ _ _ h => h) (Or.inl ⟨by rfl, ?_⟩) (fun _ => by assumption) ?_
      rotate_left
      · intro w8 hSw; clear hSw; go_simp; (try with_reducible rfl)
      simp only [Act.put, List.getElem_toArray, List.getElem_cons_zero, List.getElem_cons_succ, List.setIfInBounds_toArray, List.set_cons_zero, List.set_cons_succ]
      refine wpLate_pure (i := 3) (v := ?_) rfl (by kernel_rfl) (by kernel_rfl) (by kernel_rfl) (by kernel_rfl) (fun _ _ _ h => h) (Or.inl ⟨by rfl, ?_⟩) (fun _ => by assumption) ?_
      rotate_left
      · intro w8 hSw; clear hSw; go_simp; (try with_reducible rfl)
      simp only [Act.put, List.getElem_toArray, List.getElem_cons_zero, List.getElem_cons_succ, List.setIfInBounds_toArray, List.set_cons_zero, List.set_cons_succ]
      refine wpLate_pure (i := 4) (v := ?_) rfl (by kernel_rfl) (by kernel_rfl) (by kernel_rfl) (by kernel_rfl) (fun _ _ _ h => h) (Or.inl ⟨by rfl, ?_⟩) (fun _ => by assumption) ?_
      rotate_left
      · intro w8 hSw; clear hSw; go_simp; (try with_reducible rfl)
      simp only [Act.put, List.getElem_toArray, List.getElem_cons_zero, List.getElem_cons_succ, List.setIfInBounds_toArray, List.set_cons_zero, List.set_cons_succ]
      refine wpLate_ready (rs := [5]) (by kernel_rfl) (by simp) ?_
      refine AllLate.cons rfl (fun K hK => ?_) AllLate.nil
      go_simp
      go_at_call 56
      refine ((show Calls _ _ _ _ _ from Hc2.out)).mono ?_
      rintro e V1' ⟨as2, cs2, rfl, hr2, hg2, hs2⟩
      refine hK.out _ _ (hg2.block b2 HS.out.1 (by have := HS.out.2; simp; omega)) (fun hHeld => ?_)
      clear hK K
      try simp only [Act.put, List.getElem_toArray, List.getElem_cons_zero, List.getElem_cons_succ, List.setIfInBounds_toArray, List.set_cons_zero, List.set_cons_succ]
      have hru2 := HruV.out.num HE2.out hr2 hs2
      have hRB2 := HRBV.out.grown hg2
      have Hru2 := Lib.hid hru2
      have HRB2 := Lib.hid hRB2
      have Hb2 := Lib.hid (hg2.block b2 HS.out.1 (by have := HS.out.2; simp; omega))
      clear hr2 hg2 hs2 hru2 hRB2 Hc2 HruV HRBV
      refine wpLate_pure (i := 6) (v := ?_) rfl (by kernel_rfl) (by kernel_rfl) (by kernel_rfl) (by kernel_rfl) (fun _ _ _ h => h) (Or.inl ⟨by rfl, ?_⟩) (fun _ => by assumption) ?_
      rotate_left
      · intro w8 hSw; clear hSw; go_simp; (try with_reducible rfl)
      simp only [Act.put, List.getElem_toArray, List.getElem_cons_zero, List.getElem_cons_succ, List.setIfInBounds_toArray, List.set_cons_zero, List.set_cons_succ]
      refine wpLate_pure (i := 7) (v := ?_) rfl (by kernel_rfl) (by kernel_rfl) (by kernel_rfl) (by kernel_rfl) (fun _ _ _ h => h) (Or.inl ⟨by rfl, ?_⟩) (fun _ => by assumption) ?_
      rotate_left
      · intro w8 hSw; clear hSw; go_simp; (try with_reducible rfl)
      simp only [Act.put, List.getElem_toArray, List.getElem_cons_zero, List.getElem_cons_succ, List.setIfInBounds_toArray, List.set_cons_zero, List.set_cons_succ]
      refine wpLate_ready (rs := [8]) (by kernel_rfl) (by simp) ?_
      refine AllLate.cons rfl (fun K hK => ?_) AllLate.nil
      go_simp
      obtain ⟨V2', hV2⟩ : ∃ V2, V2 = V1'.alloc (.cells #[.int .u64 (x0 : Int), .int .u64 (x1 : Int), .int .i64 (x2 : Int)] thT) := ⟨_, rfl⟩
      obtain ⟨g1, hg1⟩ : ∃ g, g = V1'.heap.size := ⟨_, rfl⟩
      have hB2 : Below V1'.heap.size V1' V2' := by rw [hV2]; exact below_new _ _
      have hRB3 := HRB2.out.below hB2
      have hru3 : RdU 106 W.heap.size V2' p as2 cs2 l2 d2 := ⟨Hru2.out.rd.below hB2, Hru2.out.low, Hru2.out.pp⟩
      have hb3 : V2'.heap[b2]? = V0.heap[b2]? := (hB2.block b2 (Array.getElem?_eq_some_iff.1 HRB2.out.s).1).trans Hb2.out
      have own1 : V2'.ownsRow W.heap.size thT 3 (.slice (some ⟨g1, 0, .none⟩) 1 1) 1 (thFlat [(⟨(x0 : Int), (x1 : Int), (x2 : Int)⟩ : Th)]) := by rw [hV2, hg1]; exact own_th13 V1' W.heap.size ⟨(x0 : Int), (x1 : Int), (x2 : Int)⟩ HRB2.out.fr.size
      rw [← hV2, ← hg1]
      refine hK.out _ _ hb3 (fun hHeld => ?_)
      clear hK K hV2 hg1 hB2 HRB2 Hru2 Hb2
      try simp only [Act.put, List.getElem_toArray, List.getElem_cons_zero, List.getElem_cons_succ, List.setIfInBounds_toArray, List.set_cons_zero, List.set_cons_succ]
      refine wpLate_ready (rs := [9]) (by kernel_rfl) (by simp) ?_
      refine AllLate.cons rfl (fun K hK => ?_) AllLate.nil
      rw [if_pos (by rfl)]
      refine wpo_append_lie (.tmp 22) (.tmp 29) 35 rfl W.heap.size thT infoTh Try.underlying35 rfl (by decide) _ lL.length _ rfl hRB3.own _ _ _ _ rfl (ThR.of13 own1) (ths_one _) (by unfold maxLen; have := Hl256.out; omega) (by have := Hl256.out; omega) hRB3.fr.size fun a3 c3 V3 own3 hgr _ => ?_
      obtain ⟨hs3, hRB4⟩ := hRB3.push own3 hgr
      have hru4 := hru3.above (hRB3.kept (u := .slice a3 (lL.length + 1) c3) hgr)
      rw [← thFlat_two] at hRB4
      have hn4 : lL.length + 1 = (lL ++ [(⟨(x0 : Int), (x1 : Int), (x2 : Int)⟩ : Th)]).length := by simp
      have HRB4 := Lib.hid hRB4
      have Hru4 := Lib.hid hru4
      refine hK.out _ _ (hs3.trans ((hb3.trans (show V0.heap[b2]? = _ from (hb3.symm.trans hRB3.s))).symm.trans hb3)) (fun hHeld => ?_)
      clear hK K
      try simp only [Act.put, List.getElem_toArray, List.getElem_cons_zero, List.getElem_cons_succ, List.setIfInBounds_toArray, List.set_cons_zero, List.set_cons_succ]
      have y2 := block_cell hs3 2
      have f2 := block_free hs3 2
      have l3 := (Array.getElem?_eq_some_iff.1 hs3).1
      simp at y2 f2
      obtain ⟨U, hU⟩ : ∃ U, U = V3.setCell ⟨b2, 2, none⟩ (.slice a3 (lL.length + 1) c3) := ⟨_, rfl⟩
      rw [← hU] at HRB4 Hru4
      have HU := Lib.hid hU
      have Hn4 := Lib.hid hn4
      clear hU hs3 hRB4 hru4 hRB3 hru3 own1 own3 hgr hb3 hn4
      refine wpLate_pure (i := 10) (v := ?_) rfl (by kernel_rfl) (by kernel_rfl) (by kernel_rfl) (by kernel_rfl) (fun _ _ _ h => h) (Or.inl ⟨by rfl, ?_⟩) (fun _ => by assumption) ?_
      rotate_left
      · intro w8 hSw; clear hSw; go_simp; (try with_reducible rfl)
      simp only [Act.put, List.getElem_toArray, List.getElem_cons_zero, List.getElem_cons_succ, List.setIfInBounds_toArray, List.set_cons_zero, List.set_cons_succ]
      refine wpLate_ready (rs := [11]) (by kernel_rfl) (by simp) ?_
      refine AllLate.store rfl (fun K hK => ?_)
      go_simp
      rw [show V3.setCell ⟨b2, 2, none⟩ (.slice a3 (lL.length + 1) c3) = U from HU.out.symm]
      refine hK.out _ _ ?_
      clear hK K y2 f2 l3
      try simp only [Act.put, List.getElem_toArray, List.getElem_cons_zero, List.getElem_cons_succ, List.setIfInBounds_toArray, List.set_cons_zero, List.set_cons_succ]
      refine wpLate_done (by kernel_rfl) ?_ _
      have w0 := W0'.out
      go_wp2_with fail
      go_roundw
      case rel => exact ⟨i + 1, a3, c3, lL ++ [⟨(x0 : Int), (x1 : Int), (x2 : Int)⟩], as2, cs2, l2, d2, by simp, Hlt.out, Lib.hid (readX_next hlb.out HE0.out HE1.out HE2.out), (by show (lL ++ [_]).length = _; rw [List.length_append, hlen.out]; rfl), (by rw [← Hn4.out]; exact HRB4), Hru4⟩
      case measure => have := Hlt.out; simp [intOf]; omega
    · obtain rfl : i = m := Nat.le_antisymm hi (Nat.le_of_not_lt hlt)
      have Hok := Lib.hid (fun t ht => (readX_ok i (lm, bm) t (by rw [← hlb.out]; exact ht)).ids)
      have hl256 : lL.length ≤ 256 := by rw [hlen.out]; exact hm256
      obtain ⟨hyes, hno⟩ := readB_of HEx.out HEy.out HEm.out hlb.out
      have Hl256 := Lib.hid hl256
      have HUp := Lib.hid (And.intro Hup.out.1 Hup.out.2)
      cases bb with
      | true =>
        have Hba := Lib.hid (bad_rd hru.out.rd)
        have Hfa := Lib.hid (fail_rd hru.out.rd)
        have HR := Lib.hid (hno (by simp))
        clear hyes hno hl256
        go_wp2_with fail
        refine (show Calls _ _ _ _ _ from Hba.out).mono ?_
        rintro e w5 ⟨rfl, rfl⟩
        go_wp2_with fail
        refine (show Calls _ _ _ _ _ from Hfa.out).mono ?_
        rintro e W9 ⟨rfl, hrd9, hg9⟩
        have hRB9 := hRB.out.grown hg9
        have cR0 := block_cell hRB9.r 0
        have cR1 := block_cell hRB9.r 1
        have cR2 := block_cell hRB9.r 2
        have zR0 := block_free hRB9.r 0
        have zR1 := block_free hRB9.r 1
        have zR2 := block_free hRB9.r 2
        have zR := (Array.getElem?_eq_some_iff.1 hRB9.r).1
        simp at cR0 cR1 cR2 zR0 zR1 zR2
        have hgR : W9.grownBy (((W9.setCell ⟨b1, 0, none⟩ (.int .i64 0)).setCell ⟨b1, 1, none⟩ (.int .u64 0)).setCell ⟨b1, 2, none⟩ (.slice none 0 0)) (some b1) := grown_trans (grown_trans (grown_set _ _ _ _) (grown_set _ _ _ _)) (grown_set _ _ _ _)
        have hR2 := block_set (block_set (block_set hRB9.r 0 (.int .i64 0)) 1 (.int .u64 0)) 2 (.slice none 0 0)
        simp only [List.setIfInBounds_toArray, List.set_cons_zero, List.set_cons_succ] at hR2
        have hru9 := (⟨hrd9, (fun h0 => by simp at h0), hru.out.pp⟩ : RdU 106 W.heap.size W9 p none 0 [] true).above (fun k hk => hgR.block k (by have := hRB9.fr.size; omega) (by have := HUp.out; simp; omega))
        have hfr := grown_new13 hRB9.fr hgR HUp.out.1
        clear hg9 hrd9
        go_wp2_with fail
        obtain ⟨U, hU⟩ : ∃ U, U = (((W9.setCell ⟨b1, 0, none⟩ (.int .i64 0)).setCell ⟨b1, 1, none⟩ (.int .u64 0)).setCell ⟨b1, 2, none⟩ (.slice none 0 0)) := ⟨_, rfl⟩
        rw [← hU] at hR2 hru9 hfr ⊢
        have u0 := block_cell hR2 0
        have u1 := block_cell hR2 1
        have u2 := block_cell hR2 2
        have ul := (Array.getElem?_eq_some_iff.1 hR2).1
        simp at u0 u1 u2
        clear hU hgR
        refine bodyPost_ret (v := .tuple #[dsV 0 0 none 0 0, .bool false]) (by simp [results, Try.results25, go_sem, u0, u1, u2, ul, dsV]) rfl ?_
        rw [HR.out]
        exact ⟨none, 0, none, 0, rfl, World.ownsRow_nil _ _ _ _, hru9.rd, hfr⟩
      | false =>
        have Hba := Lib.hid (bad_rd hru.out.rd)
        have Hsn := Lib.hid (dsound_any wr x (y : Int) aoL capL lL (ThR.of13 hRB.out.own) (by omega) Hok.out)
        have Hyes := Lib.hid hyes
        have Hno := Lib.hid hno
        unfold dsV at Hsn
        have c0 := block_cell hRB.out.s 0
        have c1 := block_cell hRB.out.s 1
        have c2 := block_cell hRB.out.s 2
        have m2 := (Array.getElem?_eq_some_iff.1 hRB.out.s).1
        simp at c0 c1 c2
        clear hyes hno hl256
        go_wp2_with fail
        refine (show Calls _ _ _ _ _ from Hba.out).mono ?_
        rintro e w5 ⟨rfl, rfl⟩
        go_wp2_with fail
        refine (show Calls _ _ _ _ _ from Hsn.out).mono ?_
        rintro e W8 ⟨v, rfl, hv, hb8⟩
        have hRB := Lib.hid (hRB.out.below hb8)
        have hru : Hid (RdU 106 W.heap.size W8 p ar cr lb false) := (⟨hru.out.rd.below hb8, hru.out.low, hru.out.pp⟩ : RdU 106 W.heap.size W8 p ar cr lb false)
        clear c0 c1 c2 m2
        have c0 := block_cell hRB.out.s 0
        have c1 := block_cell hRB.out.s 1
        have c2 := block_cell hRB.out.s 2
        have m2 := (Array.getElem?_eq_some_iff.1 hRB.out.s).1
        simp at c0 c1 c2
        cases v with
        | false =>
          have hn : ¬ SoundP x (y : Int) lL := fun h => by have := hv.2 h; cases this
          have Hfa := Lib.hid (fail_rd hru.out.rd)
          have HR := Lib.hid (Hno.out (fun h => hn h.2))
          clear hv hn hb8
          go_wp2_with fail
          refine (show Calls _ _ _ _ _ from Hfa.out).mono ?_
          rintro e W9 ⟨rfl, hrd9, hg9⟩
          have hRB9 := hRB.out.grown hg9
          have cR0 := block_cell hRB9.r 0
          have cR1 := block_cell hRB9.r 1
          have cR2 := block_cell hRB9.r 2
          have zR0 := block_free hRB9.r 0
          have zR1 := block_free hRB9.r 1
          have zR2 := block_free hRB9.r 2
          have zR := (Array.getElem?_eq_some_iff.1 hRB9.r).1
          simp at cR0 cR1 cR2 zR0 zR1 zR2
          have hgR : W9.grownBy (((W9.setCell ⟨b1, 0, none⟩ (.int .i64 0)).setCell ⟨b1, 1, none⟩ (.int .u64 0)).setCell ⟨b1, 2, none⟩ (.slice none 0 0)) (some b1) := grown_trans (grown_trans (grown_set _ _ _ _) (grown_set _ _ _ _)) (grown_set _ _ _ _)
          have hR2 := block_set (block_set (block_set hRB9.r 0 (.int .i64 0)) 1 (.int .u64 0)) 2 (.slice none 0 0)
          simp only [List.setIfInBounds_toArray, List.set_cons_zero, List.set_cons_succ] at hR2
          have hru9 := (⟨hrd9, (fun h0 => by simp at h0), hru.out.pp⟩ : RdU 106 W.heap.size W9 p none 0 [] true).above (fun k hk => hgR.block k (by have := hRB9.fr.size; omega) (by have := HUp.out; simp; omega))
          have hfr := grown_new13 hRB9.fr hgR HUp.out.1
          clear hg9 hrd9
          go_wp2_with fail
          obtain ⟨U, hU⟩ : ∃ U, U = (((W9.setCell ⟨b1, 0, none⟩ (.int .i64 0)).setCell ⟨b1, 1, none⟩ (.int .u64 0)).setCell ⟨b1, 2, none⟩ (.slice none 0 0)) := ⟨_, rfl⟩
          rw [← hU] at hR2 hru9 hfr ⊢
          have u0 := block_cell hR2 0
          have u1 := block_cell hR2 1
          have u2 := block_cell hR2 2
          have ul := (Array.getElem?_eq_some_iff.1 hR2).1
          simp at u0 u1 u2
          clear hU hgR
          refine bodyPost_ret (v := .tuple #[dsV 0 0 none 0 0, .bool false]) (by simp [results, Try.results25, go_sem, u0, u1, u2, ul, dsV]) rfl ?_
          rw [HR.out]
          exact ⟨none, 0, none, 0, rfl, World.ownsRow_nil _ _ _ _, hru9.rd, hfr⟩
        | true =>
          have HR := Lib.hid (Hyes.out (by simp) (hv.1 rfl))
          have cR0 := block_cell hRB.out.r 0
          have cR1 := block_cell hRB.out.r 1
          have cR2 := block_cell hRB.out.r 2
          have zR0 := block_free hRB.out.r 0
          have zR1 := block_free hRB.out.r 1
          have zR2 := block_free hRB.out.r 2
          have zR := (Array.getElem?_eq_some_iff.1 hRB.out.r).1
          simp at cR0 cR1 cR2 zR0 zR1 zR2
          have hgR : W8.grownBy (((W8.setCell ⟨b1, 0, none⟩ (.int .i64 x)).setCell ⟨b1, 1, none⟩ (.int .u64 (y : Int))).setCell ⟨b1, 2, none⟩ (.slice aoL lL.length capL)) (some b1) := grown_trans (grown_trans (grown_set _ _ _ _) (grown_set _ _ _ _)) (grown_set _ _ _ _)
          have hR2 := block_set (block_set (block_set hRB.out.r 0 (.int .i64 x)) 1 (.int .u64 (y : Int))) 2 (.slice aoL lL.length capL)
          simp only [List.setIfInBounds_toArray, List.set_cons_zero, List.set_cons_succ] at hR2
          have hown := hRB.out.own.kept hgR (.inr (hRB.out.noRow hRB.out.r hRB.out.far))
          have hru9 := hru.out.above (fun k hk => hgR.block k (by have := hRB.out.fr.size; omega) (by have := HUp.out; simp; omega))
          have hfr := grown_new13 hRB.out.fr hgR HUp.out.1
          clear hv hb8
          go_wp2_with fail
          obtain ⟨U, hU⟩ : ∃ U, U = (((W8.setCell ⟨b1, 0, none⟩ (.int .i64 x)).setCell ⟨b1, 1, none⟩ (.int .u64 (y : Int))).setCell ⟨b1, 2, none⟩ (.slice aoL lL.length capL)) := ⟨_, rfl⟩
          rw [← hU] at hR2 hown hru9 hfr ⊢
          have u0 := block_cell hR2 0
          have u1 := block_cell hR2 1
          have u2 := block_cell hR2 2
          have ul := (Array.getElem?_eq_some_iff.1 hR2).1
          simp at u0 u1 u2
          clear hU hgR
          refine bodyPost_ret (v := .tuple #[dsV x (y : Int) aoL lL.length capL, .bool true]) (by simp [results, Try.results25, go_sem, u0, u1, u2, ul, dsV]) rfl ?_
          rw [HR.out]
          exact ⟨aoL, capL, ar, cr, rfl, hown, hru9.rd, hfr⟩
end Go.Proofs.Ytedlplkomfiahaa
