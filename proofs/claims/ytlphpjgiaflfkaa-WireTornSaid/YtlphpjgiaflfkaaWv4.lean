/- Lemmas for WireReads (Qt CrcO FrameLaw Frame FrameB Sg Sl FrameE FrameR Sr Ss Sm Qv Sh Sk). No statement of the seat is proved here. -/
import Derived.Laws.IdiomStrings
import Derived.Deep.RegionLaw
import Derived.Deep.DeepCutAuto
import Derived.RegionTactic
import Derived.ChangeAlike
import Derived.Deep.RegionHeld3
import Derived.RangeFuncNested
import Derived.RangeFuncBound
import Derived.RangeFuncCalls
import Derived.RangeFuncLeaves
import Derived.Shelf.Abstract
import Derived.Shelf.RegionOpen
import Derived.OwnWalkIn
import Derived.TacticsInMore
import Derived.LoopNIn
import Derived.LoopIn
import Derived.Sort.QuietIn
import Derived.Maps.OwnIn
import Derived.Lib.AppendStr
import Derived.Test.YtlphpjgiaflfkaaWv1
import Derived.Test.YtlphpjgiaflfkaaWv3
namespace Go.Proofs.Ytlphpjgiaflfkaa
set_option linter.unusedVariables false
set_option linter.unusedSimpArgs false
set_option linter.unusedSectionVars false
open Go Go.RowKit Go.Shelf
/-- a text read: its bytes, what is left, whether it is bad -/
def readT (most : Nat) (l : List UInt8) (bad : Bool) : List UInt8 × List UInt8 × Bool :=
  if (readN most l bad).2.1.length < (readN most l bad).1 then ([], [], true) else ((readN most l bad).2.1.take (readN most l bad).1, (readN most l bad).2.1.drop (readN most l bad).1, (readN most l bad).2.2)
theorem readT_le (most : Nat) (l : List UInt8) (bad : Bool) : (readT most l bad).1.length ≤ most := by
  unfold readT
  split
  · simp
  · have := readN_le most l bad
    simp; omega
theorem readT_enc (most : Nat) (s rest : List UInt8) (bad : Bool) (h : s.length ≤ most) (hn : s.length < 2 ^ 64) : readT most (numB s.length ++ s ++ rest) bad = (s, rest, bad) := by
  unfold readT
  rw [List.append_assoc, readN_numB most s.length (s ++ rest) bad h hn]
  simp only
  rw [if_neg (by simp)]
  simp
/-- []byte(s) -/
theorem bytes_of (l : List UInt8) (hl : l.length ≤ maxLen) (W : World) : ∃ c W', (convert 9 22 (.string ⟨l.toArray⟩)).run Try.prog W = .ok (.slice (some ⟨W.heap.size, 0, none⟩) l.length c) W' ∧ Bs W' (some ⟨W.heap.size, 0, none⟩) c l ∧ Below W.heap.size W W' ∧ elem? W' W.heap.size = some 5 := by
  have h := run_bytes_of_string (P := Try.prog) W 9 22 5 ⟨l.toArray⟩ Try.underlying9 Try.underlying22 Try.underlying5
  have hs : (⟨l.toArray⟩ : ByteArray).size = l.length := by simp [ByteArray.size]
  rw [hs] at h
  refine ⟨_, _, h, ⟨by simp, grownCap_ge _ _ _ _, grownCap_le_maxLen _ _ _ _ hl, by simp, fun j u hu => ⟨_, 0, rfl, ?_⟩⟩, ((Below.refl _ W).drew).alloc (Nat.le_refl _) _, elem?_of (heap_alloc_new W.drew _)⟩
  rw [List.getElem?_map] at hu
  cases hj : l[j]? with
  | none => rw [hj] at hu; cases hu
  | some z =>
    rw [hj] at hu
    simp only [Option.map_some, Option.some.injEq] at hu
    subst hu
    have hjl : j < l.length := (List.getElem?_eq_some_iff.1 hj).1
    have e := bytesRow_at ⟨l.toArray⟩ (grownCap W l.length 0 5) j (by simpa using hjl)
    rw [Nat.zero_add]
    refine (cell?_new W.drew _ _ _ j).trans (e.trans ?_)
    have hz : l[j] = z := (List.getElem?_eq_some_iff.1 hj).2
    simp [hz]
/-- what End tells -/
def endR (l : List UInt8) (bad : Bool) : Int := if bad = true ∨ 0 < l.length then 20 else 0
theorem end_rd {W : World} {p : Nat} {ao : Option Addr} {cap : Nat} {l : List UInt8} {bad : Bool} (h : Rd 131 W p ao cap l bad) :
    Calls Try.prog 77 #[.pointer (some ⟨p, 0, none⟩)] W fun e W' => e = .returned (.int .i64 (endR l bad)) ∧ W = W' := by
  obtain ⟨c0, c1, f0, f1⟩ := h.cells
  obtain ⟨r, hr⟩ : ∃ r, r = endR l bad := ⟨_, rfl⟩
  rw [← hr]
  have Hr := Lib.hid hr
  clear hr
  cases bad with
  | true =>
    go_enter Try.func77, Try.ntmps77
    go_wp2_with fail
    go_ret
    exact ⟨by rw [Hr.out]; simp [endR], rfl⟩
  | false =>
    by_cases hl : 0 < l.length
    · have hl1 : (0 : Int) < (l.length : Int) := by omega
      go_enter Try.func77, Try.ntmps77
      go_wp2_with fail
      go_ret
      exact ⟨by rw [Hr.out]; simp [endR, hl], rfl⟩
    · have hl1 : ¬ (0 : Int) < (l.length : Int) := by omega
      go_enter Try.func77, Try.ntmps77
      go_wp2_with fail
      go_ret
      exact ⟨by rw [Hr.out]; simp [endR, hl], rfl⟩
theorem refEnd_rd {W : World} {p : Nat} {ao : Option Addr} {cap : Nat} {l : List UInt8} {bad : Bool} (h : Rd 78 W p ao cap l bad) :
    Calls Try.prog 44 #[.pointer (some ⟨p, 0, none⟩)] W fun e W' => e = .returned (.int .i64 (endR l bad)) ∧ W = W' := by
  obtain ⟨c0, c1, f0, f1⟩ := h.cells
  obtain ⟨r, hr⟩ : ∃ r, r = endR l bad := ⟨_, rfl⟩
  rw [← hr]
  have Hr := Lib.hid hr
  clear hr
  cases bad with
  | true =>
    go_enter Try.func44, Try.ntmps44
    go_wp2_with fail
    go_ret
    exact ⟨by rw [Hr.out]; simp [endR], rfl⟩
  | false =>
    by_cases hl : 0 < l.length
    · have hl1 : (0 : Int) < (l.length : Int) := by omega
      go_enter Try.func44, Try.ntmps44
      go_wp2_with fail
      go_ret
      exact ⟨by rw [Hr.out]; simp [endR, hl], rfl⟩
    · have hl1 : ¬ (0 : Int) < (l.length : Int) := by omega
      go_enter Try.func44, Try.ntmps44
      go_wp2_with fail
      go_ret
      exact ⟨by rw [Hr.out]; simp [endR, hl], rfl⟩
/-- Raw of what is there -/
def RawTold (T : TypeId) (p n : Nat) (ao : Option Addr) (l : List UInt8) (bad : Bool) (W : World) (e : Ending) (W' : World) : Prop :=
  ∃ ab cb ao' cap', e = .returned (.slice ab (l.take n).length cb) ∧ Bs W' ab cb (l.take n) ∧ Rd T W' p ao' cap' (l.drop n) bad ∧ W.grownBy W' (some p) ∧ SameBlk ao ao'
set_option maxHeartbeats 1000000 in
theorem raw_rd (n : Nat) {W : World} {p : Nat} {ao : Option Addr} {cap : Nat} {l : List UInt8} {bad : Bool} (h : Rd 131 W p ao cap l bad) (hn : n ≤ l.length) (hl : l.length ≤ 70000000000000) :
    Calls Try.prog 108 #[.pointer (some ⟨p, 0, none⟩), .int .i64 (n : Int)] W (RawTold 131 p n ao l bad W) := by
  obtain ⟨c0, c1, f0, f1⟩ := h.cells
  have hpz := (Array.getElem?_eq_some_iff.1 h.blk).1
  have n0 : ¬ (n : Int) < 0 := by omega
  have n1 : ¬ (l.length : Int) < (n : Int) := by omega
  have hlt : ¬ l.length < n := by omega
  have hnl : (n : Int) ≤ (l.length : Int) := by omega
  go_enter Try.func108, Try.ntmps108
  go_wp2_with (first
    | (go_at_call 107; refine (left_rd h).mono ?_; rintro e w1 ⟨rfl, rfl⟩)
    | ((with_reducible show wpList _ _ _ (⟨_, Op.slice _ (.tmp 21) _ _ _, _, _, _, _⟩ :: _) _ _); refine wpl_slice_bb rfl (.tmp 21) none (some (.tmp 22)) 22 5 rfl Try.underlying22 sizeU8 _ _ l rfl h.bs 0 n (.inr ⟨rfl, rfl⟩) (.inl ⟨_, rfl, rfl⟩) (Nat.zero_le _) hn ?_; intro a1 k1 l1 hl1 hlen1 hb1 hsb1; have hle1 : l1.length ≤ 70000000000000 := (by omega); clear hlen1))
  refine (clone_any a1 k1 l1 W hle1 hb1).mono ?_
  rintro e W2 ⟨ab, cb, rfl, hfr⟩
  have h2 := h.below hfr.bel
  obtain ⟨d0, d1, g0, g1⟩ := h2.cells
  have hz2 := hfr.bel.size
  have hb2 := Bs.of_own hfr.own
  go_wp2_with ((with_reducible show wpList _ _ _ (⟨_, Op.slice _ (.tmp 29) _ _ _, _, _, _, _⟩ :: _) _ _); refine wpl_slice_bb rfl (.tmp 29) (some (.tmp 30)) none 22 5 rfl Try.underlying22 sizeU8 _ _ l rfl h2.bs n l.length (.inl ⟨_, rfl, rfl⟩) (.inr ⟨rfl, rfl⟩) hn (Nat.le_refl _) ?_; intro a3 k3 l3 hl3 hlen3 hb3 hsb3; clear hlen3)
  go_ret
  have e1 : l1 = l.take n := by rw [hl1.out]; simp
  have e3 : l3 = l.drop n := by rw [hl3.out, List.take_length]
  subst e1
  subst e3
  obtain ⟨r1, r2⟩ := h2.put hb3
  exact ⟨ab, cb, a3, k3, rfl, hb2.set (fun n e => by cases e) h2.blk, r1, grown_trans (grown_below hfr.bel) r2, hsb3⟩
set_option maxHeartbeats 1000000 in
theorem refRaw_rd (n : Nat) {W : World} {p : Nat} {ao : Option Addr} {cap : Nat} {l : List UInt8} {bad : Bool} (h : Rd 78 W p ao cap l bad) (hn : n ≤ l.length) (hl : l.length ≤ 70000000000000) :
    Calls Try.prog 86 #[.pointer (some ⟨p, 0, none⟩), .int .i64 (n : Int)] W (RawTold 78 p n ao l bad W) := by
  obtain ⟨c0, c1, f0, f1⟩ := h.cells
  have hpz := (Array.getElem?_eq_some_iff.1 h.blk).1
  have n0 : ¬ (n : Int) < 0 := by omega
  have n1 : ¬ (l.length : Int) < (n : Int) := by omega
  have hlt : ¬ l.length < n := by omega
  have hnl : (n : Int) ≤ (l.length : Int) := by omega
  have hb0 := h.bs.below (below_new W (.cells #[] 5))
  have ho0 := own_empty W W.heap.size 5 1 (Nat.le_refl _)
  have hB0 := below_new W (.cells #[] 5)
  go_enter Try.func86, Try.ntmps86
  go_wp2_with (first
    | ((with_reducible show wpList _ _ _ (⟨_, Op.slice _ (.tmp 23) _ _ _, _, _, _, _⟩ :: _) _ _); refine wpl_slice_bb rfl (.tmp 23) none (some (.tmp 24)) 22 5 rfl Try.underlying22 sizeU8 _ _ l rfl hb0 0 n (.inr ⟨rfl, rfl⟩) (.inl ⟨_, rfl, rfl⟩) (Nat.zero_le _) hn ?_; intro a1 k1 l1 hl1 hlen1 hb1 hsb1; have hle1 : l1.length ≤ 70000000000000 := (by omega); clear hlen1)
    | (at_builtin; refine wpl_append_bs rfl (.tmp 19) (.tmp 25) 22 rfl W.heap.size 5 infoU8 Try.underlying22 _ _ [] rfl ho0 _ _ l1 rfl hb1 (by simp; omega) (by simp) ?_; intro a2 k2 l2 W2 hl2 hown2 hg2; have hB2 := below_app hB0 hg2 ho0 (Nat.le_refl _) (by simp); have h2 := h.below hB2; obtain ⟨d0, d1, g0, g1⟩ := h2.cells; have hz2 := hB2.size)
    | ((with_reducible show wpList _ _ _ (⟨_, Op.slice _ (.tmp 31) _ _ _, _, _, _, _⟩ :: _) _ _); refine wpl_slice_bb rfl (.tmp 31) (some (.tmp 32)) none 22 5 rfl Try.underlying22 sizeU8 _ _ l rfl h2.bs n l.length (.inl ⟨_, rfl, rfl⟩) (.inr ⟨rfl, rfl⟩) hn (Nat.le_refl _) ?_; intro a3 k3 l3 hl3 hlen3 hb3 hsb3; clear hlen3))
  go_ret
  have e1 : l2 = l.take n := by rw [hl2.out, hl1.out]; simp
  have e3 : l3 = l.drop n := by rw [hl3.out, List.take_length]
  subst e1
  subst e3
  obtain ⟨r1, r2⟩ := h2.put hb3
  exact ⟨a2, k2, a3, k3, rfl, (Bs.of_own hown2).set (fun n e => by cases e) h2.blk, r1, grown_trans (grown_below hB2) r2, hsb3⟩
/-- what Text tells -/
def TextTold (T : TypeId) (p : Nat) (ao : Option Addr) (r : List UInt8 × List UInt8 × Bool) (W : World) (e : Ending) (W' : World) : Prop :=
  ∃ ao' cap', e = .returned (.string ⟨r.1.toArray⟩) ∧ Rd T W' p ao' cap' r.2.1 r.2.2 ∧ W.grownBy W' (some p) ∧ SameBlk ao ao'
set_option maxRecDepth 100000 in
set_option maxHeartbeats 1000000 in
theorem text_rd (most : Nat) (hm : most ≤ 1048576) {W : World} {p : Nat} {ao : Option Addr} {cap : Nat} {l : List UInt8} {bad : Bool} (h : Rd 131 W p ao cap l bad) (hl : l.length ≤ 70000000000000) :
    Calls Try.prog 82 #[.pointer (some ⟨p, 0, none⟩), .int .i64 (most : Int)] W (TextTold 131 p ao (readT most l bad) W) := by
  have hnum := rnum_any most (by omega) h
  have hle := readN_le most l bad
  have hlen := readN_len most l bad
  obtain ⟨R, hR⟩ : ∃ R, R = readT most l bad := ⟨_, rfl⟩
  rw [← hR]
  unfold readT at hR
  obtain ⟨r, hr⟩ : ∃ r, r = readN most l bad := ⟨_, rfl⟩
  simp only [← hr] at hnum hle hlen hR
  obtain ⟨x, l1, b1⟩ := r
  simp only at hnum hle hlen hR
  have HR := Lib.hid hR
  have Hnum := Lib.hid hnum
  clear hR hr hnum
  have m0 : ¬ (most : Int) < 0 := by omega
  have m1 : IntKind.u64.wrap (most : Int) = (most : Int) := IntWalk.u64_in _ (by omega)
  have x1 : IntKind.i64.wrap (x : Int) = (x : Int) := IntWalk.i64_in _ (by omega)
  have m2 : IntKind.u64.wrap (l1.length : Int) = (l1.length : Int) := IntWalk.u64_in _ (by omega)
  go_enter Try.func82, Try.ntmps82
  go_wp2_with fail
  refine Hnum.out.mono ?_
  rintro e W1 ⟨ao1, cap1, rfl, h1, hg1, hs1⟩
  simp only at h1
  go_wp2_with fail
  refine (left_rd h1).mono ?_
  rintro e W2 ⟨rfl, rfl⟩
  by_cases hbig : l1.length < x
  · have hb2 : (l1.length : Int) < (x : Int) := by omega
    have hfl := fail_rd h1
    have Hfl := Lib.hid hfl
    clear hfl
    go_wp2_with fail
    refine Hfl.out.mono ?_
    rintro e W3 ⟨rfl, h3, hg3⟩
    go_wp2_with fail
    go_ret
    rw [HR.out, if_pos hbig]
    exact ⟨none, 0, rfl, h3, grown_trans hg1 hg3, SameBlk.none _⟩
  · have hb2 : ¬ (l1.length : Int) < (x : Int) := by omega
    have hrw := raw_rd x h1 (by omega) (by omega)
    have Hrw := Lib.hid hrw
    clear hrw
    go_wp2_with fail
    refine Hrw.out.mono ?_
    rintro e W3 ⟨ab, cb, ao3, cap3, rfl, hb3, h3, hg3, hs3⟩
    obtain ⟨d, hd⟩ : ∃ d, d = l1.take x := ⟨_, rfl⟩
    rw [← hd] at hb3 ⊢
    have Hd := Lib.hid hd
    clear hd
    have hcv := conv_any hb3
    go_wp2_with fail
    go_ret
    rw [HR.out, if_neg hbig]
    simp only
    rw [← Hd.out]
    exact ⟨ao3, cap3, rfl, h3, grown_trans hg1 hg3, hs1.trans hs3⟩
set_option maxRecDepth 100000 in
set_option maxHeartbeats 1000000 in
theorem refText_rd (most : Nat) (hm : most ≤ 1048576) {W : World} {p : Nat} {ao : Option Addr} {cap : Nat} {l : List UInt8} {bad : Bool} (h : Rd 78 W p ao cap l bad) (hl : l.length ≤ 70000000000000) :
    Calls Try.prog 45 #[.pointer (some ⟨p, 0, none⟩), .int .i64 (most : Int)] W (TextTold 78 p ao (readT most l bad) W) := by
  have hnum := refNum_rd most (by omega) h
  have hle := readN_le most l bad
  have hlen := readN_len most l bad
  obtain ⟨R, hR⟩ : ∃ R, R = readT most l bad := ⟨_, rfl⟩
  rw [← hR]
  unfold readT at hR
  obtain ⟨r, hr⟩ : ∃ r, r = readN most l bad := ⟨_, rfl⟩
  simp only [← hr] at hnum hle hlen hR
  obtain ⟨x, l1, b1⟩ := r
  simp only at hnum hle hlen hR
  have HR := Lib.hid hR
  have Hnum := Lib.hid hnum
  clear hR hr hnum
  have m0 : ¬ (most : Int) < 0 := by omega
  have m1 : IntKind.u64.wrap (most : Int) = (most : Int) := IntWalk.u64_in _ (by omega)
  have x1 : IntKind.i64.wrap (x : Int) = (x : Int) := IntWalk.i64_in _ (by omega)
  have m2 : IntKind.u64.wrap (l1.length : Int) = (l1.length : Int) := IntWalk.u64_in _ (by omega)
  go_enter Try.func45, Try.ntmps45
  go_wp2_with fail
  refine Hnum.out.mono ?_
  rintro e W1 ⟨ao1, cap1, rfl, h1, hg1, hs1⟩
  simp only at h1
  obtain ⟨d0, d1, g0, g1⟩ := h1.cells
  by_cases hbig : l1.length < x
  · have hb2 : (l1.length : Int) < (x : Int) := by omega
    have hfl := refFail_rd h1
    have Hfl := Lib.hid hfl
    clear hfl
    go_wp2_with fail
    refine Hfl.out.mono ?_
    rintro e W3 ⟨rfl, h3, hg3⟩
    go_wp2_with fail
    go_ret
    rw [HR.out, if_pos hbig]
    exact ⟨none, 0, rfl, h3, grown_trans hg1 hg3, SameBlk.none _⟩
  · have hb2 : ¬ (l1.length : Int) < (x : Int) := by omega
    have hrw := refRaw_rd x h1 (by omega) (by omega)
    have Hrw := Lib.hid hrw
    clear hrw
    go_wp2_with fail
    refine Hrw.out.mono ?_
    rintro e W3 ⟨ab, cb, ao3, cap3, rfl, hb3, h3, hg3, hs3⟩
    obtain ⟨d, hd⟩ : ∃ d, d = l1.take x := ⟨_, rfl⟩
    rw [← hd] at hb3 ⊢
    have Hd := Lib.hid hd
    clear hd
    have hcv := conv_any hb3
    go_wp2_with fail
    go_ret
    rw [HR.out, if_neg hbig]
    simp only
    rw [← Hd.out]
    exact ⟨ao3, cap3, rfl, h3, grown_trans hg1 hg3, hs1.trans hs3⟩
end Go.Proofs.Ytlphpjgiaflfkaa
namespace Go.Proofs.Ytlphpjgiaflfkaa
set_option linter.unusedVariables false
set_option linter.unusedSimpArgs false
set_option linter.unusedSectionVars false
open Go Go.RowKit
theorem open_yes (ao : Option Addr) (cap : Nat) (l l' : List UInt8) (w : World) (hl : l.length ≤ 70000000000000) (hb : Bs w ao cap l) (h : Crc.opened l = some l') :
    Calls Try.prog 106 #[.slice ao l.length cap] w fun e w' => ∃ ao' cap', e = .returned (.tuple #[.slice ao' l'.length cap', .bool true]) ∧ Fresh w w' ao' cap' l' := by
  refine (open_any ao cap l w hl hb).mono fun e w' h' => ?_
  unfold OpenIs at h'
  rw [h] at h'
  exact h'
theorem open_none (ao : Option Addr) (cap : Nat) (l : List UInt8) (w : World) (hl : l.length ≤ 70000000000000) (hb : Bs w ao cap l) (h : Crc.opened l = none) :
    Calls Try.prog 106 #[.slice ao l.length cap] w fun e w' => e = .returned (.tuple #[.slice none 0 0, .bool false]) ∧ Below w.heap.size w w' := by
  refine (open_any ao cap l w hl hb).mono fun e w' h' => ?_
  unfold OpenIs at h'
  rw [h] at h'
  exact h'
end Go.Proofs.Ytlphpjgiaflfkaa
namespace Go.Proofs.Ytlphpjgiaflfkaa.Fr
set_option linter.unusedVariables false
set_option linter.unusedSimpArgs false
set_option linter.unusedSectionVars false
open Crc (num tail sealed opened)
def hdr (kind : UInt8) (n : Nat) : List UInt8 := [102, kind, UInt8.ofNat (n / 65536), UInt8.ofNat (n / 256), UInt8.ofNat n]
def wrapped (kind : UInt8) (body : List UInt8) : List UInt8 := sealed (hdr kind body.length ++ body)
theorem wrapped_length (kind : UInt8) (body : List UInt8) : (wrapped kind body).length = body.length + 8 := by
  simp [wrapped, Crc.sealed_length, hdr]
/-- how long the frame is with which bytes begin, and the error's number -/
def size (l : List UInt8) : Nat × Nat :=
  if l.length = 0 then (0, 23)
  else if l.getD 0 0 ≠ 102 then (0, 20)
  else if l.length < 2 then (0, 23)
  else if l.getD 1 0 = 0 then (0, 20)
  else if l.length < 5 then (0, 23)
  else if 65536 < num (l.getD 2 0) (l.getD 3 0) (l.getD 4 0) then (0, 20)
  else if l.length < num (l.getD 2 0) (l.getD 3 0) (l.getD 4 0) + 8 then (0, 23)
  else (num (l.getD 2 0) (l.getD 3 0) (l.getD 4 0) + 8, 0)
structure Taken where
  kind : UInt8
  body : List UInt8
  n : Nat
  err : Nat
/-- the frame with which bytes begin -/
def take (l : List UInt8) : Taken :=
  if (size l).2 ≠ 0 then ⟨0, [], 0, (size l).2⟩
  else match opened (l.take (size l).1) with
    | none => ⟨0, [], 0, 22⟩
    | some own => ⟨own.getD 1 0, own.drop 5, (size l).1, 0⟩
theorem size_ok (l : List UInt8) (h : (size l).2 = 0) : 5 ≤ l.length ∧ l.getD 0 0 = 102 ∧ l.getD 1 0 ≠ 0 ∧ num (l.getD 2 0) (l.getD 3 0) (l.getD 4 0) ≤ 65536 ∧ (size l).1 = num (l.getD 2 0) (l.getD 3 0) (l.getD 4 0) + 8 ∧ (size l).1 ≤ l.length := by
  revert h
  unfold size
  split
  · intro h; cases h
  split
  · intro h; cases h
  split
  · intro h; cases h
  split
  · intro h; cases h
  split
  · intro h; cases h
  split
  · intro h; cases h
  split
  · intro h; cases h
  · intro h
    rename_i h0 h1 h2 h3 h4 h5 h6
    exact ⟨by omega, by simpa using h1, h3, by omega, rfl, by simp only; omega⟩
theorem opened_take (l own : List UInt8) (h : opened l = some own) : own = l.take (l.length - 3) ∧ 3 ≤ l.length := by
  unfold opened at h
  split at h
  · rename_i hc
    exact ⟨by simpa using h.symm, hc.1⟩
  · cases h
theorem num_hdr (n : Nat) (h : n < 16777216) : num (UInt8.ofNat (n / 65536)) (UInt8.ofNat (n / 256)) (UInt8.ofNat n) = n := Crc.num_tail n h
theorem wrapped_at (kind : UInt8) (body more : List UInt8) : ∃ r, wrapped kind body ++ more = 102 :: kind :: UInt8.ofNat (body.length / 65536) :: UInt8.ofNat (body.length / 256) :: UInt8.ofNat body.length :: r := by
  simp [wrapped, hdr, sealed]
theorem size_wrapped (kind : UInt8) (body more : List UInt8) (hk : kind ≠ 0) (hb : body.length ≤ 65536) : size (wrapped kind body ++ more) = (body.length + 8, 0) := by
  have hl : (wrapped kind body ++ more).length = body.length + 8 + more.length := by rw [List.length_append, wrapped_length]
  obtain ⟨r, hr⟩ := wrapped_at kind body more
  have hn := num_hdr body.length (by omega)
  unfold size
  rw [hl, hr]
  simp only [List.getD_cons_zero, List.getD_cons_succ, hn]
  rw [if_neg (by omega), if_neg (by simp), if_neg (by omega), if_neg hk, if_neg (by omega), if_neg (by omega), if_neg (by omega)]
theorem take_wrapped (kind : UInt8) (body more : List UInt8) (hk : kind ≠ 0) (hb : body.length ≤ 65536) : take (wrapped kind body ++ more) = ⟨kind, body, body.length + 8, 0⟩ := by
  have hs := size_wrapped kind body more hk hb
  unfold take
  rw [hs]
  have e : (wrapped kind body ++ more).take (body.length + 8) = wrapped kind body := by
    rw [← wrapped_length kind body]; exact List.take_left
  simp only [e, ne_eq, not_true_eq_false, if_false]
  rw [wrapped, Crc.opened_sealed]
  simp [hdr]
theorem five (l : List UInt8) (h : 5 ≤ l.length) : ∃ a b c d e r, l = a :: b :: c :: d :: e :: r := by
  match l, h with
  | a :: b :: c :: d :: e :: r, _ => exact ⟨a, b, c, d, e, r, rfl⟩
/-- the bytes as the reference holds them against -/
theorem rebuilt (l : List UInt8) (h : (size l).2 = 0) : wrapped (l.getD 1 0) ((l.take ((size l).1 - 3)).drop 5) = sealed (l.take ((size l).1 - 3)) := by
  obtain ⟨h5, h0, h1, hn, hs, hle⟩ := size_ok l h
  have hb : ((l.take ((size l).1 - 3)).drop 5).length = num (l.getD 2 0) (l.getD 3 0) (l.getD 4 0) := by
    simp only [List.length_drop, List.length_take]; omega
  unfold wrapped
  rw [hb]
  congr 1
  have ht := Crc.tail_num (l.getD 2 0) (l.getD 3 0) (l.getD 4 0)
  have hk : (size l).1 - 3 = num (l.getD 2 0) (l.getD 3 0) (l.getD 4 0) + 5 := by omega
  rw [hk]
  clear hk hb hs hn hle h
  unfold tail at ht
  injection ht with t2 ht
  injection ht with t1 ht
  injection ht with t0 _
  generalize num (l.getD 2 0) (l.getD 3 0) (l.getD 4 0) = m at *
  obtain ⟨a, b, c, d, e, r, rfl⟩ := five l h5
  simp only [List.getD_cons_zero, List.getD_cons_succ] at *
  simp [hdr, t2, t1, t0, h0]
theorem take_err (l : List UInt8) (h : (size l).2 ≠ 0) : take l = ⟨0, [], 0, (size l).2⟩ := by unfold take; rw [if_pos h]
theorem take_sum (l : List UInt8) (h : (size l).2 = 0) (ho : opened (l.take (size l).1) = none) : take l = ⟨0, [], 0, 22⟩ := by unfold take; rw [if_neg (by simpa using h), ho]
theorem take_yes (l : List UInt8) (h : (size l).2 = 0) (ho : opened (l.take (size l).1) ≠ none) : opened (l.take (size l).1) = some (l.take ((size l).1 - 3)) ∧ take l = ⟨l.getD 1 0, (l.take ((size l).1 - 3)).drop 5, (size l).1, 0⟩ := by
  obtain ⟨h5, h0, h1, hn, hs, hle⟩ := size_ok l h
  cases hc : opened (l.take (size l).1) with
  | none => exact absurd hc ho
  | some own =>
    obtain ⟨e, _⟩ := opened_take _ _ hc
    have e2 : own = l.take ((size l).1 - 3) := by
      rw [e, List.length_take, List.take_take]
      congr 1; omega
    refine ⟨by rw [e2], ?_⟩
    unfold take
    rw [if_neg (by simpa using h), hc]
    simp only
    rw [e2]
    congr 1
    have hk : (size l).1 - 3 = ((size l).1 - 5) + 2 := by omega
    rw [hk]
    generalize (size l).1 - 5 = m
    obtain ⟨a, b, c, d, e, r, rfl⟩ := five l h5
    simp
/-- frames that were wrapped are whole; whatever else is whole was sealed -/
theorem take_none (l : List UInt8) (h : opened l = none) : ¬ ((take l).err = 0 ∧ (take l).n = l.length) := by
  rintro ⟨h1, h2⟩
  by_cases hs : (size l).2 = 0
  · by_cases ho : opened (l.take (size l).1) = none
    · rw [take_sum l hs ho] at h1; cases h1
    · obtain ⟨_, e⟩ := take_yes l hs ho
      rw [e] at h2
      simp only at h2
      rw [h2, List.take_length] at ho
      exact ho h
  · rw [take_err l hs] at h1; exact hs h1
end Go.Proofs.Ytlphpjgiaflfkaa.Fr
namespace Go.Proofs.Ytlphpjgiaflfkaa.Crc
/-- two that open to the same are the same -/
theorem opened_inj (a b : List UInt8) (h : opened a = opened b) (hb : opened b ≠ none) : a = b := by
  cases ho : opened b with
  | none => exact absurd ho hb
  | some own =>
    rw [ho] at h
    have key : ∀ l : List UInt8, opened l = some own → sealed own = l := by
      intro l hl
      unfold opened at hl
      split at hl
      · rename_i hc
        have : l.take (l.length - 3) = own := by simpa using hl
        rw [← this]; exact hc.2
      · cases hl
    rw [← key a h, ← key b ho]
end Go.Proofs.Ytlphpjgiaflfkaa.Crc
namespace Go.Proofs.Ytlphpjgiaflfkaa
set_option linter.unusedVariables false
set_option linter.unusedSimpArgs false
set_option linter.unusedSectionVars false
open Go Go.RowKit
theorem kind_ne {kind : UInt8} (h : kind ≠ 0) : ((kind.toNat : Int) == 0) = false := by
  simp
  intro e
  exact h (UInt8.toNat_inj.1 (by simpa using e))
set_option maxHeartbeats 400000 in
theorem wrap_ok (kind : UInt8) (ao : Option Addr) (cap : Nat) (l : List UInt8) (w : World) (hb : Bs w ao cap l) (h : kind ≠ 0) (hl : l.length ≤ 65536) :
    Calls Try.prog 67 #[.int .u8 kind.toNat, .slice ao l.length cap] w fun e w' => ∃ ao' cap', e = .returned (.tuple #[.slice ao' (Fr.wrapped kind l).length cap', .int .i64 0]) ∧ Fresh w w' ao' cap' (Fr.wrapped kind l) := by
  have hk := kind_ne h
  obtain ⟨b2, hb2⟩ : ∃ b : UInt8, b = UInt8.ofNat (l.length / 65536) := ⟨_, rfl⟩
  obtain ⟨b1, hb1⟩ : ∃ b : UInt8, b = UInt8.ofNat (l.length / 256) := ⟨_, rfl⟩
  obtain ⟨b0, hb0⟩ : ∃ b : UInt8, b = UInt8.ofNat l.length := ⟨_, rfl⟩
  have e2 : (l.length : Int) / 65536 = (b2.toNat : Int) := by rw [hb2, ofNat_u8]; omega
  have e1 : (l.length : Int) / 256 % 256 = (b1.toNat : Int) := by rw [hb1, ofNat_u8]; simp
  have e0 : (l.length : Int) % 256 = (b0.toNat : Int) := by rw [hb0, ofNat_u8]
  have hfin : Fr.wrapped kind l = Crc.sealed ([102, kind, b2, b1, b0] ++ l) := by rw [Fr.wrapped, Fr.hdr, hb2, hb1, hb0]
  have Hfin := Lib.hid hfin
  clear hfin hb2 hb1 hb0
  have hB := below_new w (.cells #[.int .u8 102, u8 kind, u8 b2, u8 b1, u8 b0] 5)
  have hown0 : (w.alloc (.cells #[.int .u8 102, u8 kind, u8 b2, u8 b1, u8 b0] 5)).ownsRow w.heap.size 5 1 (.slice (some ⟨w.heap.size, 0, none⟩) 5 5) 5 ([102, kind, b2, b1, b0].map u8) :=
    World.ownsRow_lit w _ 5 (Nat.le_refl _) (by decide) rfl
  go_enter Try.func67, Try.ntmps67
  go_wp2_with (first
    | (at_builtin; refine wpl_append_bs rfl (.tmp 25) (.tmp 26) 22 rfl w.heap.size 5 infoU8 Try.underlying22 _ _ [102, kind, b2, b1, b0] rfl hown0 _ _ l rfl (hb.below hB) (by simp; omega) hB.size ?_; intro ao3 cap3 l3 w3 hl3 hown3 hg3; have hb3 := below_app hB hg3 hown0 (Nat.le_refl _) hB.size; have hlen3 : l3.length ≤ 70000000000000 := (by rw [hl3.out]; simp; omega))
    | fail)
  refine (seal_any ao3 cap3 l3 w3 hlen3 (Bs.of_own hown3)).mono ?_
  rintro e w4 ⟨ao4, cap4, rfl, hf4⟩
  go_wp2_with fail
  rw [Hfin.out, ← hl3.out]
  go_ret2
  exact ⟨_, _, rfl, ⟨own_base hf4.own hb3.size, below_on hb3 hf4.bel (Nat.le_refl _)⟩⟩
set_option maxHeartbeats 400000 in
theorem bytes_any (kind : UInt8) (ao : Option Addr) (cap : Nat) (l : List UInt8) (w : World) (hb : Bs w ao cap l) (hl : l.length ≤ 65536) :
    Calls Try.prog 46 #[.int .u8 kind.toNat, .slice ao l.length cap] w fun e w' => ∃ ao' cap', e = .returned (.slice ao' (Fr.wrapped kind l).length cap') ∧ Fresh w w' ao' cap' (Fr.wrapped kind l) := by
  obtain ⟨b2, hb2⟩ : ∃ b : UInt8, b = UInt8.ofNat (l.length / 65536) := ⟨_, rfl⟩
  obtain ⟨b1, hb1⟩ : ∃ b : UInt8, b = UInt8.ofNat (l.length / 256) := ⟨_, rfl⟩
  obtain ⟨b0, hb0⟩ : ∃ b : UInt8, b = UInt8.ofNat l.length := ⟨_, rfl⟩
  have e2 : (l.length : Int) / 65536 = (b2.toNat : Int) := by rw [hb2, ofNat_u8]; omega
  have e1 : (l.length : Int) / 256 % 256 = (b1.toNat : Int) := by rw [hb1, ofNat_u8]; simp
  have e0 : (l.length : Int) % 256 = (b0.toNat : Int) := by rw [hb0, ofNat_u8]
  have hfin : Fr.wrapped kind l = Crc.sealed ([102, kind, b2, b1, b0] ++ l) := by rw [Fr.wrapped, Fr.hdr, hb2, hb1, hb0]
  have Hfin := Lib.hid hfin
  clear hfin hb2 hb1 hb0
  have hB := below_new w (.cells #[.int .u8 102, u8 kind, u8 b2, u8 b1, u8 b0] 5)
  have hown0 : (w.alloc (.cells #[.int .u8 102, u8 kind, u8 b2, u8 b1, u8 b0] 5)).ownsRow w.heap.size 5 1 (.slice (some ⟨w.heap.size, 0, none⟩) 5 5) 5 ([102, kind, b2, b1, b0].map u8) :=
    World.ownsRow_lit w _ 5 (Nat.le_refl _) (by decide) rfl
  go_enter Try.func46, Try.ntmps46
  go_wp2_with (first
    | (at_builtin; refine wpl_append_bs rfl (.tmp 19) (.tmp 20) 22 rfl w.heap.size 5 infoU8 Try.underlying22 _ _ [102, kind, b2, b1, b0] rfl hown0 _ _ l rfl (hb.below hB) (by simp; omega) hB.size ?_; intro ao3 cap3 l3 w3 hl3 hown3 hg3; have hb3 := below_app hB hg3 hown0 (Nat.le_refl _) hB.size; have hlen3 : l3.length ≤ 70000000000000 := (by rw [hl3.out]; simp; omega))
    | fail)
  refine (refSeal_any ao3 cap3 l3 w3 hlen3 (Bs.of_own hown3)).mono ?_
  rintro e w4 ⟨ao4, cap4, rfl, hf4⟩
  go_wp2_with fail
  rw [Hfin.out, ← hl3.out]
  go_ret
  exact ⟨_, _, rfl, ⟨own_base hf4.own hb3.size, below_on hb3 hf4.bel (Nat.le_refl _)⟩⟩
/-- what 'size' answers -/
def SizeIs (w : World) (l : List UInt8) (e : Ending) (w' : World) : Prop := e = .returned (.tuple #[.int .i64 ((Fr.size l).1 : Nat), .int .i64 ((Fr.size l).2 : Nat)]) ∧ Below w.heap.size w w'
theorem ofInt_i64 (a : Nat) (ha : a < 9223372036854775808) : (BitVec.ofInt 64 (a : Int)).toNat = a := by
  rw [BitVec.ofInt_natCast, BitVec.toNat_ofNat]; omega
theorem i64_or_nat (a b : Nat) (ha : a < 9223372036854775808) (hb : b < 9223372036854775808) : bits .or .i64 (a : Int) (b : Int) = ((a ||| b : Nat) : Int) := by
  have h : a ||| b < 2 ^ 63 := Nat.or_lt_two_pow (by simpa using ha) (by simpa using hb)
  show IntKind.i64.wrap ((BitVec.ofInt 64 (a : Int) ||| BitVec.ofInt 64 (b : Int)).toNat : Int) = _
  rw [BitVec.toNat_or, ofInt_i64 a ha, ofInt_i64 b hb]
  exact IntWalk.i64_in _ (by omega)
theorem be3i (a b c : Nat) (ha : a < 256) (hb : b < 256) (hc : c < 256) :
    bits BinOp.or IntKind.i64 (bits BinOp.or IntKind.i64 (wrap64 (wrap64 (a : Int) * 65536)) (wrap64 (wrap64 (b : Int) * 256))) (wrap64 (c : Int)) = ((a * 65536 + b * 256 + c : Nat) : Int) := by
  have e1 : wrap64 (wrap64 (a : Int) * 65536) = ((a * 65536 : Nat) : Int) := by rw [IntWalk.wrap64_in (a : Int) (by omega), IntWalk.wrap64_in _ (by omega)]; omega
  have e2 : wrap64 (wrap64 (b : Int) * 256) = ((b * 256 : Nat) : Int) := by rw [IntWalk.wrap64_in (b : Int) (by omega), IntWalk.wrap64_in _ (by omega)]; omega
  have e3 : wrap64 (c : Int) = (c : Int) := IntWalk.wrap64_in _ (by omega)
  rw [e1, e2, e3, i64_or_nat _ _ (by omega) (by omega), nat_join 16 _ _ (by omega) (by omega), i64_or_nat _ _ (by omega) (by omega), nat_join 8 _ _ (by omega) (by omega)]
theorem size_bad (n k : Nat) (l : List UInt8) (h : Fr.size l = (n, k)) (w w' : World) (hb : Below w.heap.size w w') : SizeIs w l (.returned (.tuple #[.int .i64 (n : Nat), .int .i64 (k : Nat)])) w' := by
  refine ⟨?_, hb⟩; rw [h]
theorem size_nil (ao : Option Addr) (cap : Nat) (l : List UInt8) (w : World) (h : l.length = 0) :
    Calls Try.prog 105 #[.slice ao l.length cap] w (SizeIs w l) := by
  have hs : Fr.size l = (0, 23) := by unfold Fr.size; rw [if_pos h]
  have Hs := Lib.hid hs
  clear hs
  go_enter Try.func105, Try.ntmps105
  go_wp2
  go_ret2
  exact size_bad 0 23 l Hs.out w w (Below.refl _ _)
theorem u8_ne {c : UInt8} {k : UInt8} (h : c ≠ k) : ((c.toNat : Int) != (k.toNat : Int)) = true := by
  simp
  intro e
  exact h (UInt8.toNat_inj.1 (by omega))
theorem u8_eq {c : UInt8} {k : UInt8} (h : c = k) : ((c.toNat : Int) != (k.toNat : Int)) = false := by
  subst h; simp
set_option maxHeartbeats 400000 in
theorem size_one (b off cap : Nat) (l : List UInt8) (w : World) (hb : Bs w (some ⟨b, off, none⟩) cap l) (h : l.length = 1) :
    Calls Try.prog 105 #[.slice (some ⟨b, off, none⟩) l.length cap] w (SizeIs w l) := by
  have c0 : w.cell? ⟨b, off, none⟩ = some (.int .u8 (l[0].toNat : Int)) := hb.all 0 (by omega)
  have hg0 : l.getD 0 0 = l[0] := by simp [List.getD, List.getElem?_eq_getElem (show 0 < l.length by omega)]
  by_cases h1 : l[0] = 102
  · have hs : Fr.size l = (0, 23) := by unfold Fr.size; rw [if_neg (by omega), if_neg (by rw [hg0]; simpa using h1), if_pos (by omega)]
    have Hs := Lib.hid hs
    have t1 := u8_eq h1
    have t1' : ((l[0].toNat : Int) != 102) = false := t1
    clear hs t1 hg0 h1
    go_enter Try.func105, Try.ntmps105
    go_wp2
    go_ret2
    exact size_bad 0 23 l Hs.out w w (Below.refl _ _)
  · have hs : Fr.size l = (0, 20) := by unfold Fr.size; rw [if_neg (by omega), if_pos (by rw [hg0]; exact h1)]
    have Hs := Lib.hid hs
    have t1' : ((l[0].toNat : Int) != 102) = true := u8_ne h1
    clear hs hg0 h1
    go_enter Try.func105, Try.ntmps105
    go_wp2
    go_ret2
    exact size_bad 0 20 l Hs.out w w (Below.refl _ _)
set_option maxHeartbeats 400000 in
theorem size_few (b off cap : Nat) (l : List UInt8) (w : World) (hb : Bs w (some ⟨b, off, none⟩) cap l) (h : l.length = 2 ∨ l.length = 3 ∨ l.length = 4) :
    Calls Try.prog 105 #[.slice (some ⟨b, off, none⟩) l.length cap] w (SizeIs w l) := by
  have c0 : w.cell? ⟨b, off, none⟩ = some (.int .u8 (l[0].toNat : Int)) := hb.all 0 (by omega)
  have c1 := hb.all 1 (by omega)
  have hg0 : l.getD 0 0 = l[0] := by simp [List.getD, List.getElem?_eq_getElem (show 0 < l.length by omega)]
  have hg1 : l.getD 1 0 = l[1] := by simp [List.getD, List.getElem?_eq_getElem (show 1 < l.length by omega)]
  have three : (Fr.size l = (0, 20) ∧ ((l[0].toNat : Int) != 102) = true) ∨ (Fr.size l = (0, 20) ∧ ((l[0].toNat : Int) != 102) = false ∧ ((l[1].toNat : Int) == 0) = true) ∨
      (Fr.size l = (0, 23) ∧ ((l[0].toNat : Int) != 102) = false ∧ ((l[1].toNat : Int) == 0) = false) := by
    by_cases h1 : l[0] = 102
    · by_cases h2 : l[1] = 0
      · exact .inr (.inl ⟨by unfold Fr.size; rw [if_neg (by omega), if_neg (by rw [hg0]; simpa using h1), if_neg (by omega), if_pos (by rw [hg1]; exact h2)], u8_eq h1, by rw [h2]; rfl⟩)
      · exact .inr (.inr ⟨by unfold Fr.size; rw [if_neg (by omega), if_neg (by rw [hg0]; simpa using h1), if_neg (by omega), if_neg (by rw [hg1]; exact h2), if_pos (by omega)], u8_eq h1, kind_ne h2⟩)
    · exact .inl ⟨by unfold Fr.size; rw [if_neg (by omega), if_pos (by rw [hg0]; exact h1)], u8_ne h1⟩
  clear hg0 hg1
  rcases h with h | h | h <;> rcases three with ⟨hs, t1⟩ | ⟨hs, t1, t2⟩ | ⟨hs, t1, t2⟩
  all_goals
    have Hs := Lib.hid hs
    clear hs
    go_enter Try.func105, Try.ntmps105
    go_wp2
    all_goals
      go_ret2
      first | exact size_bad 0 20 l Hs.out w w (Below.refl _ _) | exact size_bad 0 23 l Hs.out w w (Below.refl _ _)
set_option maxHeartbeats 1000000 in
theorem size_many (b off cap : Nat) (l : List UInt8) (w : World) (hl : l.length ≤ 70000000000000) (hb : Bs w (some ⟨b, off, none⟩) cap l) (h : 5 ≤ l.length) :
    Calls Try.prog 105 #[.slice (some ⟨b, off, none⟩) l.length cap] w (SizeIs w l) := by
  have c0 : w.cell? ⟨b, off, none⟩ = some (.int .u8 (l[0].toNat : Int)) := hb.all 0 (by omega)
  have c1 := hb.all 1 (by omega)
  have c2 := hb.all 2 (by omega)
  have c3 := hb.all 3 (by omega)
  have c4 := hb.all 4 (by omega)
  have hv := be3i l[2].toNat l[3].toNat l[4].toNat (UInt8.toNat_lt _) (UInt8.toNat_lt _) (UInt8.toNat_lt _)
  have hx : Crc.num (l.getD 2 0) (l.getD 3 0) (l.getD 4 0) = l[2].toNat * 65536 + l[3].toNat * 256 + l[4].toNat := by
    simp [List.getD, List.getElem?_eq_getElem (show 2 < l.length by omega), List.getElem?_eq_getElem (show 3 < l.length by omega), List.getElem?_eq_getElem (show 4 < l.length by omega), Crc.num]
  have hxl : Crc.num (l.getD 2 0) (l.getD 3 0) (l.getD 4 0) < 16777216 := by
    rw [hx]; have := l[2].toNat_lt; have := l[3].toNat_lt; have := l[4].toNat_lt; omega
  rw [← hx] at hv
  have hg0 : l.getD 0 0 = l[0] := by simp [List.getD, List.getElem?_eq_getElem (show 0 < l.length by omega)]
  have hg1 : l.getD 1 0 = l[1] := by simp [List.getD, List.getElem?_eq_getElem (show 1 < l.length by omega)]
  have hsz : Fr.size l = if l[0] ≠ 102 then (0, 20) else if l[1] = 0 then (0, 20) else if 65536 < Crc.num (l.getD 2 0) (l.getD 3 0) (l.getD 4 0) then (0, 20)
      else if l.length < Crc.num (l.getD 2 0) (l.getD 3 0) (l.getD 4 0) + 8 then (0, 23) else (Crc.num (l.getD 2 0) (l.getD 3 0) (l.getD 4 0) + 8, 0) := by
    unfold Fr.size
    rw [if_neg (by omega), hg0, hg1, if_neg (show ¬ l.length < 2 by omega), if_neg (show ¬ l.length < 5 by omega)]
  clear hx hg0 hg1
  generalize Crc.num (l.getD 2 0) (l.getD 3 0) (l.getD 4 0) = x at *
  have Hv := Lib.hid hv
  clear hv
  by_cases hbig : 65536 < x
  · have hs : Fr.size l = (0, 20) := by rw [hsz, if_pos hbig]; split <;> (try split) <;> rfl
    have Hs := Lib.hid hs
    clear hs hsz
    go_enter Try.func105, Try.ntmps105
    go_wp2
    go_quiet (fail)
    rw [Hv.out]
    go_wp2
    go_ret2
    exact size_bad 0 20 l Hs.out w _ (below_drewN (Below.refl _ _) _)
  rw [if_neg hbig] at hsz
  by_cases h2 : l[1] = 0
  · have hs : Fr.size l = (0, 20) := by rw [hsz, if_pos h2]; split <;> rfl
    have Hs := Lib.hid hs
    have t2 : ((l[1].toNat : Int) == 0) = true := by rw [h2]; rfl
    clear hs hsz h2
    go_enter Try.func105, Try.ntmps105
    go_wp2
    go_quiet (fail)
    rw [Hv.out]
    go_wp2
    go_ret2
    exact size_bad 0 20 l Hs.out w _ (below_drewN (Below.refl _ _) _)
  rw [if_neg h2] at hsz
  have t2 := kind_ne h2
  clear h2
  by_cases h1 : l[0] = 102
  · rw [if_neg (by simpa using h1)] at hsz
    have t1 : ((l[0].toNat : Int) != 102) = false := u8_eq h1
    clear h1
    by_cases h3 : l.length < x + 8
    · rw [if_pos h3] at hsz
      have Hs := Lib.hid hsz
      have hz : ((x : Int) + 8 == 0) = false := by simp; omega
      clear hsz
      go_enter Try.func105, Try.ntmps105
      go_wp2
      go_quiet (fail)
      rw [Hv.out]
      go_wp2
      go_ret2
      exact size_bad 0 23 l Hs.out w _ (below_drewN (Below.refl _ _) _)
    · rw [if_neg h3] at hsz
      have Hs := Lib.hid hsz
      have hz : ((x : Int) + 8 == 0) = false := by simp; omega
      clear hsz
      go_enter Try.func105, Try.ntmps105
      go_wp2
      go_quiet (fail)
      rw [Hv.out]
      go_wp2
      go_ret2
      exact size_bad (x + 8) 0 l Hs.out w _ (below_drewN (Below.refl _ _) _)
  · rw [if_pos h1] at hsz
    have t1 : ((l[0].toNat : Int) != 102) = true := u8_ne h1
    have Hs := Lib.hid hsz
    clear h1 hsz
    go_enter Try.func105, Try.ntmps105
    go_wp2
    go_quiet (fail)
    rw [Hv.out]
    go_wp2
    go_ret2
    exact size_bad 0 20 l Hs.out w _ (below_drewN (Below.refl _ _) _)
theorem size_any (ao : Option Addr) (cap : Nat) (l : List UInt8) (w : World) (hl : l.length ≤ 70000000000000) (hb : Bs w ao cap l) :
    Calls Try.prog 105 #[.slice ao l.length cap] w (SizeIs w l) := by
  by_cases h0 : l.length = 0
  · exact size_nil ao cap l w h0
  · obtain ⟨b, off, rfl, _⟩ := hb.get 0 (by omega)
    by_cases h1 : l.length = 1
    · exact size_one b off cap l w hb h1
    · by_cases h5 : 5 ≤ l.length
      · exact size_many b off cap l w hl hb h5
      · exact size_few b off cap l w hb (by omega)
end Go.Proofs.Ytlphpjgiaflfkaa
namespace Go.Proofs.Ytlphpjgiaflfkaa
set_option linter.unusedVariables false
set_option linter.unusedSimpArgs false
set_option linter.unusedSectionVars false
open Go Go.RowKit
/-- what Take answers -/
def TakeIs (w : World) (l : List UInt8) (e : Ending) (w' : World) : Prop :=
  ∃ ab cb, e = .returned (.tuple #[.int .u8 ((Fr.take l).kind.toNat : Nat), .slice ab (Fr.take l).body.length cb, .int .i64 ((Fr.take l).n : Nat), .int .i64 ((Fr.take l).err : Nat)]) ∧ Bs w' ab cb (Fr.take l).body ∧ Below w.heap.size w w'
theorem heap_drewN (n : Nat) (w : World) : (w.drewN n).heap = w.heap := rfl
theorem Bs.of_heap {w w' : World} {ao : Option Addr} {cap : Nat} {l : List UInt8} (h : Bs w' ao cap l) (e : w'.heap = w.heap) : Bs w ao cap l :=
  ⟨h.len, h.le, h.max, h.none, fun j u hu => by
    obtain ⟨b, off, e1, hc⟩ := h.cell j u hu
    exact ⟨b, off, e1, by rw [← hc]; simp only [World.cell?, e]⟩⟩
theorem bs_nil {w : World} : Bs w none 0 [] := ⟨by simp, by simp, by decide, fun _ => rfl, fun j u hu => by simp at hu⟩
theorem takeIs_bad {w w' : World} {l : List UInt8} {k : Nat} (h : Fr.take l = ⟨0, [], 0, k⟩) (hb : Below w.heap.size w w') : TakeIs w l (.returned (.tuple #[.int .u8 0, .slice none 0 0, .int .i64 0, .int .i64 (k : Nat)])) w' := by
  unfold TakeIs; rw [h]; exact ⟨none, 0, rfl, bs_nil, hb⟩
theorem takeIs_ok {w w' : World} {l body : List UInt8} {k : UInt8} {n : Nat} {ab : Option Addr} {cb : Nat} (h : Fr.take l = ⟨k, body, n, 0⟩) (hb : Bs w' ab cb body) (hbel : Below w.heap.size w w') :
    TakeIs w l (.returned (.tuple #[.int .u8 (k.toNat : Nat), .slice ab body.length cb, .int .i64 (n : Nat), .int .i64 0])) w' := by
  unfold TakeIs; rw [h]; exact ⟨ab, cb, rfl, hb, hbel⟩
set_option maxHeartbeats 1000000 in
theorem take_any (ao : Option Addr) (cap : Nat) (l : List UInt8) (w : World) (hl : l.length ≤ 70000000000000) (hb : Bs w ao cap l) :
    Calls Try.prog 81 #[.slice ao l.length cap] w (TakeIs w l) := by
  obtain ⟨n, k, hs⟩ : ∃ n k, Fr.size l = (n, k) := ⟨_, _, rfl⟩
  by_cases hk : k = 0
  · subst hk
    have h5 := Fr.size_ok l (by rw [hs])
    have hno := fun h => Fr.take_sum l (by rw [hs]) h
    have hye := fun h => Fr.take_yes l (by rw [hs]) h
    rw [hs] at h5 hno hye
    obtain ⟨h5, _, _, h6, h7, h8⟩ := h5
    simp only at h7 h8 hno hye
    have hn8 : 8 ≤ n := by omega
    clear h6 h7
    have Hno := Lib.hid hno
    have Hye := Lib.hid hye
    clear hno hye
    have Hs := Lib.hid hs
    clear hs
    go_enter Try.func81, Try.ntmps81
    go_wp2_with fail
    refine (size_any ao cap l w hl hb).mono ?_
    rintro e w1 ⟨rfl, hB1⟩
    rw [Hs.out]
    go_wp2_with ((with_reducible show wpList _ _ _ (⟨_, Op.slice _ (.tmp 17) _ _ _, _, _, _, _⟩ :: _) _ _); refine wpl_slice_bs rfl (.tmp 17) none (some (.tmp 18)) 22 5 rfl Try.underlying22 sizeU8 _ _ l rfl (hb.below hB1) 0 n (.inr ⟨rfl, rfl⟩) (.inl ⟨_, rfl, ?_⟩) ?_ ?_ ?_; rfl; omega; omega; intro ao2 cap2 l2 hl2 hlen2 hb2; have hle2 : l2.length ≤ 70000000000000 := (by omega); clear hlen2)
    have hl2' : l2 = l.take n := hl2.out
    cases ho : Crc.opened l2 with
    | none =>
      have Hf := Lib.hid (Hno.out (by rw [← hl2']; exact ho))
      have Ho := Lib.hid ho
      clear ho hl2'
      refine (open_none ao2 cap2 l2 w1 hle2 hb2 Ho.out).mono ?_
      rintro e w2 ⟨rfl, hB2⟩
      go_wp2_with fail
      refine bodyPost_ret (v := .tuple #[.int .u8 0, .slice none 0 0, .int .i64 0, .int .i64 22]) (by simp [results, Try.results81, go_sem]) rfl ?_
      exact takeIs_bad (k := 22) Hf.out (below_on hB1 hB2 (Nat.le_refl _))
    | some own =>
      obtain ⟨e1, e2⟩ := Hye.out (by rw [← hl2', ho]; simp)
      have eo : own = l.take (n - 3) := by rw [← hl2', ho] at e1; simpa using e1
      rw [← eo] at e2
      have hol : own.length = n - 3 := by rw [eo, List.length_take]; omega
      have ho5 : 5 ≤ own.length := by omega
      have hk : l.getD 1 0 = own[1]'(Nat.lt_of_lt_of_le (by decide) ho5) := by
        simp only [eo, List.getElem_take]
        rw [List.getD, List.getElem?_eq_getElem (by omega)]; rfl
      rw [hk] at e2
      have Ho := Lib.hid ho
      have He := Lib.hid e2
      have hoL : own.length ≤ 70000000000000 := by omega
      clear ho hl2' e1 e2 eo hol hk
      refine (open_yes ao2 cap2 l2 own w1 hle2 hb2 Ho.out).mono ?_
      rintro e w2 ⟨a3, c3, rfl, hf3⟩
      have hb3 := Bs.of_own hf3.own
      have hB2 := below_on hB1 hf3.bel (Nat.le_refl _)
      clear hf3
      obtain ⟨b, off, rfl, k1⟩ := hb3.get 1 (by omega)
      have hlc := hb3.le
      have hcut := Sl.cut hb3 5 own.length ho5 (Nat.le_refl _) (by decide)
      have h5i : (5 : Int) ≤ (own.length : Int) := by omega
      go_wp2_with fail
      go_quiet (fail)
      have hcut' : Bs w2 (if c3 = 5 then some ⟨b, off, none⟩ else some ⟨b, off + 5, none⟩) (c3 - 5) (own.drop 5) := by
        unfold Bs
        rw [List.length_drop]
        have ht : (own.map u8).take own.length = own.map u8 := List.take_of_length_le (by simp)
        simpa [List.map_drop, Addr.add_none, ht] using hcut
      clear hcut
      generalize (if c3 = 5 then (some ⟨b, off, none⟩ : Option Addr) else some ⟨b, off + 5, none⟩) = ax at *
      have hld : own.length - 5 = (own.drop 5).length := by simp
      rw [hld]
      clear hld
      go_wp2
      refine bodyPost_ret (v := .tuple #[.int .u8 own[1].toNat, .slice ax (own.drop 5).length (c3 - 5), .int .i64 n, .int .i64 0]) (by simp [results, Try.results81, go_sem]) rfl ?_
      exact takeIs_ok He.out (hcut'.below (below_drewN (Below.refl _ _) _)) (below_drewN hB2 _)
  · have Hf := Lib.hid (Fr.take_err l (by rw [hs]; exact hk))
    rw [hs] at Hf
    have Hs := Lib.hid hs
    have hkb : ((k : Int) != 0) = true := by simp; omega
    clear hs
    go_enter Try.func81, Try.ntmps81
    go_wp2_with fail
    refine (size_any ao cap l w hl hb).mono ?_
    rintro e w1 ⟨rfl, hB1⟩
    rw [Hs.out]
    go_wp2_with fail
    refine bodyPost_ret (v := .tuple #[.int .u8 0, .slice none 0 0, .int .i64 0, .int .i64 k]) (by simp [results, Try.results81, go_sem]) rfl ?_
    exact takeIs_bad Hf.out hB1
set_option maxHeartbeats 1000000 in
theorem whole_any (ao : Option Addr) (cap : Nat) (l : List UInt8) (w : World) (hl : l.length ≤ 70000000000000) (hb : Bs w ao cap l) :
    Calls Try.prog 72 #[.slice ao l.length cap] w fun e w' => Below w.heap.size w w' ∧
      (((Fr.take l).err = 0 ∧ (Fr.take l).n = l.length ∧ ∃ ab cb, e = .returned (.tuple #[.int .u8 ((Fr.take l).kind.toNat : Nat), .slice ab (Fr.take l).body.length cb, .bool true]) ∧ Bs w' ab cb (Fr.take l).body) ∨
        (¬ ((Fr.take l).err = 0 ∧ (Fr.take l).n = l.length) ∧ e = .returned (.tuple #[.int .u8 0, .slice none 0 0, .bool false]))) := by
  have hbl : (Fr.take l).body.length ≤ l.length := by
    unfold Fr.take
    split
    · simp
    · split
      · simp
      · rename_i own ho
        obtain ⟨e, _⟩ := Fr.opened_take _ _ ho
        rw [e]; simp only [List.length_drop, List.length_take]; omega
  generalize hT : Fr.take l = T at *
  obtain ⟨k, body, n, err⟩ := T
  simp only at hbl ⊢
  have HT := Lib.hid hT
  clear hT
  have three : ((err : Int) != 0) = true ∧ err ≠ 0 ∨ ((err : Int) != 0) = false ∧ err = 0 ∧ ((n : Int) != l.length) = true ∧ n ≠ l.length ∨ ((err : Int) != 0) = false ∧ err = 0 ∧ ((n : Int) != l.length) = false ∧ n = l.length := by
    by_cases h1 : err = 0
    · by_cases h2 : n = l.length
      · exact .inr (.inr ⟨by simp [h1], h1, by simp [h2], h2⟩)
      · exact .inr (.inl ⟨by simp [h1], h1, by simp; omega, h2⟩)
    · exact .inl ⟨by simp; omega, h1⟩
  rcases three with ⟨t1, f1⟩ | ⟨t1, f1, t2, f2⟩ | ⟨t1, f1, t2, f2⟩
  · have F1 := Lib.hid f1
    clear f1
    go_enter Try.func72, Try.ntmps72
    go_wp2_with fail
    refine (take_any ao cap l w hl hb).mono ?_
    unfold TakeIs
    rw [HT.out]
    rintro e w1 ⟨ab, cb, rfl, hb1, hB1⟩
    go_wp2_with fail
    refine bodyPost_ret (v := .tuple #[.int .u8 0, .slice none 0 0, .bool false]) (by simp [results, Try.results72, go_sem]) rfl ?_
    exact ⟨hB1, .inr ⟨fun h => F1.out h.1, rfl⟩⟩
  · have F2 := Lib.hid f2
    have F1 := Lib.hid f1
    clear f1 f2
    go_enter Try.func72, Try.ntmps72
    go_wp2_with fail
    refine (take_any ao cap l w hl hb).mono ?_
    unfold TakeIs
    rw [HT.out]
    rintro e w1 ⟨ab, cb, rfl, hb1, hB1⟩
    go_wp2_with fail
    refine bodyPost_ret (v := .tuple #[.int .u8 0, .slice none 0 0, .bool false]) (by simp [results, Try.results72, go_sem]) rfl ?_
    exact ⟨hB1, .inr ⟨fun h => F2.out h.2, rfl⟩⟩
  · have F2 := Lib.hid f2
    have F1 := Lib.hid f1
    clear f1 f2
    go_enter Try.func72, Try.ntmps72
    go_wp2_with fail
    refine (take_any ao cap l w hl hb).mono ?_
    unfold TakeIs
    rw [HT.out]
    rintro e w1 ⟨ab, cb, rfl, hb1, hB1⟩
    go_wp2_with fail
    refine (clone_any ab cb body w1 (by omega) hb1).mono ?_
    rintro e w2 ⟨a2, c2, rfl, hf2⟩
    go_wp2_with fail
    refine bodyPost_ret (v := .tuple #[.int .u8 k.toNat, .slice a2 body.length c2, .bool true]) (by simp [results, Try.results72, go_sem]) rfl ?_
    exact ⟨below_on hB1 hf2.bel (Nat.le_refl _), .inl ⟨F1.out, F2.out, _, _, rfl, Bs.of_own hf2.own⟩⟩
set_option maxHeartbeats 1000000 in
theorem refTake_any (ao : Option Addr) (cap : Nat) (l : List UInt8) (w : World) (hl : l.length ≤ 70000000000000) (hb : Bs w ao cap l) :
    Calls Try.prog 42 #[.slice ao l.length cap] w (TakeIs w l) := by
  by_cases h0 : l.length = 0
  · have hs : Fr.size l = (0, 23) := by unfold Fr.size; rw [if_pos h0]
    have Hf := Lib.hid (Fr.take_err l (by rw [hs]; simp))
    rw [hs] at Hf
    clear hs
    go_enter Try.func42, Try.ntmps42
    go_wp2
    refine bodyPost_ret (v := .tuple #[.int .u8 0, .slice none 0 0, .int .i64 0, .int .i64 23]) (by simp [results, Try.results42, go_sem]) rfl ?_
    exact takeIs_bad (k := 23) Hf.out (Below.refl _ _)
  obtain ⟨b, off, rfl, c0⟩ := hb.get 0 (by omega)
  rw [Nat.add_zero] at c0
  have hg0 : l.getD 0 0 = l[0] := by simp [List.getD, List.getElem?_eq_getElem (show 0 < l.length by omega)]
  by_cases h1 : l[0] = 102
  case neg =>
    have hs : Fr.size l = (0, 20) := by unfold Fr.size; rw [if_neg h0, if_pos (by rw [hg0]; exact h1)]
    have Hf := Lib.hid (Fr.take_err l (by rw [hs]; simp))
    rw [hs] at Hf
    have t1 : ((l[0].toNat : Int) != 102) = true := u8_ne h1
    clear hs hg0 h1
    go_enter Try.func42, Try.ntmps42
    go_wp2
    refine bodyPost_ret (v := .tuple #[.int .u8 0, .slice none 0 0, .int .i64 0, .int .i64 20]) (by simp [results, Try.results42, go_sem]) rfl ?_
    exact takeIs_bad (k := 20) Hf.out (Below.refl _ _)
  have t1 : ((l[0].toNat : Int) != 102) = false := u8_eq h1
  by_cases h2 : l.length < 2
  · have hs : Fr.size l = (0, 23) := by unfold Fr.size; rw [if_neg h0, if_neg (by rw [hg0]; simpa using h1), if_pos h2]
    have Hf := Lib.hid (Fr.take_err l (by rw [hs]; simp))
    rw [hs] at Hf
    clear hs hg0 h1
    go_enter Try.func42, Try.ntmps42
    go_wp2
    refine bodyPost_ret (v := .tuple #[.int .u8 0, .slice none 0 0, .int .i64 0, .int .i64 23]) (by simp [results, Try.results42, go_sem]) rfl ?_
    exact takeIs_bad (k := 23) Hf.out (Below.refl _ _)
  have c1 := hb.all 1 (by omega)
  have hg1 : l.getD 1 0 = l[1] := by simp [List.getD, List.getElem?_eq_getElem (show 1 < l.length by omega)]
  by_cases h3 : l[1] = 0
  · have hs : Fr.size l = (0, 20) := by unfold Fr.size; rw [if_neg h0, if_neg (by rw [hg0]; simpa using h1), if_neg h2, if_pos (by rw [hg1]; exact h3)]
    have Hf := Lib.hid (Fr.take_err l (by rw [hs]; simp))
    rw [hs] at Hf
    have t2 : ((l[1].toNat : Int) == 0) = true := by rw [h3]; rfl
    clear hs hg0 hg1 h1 h3
    go_enter Try.func42, Try.ntmps42
    go_wp2
    refine bodyPost_ret (v := .tuple #[.int .u8 0, .slice none 0 0, .int .i64 0, .int .i64 20]) (by simp [results, Try.results42, go_sem]) rfl ?_
    exact takeIs_bad (k := 20) Hf.out (Below.refl _ _)
  have t2 := kind_ne h3
  by_cases h4 : l.length < 5
  · have hs : Fr.size l = (0, 23) := by unfold Fr.size; rw [if_neg h0, if_neg (by rw [hg0]; simpa using h1), if_neg h2, if_neg (by rw [hg1]; exact h3), if_pos h4]
    have Hf := Lib.hid (Fr.take_err l (by rw [hs]; simp))
    rw [hs] at Hf
    clear hs hg0 hg1 h1 h3
    go_enter Try.func42, Try.ntmps42
    go_wp2
    refine bodyPost_ret (v := .tuple #[.int .u8 0, .slice none 0 0, .int .i64 0, .int .i64 23]) (by simp [results, Try.results42, go_sem]) rfl ?_
    exact takeIs_bad (k := 23) Hf.out (Below.refl _ _)
  have c2 := hb.all 2 (by omega)
  have c3 := hb.all 3 (by omega)
  have c4 := hb.all 4 (by omega)
  have b2 := l[2].toNat_lt
  have b3 := l[3].toNat_lt
  have b4 := l[4].toNat_lt
  have hx : Crc.num (l.getD 2 0) (l.getD 3 0) (l.getD 4 0) = l[2].toNat * 65536 + l[3].toNat * 256 + l[4].toNat := by
    simp [List.getD, List.getElem?_eq_getElem (show 2 < l.length by omega), List.getElem?_eq_getElem (show 3 < l.length by omega), List.getElem?_eq_getElem (show 4 < l.length by omega), Crc.num]
  have hsz : Fr.size l = if 65536 < Crc.num (l.getD 2 0) (l.getD 3 0) (l.getD 4 0) then (0, 20)
      else if l.length < Crc.num (l.getD 2 0) (l.getD 3 0) (l.getD 4 0) + 8 then (0, 23) else (Crc.num (l.getD 2 0) (l.getD 3 0) (l.getD 4 0) + 8, 0) := by
    unfold Fr.size
    rw [if_neg h0, if_neg (by rw [hg0]; simpa using h1), if_neg h2, if_neg (by rw [hg1]; exact h3), if_neg h4]
  have hxs : (l[2].toNat : Int) * (65536 : Int) + (l[3].toNat : Int) * (256 : Int) + (l[4].toNat : Int) = ((Crc.num (l.getD 2 0) (l.getD 3 0) (l.getD 4 0) : Nat) : Int) := by rw [hx]; omega
  have hno := fun h => Fr.take_sum l h
  have hye := fun h => Fr.take_yes l h
  have hre := fun h => Fr.rebuilt l h
  rw [hg1] at hye hre
  clear hg0 hg1 h1 h3
  generalize Crc.num (l.getD 2 0) (l.getD 3 0) (l.getD 4 0) = x at *
  have hxl : x < 16777216 := by omega
  have Hxs := Lib.hid hxs
  clear hxs hx
  by_cases hbig : 65536 < x
  · rw [if_pos hbig] at hsz
    have Hf := Lib.hid (Fr.take_err l (by rw [hsz]; simp))
    rw [hsz] at Hf
    clear hsz hno hye hre
    go_enter Try.func42, Try.ntmps42
    go_wp2
    go_quiet (fail)
    rw [Hxs.out]
    go_wp2
    refine bodyPost_ret (v := .tuple #[.int .u8 0, .slice none 0 0, .int .i64 0, .int .i64 20]) (by simp [results, Try.results42, go_sem]) rfl ?_
    exact takeIs_bad (k := 20) Hf.out (below_drewN (Below.refl _ _) _)
  rw [if_neg hbig] at hsz
  by_cases hshort : l.length < x + 8
  · rw [if_pos hshort] at hsz
    have Hf := Lib.hid (Fr.take_err l (by rw [hsz]; simp))
    rw [hsz] at Hf
    clear hsz hno hye hre
    go_enter Try.func42, Try.ntmps42
    go_wp2
    go_quiet (fail)
    rw [Hxs.out]
    go_wp2
    refine bodyPost_ret (v := .tuple #[.int .u8 0, .slice none 0 0, .int .i64 0, .int .i64 23]) (by simp [results, Try.results42, go_sem]) rfl ?_
    exact takeIs_bad (k := 23) Hf.out (below_drewN (Below.refl _ _) _)
  rw [if_neg hshort] at hsz
  have hno := hno (by rw [hsz])
  have hye := hye (by rw [hsz])
  have hre := hre (by rw [hsz])
  rw [hsz] at hno hye hre
  simp only [Nat.add_sub_cancel] at hno hye hre
  rw [show x + 8 - 3 = x + 5 from by omega] at hye hre
  have hcap := hb.le
  have hxc : ((x : Int) + 8) ≤ cap := by omega
  obtain ⟨body, hbody⟩ : ∃ body, body = (l.take (x + 5)).drop 5 := ⟨_, rfl⟩
  rw [← hbody] at hye hre
  have hblen : body.length = x := by rw [hbody, List.length_drop, List.length_take]; omega
  have hcv0 : ∀ W, Below w.heap.size w W → (convert 22 9 (.slice (some ⟨b, off, none⟩) (x + 8) cap)).run Try.prog W = .ok (.string ⟨(l.take (x + 8)).toArray⟩) W := fun W hW => by
    have := conv_any ((hb.take (x + 8) (by omega)).below hW)
    rw [List.length_take, Nat.min_eq_left (by omega)] at this
    exact this
  have hb65 : body.length ≤ 65536 := by omega
  have Hcv0 := Lib.hid hcv0
  have Hbody := Lib.hid hbody
  clear hbody hblen hsz hcv0
  obtain ⟨k, hk⟩ : ∃ k, k = l[1] := ⟨_, rfl⟩
  rw [← hk] at c1 t2 hye hre
  have hcw := fun W (a : Option Addr) c h => conv_any (w := W) (ao := a) (cap := c) (l := Crc.sealed (l.take (x + 5))) h
  generalize hsl : Crc.sealed (l.take (x + 5)) = sl at *
  generalize hfl : l.take (x + 8) = fl at *
  clear hk
  have hsf : Crc.opened fl = none ∨ Crc.opened fl ≠ none := by cases Crc.opened fl <;> simp
  have hS : (Crc.opened fl = none → sl ≠ fl) ∧ (Crc.opened fl ≠ none → sl = fl) := by
    refine ⟨fun h e => ?_, fun h => ?_⟩
    · rw [← e, ← hsl, Crc.opened_sealed] at h; cases h
    · obtain ⟨h1, _⟩ := hye h
      have h2 := Crc.opened_sealed (l.take (x + 5))
      rw [← h1, hsl] at h2
      exact (Crc.opened_inj _ _ h2 h)
  have Hre := Lib.hid hre
  have Hno := Lib.hid hno
  have Hye := Lib.hid hye
  have HS := Lib.hid hS
  clear hno hye hre hS hsl hfl
  go_enter Try.func42, Try.ntmps42
  go_wp2
  go_quiet (fail)
  rw [Hxs.out]
  have hN : ∀ n, Below w.heap.size w (w.drewN n) := fun n => below_drewN (Below.refl _ _) _
  clear c2 c3 c4 b2 b3 b4
  go_wp2_with ((with_reducible show wpList _ _ _ (⟨_, Op.slice _ (.tmp 48) _ _ _, _, _, _, _⟩ :: _) _ _); refine wpl_slice_bs rfl (.tmp 48) (some (.const (.int .i64 5))) (some (.tmp 50)) 22 5 rfl Try.underlying22 sizeU8 _ _ l rfl (hb.below (hN _)) 5 (x + 5) (.inl ⟨_, rfl, ?_⟩) (.inl ⟨_, rfl, ?_⟩) ?_ ?_ ?_; rfl; rfl; omega; omega; intro ao7 cap7 l7 hl7 hlen7 hb7; obtain rfl : l7 = body := hl7.out.trans Hbody.out.symm; clear hlen7)
  have hB0 := hN nq
  have hB1 : Below w.heap.size w (w.drewN nq).drew := hB0.drew
  have k1 := fun W (h : Below w.heap.size w W) => (h.cell (p := ⟨b, off + 1, none⟩) (cell?_lt c1)).trans c1
  have hcv := Hcv0.out
  have w1 : IntKind.i64.wrap ((x : Int) + 8) = (x : Int) + 8 := IntWalk.i64_in _ (by omega)
  have w2 : (0 : Int) ≤ (x : Int) + 8 := by omega
  have w3 : ((x : Int) + 8).toNat = x + 8 := by omega
  go_cut [63] (fun s wx => s = .bool (sl != fl) ∧ Below w.heap.size w wx)
  case first =>
    go_region_with (first | (go_at_call 46; refine (bytes_any k ao7 cap7 l7 _ (hb7.below (Below.refl _ _).drew) hb65).mono ?_; rintro e w3 ⟨a3, c3, rfl, hf3⟩; rw [Hre.out] at hf3 ⊢; have hbs3 := Bs.of_own hf3.own; have hbel3 := below_on hB1 hf3.bel (Nat.le_refl _)))
    all_goals (go_wp2_with fail; go_meet; exact ⟨rfl, hbel3⟩)
  case rest =>
    obtain ⟨rfl, hB4⟩ := hcut
    have hb7' := (hb7.of_heap (heap_drewN _ _)).below hB4
    have k1 := (hB4.cell (p := ⟨b, off + 1, none⟩) (cell?_lt c1)).trans c1
    have hBx := hB4
    clear hb7 w1 w2 w3 hcv c1
    by_cases hfn : Crc.opened fl = none
    · have hne : (sl != fl) = true := by simpa using HS.out.1 hfn
      have Hf := Lib.hid (Hno.out hfn)
      clear hfn hsf
      rw [hne]
      go_wp2
      refine bodyPost_ret (v := .tuple #[.int .u8 0, .slice none 0 0, .int .i64 0, .int .i64 22]) (by simp [results, Try.results42, go_sem]) rfl ?_
      exact takeIs_bad (k := 22) Hf.out hB4
    · have hne : (sl != fl) = false := by simpa using HS.out.2 hfn
      obtain ⟨_, hf⟩ := Hye.out hfn
      have Hf := Lib.hid hf
      clear hfn hsf hf
      rw [hne]
      go_wp2
      have w1 : IntKind.i64.wrap ((x : Int) + 8) = (x : Int) + 8 := IntWalk.i64_in _ (by omega)
      have l1 : (1 : Int) < (l.length : Int) := by omega
      have hbz : b < wc.heap.size := cell?_lt k1
      have hBd : Below wc.heap.size wc (wc.drew.alloc (.cells #[] 5)) := (Below.refl _ _).drew.alloc (Nat.le_refl _) _
      have HBd := Lib.hid hBd
      clear hBd
      go_region_law (refine step_append_bs rfl (.tmp 67) (.tmp 68) 22 rfl wc.heap.size 5 infoU8 Try.underlying22 _ _ [] rfl (own_empty wc.drew wc.heap.size _ 1 (Nat.le_refl _)) _ _ l7 rfl (hb7'.below HBd.out) ?_ ?_ ?_; (simp; omega); simp; intro ao8 cap8 l8 w8 hl8 hown8 hg8; have hB8 := below_app HBd.out hg8 (own_empty wc.drew wc.heap.size _ 1 (Nat.le_refl _)) (Nat.le_refl _) HBd.out.size; have k8 := (hB8.cell (p := ⟨b, off + 1, none⟩) hbz).trans k1)
      all_goals go_wp2
      all_goals
        obtain rfl : l8 = l7 := hl8.out
        refine bodyPost_ret (v := .tuple #[.int .u8 k.toNat, .slice ao8 l8.length cap8, .int .i64 ((x : Int) + 8), .int .i64 0]) (by simp [results, Try.results42, go_sem]) rfl ?_
        exact takeIs_ok (n := x + 8) Hf.out (Bs.of_own hown8) (below_on hB4 hB8 (Nat.le_refl _))
end Go.Proofs.Ytlphpjgiaflfkaa
namespace Go.Proofs.Ytlphpjgiaflfkaa
set_option linter.unusedVariables false
set_option linter.unusedSimpArgs false
set_option linter.unusedSectionVars false
open Go Go.RowKit Go.Shelf
/-- an entry -/
structure En where
  term : Int
  kind : Int
  data : List UInt8
deriving Inhabited
def soundE (e : En) : Bool := decide (1 ≤ e.term) && decide (e.term ≤ 1152921504606846976) && decide (1 ≤ e.kind) && decide (e.kind ≤ 3) && decide (e.data.length ≤ 4096)
theorem soundE_iff {e : En} : soundE e = true ↔ 1 ≤ e.term ∧ e.term ≤ 1152921504606846976 ∧ 1 ≤ e.kind ∧ e.kind ≤ 3 ∧ e.data.length ≤ 4096 := by
  simp only [soundE, Bool.and_eq_true, decide_eq_true_eq, and_assoc]
set_option maxRecDepth 100000 in
theorem sound_e (x1 x2 : Int) (ad : Option Addr) (n cd : Nat) (d : List UInt8) (hd : n = d.length) (w : World) :
    Calls Try.prog 33 #[.agg #[.int .u64 x1, .int .i64 x2, .slice ad n cd]] w fun e w' => e = .returned (.bool (soundE ⟨x1, x2, d⟩)) ∧ Below w.heap.size w w' := by
  obtain ⟨c, hc⟩ : ∃ c, c = soundE ⟨x1, x2, d⟩ := ⟨_, rfl⟩
  have hiff := soundE_iff (e := ⟨x1, x2, d⟩)
  rw [← hc] at hiff
  simp only [← hd] at hiff
  rw [← hc]
  have Hc := Lib.hid hiff
  clear hiff hc hd
  go_enter Try.func33, Try.ntmps33
  go_wp2_with fail
  all_goals
    go_ret
    refine ⟨ret_bool ?_, below_new _ _⟩
    rw [Bool.eq_iff_iff, Hc.out]
    simp only [decide_eq_true_eq, Bool.false_eq_true, false_iff]
    omega
set_option maxRecDepth 100000 in
theorem refSound_e (x1 x2 : Int) (ad : Option Addr) (n cd : Nat) (d : List UInt8) (hd : n = d.length) (w : World) :
    Calls Try.prog 34 #[.agg #[.int .u64 x1, .int .i64 x2, .slice ad n cd]] w fun e w' => e = .returned (.bool (soundE ⟨x1, x2, d⟩)) ∧ Below w.heap.size w w' := by
  obtain ⟨c, hc⟩ : ∃ c, c = soundE ⟨x1, x2, d⟩ := ⟨_, rfl⟩
  have hiff := soundE_iff (e := ⟨x1, x2, d⟩)
  rw [← hc] at hiff
  simp only [← hd] at hiff
  rw [← hc]
  have Hc := Lib.hid hiff
  clear hiff hc hd
  go_enter Try.func34, Try.ntmps34
  go_wp2_with fail
  all_goals
    go_ret
    refine ⟨ret_bool ?_, below_new _ _⟩
    rw [Bool.eq_iff_iff, Hc.out]
    simp only [decide_eq_true_eq, Bool.false_eq_true, false_iff]
    omega
end Go.Proofs.Ytlphpjgiaflfkaa
namespace Go.Proofs.Ytlphpjgiaflfkaa
set_option linter.unusedVariables false
set_option linter.unusedSimpArgs false
set_option linter.unusedSectionVars false
open Go Go.RowKit Go.Shelf
/-- bytes in a block of bytes -/
def BsT (w : World) (ao : Option Addr) (cap : Nat) (l : List UInt8) : Prop := Bs w ao cap l ∧ ∀ b off s, ao = some ⟨b, off, s⟩ → elem? w b = some 5
theorem BsT.below {w w' : World} {ao : Option Addr} {cap : Nat} {l : List UInt8} (h : BsT w ao cap l) (hb : Below w.heap.size w w') : BsT w' ao cap l :=
  ⟨h.1.below hb, fun b off s e => by rw [elem?_same (hb.block b (elem?_lt (h.2 b off s e)))]; exact h.2 b off s e⟩
theorem BsT.kept {w w' : World} {ao : Option Addr} {cap : Nat} {l : List UInt8} (h : BsT w ao cap l) (hk : ∀ b, elem? w b = some 5 → w'.heap[b]? = w.heap[b]?) : BsT w' ao cap l :=
  ⟨⟨h.1.len, h.1.le, h.1.max, h.1.none, fun j u hu => by
    obtain ⟨b, off, e, hc⟩ := h.1.cell j u hu
    exact ⟨b, off, e, by rw [World.cell?_of_block (w := w) (hk b (h.2 _ _ _ e))]; exact hc⟩⟩, fun b off s e => by rw [elem?_same (hk b (h.2 b off s e))]; exact h.2 b off s e⟩
theorem BsT.grown {w w' : World} {T : TypeId} {g : Nat} {ao : Option Addr} {cap : Nat} {l : List UInt8} (h : BsT w ao cap l) (hg : w.grownBy w' (some g)) (hT : elem? w g = some T) (hne : T ≠ 5) : BsT w' ao cap l :=
  h.kept fun b hb => hg.block b (elem?_lt hb) fun e => by
    simp only [Option.some.injEq] at e
    subst e
    rw [hb] at hT
    exact hne (by simpa using hT.symm)
end Go.Proofs.Ytlphpjgiaflfkaa
namespace Go.Proofs.Ytlphpjgiaflfkaa
set_option linter.unusedVariables false
set_option linter.unusedSimpArgs false
set_option linter.unusedSectionVars false
open Go Go.RowKit Go.Shelf
attribute [local go_sem] Oper.semAt_some
namespace Fr
theorem take_n (l : List UInt8) (h : (take l).err = 0) : (take l).n = (take l).body.length + 8 ∧ (take l).n ≤ l.length ∧ (take l).body.length ≤ 65536 := by
  have hs : (size l).2 = 0 := by
    apply Classical.byContradiction
    intro hn
    rw [take_err l hn] at h
    exact hn h
  have ho : Crc.opened (l.take (size l).1) ≠ none := by
    intro hn
    rw [take_sum l hs hn] at h
    cases h
  obtain ⟨_, h2⟩ := take_yes l hs ho
  obtain ⟨a, b, c, d, e, f⟩ := size_ok l hs
  rw [h2]
  simp only [List.length_drop, List.length_take]
  omega
end Fr
/-- bytes in blocks below n0 -/
def BsLow (n0 : Nat) (w : World) (ao : Option Addr) (cap : Nat) (l : List UInt8) : Prop := Bs w ao cap l ∧ (0 < l.length → ∀ b off s, ao = some ⟨b, off, s⟩ → b < n0)
theorem BsLow.below {n0 : Nat} {w w' : World} {ao : Option Addr} {cap : Nat} {l : List UInt8} (h : BsLow n0 w ao cap l) (hB : Below n0 w w') : BsLow n0 w' ao cap l :=
  ⟨⟨h.1.len, h.1.le, h.1.max, h.1.none, fun j u hu => by
    obtain ⟨b, off, e, hc⟩ := h.1.cell j u hu
    exact ⟨b, off, e, (hB.cell (p := ⟨b, off + j, none⟩) (h.2 (by cases l with | nil => simp at hu | cons c l => simp) _ _ _ e)).trans hc⟩⟩, h.2⟩
end Go.Proofs.Ytlphpjgiaflfkaa
namespace Go.Proofs.Ytlphpjgiaflfkaa
set_option linter.unusedVariables false
set_option linter.unusedSimpArgs false
set_option linter.unusedSectionVars false
open Go Go.RowKit Go.Shelf
attribute [local go_sem] Oper.semAt_some
namespace Fr
/-- kind and body of the frames with which bytes begin -/
def rows : Nat → List UInt8 → List (UInt8 × List UInt8)
  | 0, _ => []
  | k + 1, l => if l = [] ∨ (take l).err ≠ 0 then [] else ((take l).kind, (take l).body) :: rows k (l.drop (take l).n)
def all (l : List UInt8) : List (UInt8 × List UInt8) := rows l.length l
end Fr
/-- what a frame's body is handed over as -/
structure Fb where
  kind : UInt8
  ao : Option Addr
  cap : Nat
  body : List UInt8
  hn : body.length ≤ 65536
def Fb.key (x : Fb) : UInt8 × List UInt8 := (x.kind, x.body)
/-- it is the next frame of the bytes, and lies in memory -/
def FbGood (b : List UInt8) (pre : List Fb) (x : Fb) (w : World) : Prop := Bs w x.ao x.cap x.body ∧ (pre ++ [x]).map Fb.key <+: Fr.all b
theorem cell_putLoop {w : World} {l : Nat} {o o' : Loop} {a : Addr} {v : Value} (h : w.heap[l]? = some (.loop o)) (hc : w.cell? a = some v) : (w.putObj l (.loop o')).cell? a = some v := by
  refine cell_kept hc (grownBy_putObj' _ l (.loop o')) (fun r e => ?_)
  cases e
  exact ⟨_, h, rfl⟩
theorem FbGood.put (b : List UInt8) (pre : List Fb) (x : Fb) (w : World) (l : Nat) (o o' : Loop) (h : FbGood b pre x w) (hl : w.heap[l]? = some (.loop o)) : FbGood b pre x (w.putObj l (.loop o')) :=
  ⟨⟨h.1.len, h.1.le, h.1.max, h.1.none, fun j u hu => by
    obtain ⟨p, off, e, hc⟩ := h.1.cell j u hu
    exact ⟨p, off, e, cell_putLoop hl hc⟩⟩, h.2⟩
end Go.Proofs.Ytlphpjgiaflfkaa
namespace Go.Proofs.Ytlphpjgiaflfkaa
set_option linter.unusedVariables false
set_option linter.unusedSimpArgs false
set_option linter.unusedSectionVars false
open Go Go.RowKit Go.Shelf
/-- what is read so far: the first index, the entries, how many bytes are good -/
structure SegS where
  first : Nat
  l : List En
  good : Nat
/-- entries in memory: each with the place of its data -/
structure Ep where
  e : En
  ao : Option Addr
  cap : Nat
def epCells (x : Ep) : List Value := [.int .u64 x.e.term, .int .i64 x.e.kind, .slice x.ao x.e.data.length x.cap]
theorem ep_each (l : List Ep) : ∀ r ∈ l.map epCells, r.length = 3 := by
  intro r hr; obtain ⟨x, _, rfl⟩ := List.mem_map.1 hr; rfl
theorem infoEn : (Try.prog.info? 38).map (fun i => (i.zero, i.size, i.bytes)) = some (some (.agg #[.int .u64 0, .int .i64 0, .slice none 0 0]), 3, 40) := by kernel_rfl
/-- a row of entries of one's own -/
structure EnsO (W : World) (base : Nat) (v : Value) (l : List Ep) : Prop where
  own : W.ownsRow base 38 3 v l.length (l.map epCells).flatten
  data : ∀ x ∈ l, BsT W x.ao x.cap x.e.data
theorem own_elemE {w : World} {base e k n : Nat} {v : Value} {xs : List Value} (h : w.ownsRow base e k v n xs) (g : Nat) (hg : v.ownBlock = some g) : elem? w g = some e := by
  rcases h.2 with ⟨h2, _⟩ | ⟨g', cap', cur, hv, _, hh, _⟩
  · subst h2; cases hg
  · subst hv
    simp [Value.ownBlock] at hg
    subst hg
    exact elem?_of hh
theorem EnsO.below {W W' : World} {base : Nat} {v : Value} {l : List Ep} (h : EnsO W base v l) (hb : Below W.heap.size W W') : EnsO W' base v l :=
  ⟨own_below h.own hb, fun x hx => (h.data x hx).below hb⟩
theorem EnsO.nil (W : World) (base : Nat) : EnsO W base (.slice none 0 0) [] := ⟨World.ownsRow_nil _ _ _ _, fun x hx => by cases hx⟩
theorem EnsO.grown {W W' : World} {base g : Nat} {T : TypeId} {v : Value} {l : List Ep} (h : EnsO W base v l) (hg : W.grownBy W' (some g)) (hT : elem? W g = some T) (h1 : T ≠ 5) (h2 : T ≠ 38) : EnsO W' base v l :=
  ⟨h.own.kept hg (.inr fun e => by have := own_elemE h.own g e; rw [hT] at this; exact h2 (by simpa using this)), fun x hx => (h.data x hx).grown hg hT h1⟩
/-- behind an append -/
theorem EnsO.push {W W' : World} {base : Nat} {v v' : Value} {l : List Ep} {x : Ep} (h : EnsO W base v l) (ho : W'.ownsRow base 38 3 v' (l.length + 1) (l.map epCells ++ [epCells x]).flatten) (hg : W.grownBy W' v.ownBlock) (hx : BsT W x.ao x.cap x.e.data) : EnsO W' base v' (l ++ [x]) := by
  have key : ∀ {ao : Option Addr} {cap : Nat} {d : List UInt8}, BsT W ao cap d → BsT W' ao cap d := fun hd => by
    cases hv : v.ownBlock with
    | none => rw [hv] at hg; exact hd.kept fun b hb => hg.block b (elem?_lt hb) (by simp)
    | some g => rw [hv] at hg; exact hd.grown hg (own_elemE h.own g hv) (by decide)
  refine ⟨by simpa using ho, fun y hy => ?_⟩
  rcases List.mem_append.1 hy with hy | hy
  · exact key (h.data y hy)
  · simp at hy; subst hy; exact key hx
end Go.Proofs.Ytlphpjgiaflfkaa
namespace Go.Proofs.Ytlphpjgiaflfkaa
set_option linter.unusedVariables false
set_option linter.unusedSimpArgs false
set_option linter.unusedSectionVars false
open Go Go.RowKit Go.Shelf
deriving instance DecidableEq for En
/-- entries that read -/
structure Ens (W : World) (ao : Option Addr) (cap : Nat) (l : List Ep) : Prop where
  sl : Sl W 3 ao l.length cap (l.map epCells).flatten
  data : ∀ x ∈ l, Bs W x.ao x.cap x.e.data
theorem Ens.below {W W' : World} {ao : Option Addr} {cap : Nat} {l : List Ep} (h : Ens W ao cap l) (hb : Below W.heap.size W W') : Ens W' ao cap l := ⟨h.sl.below hb, fun x hx => (h.data x hx).below hb⟩
theorem EnsO.ens {W : World} {base cap : Nat} {ao : Option Addr} {l : List Ep} (h : EnsO W base (.slice ao l.length cap) l) : Ens W ao cap l := ⟨Sl.of_own h.own, fun x hx => (h.data x hx).1⟩
theorem flat3_get (l : List Ep) (i : Nat) (hi : i < l.length) (j : Nat) (hj : j < 3) : (l.map epCells).flatten[i * 3 + j]? = some ((epCells l[i])[j]'hj) := by
  have := flatten_get (rows := l.map epCells) (k := 3) (ep_each l) i j (by simpa using hi) (by rw [List.getElem_map]; exact hj)
  rw [this]; simp only [List.getElem_map]; rfl
theorem Ens.get {W : World} {ao : Option Addr} {cap : Nat} {l : List Ep} (h : Ens W ao cap l) (i : Nat) (hi : i < l.length) :
    ∃ b off, ao = some ⟨b, off, none⟩ ∧ W.cell? ⟨b, off + i * 3, none⟩ = some (.int .u64 l[i].e.term) ∧ W.cell? ⟨b, off + i * 3 + 1, none⟩ = some (.int .i64 l[i].e.kind) ∧ W.cell? ⟨b, off + i * 3 + 2, none⟩ = some (.slice l[i].ao l[i].e.data.length l[i].cap) := by
  obtain ⟨b, off, e, c0⟩ := h.sl.cell _ _ (flat3_get l i hi 0 (by decide))
  have hc : ∀ j (hj : j < 3), W.cell? ⟨b, off + i * 3 + j, none⟩ = some ((epCells l[i])[j]'hj) := by
    intro j hj
    obtain ⟨b', off', e', hc⟩ := h.sl.cell _ _ (flat3_get l i hi j hj)
    rw [e] at e'
    simp only [Option.some.injEq, Addr.mk.injEq] at e'
    obtain ⟨rfl, rfl, -⟩ := e'
    rw [Nat.add_assoc]; exact hc
  exact ⟨b, off, e, hc 0 (by decide), hc 1 (by decide), hc 2 (by decide)⟩
theorem neq_str (d1 d2 : List UInt8) (w : World) : (binOp .neq 9 (.string ⟨d1.toArray⟩) (.string ⟨d2.toArray⟩)).run Try.prog w = .ok (.bool (decide (d1 ≠ d2))) w := by
  by_cases h : d1 = d2
  · subst h; simp [go_sem]
  · simp [go_sem, h]
theorem take_next {α : Type} {a b : List α} {i : Nat} (ha : i < a.length) (hb : i < b.length) (h : a.take i = b.take i) (he : a[i] = b[i]) : a.take (i + 1) = b.take (i + 1) := by
  rw [List.take_succ_eq_append_getElem ha, List.take_succ_eq_append_getElem hb, h, he]
set_option maxRecDepth 100000 in
set_option maxHeartbeats 4000000 in
theorem segRefSame_any (ao1 ao2 : Option Addr) (c1 c2 : Nat) (l1 l2 : List Ep) (w : World) (h1 : Ens w ao1 c1 l1) (h2 : Ens w ao2 c2 l2) (hl1 : l1.length ≤ 1000000) (hl2 : l2.length ≤ 1000000) :
    Calls Try.prog 14 #[.slice ao1 l1.length c1, .slice ao2 l2.length c2] w fun e w' => e = .returned (.bool (decide (l1.map Ep.e = l2.map Ep.e))) ∧ Below w.heap.size w w' := by
  obtain ⟨c, hc⟩ : ∃ c, c = decide (l1.map Ep.e = l2.map Ep.e) := ⟨_, rfl⟩
  rw [← hc]
  have Hc := Lib.hid hc
  clear hc
  by_cases hlen : l1.length = l2.length
  · have hlb : ((l1.length : Int) != (l2.length : Int)) = false := by simp [hlen]
    have Hlen := Lib.hid hlen
    clear hlen
    go_enter Try.func14, Try.ntmps14
    go_wp2_with fail
    go_loopw [5] (fun u wr => ∃ i : Nat, u = .int .i64 (i : Nat) ∧ i ≤ l1.length ∧ Hid ((l1.map Ep.e).take i = (l2.map Ep.e).take i) ∧ Below w.heap.size w wr) (fun u _ => l1.length - (intOf u).toNat)
    case atStart => exact ⟨0, rfl, Nat.zero_le _, Lib.hid (by simp), Below.refl _ _⟩
    case round =>
      obtain ⟨i, rfl, hi, Hinv, hB⟩ := hrel
      by_cases hlt : i < l1.length
      · have hlt2 : i < l2.length := by have := Hlen.out; omega
        have g1 := h1.below hB
        have g2 := h2.below hB
        obtain ⟨b1, o1, rfl, p0, p1, p2⟩ := g1.get i hlt
        obtain ⟨b2, o2, rfl, q0, q1, q2⟩ := g2.get i hlt2
        have hd1 := g1.data _ (List.getElem_mem hlt)
        have hd2 := g2.data _ (List.getElem_mem hlt2)
        have hne : l1[i].e ≠ l2[i].e → c = false := fun h => by
          rw [Hc.out]
          simp only [decide_eq_false_iff_not]
          intro he
          apply h
          have e3 : (l1.map Ep.e)[i]'(by simpa using hlt) = (l2.map Ep.e)[i]'(by simpa using hlt2) := by simp only [he]
          simpa using e3
        have heq : l1[i].e = l2[i].e → (l1.map Ep.e).take (i + 1) = (l2.map Ep.e).take (i + 1) := fun h => take_next (by simpa using hlt) (by simpa using hlt2) Hinv.out (by simpa using h)
        obtain ⟨x, hx⟩ : ∃ x, x = l1[i] := ⟨_, rfl⟩
        obtain ⟨y, hy⟩ : ∃ y, y = l2[i] := ⟨_, rfl⟩
        rw [← hx] at p0 p1 p2 hd1 hne heq
        rw [← hy] at q0 q1 q2 hd2 hne heq
        clear hx hy
        obtain ⟨⟨x1, x2, xd⟩, xa, xc⟩ := x
        obtain ⟨⟨y1, y2, yd⟩, ya, yc⟩ := y
        simp only at p0 p1 p2 q0 q1 q2 hd1 hd2 hne heq
        have cv1 := fun m => conv_any (hd1.below (below_drewN (Below.refl wr.heap.size wr) m))
        have cv2 := fun m => conv_any (hd2.below (below_drewN (Below.refl wr.heap.size wr) m))
        have hns := neq_str xd yd
        have i0 : (0 : Int) ≤ (i : Int) := by omega
        have i1 : (i : Int) < (l1.length : Int) := by omega
        have i2 : (i : Int) < (l2.length : Int) := by omega
        have Hne := Lib.hid hne
        have Heq := Lib.hid heq
        clear hne heq hd1 hd2 g1 g2
        by_cases e1 : x1 = y1
        · have e1b : (x1 != y1) = false := by simp [e1]
          by_cases e2 : x2 = y2
          · have e2b : (x2 != y2) = false := by simp [e2]
            by_cases e3 : xd = yd
            · have Hgo := Lib.hid (Heq.out (by rw [e1, e2, e3]))
              have e3b : (xd == yd) = true := by simp [e3]
              clear hns
              clear e1 e2 e3 Hne Heq
              go_wp2_with fail
              go_quiet (fail)
              go_wp2_with fail
              go_roundw
              case rel => exact ⟨i + 1, by simp, by omega, Hgo, below_drewN hB _⟩
              case measure => simp [intOf]; omega
            · have e3b : (xd == yd) = false := by simpa using e3
              clear hns
              have Hf := Lib.hid (Hne.out (fun h => e3 (by cases h; rfl)))
              clear e1 e2
              clear e3 Hne Heq
              go_wp2_with fail
              go_quiet (fail)
              go_wp2_with fail
              go_ret
              exact ⟨by rw [Hf.out]; rfl, below_drewN hB _⟩
          · have e2b : (x2 != y2) = true := by simpa using e2
            have Hf := Lib.hid (Hne.out (fun h => e2 (by cases h; rfl)))
            clear e1
            clear e2 Hne Heq
            go_wp2_with fail
            go_quiet (fail)
            go_wp2_with fail
            go_ret
            exact ⟨by rw [Hf.out]; rfl, below_drewN hB _⟩
        · have e1b : (x1 != y1) = true := by simpa using e1
          have Hf := Lib.hid (Hne.out (fun h => e1 (by cases h; rfl)))
          clear e1 Hne Heq
          go_wp2_with fail
          go_quiet (fail)
          go_wp2_with fail
          go_ret
          exact ⟨by rw [Hf.out]; rfl, below_drewN hB _⟩
      · have hi' : i = l1.length := by omega
        subst hi'
        have Ht : Hid (c = true) := Lib.hid (by
          rw [Hc.out]
          simp only [decide_eq_true_eq]
          have h := Hinv.out
          rw [List.take_of_length_le (by simp), List.take_of_length_le (by simp [Hlen.out])] at h
          exact h)
        go_wp2_with fail
        go_ret
        exact ⟨by rw [Ht.out]; rfl, hB⟩
  · have hlb : ((l1.length : Int) != (l2.length : Int)) = true := by simp; omega
    have Hf : Hid (c = false) := Lib.hid (by
      rw [Hc.out]
      simp only [decide_eq_false_iff_not]
      intro h
      have := congrArg List.length h
      simp at this
      exact hlen this)
    clear hlen
    go_enter Try.func14, Try.ntmps14
    go_wp2_with fail
    go_ret
    exact ⟨by rw [Hf.out]; rfl, Below.refl _ _⟩
end Go.Proofs.Ytlphpjgiaflfkaa
namespace Go.Proofs.Ytlphpjgiaflfkaa
set_option linter.unusedVariables false
set_option linter.unusedSimpArgs false
set_option linter.unusedSectionVars false
open Go Go.RowKit Go.Shelf
set_option maxRecDepth 100000 in
set_option maxHeartbeats 1000000 in
theorem bytesEqual_any (ao1 ao2 : Option Addr) (c1 c2 : Nat) (d1 d2 : List UInt8) (w : World) (h1 : Bs w ao1 c1 d1) (h2 : Bs w ao2 c2 d2) :
    Calls Try.prog 65 #[.slice ao1 d1.length c1, .slice ao2 d2.length c2] w fun e w' => e = .returned (.bool (d1 == d2)) ∧ w = w' := by
  have cv1 := conv_any h1
  have cv2 := conv_any h2
  go_enter Try.func65, Try.ntmps65
  go_wp2_with fail
  go_ret
  exact ⟨ret_bool (by simp), rfl⟩
end Go.Proofs.Ytlphpjgiaflfkaa
namespace Go.Proofs.Ytlphpjgiaflfkaa
set_option linter.unusedVariables false
set_option linter.unusedSimpArgs false
set_option linter.unusedSectionVars false
open Go Go.RowKit Go.Shelf
theorem Us.lit {w : World} (xs : List Nat) (cs : Array Value) (T : TypeId) (hcs : cs.toList = xs.map fun n : Nat => Value.int .u64 (n : Int)) (hm : xs.length ≤ 1000) :
    Us (w.alloc (.cells cs T)) (some ⟨w.heap.size, 0, .none⟩) xs.length xs :=
  ⟨by simp, by omega, by unfold maxLen; omega, by simp, fun j u hu => ⟨_, 0, rfl, by
    rw [cell?_new, Nat.zero_add, ← Array.getElem?_toList, hcs]; exact hu⟩⟩
theorem infoUB1 : (Try.prog.info? 5).map (fun i => (i.zero, i.size, i.bytes)) = some (some (.int .u8 0), 1, 1) := by kernel_rfl
set_option maxRecDepth 100000 in
set_option maxHeartbeats 1000000 in
theorem wraw_any {W : World} {base p : Nat} {v : Value} {l d : List UInt8} {g cd : Nat} (h : Wr W base p v l) (hd : Bs W (some ⟨g, 0, none⟩) cd d) (hl : l.length + d.length ≤ 1099511627776) :
    Calls Try.prog 96 #[.pointer (some ⟨p, 0, none⟩), .slice (some ⟨g, 0, none⟩) d.length cd] W (Wrote base p v (l ++ d) W) := by
  have c0 : W.cell? ⟨p, 0, none⟩ = some v := block_cell h.blk 0
  have f0 := block_free h.blk 0
  have hpz := (Array.getElem?_eq_some_iff.1 h.blk).1
  obtain ⟨i0, hi, hz0, hz1, hz2⟩ := info_parts infoUB1
  have hnews : ∀ j u, (d.map u8)[j]? = some u → W.cell? ((⟨g, 0, none⟩ : Addr).add j) = some u := by
    intro j u hu
    obtain ⟨b, off, e, hc⟩ := hd.cell j u hu
    simp only [Option.some.injEq, Addr.mk.injEq] at e
    obtain ⟨rfl, rfl, -⟩ := e
    rw [Addr.add_none]; exact hc
  have Happ := Lib.hid (fun (v' : Value) (W2 : World) ho hg hv => h.app (W1 := W) (W2 := W2) (v' := v') (l' := l ++ d) (Below.refl _ _) ho hg hv)
  have hs1 : l.length + d.length ≤ maxLen := by unfold maxLen; omega
  have hown := h.own
  have hsz := h.sz
  have hbase : base ≤ W.heap.size := hsz
  have hdl : (d.map u8).length = d.length * 1 := by simp
  have hu8 := u8_one d
  have Hn := Lib.hid hnews
  have Hl := Lib.hid hl
  obtain ⟨m, hm⟩ : ∃ m, m = d.length := ⟨_, rfl⟩
  rw [← hm] at hs1 hdl hl ⊢
  have Hm := Lib.hid hm
  have hbytes : (l.length + m) * 1 ≤ 140737488355328 := by omega
  clear hm hnews hl Hl hd h
  go_enter Try.func96, Try.ntmps96
  go_wp2_with (at_builtin; refine wpList_append_own_at _ rfl (.tmp 10) (.tmp 11) 22 rfl base 5 i0 (.int .u8 0) 1 1 Try.underlying22 hi hz0 hz1 hz2 rfl (by decide) v l.length (l.map u8) rfl hown ⟨g, 0, none⟩ m cd (d.map u8) rfl hdl Hn.out hu8 hs1 hbytes hbase ?_; intro v' W2 hown' hgrow _ hat; obtain ⟨r1, r2, r3, r4⟩ := Happ.out v' W2 (by rw [List.length_append, ← Hm.out, List.map_append]; exact hown') hgrow (fun k hk => by rcases hat with e | e; exact .inl (e ▸ hk); exact .inr (by rw [e] at hk; cases hk; exact Nat.le_refl _)); have d0 : W2.cell? ⟨p, 0, none⟩ = some v := block_cell r1 0; have d1 := block_free r1 0; obtain ⟨a2, k2, rfl⟩ := own_slice hown')
  refine bodyPost_ret (v := .tuple #[]) (by simp [results, Try.results96, go_sem]) rfl ?_
  exact ⟨rfl, _, r2, r3, r4⟩
set_option maxRecDepth 100000 in
set_option maxHeartbeats 2000000 in
theorem wtext_any {W : World} {base p : Nat} {v : Value} {l d : List UInt8} (h : Wr W base p v l) (hl : l.length + d.length ≤ 1000000000) :
    Calls Try.prog 69 #[.pointer (some ⟨p, 0, none⟩), .string ⟨d.toArray⟩] W (Wrote base p v (l ++ (numB d.length ++ d)) W) := by
  have hsz : (⟨d.toArray⟩ : ByteArray).size = d.length := by simp [ByteArray.size]
  have w0 : IntKind.u64.wrap (d.length : Int) = (d.length : Int) := IntWalk.u64_in _ (by omega)
  have hpz := (Array.getElem?_eq_some_iff.1 h.blk).1
  have hvz := h.own.lt
  have hdl : d.length < 2 ^ 64 := by omega
  have hnl := numB_len d.length hdl
  have hns : numsB [d.length] = numB d.length := by simp [numsB]
  obtain ⟨W1, hW1⟩ : ∃ W1, W1 = W.alloc (.cells #[.int .u64 (d.length : Int)] 24) := ⟨_, rfl⟩
  have hus : Us W1 (some ⟨W.heap.size, 0, none⟩) 1 [d.length] := by rw [hW1]; exact Us.lit [d.length] #[.int .u64 (d.length : Int)] _ rfl (by simp)
  have hB1 : Below W.heap.size W W1 := by rw [hW1]; exact below_new _ _
  have hnum := num_any [d.length] (by simpa using hdl) (some ⟨W.heap.size, 0, none⟩) 1 (h.below hB1) (by simp; omega) hus (fun a e => by cases e; exact ⟨by simp only; omega, fun e => by have := (hvz _ e).2; simp only at this; omega⟩)
  rw [hns] at hnum
  have Hnum := Lib.hid hnum
  have hF1 := (FrO.refl W.heap.size p v W).below hB1 (Nat.le_refl _)
  have hz1 := hB1.size
  clear hnum hus hns hdl
  go_enter Try.func69, Try.ntmps69
  go_wp2_with fail
  rw [← hW1]
  clear hW1
  refine Hnum.out.mono ?_
  rintro e W2 ⟨rfl, v2, hwr2, hfr2, hv2⟩
  have hF2 := hF1.next hfr2 hz1 (fun k hk => .inl hk)
  have hV2 : ∀ k, v2.ownBlock = some k → v.ownBlock = some k ∨ W.heap.size ≤ k := fun k hk => (hv2 k hk).imp_right (fun x => by omega)
  obtain ⟨cd, W3, hcv, hb3, hB3, -⟩ := bytes_of d (by unfold maxLen; omega) W2
  have hwr3 := hwr2.below hB3
  have hF3 := hF2.below hB3 hF2.size
  have hraw := wraw_any hwr3 hb3 (by simp; omega)
  have Hraw := Lib.hid hraw
  have hsz3 := hF3.size
  clear hraw hb3 hwr3 hwr2 hfr2 hv2 Hnum
  go_wp2_with fail
  refine Hraw.out.mono ?_
  rintro e W4 ⟨rfl, v4, hwr4, hfr4, hv4⟩
  go_wp2_with fail
  refine bodyPost_ret (v := .tuple #[]) (by simp [results, Try.results69, go_sem]) rfl ?_
  refine ⟨rfl, v4, by rw [← List.append_assoc]; exact hwr4, hF3.next hfr4 hsz3 hV2, fun k hk => ?_⟩
  rcases hv4 k hk with e | e
  · exact hV2 k e
  · exact .inr (by omega)
end Go.Proofs.Ytlphpjgiaflfkaa
namespace Go.Proofs.Ytlphpjgiaflfkaa
set_option linter.unusedVariables false
set_option linter.unusedSimpArgs false
set_option linter.unusedSectionVars false
open Go Go.RowKit Go.Shelf
/-- a new writer -/
theorem Wr.new (w : World) : Wr (w.alloc (.cells #[.slice none 0 0] 99)) w.heap.size w.heap.size (.slice none 0 0) [] :=
  ⟨heap_alloc_new _ _, World.ownsRow_nil _ _ _ _, Nat.le_refl _, by simp [Value.ownBlock], by simp⟩
theorem Wr.below_of {w W W' : World} {base p : Nat} {v : Value} {l : List UInt8} (h : Wr W base p v l) (hf : FrO W.heap.size p v W W') (hb : Below w.heap.size w W) (hp : w.heap.size ≤ base) : Below w.heap.size w W' :=
  hf.below_of hb hb.size (Nat.le_trans hp h.le) (fun k e => Nat.le_trans hp (h.own.lt k e).1)
end Go.Proofs.Ytlphpjgiaflfkaa
namespace Go.Proofs.Ytlphpjgiaflfkaa
set_option linter.unusedVariables false
set_option linter.unusedSimpArgs false
set_option linter.unusedSectionVars false
open Go Go.RowKit Go.Shelf
/-- a string's bytes to bytes -/
theorem wpl_append_str {P : Program} {w : World} {ops : Array Oper} {rest : List Oper} {o : Oper} {a : Act} {Q : Exit → Act → World → Prop} (hw : Region.wanted o (yielded ops a.tmps) = true) (s x : Operand) (t u : TypeId)
    (ho : o.op = .call { callee := .builtin .append, args := #[s, x], argTypes := #[t, u] })
    (base : Nat) (e : TypeId) (hi : (P.info? e).map (fun i => (i.zero, i.size, i.bytes)) = some (some (.int .u8 0), 1, 1)) (ht : P.underlying t = some (.slice e)) (hu : P.underlying u = some .string)
    (ao0 : Option Addr) (c0 : Nat) (l0 : List UInt8) (hs : a.eval s = .slice ao0 l0.length c0) (hown : w.ownsRow base e 1 (.slice ao0 l0.length c0) l0.length (l0.map u8))
    (l : List UInt8) (hx : a.eval x = .string ⟨l.toArray⟩)
    (hbytes : l0.length + l.length ≤ 140737488355328) (hbase : base ≤ w.heap.size)
    (h : ∀ ao' cap' l' w', Hid (l' = l0 ++ l) → w'.ownsRow base e 1 (.slice ao' l'.length cap') l'.length (l'.map u8) → w.grownBy w' (Value.slice ao0 l0.length c0).ownBlock → wpList P ops Q rest (a.put o.dst (.slice ao' l'.length cap')) w') : wpList P ops Q (o :: rest) a w := by
  obtain ⟨i, hi1, hi2, hi3, hi4⟩ := info_parts hi
  have hsz : (⟨l.toArray⟩ : ByteArray).size = l.length := by simp [ByteArray.size]
  refine wpl_of hw fun K hK => ?_
  obtain ⟨v', w', hr, h2, h3, h4⟩ := Lib.run_append_own_string (P := P) w base t u o.type e i ht hu hi1 hi2 hi3 hi4 _ _ _ hown ⟨l.toArray⟩ (by rw [hsz]; unfold maxLen; omega) (by rw [hsz]; omega) hbase
  unfold Oper.wp execOp
  simp only [ho, resolve, invoke, builtin, Sem.run_bind, Sem.run_pure, Result.andThen_ok, List.map_toArray, List.map_cons, List.map_nil, hs, hx, hr]
  have e1 : l0.length + (⟨l.toArray⟩ : ByteArray).size = (l0 ++ l).length := by rw [hsz]; simp
  have e2 : l0.map u8 ++ Lib.strCells ⟨l.toArray⟩ = (l0 ++ l).map u8 := by rw [List.map_append]; rfl
  rw [e1, e2] at h2
  obtain ⟨ao', cap', rfl⟩ := own_slice h2
  exact hK _ _ (h ao' cap' (l0 ++ l) w' rfl h2 h3)
set_option maxRecDepth 100000 in
set_option maxHeartbeats 2000000 in
theorem refTextB_any (d : List UInt8) (hd : d.length ≤ 1000000) (w : World) :
    Calls Try.prog 48 #[.string ⟨d.toArray⟩] w fun e w' => ∃ ao cap l', e = .returned (.slice ao l'.length cap) ∧ l' = numB d.length ++ d ∧ w'.ownsRow w.heap.size 5 1 (.slice ao l'.length cap) l'.length (l'.map u8) ∧ Below w.heap.size w w' := by
  have hsz : (⟨d.toArray⟩ : ByteArray).size = d.length := by simp [ByteArray.size]
  have w0 : IntKind.u64.wrap (d.length : Int) = (d.length : Int) := IntWalk.u64_in _ (by omega)
  have hnum := refNumB_any d.length (by omega)
  have hnl := numB_len d.length (by omega)
  obtain ⟨N, hN⟩ : ∃ N, N = numB d.length := ⟨_, rfl⟩
  simp only [← hN] at hnum hnl
  have HN := Lib.hid hN
  have Hnum := Lib.hid hnum
  clear hnum hN
  go_enter Try.func48, Try.ntmps48
  go_wp2_with fail
  refine (Hnum.out _).mono ?_
  rintro e w1 ⟨a1, c1, rfl, how1, hB1⟩
  have hz1 := hB1.size
  go_wp2_with (at_builtin; refine wpl_append_str rfl (.tmp 6) (.tmp 7) 22 9 rfl w.heap.size 5 infoU8 Try.underlying22 Try.underlying9 _ _ N rfl how1 d rfl ?_ ?_ ?_; omega; omega; intro a2 c2 l2 w2 hl2 how2 hg2)
  have hB2 := below_app hB1 hg2 how1 (Nat.le_refl _) hz1
  go_ret
  exact ⟨a2, c2, l2, rfl, by rw [← HN.out]; exact hl2.out, how2, hB2⟩
end Go.Proofs.Ytlphpjgiaflfkaa
