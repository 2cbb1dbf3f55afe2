/- Contracts of both readers' End, Raw and Text; []byte(s). No statement of the seat is proved here. -/
import Derived.Test.YtlphpjgiaflfkaaQx
import Derived.Test.YtlphpjgiaflfkaaCrcC
import Derived.Laws.IdiomStrings
namespace Go.Proofs.Ytlphpjgiaflfkaa
set_option linter.unusedVariables false
set_option linter.unusedSimpArgs false
set_option linter.unusedSectionVars false
open Go Go.RowKit Go.Shelf

theorem grown_then {W W1 W2 : World} {p : Nat} (h : W.grownBy W1 (some p)) (h2 : Below W1.heap.size W1 W2) : W.grownBy W2 (some p) := grown_trans h (grown_below h2)
/-- a text read: its bytes, what is left, whether it is bad -/
def readT (most : Nat) (l : List UInt8) (bad : Bool) : List UInt8 × List UInt8 × Bool :=
  if (readN most l bad).2.1.length < (readN most l bad).1 then ([], [], true) else ((readN most l bad).2.1.take (readN most l bad).1, (readN most l bad).2.1.drop (readN most l bad).1, (readN most l bad).2.2)
theorem readT_le (most : Nat) (l : List UInt8) (bad : Bool) : (readT most l bad).1.length ≤ most := by
  unfold readT
  split
  · simp
  · have := readN_le most l bad
    simp; omega
theorem readT_enc (most : Nat) (s rest : List UInt8) (bad : Bool) (h : s.length ≤ most) (hn : s.length < 2 ^ 64) : readT most (numB s.length ++ s ++ rest) bad = (s, rest, bad) := by
  unfold readT
  rw [List.append_assoc, readN_numB most s.length (s ++ rest) bad h hn]
  simp only
  rw [if_neg (by simp)]
  simp
/-- []byte(s) -/
theorem bytes_of (l : List UInt8) (hl : l.length ≤ maxLen) (W : World) : ∃ c W', (convert 9 22 (.string ⟨l.toArray⟩)).run Try.prog W = .ok (.slice (some ⟨W.heap.size, 0, none⟩) l.length c) W' ∧ Bs W' (some ⟨W.heap.size, 0, none⟩) c l ∧ Below W.heap.size W W' ∧ elem? W' W.heap.size = some 5 := by
  have h := run_bytes_of_string (P := Try.prog) W 9 22 5 ⟨l.toArray⟩ Try.underlying9 Try.underlying22 Try.underlying5
  have hs : (⟨l.toArray⟩ : ByteArray).size = l.length := by simp [ByteArray.size]
  rw [hs] at h
  refine ⟨_, _, h, ⟨by simp, grownCap_ge _ _ _ _, grownCap_le_maxLen _ _ _ _ hl, by simp, fun j u hu => ⟨_, 0, rfl, ?_⟩⟩, ((Below.refl _ W).drew).alloc (Nat.le_refl _) _, elem?_of (heap_alloc_new W.drew _)⟩
  rw [List.getElem?_map] at hu
  cases hj : l[j]? with
  | none => rw [hj] at hu; cases hu
  | some z =>
    rw [hj] at hu
    simp only [Option.map_some, Option.some.injEq] at hu
    subst hu
    have hjl : j < l.length := (List.getElem?_eq_some_iff.1 hj).1
    have e := bytesRow_at ⟨l.toArray⟩ (grownCap W l.length 0 5) j (by simpa using hjl)
    rw [Nat.zero_add]
    refine (cell?_new W.drew _ _ _ j).trans (e.trans ?_)
    have hz : l[j] = z := (List.getElem?_eq_some_iff.1 hj).2
    simp [hz]
/-- what End tells -/
def endR (l : List UInt8) (bad : Bool) : Int := if bad = true ∨ 0 < l.length then 20 else 0
theorem end_rd {W : World} {p : Nat} {ao : Option Addr} {cap : Nat} {l : List UInt8} {bad : Bool} (h : Rd 131 W p ao cap l bad) :
    Calls Try.prog 77 #[.pointer (some ⟨p, 0, none⟩)] W fun e W' => e = .returned (.int .i64 (endR l bad)) ∧ W = W' := by
  obtain ⟨c0, c1, f0, f1⟩ := h.cells
  obtain ⟨r, hr⟩ : ∃ r, r = endR l bad := ⟨_, rfl⟩
  rw [← hr]
  have Hr := Lib.hid hr
  clear hr
  cases bad with
  | true =>
    go_enter Try.func77, Try.ntmps77
    go_wp2_with fail
    go_ret
    exact ⟨by rw [Hr.out]; simp [endR], rfl⟩
  | false =>
    by_cases hl : 0 < l.length
    · have hl1 : (0 : Int) < (l.length : Int) := by omega
      go_enter Try.func77, Try.ntmps77
      go_wp2_with fail
      go_ret
      exact ⟨by rw [Hr.out]; simp [endR, hl], rfl⟩
    · have hl1 : ¬ (0 : Int) < (l.length : Int) := by omega
      go_enter Try.func77, Try.ntmps77
      go_wp2_with fail
      go_ret
      exact ⟨by rw [Hr.out]; simp [endR, hl], rfl⟩
theorem refEnd_rd {W : World} {p : Nat} {ao : Option Addr} {cap : Nat} {l : List UInt8} {bad : Bool} (h : Rd 78 W p ao cap l bad) :
    Calls Try.prog 44 #[.pointer (some ⟨p, 0, none⟩)] W fun e W' => e = .returned (.int .i64 (endR l bad)) ∧ W = W' := by
  obtain ⟨c0, c1, f0, f1⟩ := h.cells
  obtain ⟨r, hr⟩ : ∃ r, r = endR l bad := ⟨_, rfl⟩
  rw [← hr]
  have Hr := Lib.hid hr
  clear hr
  cases bad with
  | true =>
    go_enter Try.func44, Try.ntmps44
    go_wp2_with fail
    go_ret
    exact ⟨by rw [Hr.out]; simp [endR], rfl⟩
  | false =>
    by_cases hl : 0 < l.length
    · have hl1 : (0 : Int) < (l.length : Int) := by omega
      go_enter Try.func44, Try.ntmps44
      go_wp2_with fail
      go_ret
      exact ⟨by rw [Hr.out]; simp [endR, hl], rfl⟩
    · have hl1 : ¬ (0 : Int) < (l.length : Int) := by omega
      go_enter Try.func44, Try.ntmps44
      go_wp2_with fail
      go_ret
      exact ⟨by rw [Hr.out]; simp [endR, hl], rfl⟩
/-- Raw of what is there -/
def RawTold (T : TypeId) (p n : Nat) (ao : Option Addr) (l : List UInt8) (bad : Bool) (W : World) (e : Ending) (W' : World) : Prop :=
  ∃ ab cb ao' cap', e = .returned (.slice ab (l.take n).length cb) ∧ Bs W' ab cb (l.take n) ∧ Rd T W' p ao' cap' (l.drop n) bad ∧ W.grownBy W' (some p) ∧ SameBlk ao ao'
set_option maxHeartbeats 1000000 in
theorem raw_rd (n : Nat) {W : World} {p : Nat} {ao : Option Addr} {cap : Nat} {l : List UInt8} {bad : Bool} (h : Rd 131 W p ao cap l bad) (hn : n ≤ l.length) (hl : l.length ≤ 70000000000000) :
    Calls Try.prog 108 #[.pointer (some ⟨p, 0, none⟩), .int .i64 (n : Int)] W (RawTold 131 p n ao l bad W) := by
  obtain ⟨c0, c1, f0, f1⟩ := h.cells
  have hpz := (Array.getElem?_eq_some_iff.1 h.blk).1
  have n0 : ¬ (n : Int) < 0 := by omega
  have n1 : ¬ (l.length : Int) < (n : Int) := by omega
  have hlt : ¬ l.length < n := by omega
  have hnl : (n : Int) ≤ (l.length : Int) := by omega
  go_enter Try.func108, Try.ntmps108
  go_wp2_with (first
    | (go_at_call 107; refine (left_rd h).mono ?_; rintro e w1 ⟨rfl, rfl⟩)
    | ((with_reducible show wpList _ _ _ (⟨_, Op.slice _ (.tmp 21) _ _ _, _, _, _, _⟩ :: _) _ _); refine wpl_slice_bb rfl (.tmp 21) none (some (.tmp 22)) 22 5 rfl Try.underlying22 sizeU8 _ _ l rfl h.bs 0 n (.inr ⟨rfl, rfl⟩) (.inl ⟨_, rfl, rfl⟩) (Nat.zero_le _) hn ?_; intro a1 k1 l1 hl1 hlen1 hb1 hsb1; have hle1 : l1.length ≤ 70000000000000 := (by omega); clear hlen1))
  refine (clone_any a1 k1 l1 W hle1 hb1).mono ?_
  rintro e W2 ⟨ab, cb, rfl, hfr⟩
  have h2 := h.below hfr.bel
  obtain ⟨d0, d1, g0, g1⟩ := h2.cells
  have hz2 := hfr.bel.size
  have hb2 := Bs.of_own hfr.own
  go_wp2_with ((with_reducible show wpList _ _ _ (⟨_, Op.slice _ (.tmp 29) _ _ _, _, _, _, _⟩ :: _) _ _); refine wpl_slice_bb rfl (.tmp 29) (some (.tmp 30)) none 22 5 rfl Try.underlying22 sizeU8 _ _ l rfl h2.bs n l.length (.inl ⟨_, rfl, rfl⟩) (.inr ⟨rfl, rfl⟩) hn (Nat.le_refl _) ?_; intro a3 k3 l3 hl3 hlen3 hb3 hsb3; clear hlen3)
  go_ret
  have e1 : l1 = l.take n := by rw [hl1.out]; simp
  have e3 : l3 = l.drop n := by rw [hl3.out, List.take_length]
  subst e1
  subst e3
  obtain ⟨r1, r2⟩ := h2.put hb3
  exact ⟨ab, cb, a3, k3, rfl, hb2.set (fun n e => by cases e) h2.blk, r1, grown_trans (grown_below hfr.bel) r2, hsb3⟩
set_option maxHeartbeats 1000000 in
theorem refRaw_rd (n : Nat) {W : World} {p : Nat} {ao : Option Addr} {cap : Nat} {l : List UInt8} {bad : Bool} (h : Rd 78 W p ao cap l bad) (hn : n ≤ l.length) (hl : l.length ≤ 70000000000000) :
    Calls Try.prog 86 #[.pointer (some ⟨p, 0, none⟩), .int .i64 (n : Int)] W (RawTold 78 p n ao l bad W) := by
  obtain ⟨c0, c1, f0, f1⟩ := h.cells
  have hpz := (Array.getElem?_eq_some_iff.1 h.blk).1
  have n0 : ¬ (n : Int) < 0 := by omega
  have n1 : ¬ (l.length : Int) < (n : Int) := by omega
  have hlt : ¬ l.length < n := by omega
  have hnl : (n : Int) ≤ (l.length : Int) := by omega
  have hb0 := h.bs.below (below_new W (.cells #[] 5))
  have ho0 := own_empty W W.heap.size 5 1 (Nat.le_refl _)
  have hB0 := below_new W (.cells #[] 5)
  go_enter Try.func86, Try.ntmps86
  go_wp2_with (first
    | ((with_reducible show wpList _ _ _ (⟨_, Op.slice _ (.tmp 23) _ _ _, _, _, _, _⟩ :: _) _ _); refine wpl_slice_bb rfl (.tmp 23) none (some (.tmp 24)) 22 5 rfl Try.underlying22 sizeU8 _ _ l rfl hb0 0 n (.inr ⟨rfl, rfl⟩) (.inl ⟨_, rfl, rfl⟩) (Nat.zero_le _) hn ?_; intro a1 k1 l1 hl1 hlen1 hb1 hsb1; have hle1 : l1.length ≤ 70000000000000 := (by omega); clear hlen1)
    | (at_builtin; refine wpl_append_bs rfl (.tmp 19) (.tmp 25) 22 rfl W.heap.size 5 infoU8 Try.underlying22 _ _ [] rfl ho0 _ _ l1 rfl hb1 (by simp; omega) (by simp) ?_; intro a2 k2 l2 W2 hl2 hown2 hg2; have hB2 := below_app hB0 hg2 ho0 (Nat.le_refl _) (by simp); have h2 := h.below hB2; obtain ⟨d0, d1, g0, g1⟩ := h2.cells; have hz2 := hB2.size)
    | ((with_reducible show wpList _ _ _ (⟨_, Op.slice _ (.tmp 31) _ _ _, _, _, _, _⟩ :: _) _ _); refine wpl_slice_bb rfl (.tmp 31) (some (.tmp 32)) none 22 5 rfl Try.underlying22 sizeU8 _ _ l rfl h2.bs n l.length (.inl ⟨_, rfl, rfl⟩) (.inr ⟨rfl, rfl⟩) hn (Nat.le_refl _) ?_; intro a3 k3 l3 hl3 hlen3 hb3 hsb3; clear hlen3))
  go_ret
  have e1 : l2 = l.take n := by rw [hl2.out, hl1.out]; simp
  have e3 : l3 = l.drop n := by rw [hl3.out, List.take_length]
  subst e1
  subst e3
  obtain ⟨r1, r2⟩ := h2.put hb3
  exact ⟨a2, k2, a3, k3, rfl, (Bs.of_own hown2).set (fun n e => by cases e) h2.blk, r1, grown_trans (grown_below hB2) r2, hsb3⟩
/-- what Text tells -/
def TextTold (T : TypeId) (p : Nat) (ao : Option Addr) (r : List UInt8 × List UInt8 × Bool) (W : World) (e : Ending) (W' : World) : Prop :=
  ∃ ao' cap', e = .returned (.string ⟨r.1.toArray⟩) ∧ Rd T W' p ao' cap' r.2.1 r.2.2 ∧ W.grownBy W' (some p) ∧ SameBlk ao ao'
set_option maxRecDepth 100000 in
set_option maxHeartbeats 1000000 in
theorem text_rd (most : Nat) (hm : most ≤ 1048576) {W : World} {p : Nat} {ao : Option Addr} {cap : Nat} {l : List UInt8} {bad : Bool} (h : Rd 131 W p ao cap l bad) (hl : l.length ≤ 70000000000000) :
    Calls Try.prog 82 #[.pointer (some ⟨p, 0, none⟩), .int .i64 (most : Int)] W (TextTold 131 p ao (readT most l bad) W) := by
  have hnum := rnum_any most (by omega) h
  have hle := readN_le most l bad
  have hlen := readN_len most l bad
  obtain ⟨R, hR⟩ : ∃ R, R = readT most l bad := ⟨_, rfl⟩
  rw [← hR]
  unfold readT at hR
  obtain ⟨r, hr⟩ : ∃ r, r = readN most l bad := ⟨_, rfl⟩
  simp only [← hr] at hnum hle hlen hR
  obtain ⟨x, l1, b1⟩ := r
  simp only at hnum hle hlen hR
  have HR := Lib.hid hR
  have Hnum := Lib.hid hnum
  clear hR hr hnum
  have m0 : ¬ (most : Int) < 0 := by omega
  have m1 : IntKind.u64.wrap (most : Int) = (most : Int) := IntWalk.u64_in _ (by omega)
  have x1 : IntKind.i64.wrap (x : Int) = (x : Int) := IntWalk.i64_in _ (by omega)
  have m2 : IntKind.u64.wrap (l1.length : Int) = (l1.length : Int) := IntWalk.u64_in _ (by omega)
  go_enter Try.func82, Try.ntmps82
  go_wp2_with fail
  refine Hnum.out.mono ?_
  rintro e W1 ⟨ao1, cap1, rfl, h1, hg1, hs1⟩
  simp only at h1
  go_wp2_with fail
  refine (left_rd h1).mono ?_
  rintro e W2 ⟨rfl, rfl⟩
  by_cases hbig : l1.length < x
  · have hb2 : (l1.length : Int) < (x : Int) := by omega
    have hfl := fail_rd h1
    have Hfl := Lib.hid hfl
    clear hfl
    go_wp2_with fail
    refine Hfl.out.mono ?_
    rintro e W3 ⟨rfl, h3, hg3⟩
    go_wp2_with fail
    go_ret
    rw [HR.out, if_pos hbig]
    exact ⟨none, 0, rfl, h3, grown_trans hg1 hg3, SameBlk.none _⟩
  · have hb2 : ¬ (l1.length : Int) < (x : Int) := by omega
    have hrw := raw_rd x h1 (by omega) (by omega)
    have Hrw := Lib.hid hrw
    clear hrw
    go_wp2_with fail
    refine Hrw.out.mono ?_
    rintro e W3 ⟨ab, cb, ao3, cap3, rfl, hb3, h3, hg3, hs3⟩
    obtain ⟨d, hd⟩ : ∃ d, d = l1.take x := ⟨_, rfl⟩
    rw [← hd] at hb3 ⊢
    have Hd := Lib.hid hd
    clear hd
    have hcv := conv_any hb3
    go_wp2_with fail
    go_ret
    rw [HR.out, if_neg hbig]
    simp only
    rw [← Hd.out]
    exact ⟨ao3, cap3, rfl, h3, grown_trans hg1 hg3, hs1.trans hs3⟩
set_option maxRecDepth 100000 in
set_option maxHeartbeats 1000000 in
theorem refText_rd (most : Nat) (hm : most ≤ 1048576) {W : World} {p : Nat} {ao : Option Addr} {cap : Nat} {l : List UInt8} {bad : Bool} (h : Rd 78 W p ao cap l bad) (hl : l.length ≤ 70000000000000) :
    Calls Try.prog 45 #[.pointer (some ⟨p, 0, none⟩), .int .i64 (most : Int)] W (TextTold 78 p ao (readT most l bad) W) := by
  have hnum := refNum_rd most (by omega) h
  have hle := readN_le most l bad
  have hlen := readN_len most l bad
  obtain ⟨R, hR⟩ : ∃ R, R = readT most l bad := ⟨_, rfl⟩
  rw [← hR]
  unfold readT at hR
  obtain ⟨r, hr⟩ : ∃ r, r = readN most l bad := ⟨_, rfl⟩
  simp only [← hr] at hnum hle hlen hR
  obtain ⟨x, l1, b1⟩ := r
  simp only at hnum hle hlen hR
  have HR := Lib.hid hR
  have Hnum := Lib.hid hnum
  clear hR hr hnum
  have m0 : ¬ (most : Int) < 0 := by omega
  have m1 : IntKind.u64.wrap (most : Int) = (most : Int) := IntWalk.u64_in _ (by omega)
  have x1 : IntKind.i64.wrap (x : Int) = (x : Int) := IntWalk.i64_in _ (by omega)
  have m2 : IntKind.u64.wrap (l1.length : Int) = (l1.length : Int) := IntWalk.u64_in _ (by omega)
  go_enter Try.func45, Try.ntmps45
  go_wp2_with fail
  refine Hnum.out.mono ?_
  rintro e W1 ⟨ao1, cap1, rfl, h1, hg1, hs1⟩
  simp only at h1
  obtain ⟨d0, d1, g0, g1⟩ := h1.cells
  by_cases hbig : l1.length < x
  · have hb2 : (l1.length : Int) < (x : Int) := by omega
    have hfl := refFail_rd h1
    have Hfl := Lib.hid hfl
    clear hfl
    go_wp2_with fail
    refine Hfl.out.mono ?_
    rintro e W3 ⟨rfl, h3, hg3⟩
    go_wp2_with fail
    go_ret
    rw [HR.out, if_pos hbig]
    exact ⟨none, 0, rfl, h3, grown_trans hg1 hg3, SameBlk.none _⟩
  · have hb2 : ¬ (l1.length : Int) < (x : Int) := by omega
    have hrw := refRaw_rd x h1 (by omega) (by omega)
    have Hrw := Lib.hid hrw
    clear hrw
    go_wp2_with fail
    refine Hrw.out.mono ?_
    rintro e W3 ⟨ab, cb, ao3, cap3, rfl, hb3, h3, hg3, hs3⟩
    obtain ⟨d, hd⟩ : ∃ d, d = l1.take x := ⟨_, rfl⟩
    rw [← hd] at hb3 ⊢
    have Hd := Lib.hid hd
    clear hd
    have hcv := conv_any hb3
    go_wp2_with fail
    go_ret
    rw [HR.out, if_neg hbig]
    simp only
    rw [← Hd.out]
    exact ⟨ao3, cap3, rfl, h3, grown_trans hg1 hg3, hs1.trans hs3⟩
end Go.Proofs.Ytlphpjgiaflfkaa
