/- Lemmas for DeadlineBytes (Dp OpenD Dq Ea Eb Ec Ed Ee). No statement of the seat is proved here. -/
import Derived.Test.YtedlplkomfiahaaT4
import Derived.Test.YtedlplkomfiahaaT18
import Derived.Test.YtedlplkomfiahaaT21
import Derived.Test.YtedlplkomfiahaaT23
namespace Go.Proofs.Ytedlplkomfiahaa
set_option linter.unusedVariables false
set_option linter.unusedSimpArgs false
set_option linter.unusedSectionVars false
open Go Go.RowKit Go.Maps Go.Deep
section
variable {W : World} {q : Option Addr}
end
theorem insT_one (t : Th) : insT [] t = [t] := srt_is (List.pairwise_singleton _ _) (List.pairwise_singleton _ _) (List.Perm.refl _)
theorem set_empty : setN 0 [] 7 10 = 1 ∧ setE 0 [] 7 10 = 0 ∧ setL 0 [] 7 10 = 1 ∧ setX 0 [] 7 10 = [⟨7, 1, 10⟩] := by
  obtain ⟨h1, h2, h3, h4⟩ := set_in 0 [] 7 10 ⟨by omega, by omega⟩ ⟨by omega, .inr (by simp)⟩
  refine ⟨h1, h2, h3, h4.trans ?_⟩
  rw [show lessId [] 7 = [] from rfl, insT_one]; rfl
theorem set_again : setN 1 [⟨7, 1, 10⟩] 7 20 = 2 ∧ setE 1 [⟨7, 1, 10⟩] 7 20 = 0 ∧ setL 1 [⟨7, 1, 10⟩] 7 20 = 2 ∧ setX 1 [⟨7, 1, 10⟩] 7 20 = [⟨7, 2, 20⟩] := by
  obtain ⟨h1, h2, h3, h4⟩ := set_in 1 [⟨7, 1, 10⟩] 7 20 ⟨by omega, by omega⟩ ⟨by omega, .inr (by simp)⟩
  refine ⟨h1, h2, h3, h4.trans ?_⟩
  rw [show lessId [(⟨7, 1, 10⟩ : Th)] 7 = [] from rfl, insT_one]; rfl
set_option maxRecDepth 100000 in
set_option maxHeartbeats 4000000 in
theorem lives13 (W : World) : Calls Try.prog 9 #[] W fun e W' => e = .returned (.bool true) ∧ Below W.heap.size W W' := by
  have v1 : advL 0 15 [(⟨7, 2, 20⟩ : Th)] = [] ∧ advX 0 15 [(⟨7, 2, 20⟩ : Th)] = [⟨7, 2, 20⟩] ∧ advN 0 15 = 15 ∧ advE 0 15 = 0 := ⟨rfl, rfl, rfl, rfl⟩
  have v2 : advL 15 20 [(⟨7, 2, 20⟩ : Th)] = [⟨7, 2, 20⟩] ∧ advX 15 20 [(⟨7, 2, 20⟩ : Th)] = [] ∧ advN 15 20 = 20 ∧ advE 15 20 = 0 := ⟨rfl, rfl, rfl, rfl⟩
  have V1 := Lib.hid v1
  have V2 := Lib.hid v2
  have Hnew := Lib.hid (bnew_o W W 0 ⟨by omega, by omega⟩ (Below.refl _ _))
  clear v1 v2
  go_enter Try.func9, Try.ntmps9
  go_wp2_with fail
  refine (show Calls _ _ _ _ _ from Hnew.out).mono ?_
  rintro e U1 ⟨b, G, rfl, hb1, -, -⟩
  have hs := bset_o hb1 7 10 ⟨by omega, by omega⟩
  rw [set_empty.1, set_empty.2.1, set_empty.2.2.1, set_empty.2.2.2] at hs
  have Hs := Lib.hid hs
  clear hs hb1
  go_wp2_with fail
  refine (show Calls _ _ _ _ _ from Hs.out).mono ?_
  rintro e U2 ⟨rfl, G2, hb2, -, -⟩
  have hs := bset_o hb2 7 20 ⟨by omega, by omega⟩
  rw [set_again.1, set_again.2.1, set_again.2.2.1, set_again.2.2.2] at hs
  have Hs2 := Lib.hid hs
  clear hs hb2
  go_wp2_with fail
  refine (show Calls _ _ _ _ _ from Hs2.out).mono ?_
  rintro e U3 ⟨rfl, G3, hb3, -, -⟩
  have hs := badv_o hb3 15
  rw [V1.out.1, V1.out.2.1, V1.out.2.2.1, V1.out.2.2.2] at hs
  have Ha1 := Lib.hid hs
  clear hs hb3
  go_wp2_with fail
  refine (show Calls _ _ _ _ _ from Ha1.out).mono ?_
  rintro e U4 ⟨a1, c1, rfl, ⟨G4, hb4, -, -⟩, -⟩
  have hs := badv_o hb4 20
  rw [V2.out.1, V2.out.2.1, V2.out.2.2.1, V2.out.2.2.2] at hs
  have Ha2 := Lib.hid hs
  clear hs hb4
  go_wp2_with fail
  refine (show Calls _ _ _ _ _ from Ha2.out).mono ?_
  rintro e U5 ⟨a2, c2, rfl, ⟨G5, hb5, -, -⟩, ho⟩
  obtain ⟨bx, fx, rfl, hbx, k0, k1, k2⟩ := Tt.cells (Tt.of_own ho) 0 (by simp)
  simp at k0 k1 k2
  have HB := Lib.hid hb5.bel
  have heq := eq_th ⟨7, 2, 20⟩
  unfold thVal at heq
  clear ho hb5
  go_wp2_with fail
  go_ret
  exact ⟨rfl, HB.out⟩
end Go.Proofs.Ytedlplkomfiahaa
namespace Go.Proofs.Ytedlplkomfiahaa
set_option linter.unusedVariables false
set_option linter.unusedSimpArgs false
set_option linter.unusedSectionVars false
open Go Go.ChangeShapes Go.WideShapes Go.ChangeAt Go.RowKit Go.Deep
def DOps (w : World) (ao : Option Addr) (cap : Nat) (l : List DOp) : Prop := Sl w 3 ao l.length cap (l.map dopCells).flatten
theorem wf_u {x : Int} (h : (Lit.int .u64 x).wf = true) : IdOk x := by
  simp [Lit.wf, IntKind.min, IntKind.max, IntKind.signed, IntKind.bits] at h
  exact ⟨h.1, by omega⟩
theorem ThOk.gen {t : Th} (h : ThOk t) : IdOk t.gen := wf_u h.2.1
section
variable {H : Type} {enc : TypeId × Value → H} {w : World} {base : Nat} {held : Bool}
set_option maxRecDepth 100000 in
theorem open_dstate {r : Reach} {b0 : Nat} {v : Value} {d : DataW H} {p : List MemPlace} (hv : Value.okWide Try.prog w r b0 42 v) (h : DataW.Trod enc Try.prog w base (fun _ => true) held 42 v d p) :
    ∃ (now last : Int) (ao : Option Addr) (cap : Nat) (l : List Th), v = dsV now last ao l.length cap ∧ (Lit.int .i64 now).wf = true ∧ (Lit.int .u64 last).wf = true ∧ Sl w 3 ao l.length cap (thFlat l) ∧ ∀ a ∈ l, ThOk a := by
  unfold Value.okWide at hv
  rw [Try.underlying42] at hv
  simp only at hv
  obtain ⟨cs, rfl, hsz, ts, hts, _, hall⟩ := hv
  have hts2 : Try.prog.cellTypes Try.prog.depth 42 = some [2, 28, 35] := by kernel_rfl
  rw [hts2] at hts
  simp only [Option.some.injEq] at hts
  subst hts
  have hC : Try.prog.cellsOf 42 = 3 := by kernel_rfl
  rw [hC] at hsz
  obtain ⟨cs⟩ := cs
  match cs, hsz with
  | [c0, c1, c2], _ =>
    obtain ⟨u, hu, hc1⟩ := hall 2 c2 rfl
    have hu2 : u = 35 := by simpa using hu.symm
    subst hu2
    have hv1 : Value.okWide Try.prog w r b0 35 c2 := by unfold Value.okWide; rw [Try.underlying35]; exact hc1
    obtain ⟨ao, len, cap, rfl⟩ := okWide_slice Try.underlying35 hv1
    obtain ⟨fuel, hf⟩ := h
    obtain ⟨xs, n, _, hx, _, hlen, hg⟩ := DataW.trod_struct Try.underlying42 hf
    match xs, hlen with
    | [y0, y1, y2], _ =>
      have t0 := hg 0 _ rfl
      have t1 := hg 1 _ rfl
      have t2 := hg 2 _ rfl
      have k0 : Try.prog.cellsOf 2 = 1 := by kernel_rfl
      have k1 : Try.prog.cellsOf 28 = 1 := by kernel_rfl
      have k2 : Try.prog.cellsOf 35 = 1 := by kernel_rfl
      simp [Value.cells, k0, k1, k2] at t0 t1 t2
      obtain ⟨n0, e0, d0, w0⟩ := DataW.trod_int (k := .i64) Try.underlying2 t0
      obtain ⟨n1, e1, d1, w1⟩ := DataW.trod_int (k := .u64) Try.underlying28 t1
      simp at e0 e1
      subst e0
      subst e1
      obtain ⟨l, hl, hsl, hok⟩ := open_ths (by simpa [Value.cells] using t2)
      subst hl
      exact ⟨n0, n1, ao, cap, l, rfl, w0, w1, hsl, hok⟩
end
theorem DOps.get {w : World} {ao : Option Addr} {cap : Nat} {l : List DOp} (h : DOps w ao cap l) (i : Nat) (hi : i < l.length) :
    ∃ b off, ao = some ⟨b, off, none⟩ ∧ ∀ j (hj : j < 3), w.cell? ⟨b, off + i * 3 + j, none⟩ = some ((dopCells l[i])[j]'hj) := by
  have key : ∀ j (hj : j < 3), (l.map dopCells).flatten[i * 3 + j]? = some ((dopCells l[i])[j]'hj) := by
    intro j hj
    have := flatten_get (rows := l.map dopCells) (k := 3) (by intro r hr; obtain ⟨x, _, rfl⟩ := List.mem_map.1 hr; rfl) i j (by simpa using hi) (by rw [List.getElem_map]; exact hj)
    rw [this]; simp only [List.getElem_map]; rfl
  obtain ⟨b, off, e, _⟩ := h.cell _ _ (key 0 (by decide))
  refine ⟨b, off, e, fun j hj => ?_⟩
  obtain ⟨b', off', e', hc⟩ := h.cell _ _ (key j hj)
  rw [e] at e'
  simp only [Option.some.injEq, Addr.mk.injEq] at e'
  obtain ⟨rfl, rfl, -⟩ := e'
  rw [Nat.add_assoc]; exact hc
theorem DOps.below {w w' : World} {ao : Option Addr} {cap : Nat} {l : List DOp} (h : DOps w ao cap l) (hb : Below w.heap.size w w') : DOps w' ao cap l := Sl.below h hb
end Go.Proofs.Ytedlplkomfiahaa
namespace Go.Proofs.Ytedlplkomfiahaa
set_option linter.unusedVariables false
set_option linter.unusedSimpArgs false
set_option linter.unusedSectionVars false
open Go Go.RowKit Go.Maps Go.Deep
theorem rsame13_eq (W : World) (n1 s1 : Int) (a1 : Option Addr) (c1 : Nat) (X : List Th) (a2 : Option Addr) (c2 : Nat) (hX : Rt W a1 c1 (slot0 X)) (hY : Rt W a2 c2 (slot0 X)) (hl : X.length ≤ 1000) :
    Calls Try.prog 19 #[dsV n1 s1 a1 X.length c1, dsV n1 s1 a2 X.length c2] W fun e W' => e = .returned (.bool true) ∧ Below W.heap.size W W' := by
  refine (rsame13_any W n1 s1 a1 c1 X n1 s1 a2 c2 X hX hY hl).mono ?_
  rintro e W' ⟨rfl, hb⟩
  exact ⟨by rw [decide_eq_true ⟨rfl, rfl, rfl⟩], hb⟩
/-- the reference's state stands in a box -/
structure Pd (W wr : World) (G : Nat → Prop) (b p : Nat) (now last : Int) (X : List Th) (a : Option Addr) (c : Nat) : Prop where
  wo : Bk W wr G b now last X
  rt : Rt wr a c (slot0 X)
  ap : RAp wr G a
  bx : wr.heap[p]? = some (.cells #[.int .i64 now, .int .u64 last, .slice a X.length c] rsT (0, 0))
  out : ¬ G p
  up : W.heap.size ≤ p
theorem Pd.below {W wr wr' : World} {G : Nat → Prop} {b p : Nat} {now last : Int} {X : List Th} {a : Option Addr} {c : Nat} (h : Pd W wr G b p now last X a c) (hb : Below wr.heap.size wr wr') : Pd W wr' G b p now last X a c :=
  ⟨h.wo.below hb, h.rt.below hb, h.ap.up hb.size, bx_below hb h.bx, h.out, h.up⟩
theorem Pd.set {W wr V : World} {G : Nat → Prop} {b p : Nat} {now last : Int} {X : List Th} {a : Option Addr} {c : Nat} (h : Pd W wr G b p now last X a c) {now' last' : Int} {X' : List Th} {G' : Nat → Prop} {a' : Option Addr} {c' : Nat} (hwo : Bk W V G' b now' last' X') (hr : Rt V a' c' (slot0 X')) (hA : RAp V G' a') (hg : Gr G wr V) (hF : ∀ i, G' i → G i ∨ wr.heap.size ≤ i) :
    V.heap[p]? = some (.cells #[.int .i64 now, .int .u64 last, .slice a X.length c] rsT (0, 0)) ∧ ∃ U, U = ((V.setCell ⟨p, 0, none⟩ (.int .i64 now')).setCell ⟨p, 1, none⟩ (.int .u64 last')).setCell ⟨p, 2, none⟩ (.slice a' X'.length c') ∧ Pd W U G' b p now' last' X' a' c' ∧ ∀ i, i ≠ p → U.heap[i]? = V.heap[i]? := by
  have hlt := (Array.getElem?_eq_some_iff.1 h.bx).1
  have xV := (hg.block p hlt h.out).trans h.bx
  have hnF : ¬ G' p := fun e => by rcases hF p e with h1 | h1; exact h.out h1; omega
  obtain ⟨U, e, ⟨h1, h2, h3, -, -⟩, h4, h5⟩ := ddone_sets (G := G') (W := W) (Z := V) (V := V) (Nat.le_refl _) hwo.bel hr hA hwo (Gr.refl _ _) (fun i hi => .inl hi) xV h.up hnF (.int .i64 now') (.int .u64 last') (.slice a' X'.length c')
  exact ⟨xV, U, e, ⟨h1, h2, h3, h4, hnF, h.up⟩, h5⟩
end Go.Proofs.Ytedlplkomfiahaa
namespace Go.Proofs.Ytedlplkomfiahaa
set_option linter.unusedVariables false
set_option linter.unusedSimpArgs false
set_option linter.unusedSectionVars false
open Go Go.RowKit Go.Maps Go.Deep
def thNums (t : Th) : List Nat := [t.id.toNat, t.gen.toNat, t.due.toNat]
def encT (t : Th) : List UInt8 := numsB (thNums t)
def encX (l : List Th) : List UInt8 := (l.map encT).flatten
def encB (now last : Int) (l : List Th) : List UInt8 := numB now.toNat ++ (numsB [last.toNat, l.length] ++ encX l)
structure EncT (t : Th) : Prop where
  id : 0 ≤ t.id ∧ t.id ≤ 18446744073709551615
  gen : 0 ≤ t.gen ∧ t.gen ≤ 1152921504606846976
  due : 0 ≤ t.due ∧ t.due ≤ 1125899906842624
theorem encT_ok {now last : Int} {X : List Th} (h : SoundP now last X) (hid : ∀ t ∈ X, IdOk t.id) : ∀ t ∈ X, EncT t := by
  intro t ht
  obtain ⟨i, hi, rfl⟩ := List.mem_iff_getElem.1 ht
  obtain ⟨h1, h2, h3, h4⟩ := h
  obtain ⟨⟨h5, h6, h7, -⟩, -⟩ := h4 i hi hi
  have h8 := hid _ ht
  unfold IdOk at h8
  unfold Inst at h7
  exact ⟨by omega, by omega, h7⟩
/-- a thing read -/
def readTh (s : List UInt8 × Bool) : Th × (List UInt8 × Bool) :=
  let r0 := readN 18446744073709551615 s.1 s.2
  let r1 := readN 1152921504606846976 r0.2.1 r0.2.2
  let r2 := readN 1125899906842624 r1.2.1 r1.2.2
  (⟨(r0.1 : Int), (r1.1 : Int), (r2.1 : Int)⟩, r2.2)
def readX : Nat → List UInt8 × Bool → List Th × (List UInt8 × Bool)
  | 0, s => ([], s)
  | k + 1, s => ((readX k s).1 ++ [(readTh (readX k s).2).1], (readTh (readX k s).2).2)
open Classical in
/-- what Read tells in the end -/
noncomputable def finB (x y : Int) (q : List Th × (List UInt8 × Bool)) : (Int × Int × List Th) × Bool × (List UInt8 × Bool) :=
  if q.2.2 = false ∧ SoundP x y q.1 then ((x, y, q.1), true, q.2) else ((0, 0, []), false, ([], true))
/-- a state read -/
noncomputable def readB (s : List UInt8 × Bool) : (Int × Int × List Th) × Bool × (List UInt8 × Bool) :=
  let r0 := readI s.1 s.2
  let r1 := readN 1152921504606846976 r0.2.1 r0.2.2
  let r2 := readN 256 r1.2.1 r1.2.2
  let q := readX r2.1 r2.2
  finB r0.1 (r1.1 : Int) q
theorem numsB_cons13 (x : Nat) (xs : List Nat) : numsB (x :: xs) = numB x ++ numsB xs := rfl
theorem readN_nums13 (most x : Nat) (xs : List Nat) (rest : List UInt8) (bad : Bool) (h : x ≤ most) (hm : most ≤ 18446744073709551615) : readN most (numsB (x :: xs) ++ rest) bad = (x, numsB xs ++ rest, bad) := by
  rw [numsB_cons13, List.append_assoc]
  exact readN_numB most x _ bad h (by omega)
theorem readTh_enc (t : Th) (h : EncT t) (rest : List UInt8) (bad : Bool) : readTh (encT t ++ rest, bad) = (t, (rest, bad)) := by
  obtain ⟨id, gen, due⟩ := t
  obtain ⟨h0, h1, h2⟩ := h
  simp only at h0 h1 h2
  unfold readTh encT thNums
  simp only
  rw [readN_nums13 _ _ _ _ _ (by omega) (by omega)]
  simp only
  rw [readN_nums13 _ _ _ _ _ (by omega) (by omega)]
  simp only
  rw [readN_nums13 _ _ _ _ _ (by omega) (by omega)]
  simp only [Int.toNat_of_nonneg h0.1, Int.toNat_of_nonneg h1.1, Int.toNat_of_nonneg h2.1]
  simp [numsB]
theorem encX_snoc (l : List Th) (t : Th) : encX (l ++ [t]) = encX l ++ encT t := by unfold encX; simp
theorem readX_enc (k : Nat) : ∀ (l : List Th) (rest : List UInt8) (bad : Bool), l.length = k → (∀ t ∈ l, EncT t) → readX k (encX l ++ rest, bad) = (l, (rest, bad)) := by
  induction k with
  | zero => intro l rest bad hl _; obtain rfl := List.eq_nil_of_length_eq_zero hl; rfl
  | succ k ih =>
    intro l rest bad hl hok
    have hne : l ≠ [] := by intro e; subst e; simp at hl
    have e := List.dropLast_concat_getLast hne
    obtain ⟨l0, hl0⟩ : ∃ l0, l0 = l.dropLast := ⟨_, rfl⟩
    obtain ⟨n, hn⟩ : ∃ n, n = l.getLast hne := ⟨_, rfl⟩
    rw [← hl0, ← hn] at e
    subst e
    have h1 := ih l0 (encT n ++ rest) bad (by simpa using hl) (fun m hm => hok m (by simp [hm]))
    rw [encX_snoc, List.append_assoc]
    unfold readX
    rw [h1]
    simp only
    rw [readTh_enc n (hok n (by simp))]
theorem readB_enc {now last : Int} {X : List Th} (h : SoundP now last X) (h0 : 0 ≤ last) (hid : ∀ t ∈ X, IdOk t.id) : readB (encB now last X, false) = ((now, last, X), true, ([], false)) := by
  have hs := h
  obtain ⟨h1, h2, h3, h4⟩ := h
  unfold Inst at h1
  unfold readB encB
  simp only
  rw [readI_numB _ _ _ (by omega)]
  simp only
  rw [readN_nums13 _ _ _ _ _ (by omega) (by omega)]
  simp only
  rw [readN_nums13 _ _ _ _ _ (by omega) (by omega)]
  simp only
  have e1 : numsB [] ++ encX X = encX X ++ [] := by simp [numsB]
  rw [e1, readX_enc X.length X [] false rfl (encT_ok hs hid)]
  simp only [Int.toNat_of_nonneg h0, Int.toNat_of_nonneg h1.1]
  unfold finB
  rw [if_pos ⟨rfl, hs⟩]
theorem readTh_ok (s : List UInt8 × Bool) : EncT (readTh s).1 := by
  unfold readTh
  simp only
  refine ⟨⟨by simp, ?_⟩, ⟨by simp, ?_⟩, ⟨by simp, ?_⟩⟩
  · have := readN_le 18446744073709551615 s.1 s.2; simp only; omega
  · have := readN_le 1152921504606846976 (readN 18446744073709551615 s.1 s.2).2.1 (readN 18446744073709551615 s.1 s.2).2.2; simp only; omega
  · generalize (readN 1152921504606846976 (readN 18446744073709551615 s.1 s.2).2.1 (readN 18446744073709551615 s.1 s.2).2.2).2 = q
    have := readN_le 1125899906842624 q.1 q.2; simp only; omega
theorem readX_ok (k : Nat) (s : List UInt8 × Bool) : ∀ t ∈ (readX k s).1, EncT t := by
  induction k with
  | zero => intro t ht; simp [readX] at ht
  | succ k ih =>
    intro t ht
    simp only [readX, List.mem_append, List.mem_cons, List.not_mem_nil, or_false] at ht
    rcases ht with ht | rfl
    · exact ih t ht
    · exact readTh_ok _
theorem EncT.ids {t : Th} (h : EncT t) : IdOk t.id ∧ IdOk t.gen := by
  obtain ⟨h1, h2, h3⟩ := h
  unfold IdOk
  exact ⟨by omega, by omega⟩
/-- what Read comes to, told in steps -/
theorem readB_of {l : List UInt8} {bad : Bool} {x : Int} {l0 : List UInt8} {b0 : Bool} {y : Nat} {l1 : List UInt8} {b1 : Bool} {m : Nat} {l2 : List UInt8} {b2 : Bool} {X : List Th} {l3 : List UInt8} {b3 : Bool}
    (h0 : (x, l0, b0) = readI l bad) (h1 : (y, l1, b1) = readN 1152921504606846976 l0 b0) (h2 : (m, l2, b2) = readN 256 l1 b1) (h3 : (X, (l3, b3)) = readX m (l2, b2)) :
    (b3 = false → SoundP x (y : Int) X → readB (l, bad) = ((x, (y : Int), X), true, (l3, b3))) ∧ (¬ (b3 = false ∧ SoundP x (y : Int) X) → readB (l, bad) = ((0, 0, []), false, ([], true))) := by
  unfold readB
  simp only
  rw [← h0]
  simp only
  rw [← h1]
  simp only
  rw [← h2]
  simp only
  rw [← h3]
  unfold finB
  exact ⟨fun a b => if_pos ⟨a, b⟩, fun a => if_neg a⟩
theorem readX_next {i : Nat} {s : List UInt8 × Bool} {X : List Th} {l : List UInt8} {b : Bool} {x0 : Nat} {l0 : List UInt8} {b0 : Bool} {x1 : Nat} {l1 : List UInt8} {b1 : Bool} {x2 : Nat} {l2 : List UInt8} {b2 : Bool}
    (h : (X, (l, b)) = readX i s) (h0 : (x0, l0, b0) = readN 18446744073709551615 l b) (h1 : (x1, l1, b1) = readN 1152921504606846976 l0 b0) (h2 : (x2, l2, b2) = readN 1125899906842624 l1 b1) :
    (X ++ [⟨(x0 : Int), (x1 : Int), (x2 : Int)⟩], (l2, b2)) = readX (i + 1) s := by
  unfold readX
  rw [← h]
  unfold readTh
  simp only [← h0, ← h1, ← h2]
theorem readB_len (s : List UInt8 × Bool) : (readB s).1.2.2.length ≤ 256 := by
  unfold readB finB
  simp only
  split
  · rename_i h; exact h.2.2.2.1
  · simp
theorem thNums_lt {t : Th} (h : EncT t) : ∀ x ∈ thNums t, x < 2 ^ 64 := by
  obtain ⟨h0, h1, h2⟩ := h
  intro x hx
  simp only [thNums, List.mem_cons, List.not_mem_nil, or_false] at hx
  rcases hx with rfl | rfl | rfl <;> omega
theorem encT_len {t : Th} (h : EncT t) : (encT t).length ≤ 27 := by
  have := numsB_len _ (thNums_lt h)
  simpa [thNums, encT] using this
theorem encX_len (l : List Th) (h : ∀ t ∈ l, EncT t) : (encX l).length ≤ 27 * l.length := by
  induction l with
  | nil => simp [encX]
  | cons n l ih =>
    have h1 := encT_len (h n (by simp))
    have h2 := ih (fun m hm => h m (by simp [hm]))
    have : encX (n :: l) = encT n ++ encX l := rfl
    rw [this]; simp; omega
theorem encX_take (l : List Th) (i : Nat) (hi : i < l.length) : encX (l.take (i + 1)) = encX (l.take i) ++ encT l[i] := by
  rw [List.take_succ_eq_append_getElem hi, encX_snoc]
end Go.Proofs.Ytedlplkomfiahaa
namespace Go.Proofs.Ytedlplkomfiahaa
set_option linter.unusedVariables false
set_option linter.unusedSimpArgs false
set_option linter.unusedSectionVars false
open Go Go.RowKit Go.Maps Go.Deep
theorem eql_thv (x y : Th) (V : World) : (binOp .eql thT (.agg #[.int .u64 x.id, .int .u64 x.gen, .int .i64 x.due]) (.agg #[.int .u64 y.id, .int .u64 y.gen, .int .i64 y.due])).run Try.prog V = .ok (.bool (decide (x = y))) V := by
  rw [run_eql_struct, eqin_th]
  simp only [Result.andThen]
  congr 2
  rw [Bool.eq_iff_iff]
  simp only [decide_eq_true_eq, th_ext]
theorem guard_the (p q : Operand) (x y : Th) (V : World) : (eqGuard .eql thT p q (.agg #[.int .u64 x.id, .int .u64 x.gen, .int .i64 x.due]) (.agg #[.int .u64 y.id, .int .u64 y.gen, .int .i64 y.due])).run Try.prog V = .ok () V := run_eqGuard_agg V .eql _ p q _ _ (by kernel_rfl)
theorem same1_th (x y : Th) (W : World) : Calls Try.prog 52 #[.agg #[.int .u64 x.id, .int .u64 x.gen, .int .i64 x.due], .agg #[.int .u64 y.id, .int .u64 y.gen, .int .i64 y.due]] W fun e W' => e = .returned (.bool (decide (x = y))) ∧ Below W.heap.size W W' := by
  have hq := eql_thv x y
  have hg := fun p q => guard_the p q x y
  obtain ⟨c, hc⟩ : ∃ c, c = decide (x = y) := ⟨_, rfl⟩
  rw [← hc] at hq ⊢
  clear hc
  go_enter Try.func52, Try.ntmps52
  go_wp2
  go_ret
  exact ⟨rfl, below_on (below_new _ _) (below_new _ _) (Nat.le_refl _)⟩
theorem drop_eq13 (l l2 : List Th) (i : Nat) (h : i < l.length) (h2 : i < l2.length) : decide (l.drop i = l2.drop i) = (decide (l[i] = l2[i]) && decide (l.drop (i + 1) = l2.drop (i + 1))) := by
  rw [List.drop_eq_getElem_cons h, List.drop_eq_getElem_cons h2]
  generalize l[i] = s1
  generalize l2[i] = s2
  simp
set_option maxRecDepth 100000 in
set_option maxHeartbeats 4000000 in
theorem equal13_any (ao ao2 : Option Addr) (cap cap2 : Nat) (l l2 : List Th) (w : World) (hs : ThR w ao cap l) (hs2 : ThR w ao2 cap2 l2) (hl : l.length ≤ 1000000) :
    Calls Try.prog 51 #[.slice ao l.length cap, .slice ao2 l2.length cap2, .func (.func 52) #[] #[]] w fun e w' => e = .returned (.bool (decide (l = l2))) ∧ Below w.heap.size w w' := by
  obtain ⟨c, hc⟩ : ∃ c, c = decide (l = l2) := ⟨_, rfl⟩
  rw [← hc]
  have Hc := Lib.hid hc
  clear hc
  by_cases hll : l.length = l2.length
  · rw [← hll]
    have Hll := Lib.hid hll
    clear hll
    go_enter Try.func51, Try.ntmps51
    go_wp2_with fail
    go_loopw [17] (fun v wr => ∃ i : Nat, v = .int .i64 i ∧ i ≤ l.length ∧ Hid (c = decide (l.drop i = l2.drop i)) ∧ Below w.heap.size w wr) (fun v _ => l.length - (intOf v).toNat)
    case atStart => exact ⟨0, rfl, Nat.zero_le _, Hc, Below.refl _ _⟩
    case round =>
      obtain ⟨i, rfl, hi, hri, hb⟩ := hrel
      by_cases hlt : i < l.length
      · have hlt2 : i < l2.length := by have := Hll.out; omega
        obtain ⟨b, off, rfl, -, c0, c1, c2⟩ := (hs.below hb).cells i hlt
        obtain ⟨b2, off2, rfl, -, d0, d1, d2⟩ := (hs2.below hb).cells i hlt2
        have Hst := Lib.hid (drop_eq13 l l2 i hlt hlt2)
        obtain ⟨s, hsd⟩ : ∃ s, s = l[i] := ⟨_, rfl⟩
        obtain ⟨s2, hsd2⟩ : ∃ s, s = l2[i] := ⟨_, rfl⟩
        rw [← hsd] at c0 c1 c2 Hst
        rw [← hsd2] at d0 d1 d2 Hst
        clear hsd hsd2
        have hsm := fun W => same1_th s s2 W
        obtain ⟨z, hz⟩ : ∃ z, z = decide (s = s2) := ⟨_, rfl⟩
        rw [← hz] at Hst hsm
        clear hz
        have Hsm := Lib.hid hsm
        clear hsm
        have d0' := ((below_new wr (.cells #[.int .u64 s.id, .int .u64 s.gen, .int .i64 s.due] thT)).cell (cell?_lt d0)).trans d0
        have d1' := ((below_new wr (.cells #[.int .u64 s.id, .int .u64 s.gen, .int .i64 s.due] thT)).cell (cell?_lt d1)).trans d1
        have d2' := ((below_new wr (.cells #[.int .u64 s.id, .int .u64 s.gen, .int .i64 s.due] thT)).cell (cell?_lt d2)).trans d2
        have w1 : wrap64 ((i : Int) + 1) = (i : Int) + 1 := IntWalk.wrap64_in _ (by omega)
        have i0 : (0 : Int) ≤ (i : Int) := by omega
        have i1 : (i : Int) < (l.length : Int) := by omega
        have i2 : (i : Int) < (l2.length : Int) := by omega
        go_wp2_with fail
        refine (Hsm.out _).mono ?_
        rintro e w2 ⟨rfl, hb2⟩
        have hB : Below w.heap.size w w2 := below_on (below_on (below_on hb (below_new _ _) (Nat.le_refl _)) (below_new _ _) (Nat.le_refl _)) hb2 (Nat.le_refl _)
        cases z with
        | false =>
          go_wp2_with fail
          go_ret
          exact ⟨by rw [hri.out, Hst.out]; simp, hB⟩
        | true =>
          go_wp2_with fail
          go_roundw
          case rel => exact ⟨i + 1, by simp, by omega, (by show c = _; rw [hri.out, Hst.out]; simp), hB⟩
          case measure => simp [intOf]; omega
      · have hi' : i = l.length := by omega
        subst hi'
        go_wp2_with fail
        go_ret
        refine ⟨?_, hb⟩
        rw [hri.out, List.drop_length, Hll.out, List.drop_length]; simp
  · have h2 : (l.length : Int) ≠ (l2.length : Int) := by omega
    have hne : l ≠ l2 := fun h => hll (by rw [h])
    go_enter Try.func51, Try.ntmps51
    go_wp2
    go_ret
    exact ⟨by rw [Hc.out]; simp [hne], Below.refl _ _⟩
set_option maxRecDepth 100000 in
set_option maxHeartbeats 4000000 in
theorem dsame_any (W : World) (n1 s1 : Int) (a1 : Option Addr) (c1 : Nat) (X : List Th) (n2 s2 : Int) (a2 : Option Addr) (c2 : Nat) (Y : List Th) (hX : ThR W a1 c1 X) (hY : ThR W a2 c2 Y) (hl : X.length ≤ 1000) :
    Calls Try.prog 23 #[dsV n1 s1 a1 X.length c1, dsV n2 s2 a2 Y.length c2] W fun e W' => e = .returned (.bool (decide (n1 = n2 ∧ s1 = s2 ∧ X = Y))) ∧ Below W.heap.size W W' := by
  unfold dsV
  obtain ⟨W1, hW1⟩ : ∃ W1, W1 = W.alloc (.cells #[.int .i64 n1, .int .u64 s1, .slice a1 X.length c1] dsT) := ⟨_, rfl⟩
  obtain ⟨W2, hW2⟩ : ∃ W2, W2 = W1.alloc (.cells #[.int .i64 n2, .int .u64 s2, .slice a2 Y.length c2] dsT) := ⟨_, rfl⟩
  obtain ⟨b1, hb1⟩ : ∃ b, b = W.heap.size := ⟨_, rfl⟩
  obtain ⟨b2, hb2⟩ : ∃ b, b = W.heap.size + 1 := ⟨_, rfl⟩
  have z1 : W1.heap.size = W.heap.size + 1 := by rw [hW1]; simp
  have B1 : Below W.heap.size W W1 := by rw [hW1]; exact below_new _ _
  have B2 : Below W1.heap.size W1 W2 := by rw [hW2]; exact below_new _ _
  have hB2 := below_on B1 B2 (Nat.le_refl _)
  have t1 : W2.heap[b1]? = some (.cells #[.int .i64 n1, .int .u64 s1, .slice a1 X.length c1] dsT (0, 0)) := by
    rw [B2.block b1 (by omega), hW1, hb1]; exact heap_alloc_new _ _
  have t2 : W2.heap[b2]? = some (.cells #[.int .i64 n2, .int .u64 s2, .slice a2 Y.length c2] dsT (0, 0)) := by
    rw [hW2, hb2, ← z1]; exact heap_alloc_new _ _
  have HB2 := Lib.hid hB2
  have Hq := Lib.hid (equal13_any a1 a2 c1 c2 X Y W2 (hX.below hB2) (hY.below hB2) (by omega))
  clear z1 B1 B2 hB2 hX hY hl
  have p0 := block_cell t1 0
  have p1 := block_cell t1 1
  have p2 := block_cell t1 2
  have q0 := block_cell t2 0
  have q1 := block_cell t2 1
  have q2 := block_cell t2 2
  have l1 := (Array.getElem?_eq_some_iff.1 t1).1
  have l2 := (Array.getElem?_eq_some_iff.1 t2).1
  simp at p0 p1 p2 q0 q1 q2
  clear t1 t2
  by_cases e1 : n1 = n2
  · subst e1
    by_cases e2 : s1 = s2
    · subst e2
      have ha : decide (n1 = n1 ∧ s1 = s1 ∧ X = Y) = decide (X = Y) := by simp
      rw [ha]
      obtain ⟨z, hz⟩ : ∃ z, z = decide (X = Y) := ⟨_, rfl⟩
      rw [← hz] at Hq ⊢
      clear ha hz
      go_enter Try.func23, Try.ntmps23
      go_wp2_with fail
      rw [← hW1, ← hW2, ← hb2, ← hb1]
      clear hW1 hW2 hb1 hb2
      go_wp2_with fail
      refine (show Calls _ _ _ _ _ from Hq.out).mono ?_
      rintro e W3 ⟨rfl, hb3⟩
      go_wp2_with fail
      go_ret
      exact ⟨by cases z <;> rfl, below_on HB2.out hb3 (Nat.le_refl _)⟩
    · have ha : decide (n1 = n1 ∧ s1 = s2 ∧ X = Y) = false := by simp [e2]
      rw [ha]
      have e2b : (s1 == s2) = false := by simpa using e2
      clear ha
      go_enter Try.func23, Try.ntmps23
      go_wp2_with fail
      rw [← hW1, ← hW2, ← hb2, ← hb1]
      clear hW1 hW2 hb2
      go_wp2_with fail
      go_ret
      exact ⟨rfl, by rw [hb1]; exact HB2.out⟩
  · have ha : decide (n1 = n2 ∧ s1 = s2 ∧ X = Y) = false := by simp [e1]
    rw [ha]
    have e1b : (n1 == n2) = false := by simpa using e1
    clear ha
    go_enter Try.func23, Try.ntmps23
    go_wp2_with fail
    rw [← hW1, ← hW2, ← hb2, ← hb1]
    clear hW1 hW2 hb2
    go_wp2_with fail
    go_ret
    exact ⟨rfl, by rw [hb1]; exact HB2.out⟩
end Go.Proofs.Ytedlplkomfiahaa
namespace Go.Proofs.Ytedlplkomfiahaa
set_option linter.unusedVariables false
set_option linter.unusedSimpArgs false
set_option linter.unusedSectionVars false
open Go Go.RowKit Go.Shelf Go.Deep
theorem Us.lit13 {w : World} (xs : List Nat) (cs : Array Value) (T : TypeId) (hcs : cs.toList = xs.map fun n : Nat => Value.int .u64 (n : Int)) (hm : xs.length ≤ 1000) :
    Us (w.alloc (.cells cs T)) (some ⟨w.heap.size, 0, .none⟩) xs.length xs :=
  ⟨by simp, by omega, by unfold maxLen; omega, by simp, fun j u hu => ⟨_, 0, rfl, by
    rw [cell?_new, Nat.zero_add, ← Array.getElem?_toList, hcs]; exact hu⟩⟩
theorem ThR.keepO {W W' : World} {ao : Option Addr} {cap p : Nat} {v : Value} {l : List Th} (h : ThR W ao cap l) (hf : FrO W.heap.size p v W W') (h1 : 0 < l.length → ∀ a, ao = some a → a.block ≠ p ∧ v.ownBlock ≠ some a.block) : ThR W' ao cap l :=
  ⟨h.len, h.le, h.max, h.none, fun j u hu => by
    obtain ⟨b, off, e, hc⟩ := h.cell j u hu
    have h0 : 0 < l.length := by
      cases l with
      | nil => simp [thFlat] at hu
      | cons c l => simp
    obtain ⟨h2, h3⟩ := h1 h0 _ e
    exact ⟨b, off, e, by rw [World.cell?_of_block (w := W) (hf.block b (cell?_lt hc) h2 h3)]; exact hc⟩⟩
def thOf (a0 a1 a2 : Nat) : Th := ⟨a0, a1, a2⟩
theorem th_nats {t : Th} (h : EncT t) : ∃ a0 a1 a2 : Nat, t = thOf a0 a1 a2 := by
  obtain ⟨id, gen, due⟩ := t
  obtain ⟨h0, h1, h2⟩ := h
  simp only at h0 h1 h2
  refine ⟨id.toNat, gen.toNat, due.toNat, ?_⟩
  unfold thOf
  simp only [Int.toNat_of_nonneg h0.1, Int.toNat_of_nonneg h1.1, Int.toNat_of_nonneg h2.1]
theorem thNums_of (a0 a1 a2 : Nat) : thNums (thOf a0 a1 a2) = [a0, a1, a2] := by simp [thNums, thOf]
theorem encB_nat (m0 m1 : Nat) (l : List Th) : encB (m0 : Int) (m1 : Int) l = numB m0 ++ (numsB [m1, l.length] ++ encX l) := by simp [encB]
theorem encB_len (m0 m1 : Nat) (l : List Th) (h0 : m0 < 2 ^ 64) (h1 : m1 < 2 ^ 64) (hl : l.length ≤ 1000) (h : ∀ t ∈ l, EncT t) : (encB (m0 : Int) (m1 : Int) l).length ≤ 100000 := by
  rw [encB_nat]
  have a := numB_len m0 h0
  have b := numsB_len [m1, l.length] (by intro n hn; simp at hn; rcases hn with rfl | rfl <;> omega)
  have c := encX_len l h
  simp only [List.length_cons, List.length_nil] at b
  simp only [List.length_append]; omega
set_option maxRecDepth 100000 in
set_option maxHeartbeats 4000000 in
theorem putB_any (m0 m1 : Nat) (hm0 : m0 ≤ 1125899906842624) (hm1 : m1 < 2 ^ 64) (ao : Option Addr) (cap : Nat) (l : List Th) {W : World} {base p : Nat} {v : Value} {l0 : List UInt8} (h : Wr W base p v l0) (hns : ThR W ao cap l) (hok : ∀ t ∈ l, EncT t) (hl : l.length ≤ 1000) (hl0 : l0.length ≤ 1000)
    (hfar : 0 < l.length → ∀ a, ao = some a → a.block ≠ p ∧ v.ownBlock ≠ some a.block) :
    Calls Try.prog 24 #[.pointer (some ⟨p, 0, none⟩), dsV (m0 : Int) (m1 : Int) ao l.length cap] W (Wrote base p v (l0 ++ encB (m0 : Int) (m1 : Int) l) W) := by
  rw [encB_nat]
  unfold dsV
  have hpz := (Array.getElem?_eq_some_iff.1 h.blk).1
  have hvz := h.own.lt
  have w0 : IntKind.u64.wrap (l.length : Int) = (l.length : Int) := IntWalk.u64_in _ (by omega)
  have hle0 := numB_len m0 (by omega)
  have hle := numsB_len [m1, l.length] (by intro n hn; simp at hn; rcases hn with rfl | rfl <;> omega)
  simp at hle
  have hnum := fun (W2 : World) (v2 : Value) (cap2 : Nat) (ad : Addr) (h2 : Wr W2 base p v2 (l0 ++ numB m0)) (hus : Us W2 (some ad) cap2 [m1, l.length]) (hf : ad.block ≠ p ∧ v2.ownBlock ≠ some ad.block) =>
    num_any [m1, l.length] (by intro n hn; simp at hn; rcases hn with rfl | rfl <;> omega) (some ad) cap2 h2 (by simp; omega) hus (fun a e => by cases e; exact hf)
  have Hnum := Lib.hid hnum
  have hint := fun (W2 : World) (ad : Addr) (h2 : Wr W2 base p v l0) (hc : W2.cell? ad = some (.int .i64 (m0 : Int))) => wint_any m0 (by omega) ad 1 h2 (by omega) hc
  have Hint := Lib.hid hint
  have Hle := Lib.hid hle
  have Hle0 := Lib.hid hle0
  obtain ⟨W1, hW1⟩ : ∃ W1, W1 = W.alloc (.cells #[.int .i64 (m0 : Int), .int .u64 (m1 : Int), .slice ao l.length cap] dsT) := ⟨_, rfl⟩
  have hb1 : Below W.heap.size W W1 := by rw [hW1]; exact below_new _ _
  have k1 : W1.heap[W.heap.size]? = _ := (congrArg (fun z : World => z.heap[W.heap.size]?) hW1).trans (heap_alloc_new _ _)
  have e1 : W1.heap.size = W.heap.size + 1 := by rw [hW1]; simp
  have k1z := (Array.getElem?_eq_some_iff.1 k1).1
  obtain ⟨p0, p1, p2⟩ := (⟨block_cell k1 0, block_cell k1 1, block_cell k1 2⟩ : W1.cell? ⟨W.heap.size, 0, none⟩ = some (.int .i64 (m0 : Int)) ∧ W1.cell? ⟨W.heap.size, 1, none⟩ = some (.int .u64 (m1 : Int)) ∧ W1.cell? ⟨W.heap.size, 2, none⟩ = some (.slice ao l.length cap))
  clear hnum hint hle hle0 hm0 hm1
  have E1 := Lib.hid e1
  clear e1
  go_enter Try.func24, Try.ntmps24
  go_wp2_with fail
  rw [← hW1]
  clear hW1
  go_wp2_with fail
  obtain ⟨W2, hW2⟩ : ∃ W2, W2 = W1.alloc (.cells #[.int .i64 (m0 : Int)] 2) := ⟨_, rfl⟩
  have hc2 : W2.cell? ⟨W.heap.size + 1, 0, none⟩ = some (.int .i64 (m0 : Int)) := by rw [hW2, ← E1.out, cell?_new]; rfl
  have hb2 : Below W1.heap.size W1 W2 := by rw [hW2]; exact below_new _ _
  have k2 := (hb2.block _ k1z).trans k1
  have hB2 := below_on hb1 hb2 (Nat.le_refl _)
  have hz2 : W.heap.size + 1 ≤ W2.heap.size := by have := hb2.size; have := E1.out; omega
  rw [← hW2]
  clear hW2 p0 p1 p2 k1
  refine (Hint.out W2 _ (h.below hB2) hc2).mono ?_
  rintro e W3 ⟨rfl, v3, hwr3, hfr3, hv3⟩
  have k3 := (hfr3.block W.heap.size (by omega) (by omega) (fun e => by have := (hvz _ e).2; omega)).trans k2
  have k3z := (Array.getElem?_eq_some_iff.1 k3).1
  have hF3 := ((FrO.refl W.heap.size p v W).below hB2 (Nat.le_refl _)).next hfr3 (by omega) (fun k hk => .inl hk)
  have hV3 : ∀ q, v3.ownBlock = some q → v.ownBlock = some q ∨ W2.heap.size ≤ q := hv3
  obtain ⟨p0, p1, p2⟩ := (⟨block_cell k3 0, block_cell k3 1, block_cell k3 2⟩ : W3.cell? ⟨W.heap.size, 0, none⟩ = some (.int .i64 (m0 : Int)) ∧ W3.cell? ⟨W.heap.size, 1, none⟩ = some (.int .u64 (m1 : Int)) ∧ W3.cell? ⟨W.heap.size, 2, none⟩ = some (.slice ao l.length cap))
  have hsz3 := hfr3.size
  clear hfr3 hv3 hb2 k2 Hint hc2
  go_wp2_with fail
  obtain ⟨W4, hW4⟩ : ∃ W4, W4 = W3.alloc (.cells #[.int .u64 (m1 : Int), .int .u64 (l.length : Int)] 28) := ⟨_, rfl⟩
  have hus : Us W4 (some ⟨W3.heap.size, 0, none⟩) 2 [m1, l.length] := by rw [hW4]; exact Us.lit13 [m1, l.length] #[.int .u64 (m1 : Int), .int .u64 (l.length : Int)] _ rfl (by simp)
  have hb4 : Below W3.heap.size W3 W4 := by rw [hW4]; exact below_new _ _
  have k4 := (hb4.block _ k3z).trans k3
  have hF4 := hF3.below hb4 hF3.size
  rw [← hW4]
  clear hW4 p0 p1 p2 k3
  have hv3lt := hwr3.own.lt
  have hwr4 := hwr3.below hb4
  have hp3 := (Array.getElem?_eq_some_iff.1 hwr3.blk).1
  refine (Hnum.out W4 v3 2 _ hwr4 hus ⟨by simp only; omega, fun e => by have := (hv3lt _ e).2; simp only at this; omega⟩).mono ?_
  rintro e W5 ⟨rfl, v5, hwr5, hfr5, hv5⟩
  have hsz4 := hb4.size
  have k5 := (hfr5.block W.heap.size (by omega) (by omega) (fun e => by
    rcases hV3 _ e with h1 | h1
    · have := (hvz _ h1).2; omega
    · omega)).trans k4
  have hF5 := hF4.next hfr5 (by omega) (fun k hk => (hV3 k hk).imp_right (fun x => by omega))
  have hV5 : ∀ q, v5.ownBlock = some q → v.ownBlock = some q ∨ W.heap.size ≤ q := fun q hq => by
    rcases hv5 q hq with h1 | h1
    · exact (hV3 q h1).imp_right (fun x => by omega)
    · exact .inr (by omega)
  obtain ⟨p0, p1, p2⟩ := (⟨block_cell k5 0, block_cell k5 1, block_cell k5 2⟩ : W5.cell? ⟨W.heap.size, 0, none⟩ = some (.int .i64 (m0 : Int)) ∧ W5.cell? ⟨W.heap.size, 1, none⟩ = some (.int .u64 (m1 : Int)) ∧ W5.cell? ⟨W.heap.size, 2, none⟩ = some (.slice ao l.length cap))
  clear hfr5 hv5 hus hb4 k4 Hnum hF3 hF4 hwr3 hwr4 hV3
  go_wp2_with fail
  go_loopw [23] (fun a wr => ∃ (i : Nat) (v' : Value) (l' : List UInt8), a = .int .i64 i ∧ i ≤ l.length ∧ Hid (l' = l0 ++ (numB m0 ++ (numsB [m1, l.length] ++ encX (l.take i)))) ∧ Wr wr base p v' l' ∧ FrO W.heap.size p v W wr ∧ (∀ q, v'.ownBlock = some q → v.ownBlock = some q ∨ W.heap.size ≤ q)) (fun a _ => l.length - (intOf a).toNat)
  case atStart => exact ⟨0, v5, _, rfl, by omega, by show _ = _; simp [encX], hwr5, hF5, hV5⟩
  case round =>
    clear p0 p1 p2 k5 hF5 hV5 hwr5 k1z E1 hz2 hB2 hb1
    obtain ⟨i, v', l', rfl, hi, hl', hwr, hfr, hv⟩ := hrel
    by_cases hlt : i < l.length
    · have hns2 := hns.keepO hfr hfar
      obtain ⟨b, off, rfl, hbz, hc0, hc1, hc2⟩ := hns2.cells i hlt
      have hoki := hok l[i] (List.getElem_mem hlt)
      have hstep := encX_take l i hlt
      have hlen := encX_len (l.take i) (fun n hn => hok n (List.mem_of_mem_take hn))
      have hlen2 : l'.length ≤ 100000 := by
        rw [hl'.out]
        have := Hle.out
        have := Hle0.out
        have h3 : (l.take i).length ≤ 1000 := by simp; omega
        simp only [List.length_append]; omega
      obtain ⟨n, hn⟩ : ∃ n, n = l[i] := ⟨_, rfl⟩
      rw [← hn] at hc0 hc1 hc2 hoki hstep
      clear hn hlen
      obtain ⟨a0, a1, a2, rfl⟩ := th_nats hoki
      have hnn := thNums_lt hoki
      unfold encT at hstep
      rw [thNums_of] at hnn hstep
      have w2 : IntKind.u64.wrap (a2 : Int) = (a2 : Int) := IntWalk.u64_in _ (by have := hnn a2 (by simp); omega)
      have hnum := fun (W2 : World) (ad : Addr) (h2 : Wr W2 base p v' l') (hus : Us W2 (some ad) 3 [a0, a1, a2]) (hf : ad.block ≠ p ∧ v'.ownBlock ≠ some ad.block) =>
        num_any [a0, a1, a2] hnn (some ad) 3 h2 (by simp; omega) hus (fun a e => by cases e; exact hf)
      have Hnum := Lib.hid hnum
      have Hstep := Lib.hid hstep
      clear hnum hnn hstep hoki
      simp only [thOf] at hc0 hc1 hc2
      have i0 : (0 : Int) ≤ (i : Int) := by omega
      have i1 : (i : Int) < (l.length : Int) := by omega
      go_wp2_with fail
      obtain ⟨W5, hW5⟩ : ∃ W5, W5 = wr.alloc (.cells #[.int .u64 (a0 : Int), .int .u64 (a1 : Int), .int .i64 (a2 : Int)] thT) := ⟨_, rfl⟩
      have hb5 : Below wr.heap.size wr W5 := by rw [hW5]; exact below_new _ _
      have e5 : W5.heap.size = wr.heap.size + 1 := by rw [hW5]; simp
      obtain ⟨W6, hW6⟩ : ∃ W6, W6 = W5.alloc (.cells #[.int .u64 (a0 : Int), .int .u64 (a1 : Int), .int .u64 (a2 : Int)] 28) := ⟨_, rfl⟩
      have hb6 : Below wr.heap.size wr W6 := by rw [hW6]; exact below_on hb5 (below_new _ _) (Nat.le_refl _)
      have hus : Us W6 (some ⟨W5.heap.size, 0, none⟩) 3 [a0, a1, a2] := by rw [hW6]; exact Us.lit13 [a0, a1, a2] #[.int .u64 (a0 : Int), .int .u64 (a1 : Int), .int .u64 (a2 : Int)] _ rfl (by simp)
      rw [e5] at hus
      rw [← hW5, ← hW6]
      clear hW5 hW6 e5 hb5 hc0 hc1 hc2
      have hpz' := (Array.getElem?_eq_some_iff.1 hwr.blk).1
      refine (Hnum.out W6 _ (hwr.below hb6) hus ⟨by simp only; omega, fun e => by have := (hwr.own.lt _ e).2; simp only at this; omega⟩).mono ?_
      rintro e W7 ⟨rfl, v7, hwr7, hfr7, hv7⟩
      have hsz6 := hb6.size
      have hszr := hfr.size
      have hF7 := (hfr.below hb6 hszr).next hfr7 (by omega) hv
      have hV7 : ∀ q, v7.ownBlock = some q → v.ownBlock = some q ∨ W.heap.size ≤ q := fun q hq => by
        rcases hv7 q hq with h1 | h1
        · exact hv q h1
        · exact .inr (by omega)
      have hl7 : Hid (l' ++ numsB [a0, a1, a2] = l0 ++ (numB m0 ++ (numsB [m1, l.length] ++ encX (l.take (i + 1))))) := by show _ = _; rw [hl'.out, Hstep.out]; simp only [List.append_assoc]
      clear hus Hnum hfr7 hv7
      go_wp2_with fail
      go_roundw
      case rel => exact ⟨i + 1, v7, _, by simp, by omega, hl7, hwr7, hF7, hV7⟩
      case measure => simp [intOf]; omega
    · have hi' : i = l.length := by omega
      subst hi'
      have hfin : l' = l0 ++ (numB m0 ++ (numsB [m1, l.length] ++ encX l)) := by rw [hl'.out, List.take_length]
      subst hfin
      go_wp2_with fail
      refine bodyPost_ret (v := .tuple #[]) (by simp [results, Try.results24, go_sem]) rfl ?_
      exact ⟨rfl, v', hwr, hfr, hv⟩
end Go.Proofs.Ytedlplkomfiahaa
namespace Go.Proofs.Ytedlplkomfiahaa
set_option linter.unusedVariables false
set_option linter.unusedSimpArgs false
set_option linter.unusedSectionVars false
open Go Go.RowKit Go.Shelf Go.Deep
theorem le_app9 {a b i n k : Nat} (h : a ≤ 27 + 27 * i + k) (hb : b ≤ 9) (hi : i ≤ n) (hn : n ≤ 1000) (hk : k ≤ 100) : a + b ≤ 140737488355328 := by omega
theorem le_app18 {a b i k : Nat} (h : a ≤ 27 + 27 * i + k) (hb : b ≤ 9) : a + b ≤ 27 + 27 * i + (k + 9) := by omega
abbrev u8s13 (l : List UInt8) : List Value := l.map u8
set_option maxRecDepth 100000 in
set_option maxHeartbeats 8000000 in
theorem refPutB_any (m0 m1 : Nat) (hm0 : m0 ≤ 1125899906842624) (hm1 : m1 < 2 ^ 64) (ao : Option Addr) (cap : Nat) (l : List Th) (W : World) (hns : Rt W ao cap (slot0 l)) (hok : ∀ t ∈ l, EncT t) (hl : l.length ≤ 1000) :
    Calls Try.prog 28 #[dsV (m0 : Int) (m1 : Int) ao l.length cap] W fun e W' => ∃ ao2 cap2 l2, e = .returned (.slice ao2 l2.length cap2) ∧ l2 = encB (m0 : Int) (m1 : Int) l ∧ W'.ownsRow W.heap.size 5 1 (.slice ao2 l2.length cap2) l2.length (l2.map u8) ∧ Below W.heap.size W W' := by
  rw [encB_nat]
  unfold dsV
  have w0 : IntKind.u64.wrap (l.length : Int) = (l.length : Int) := IntWalk.u64_in _ (by omega)
  have hA := refIntB_any m0 (by omega)
  have hB := refNumB_any m1 hm1
  have hC := refNumB_any l.length (by omega)
  have hAl := numB_len m0 (by omega)
  have hBl := numB_len m1 hm1
  have hCl := numB_len l.length (by omega)
  have hE : numB m0 ++ (numsB [m1, l.length] ++ encX l) = numB m0 ++ numB m1 ++ numB l.length ++ encX l := by simp [numsB]
  rw [hE]
  obtain ⟨na, hna⟩ : ∃ na, na = numB m0 := ⟨_, rfl⟩
  obtain ⟨nb, hnb⟩ : ∃ nb, nb = numB m1 := ⟨_, rfl⟩
  obtain ⟨nc, hnc⟩ : ∃ nc, nc = numB l.length := ⟨_, rfl⟩
  simp only [← hna, ← hnb, ← hnc] at hA hB hC hAl hBl hCl ⊢
  clear hna hnb hnc hm0 hm1 hE
  have HA := Lib.hid hA
  have HB := Lib.hid hB
  have HC := Lib.hid hC
  clear hA hB hC
  obtain ⟨W1, hW1⟩ : ∃ W1, W1 = W.alloc (.cells #[.int .i64 (m0 : Int), .int .u64 (m1 : Int), .slice ao l.length cap] rsT) := ⟨_, rfl⟩
  have hb1 : Below W.heap.size W W1 := by rw [hW1]; exact below_new _ _
  have k1 : W1.heap[W.heap.size]? = _ := (congrArg (fun z : World => z.heap[W.heap.size]?) hW1).trans (heap_alloc_new _ _)
  have hz1 := hb1.size
  have hk : ∀ W' : World, Below W1.heap.size W1 W' → W'.heap[W.heap.size]? = some (.cells #[.int .i64 (m0 : Int), .int .u64 (m1 : Int), .slice ao l.length cap] rsT (0, 0)) := fun W' hw => (hw.block _ (Array.getElem?_eq_some_iff.1 k1).1).trans k1
  have Hk := Lib.hid hk
  have p0 := block_cell k1 0
  have p1 := block_cell k1 1
  have p2 := block_cell k1 2
  simp at p0 p1 p2
  clear hk k1
  go_enter Try.func28, Try.ntmps28
  go_wp2_with fail
  rw [← hW1]
  clear hW1
  go_wp2_with fail
  refine (HA.out W1).mono ?_
  rintro e V0 ⟨a0, c0, rfl, ho0, hb0⟩
  have kk := Hk.out V0 hb0
  have p0 := block_cell kk 0
  have p1 := block_cell kk 1
  have p2 := block_cell kk 2
  simp at p0 p1 p2
  clear kk
  go_wp2_with fail
  refine (HB.out V0).mono ?_
  rintro e V1 ⟨a1, c1, rfl, ho1, hb1'⟩
  have how := own_below ho0 hb1'
  have hB1 := below_on hb0 hb1' (Nat.le_refl _)
  clear ho0 hb0 p0 p1 p2
  go_wp2_with (at_builtin; refine wpl_append_bs rfl (.tmp 8) (.tmp 11) 64 rfl W1.heap.size 5 infoUB Try.underlying64 _ _ na rfl how _ _ nb rfl (Bs.of_own ho1) ?_ ?_ ?_; omega; (exact hB1.size); intro ao8 cap8 l8 W8 hl8 hown8 hg8; have hB8 := below_app hB1 hg8 how (Nat.le_refl _) hB1.size; have kk := Hk.out W8 hB8; have p0 := block_cell kk 0; have p1 := block_cell kk 1; have p2 := block_cell kk 2; simp at p0 p1 p2)
  refine (HC.out W8).mono ?_
  rintro e V2 ⟨a2, c2, rfl, ho2, hb2⟩
  have how2 := own_below hown8 hb2
  have hB2 := below_on hB8 hb2 (Nat.le_refl _)
  have hl8n : l8.length ≤ 18 := by rw [hl8.out]; simp; omega
  clear hown8 p0 p1 p2 kk how hg8 hB1 hb1'
  go_wp2_with (at_builtin; refine wpl_append_bs rfl (.tmp 13) (.tmp 18) 64 rfl W1.heap.size 5 infoUB Try.underlying64 _ _ l8 rfl how2 _ _ nc rfl (Bs.of_own ho2) ?_ ?_ ?_; omega; (exact hB2.size); intro ao9 cap9 l9 W9 hl9 hown9 hg9; have hB9 := below_app hB2 hg9 how2 (Nat.le_refl _) hB2.size)
  have hl9e : Hid (l9 = na ++ nb ++ nc) := by show _ = _; rw [hl9.out, hl8.out]
  have hl9n : l9.length ≤ 27 := by rw [hl9.out]; simp; omega
  clear hl9 hl8 hg9 how2 hB2 ho2 hb2 hl8n
  go_loopw [3, 4] (fun b a wr => ∃ (i : Nat) (ao' : Option Addr) (cap' : Nat) (l' : List UInt8), a = .int .i64 i ∧ b = .slice ao' l'.length cap' ∧ i ≤ l.length ∧ Hid (l' = na ++ nb ++ nc ++ encX (l.take i)) ∧ l'.length ≤ 27 + 27 * i ∧ wr.ownsRow W1.heap.size 5 1 (.slice ao' l'.length cap') l'.length (u8s13 l') ∧ Below W1.heap.size W1 wr) (fun _ a _ => l.length - (intOf a).toNat)
  case atStart => exact ⟨0, ao9, cap9, l9, rfl, rfl, by omega, by show _ = _; rw [hl9e.out]; simp [encX], by omega, hown9, hB9⟩
  case round =>
    clear hl9e hl9n hown9 hB9 hAl hBl hCl
    obtain ⟨i, ao', cap', l', rfl, rfl, hi, hl', hl'n, hown, hB⟩ := hrel
    by_cases hlt : i < l.length
    · obtain ⟨b, off, rfl, hbz, d0, d1, d2, -⟩ := rx_cells (hns.below hb1) i hlt
      have hoki := hok l[i] (List.getElem_mem hlt)
      have hstep := encX_take l i hlt
      obtain ⟨n, hn⟩ : ∃ n, n = l[i] := ⟨_, rfl⟩
      rw [← hn] at d0 d1 d2 hoki hstep
      clear hn
      obtain ⟨x0, x1, x2, rfl⟩ := th_nats hoki
      have hnn := thNums_lt hoki
      unfold encT at hstep
      rw [thNums_of] at hnn hstep
      simp only [thOf] at d0 d1 d2
      have h0 := hnn x0 (by simp)
      have h1 := hnn x1 (by simp)
      have h2 := hnn x2 (by simp)
      have w2 : IntKind.u64.wrap (x2 : Int) = (x2 : Int) := IntWalk.u64_in _ (by omega)
      have e3 : numsB [x0, x1, x2] = numB x0 ++ numB x1 ++ numB x2 := by simp [numsB]
      rw [e3] at hstep
      have hX := refNumB_any x0 h0
      have hY := refNumB_any x1 h1
      have hZ := refNumB_any x2 h2
      have hXl := numB_len x0 h0
      have hYl := numB_len x1 h1
      have hZl := numB_len x2 h2
      obtain ⟨nx, hnx⟩ : ∃ n, n = numB x0 := ⟨_, rfl⟩
      obtain ⟨ny, hny⟩ : ∃ n, n = numB x1 := ⟨_, rfl⟩
      obtain ⟨nz, hnz⟩ : ∃ n, n = numB x2 := ⟨_, rfl⟩
      simp only [← hnx, ← hny, ← hnz] at hX hY hZ hXl hYl hZl hstep
      have HX := Lib.hid hX
      have HY := Lib.hid hY
      have HZ := Lib.hid hZ
      have Hstep := Lib.hid hstep
      have HXl := Lib.hid hXl
      have HYl := Lib.hid hYl
      have HZl := Lib.hid hZl
      have Hln := Lib.hid hl'n
      clear hXl hYl hZl hl'n
      clear hnx hny hnz hX hY hZ hstep hnn h0 h1 h2 hoki e3
      have i0 : (0 : Int) ≤ (i : Int) := by omega
      have i1 : (i : Int) < (l.length : Int) := by omega
      have i2 : wrap64 ((i : Int) + 1) = (i : Int) + 1 := IntWalk.wrap64_in _ (by omega)
      have hcs : ∀ W', Below W1.heap.size W1 W' → (W'.cell? ⟨W.heap.size, 2, none⟩ = some (.slice (some ⟨b, off, none⟩) l.length cap) ∧ W'.cell? ⟨b, off + i * 4, none⟩ = some (.int .u64 (x0 : Int)) ∧ W'.cell? ⟨b, off + i * 4 + 1, none⟩ = some (.int .u64 (x1 : Int)) ∧ W'.cell? ⟨b, off + i * 4 + 2, none⟩ = some (.int .i64 (x2 : Int))) := fun W' hw => by
        have kk := block_cell (Hk.out W' hw) 2
        simp at kk
        exact ⟨kk, (hw.cell (p := ⟨b, off + i * 4, none⟩) hbz).trans d0, (hw.cell (p := ⟨b, off + i * 4 + 1, none⟩) hbz).trans d1, (hw.cell (p := ⟨b, off + i * 4 + 2, none⟩) hbz).trans d2⟩
      have Hcs := Lib.hid hcs
      clear hcs d0 d1 d2 hbz
      obtain ⟨q2, r0, r1, r2⟩ := Hcs.out wr hB
      go_wp2_with fail
      refine (HX.out _).mono ?_
      rintro e V3 ⟨a3, c3, rfl, ho3, hb3⟩
      have how3 := own_below hown hb3
      have hB3 := below_on hB hb3 (Nat.le_refl _)
      clear q2 r0 r1 r2
      go_wp2_with (at_builtin; refine wpl_append_bs rfl (.tmp 27) (.tmp 34) 64 rfl W1.heap.size 5 infoUB Try.underlying64 _ _ l' rfl how3 _ _ nx rfl (Bs.of_own ho3) ?_ ?_ ?_; (exact le_app9 (k := 0) Hln.out HXl.out hi hl (by decide)); (exact hB3.size); intro aq3 capq3 m3 X3 hm3 hown3 hg3; have hBX3 := below_app hB3 hg3 how3 (Nat.le_refl _) hB3.size; obtain ⟨q2, r0, r1, r2⟩ := Hcs.out X3 hBX3)
      have hmn3 : Hid (m3.length ≤ 27 + 27 * i + (0 + 9)) := by show _ ≤ _; rw [hm3.out, List.length_append]; exact le_app18 Hln.out HXl.out
      refine (HY.out _).mono ?_
      rintro e V4 ⟨a4, c4, rfl, ho4, hb4⟩
      have how4 := own_below hown3 hb4
      have hB4 := below_on hBX3 hb4 (Nat.le_refl _)
      clear q2 r0 r1 r2
      go_wp2_with (at_builtin; refine wpl_append_bs rfl (.tmp 36) (.tmp 43) 64 rfl W1.heap.size 5 infoUB Try.underlying64 _ _ m3 rfl how4 _ _ ny rfl (Bs.of_own ho4) ?_ ?_ ?_; (exact le_app9 hmn3.out HYl.out hi hl (by decide)); (exact hB4.size); intro aq4 capq4 m4 X4 hm4 hown4 hg4; have hBX4 := below_app hB4 hg4 how4 (Nat.le_refl _) hB4.size; obtain ⟨q2, r0, r1, r2⟩ := Hcs.out X4 hBX4)
      have hmn4 : Hid (m4.length ≤ 27 + 27 * i + (0 + 9 + 9)) := by show _ ≤ _; rw [hm4.out, List.length_append]; exact le_app18 hmn3.out HYl.out
      refine (HZ.out _).mono ?_
      rintro e V5 ⟨a5, c5, rfl, ho5, hb5⟩
      have how5 := own_below hown4 hb5
      have hB5 := below_on hBX4 hb5 (Nat.le_refl _)
      clear q2 r0 r1 r2
      go_wp2_with (at_builtin; refine wpl_append_bs rfl (.tmp 45) (.tmp 53) 64 rfl W1.heap.size 5 infoUB Try.underlying64 _ _ m4 rfl how5 _ _ nz rfl (Bs.of_own ho5) ?_ ?_ ?_; (exact le_app9 hmn4.out HZl.out hi hl (by decide)); (exact hB5.size); intro aq5 capq5 m5 X5 hm5 hown5 hg5; have hBX5 := below_app hB5 hg5 how5 (Nat.le_refl _) hB5.size; obtain ⟨q2, r0, r1, r2⟩ := Hcs.out X5 hBX5)
      have hmn5 : m5.length ≤ 27 + 27 * (i + 1) := by rw [hm5.out, List.length_append]; have := le_app18 hmn4.out HZl.out; rw [Nat.mul_add]; exact this
      have hm5e : Hid (m5 = na ++ nb ++ nc ++ encX (l.take (i + 1))) := by show _ = _; rw [hm5.out, hm4.out, hm3.out, hl'.out, Hstep.out]; simp only [List.append_assoc]
      go_roundw
      case rel => exact ⟨i + 1, aq5, capq5, m5, by simp, rfl, by omega, hm5e, hmn5, hown5, hBX5⟩
      case measure => simp [intOf]; omega
    · have hi' : i = l.length := by omega
      subst hi'
      have hfin : l' = na ++ nb ++ nc ++ encX l := by rw [hl'.out, List.take_length]
      have kk := Hk.out wr hB
      have q2 := block_cell kk 2
      simp at q2
      clear kk
      go_wp2_with fail
      go_ret
      exact ⟨ao', cap', l', rfl, hfin, own_base hown hz1, below_on hb1 hB (Nat.le_refl _)⟩
end Go.Proofs.Ytedlplkomfiahaa
namespace Go.Proofs.Ytedlplkomfiahaa
set_option linter.unusedVariables false
set_option linter.unusedSimpArgs false
set_option linter.unusedSectionVars false
open Go Go.RowKit Go.Shelf Go.Deep
theorem own_elem13 {w : World} {base e k n : Nat} {v : Value} {xs : List Value} (h : w.ownsRow base e k v n xs) (g : Nat) (hg : v.ownBlock = some g) : elem? w g = some e := by
  rcases h.2 with ⟨hv, -⟩ | ⟨g', cap, cur, hv, hb, hh, -⟩
  · rw [hv] at hg; simp [Value.ownBlock] at hg
  · rw [hv] at hg; simp [Value.ownBlock] at hg; subst hg; exact elem?_of hh
theorem readI_len (l : List UInt8) (bad : Bool) : (readI l bad).2.1.length ≤ l.length := by
  unfold readI readM
  split
  · simp
  · split
    · simp
    · split
      · simp
      · simp; omega
/-- bytes that lie below B -/
def Low13 (B : Nat) (l : List UInt8) (ao : Option Addr) : Prop := 0 < l.length → ∀ a, ao = some a → a.block < B
theorem Low13.less {B : Nat} {l l' : List UInt8} {ao ao' : Option Addr} (h : Low13 B l ao) (hl : l'.length ≤ l.length) (hs : SameBlk ao ao') : Low13 B l' ao' := fun h0 a' e => by
  obtain ⟨a, e1, e2⟩ := hs a' e
  rw [← e2]
  exact h (by omega) a e1
theorem Low13.of {W : World} {ao : Option Addr} {cap : Nat} {l : List UInt8} (h : Bs W ao cap l) : Low13 W.heap.size l ao := fun h0 a e => by
  obtain ⟨b, off, e2, hc⟩ := h.get 0 h0
  rw [e] at e2
  cases e2
  exact cell?_lt hc
/-- a reader under way: it and its bytes lie below B -/
structure RdU (T : TypeId) (B : Nat) (W : World) (p : Nat) (ao : Option Addr) (cap : Nat) (l : List UInt8) (bad : Bool) : Prop where
  rd : Rd T W p ao cap l bad
  low : Low13 B l ao
  pp : p < B
theorem RdU.above {w w' : World} {Tr : TypeId} {p B : Nat} {ao : Option Addr} {cap : Nat} {l : List UInt8} {bad : Bool} (h : RdU Tr B w p ao cap l bad) (hk : ∀ k, k < B → w'.heap[k]? = w.heap[k]?) : RdU Tr B w' p ao cap l bad :=
  ⟨⟨(hk p h.pp).trans h.rd.blk, ⟨h.rd.bs.len, h.rd.bs.le, h.rd.bs.max, h.rd.bs.none, fun j v hv => by
    obtain ⟨b, off, e, hc⟩ := h.rd.bs.cell j v hv
    have h0 : 0 < l.length := by
      cases l with
      | nil => simp at hv
      | cons c l => simp
    exact ⟨b, off, e, by rw [World.cell?_of_block (w := w) (hk b (h.low h0 _ e))]; exact hc⟩⟩⟩, h.low, h.pp⟩
theorem RdU.num {w w' : World} {Tr : TypeId} {p B most x : Nat} {ao ao' : Option Addr} {cap cap' : Nat} {l l' : List UInt8} {bad bad' : Bool} (h : RdU Tr B w p ao cap l bad) (hE : (x, l', bad') = readN most l bad) (hr : Rd Tr w' p ao' cap' l' bad') (hs : SameBlk ao ao') : RdU Tr B w' p ao' cap' l' bad' :=
  ⟨hr, h.low.less (by have := readN_len most l bad; rw [← hE] at this; exact this) hs, h.pp⟩
theorem RdU.int {w w' : World} {Tr : TypeId} {p B : Nat} {x : Int} {ao ao' : Option Addr} {cap cap' : Nat} {l l' : List UInt8} {bad bad' : Bool} (h : RdU Tr B w p ao cap l bad) (hE : (x, l', bad') = readI l bad) (hr : Rd Tr w' p ao' cap' l' bad') (hs : SameBlk ao ao') : RdU Tr B w' p ao' cap' l' bad' :=
  ⟨hr, h.low.less (by have := readI_len l bad; rw [← hE] at this; exact this) hs, h.pp⟩
theorem grown_new13 {W w1 w2 : World} {p N : Nat} (h : W.grownBy w1 (some p)) (hg : w1.grownBy w2 (some N)) (hN : W.heap.size ≤ N) : W.grownBy w2 (some p) :=
  ⟨hg.os.trans h.os, hg.tape.trans h.tape, hg.output.trans h.output, Nat.le_trans h.size hg.size, fun k hk hne => (hg.block k (by have := h.size; omega) (by simp; omega)).trans (h.block k hk hne)⟩
/-- the memory of a Read under way: the result's block, the state's block with its row -/
structure RB (E k : Nat) (TS : TypeId) (W0 wr : World) (p R S : Nat) (x y : Int) (ao : Option Addr) (n cap : Nat) (cs : List Value) : Prop where
  r : wr.heap[R]? = some (.cells #[.int .i64 0, .int .u64 0, .slice none 0 0] TS (0, 0))
  s : wr.heap[S]? = some (.cells #[.int .i64 x, .int .u64 y, .slice ao n cap] TS (0, 0))
  own : wr.ownsRow W0.heap.size E k (.slice ao n cap) n cs
  fr : W0.grownBy wr (some p)
  rp : W0.heap.size ≤ R
  sp : W0.heap.size ≤ S
  pp : p < W0.heap.size
  rs : R ≠ S
  far : TS ≠ E
variable {E k : Nat} {TS : TypeId} {W0 wr w' : World} {p R S : Nat} {x y : Int} {ao : Option Addr} {n cap : Nat} {cs : List Value}
theorem RB.grown (h : RB E k TS W0 wr p R S x y ao n cap cs) (hg : wr.grownBy w' (some p)) : RB E k TS W0 w' p R S x y ao n cap cs :=
  have hp := h.pp
  have hr := h.rp
  have hs := h.sp
  ⟨(hg.block R (Array.getElem?_eq_some_iff.1 h.r).1 (by simp; omega)).trans h.r, (hg.block S (Array.getElem?_eq_some_iff.1 h.s).1 (by simp; omega)).trans h.s, h.own.kept hg (by
    cases ho : (Value.slice ao n cap).ownBlock with
    | none => exact .inl rfl
    | some g => exact .inr (fun e => by have := (h.own.lt g ho).1; simp at e; omega)), grown_trans h.fr hg, h.rp, h.sp, h.pp, h.rs, h.far⟩
theorem RB.below (h : RB E k TS W0 wr p R S x y ao n cap cs) (hb : Below wr.heap.size wr w') : RB E k TS W0 w' p R S x y ao n cap cs := h.grown (grown_below hb)
/-- a store in another block of the call's own -/
theorem RB.other {N : Nat} (h : RB E k TS W0 wr p R S x y ao n cap cs) (hg : wr.grownBy w' (some N)) (hN : W0.heap.size ≤ N) (hr : N ≠ R) (hs : N ≠ S) (ho : (Value.slice ao n cap).ownBlock ≠ some N) : RB E k TS W0 w' p R S x y ao n cap cs :=
  ⟨(hg.block R (Array.getElem?_eq_some_iff.1 h.r).1 (by simp; omega)).trans h.r, (hg.block S (Array.getElem?_eq_some_iff.1 h.s).1 (by simp; omega)).trans h.s, h.own.kept hg (.inr ho), grown_new13 h.fr hg hN, h.rp, h.sp, h.pp, h.rs, h.far⟩
theorem RB.noRow (h : RB E k TS W0 wr p R S x y ao n cap cs) {b : Nat} {c : Array Value} {T : TypeId} (hb : wr.heap[b]? = some (.cells c T (0, 0))) (hT : T ≠ E) : (Value.slice ao n cap).ownBlock ≠ some b := fun e => by
  have := own_elem13 h.own b e
  rw [elem?_of hb] at this
  exact hT (by simpa using this)
/-- behind an append to the row: what stands, and what the store makes of it -/
theorem RB.push {w1 : World} {ao2 : Option Addr} {n2 cap2 : Nat} {cs2 : List Value} (h : RB E k TS W0 wr p R S x y ao n cap cs)
    (ho : w1.ownsRow W0.heap.size E k (.slice ao2 n2 cap2) n2 cs2) (hg : wr.grownBy w1 (Value.slice ao n cap).ownBlock) :
    w1.heap[S]? = some (.cells #[.int .i64 x, .int .u64 y, .slice ao n cap] TS (0, 0)) ∧ RB E k TS W0 (w1.setCell ⟨S, 2, none⟩ (.slice ao2 n2 cap2)) p R S x y ao2 n2 cap2 cs2 := by
  have hnS := h.noRow h.s h.far
  have hnR := h.noRow h.r h.far
  have hSz := (Array.getElem?_eq_some_iff.1 h.s).1
  have hRz := (Array.getElem?_eq_some_iff.1 h.r).1
  have s1 := (hg.block S hSz (fun e => hnS e.symm)).trans h.s
  have r1 := (hg.block R hRz (fun e => hnR e.symm)).trans h.r
  have s2 := block_set s1 2 (.slice ao2 n2 cap2)
  simp only [List.setIfInBounds_toArray, List.set_cons_zero, List.set_cons_succ] at s2
  have hgs := grown_set w1 S 2 (.slice ao2 n2 cap2)
  have hrs := h.rs
  have hpp := h.pp
  have hsp := h.sp
  have hS2 : (Value.slice ao2 n2 cap2).ownBlock ≠ some S := fun e => by
    have := own_elem13 ho S e
    rw [elem?_of s1] at this
    exact h.far (by simpa using this)
  refine ⟨s1, (hgs.block R (by have := hg.size; omega) (by simp; omega)).trans r1, s2, ho.kept hgs (.inr hS2), ?_, h.rp, h.sp, h.pp, h.rs, h.far⟩
  refine ⟨hg.os.trans h.fr.os, hg.tape.trans h.fr.tape, hg.output.trans h.fr.output, Nat.le_trans h.fr.size (Nat.le_trans hg.size hgs.size), fun j hj hne2 => ?_⟩
  refine (hgs.block j (by have := h.fr.size; have := hg.size; omega) (by simp; omega)).trans ((hg.block j (by have := h.fr.size; omega) (fun e => ?_)).trans (h.fr.block j hj hne2))
  have := (h.own.lt j e.symm).1
  omega
/-- blocks below the call stay through an append and the store behind it -/
theorem RB.kept (h : RB E k TS W0 wr p R S x y ao n cap cs) {w1 : World} {u : Value} (hg : wr.grownBy w1 (Value.slice ao n cap).ownBlock) : ∀ j, j < W0.heap.size → (w1.setCell ⟨S, 2, none⟩ u).heap[j]? = wr.heap[j]? := fun j hj => by
  have hgs := grown_set w1 S 2 u
  have hsp := h.sp
  refine (hgs.block j (by have := h.fr.size; have := hg.size; omega) (by simp; omega)).trans (hg.block j (by have := h.fr.size; omega) (fun e => ?_))
  have := (h.own.lt j e.symm).1
  omega
/-- what a Read of a state tells -/
def ReadToldB (T E k : Nat) (fl : List Th → List Value) (p : Nat) (r : (Int × Int × List Th) × Bool × (List UInt8 × Bool)) (W : World) (e : Ending) (W' : World) : Prop :=
  ∃ ao cap ar cr, e = .returned (.tuple #[dsV r.1.1 r.1.2.1 ao r.1.2.2.length cap, .bool r.2.1]) ∧ W'.ownsRow W.heap.size E k (.slice ao r.1.2.2.length cap) r.1.2.2.length (fl r.1.2.2) ∧ Rd T W' p ar cr r.2.2.1 r.2.2.2 ∧ W.grownBy W' (some p)
end Go.Proofs.Ytedlplkomfiahaa
