/- Lemmas for BagApart (Mpz Me). No statement of the seat is proved here. -/
import Derived.Test.YtbmkgcoolofmpaaA6
import Derived.Test.YtbmkgcoolofmpaaA24
import Derived.Test.YtbmkgcoolofmpaaA25
import Derived.Test.YtbmkgcoolofmpaaA26
namespace Go.Proofs.Ytbmkgcoolofmpaa
set_option linter.unusedVariables false
set_option linter.unusedSimpArgs false
set_option linter.unusedSectionVars false
open Go Go.RowKit Go.Shelf
/-- a message with the fields alone that its kind has, and where its rows lie -/
def plainP (x : Mp) : Mp :=
  ⟨x.kind, x.frm, x.dst, x.term, if x.kind = 1 ∨ x.kind = 3 ∨ x.kind = 5 ∨ x.kind = 6 then x.index else 0, if x.kind = 1 ∨ x.kind = 3 ∨ x.kind = 5 then x.logTerm else 0,
    if x.kind = 5 then x.commit else 0, if x.kind = 5 ∨ x.kind = 6 ∨ x.kind = 7 then x.round else 0, if x.kind = 2 ∨ x.kind = 4 ∨ x.kind = 6 then x.ok else false, if x.kind = 3 then x.force else false,
    if x.kind = 5 then x.eo else none, if x.kind = 5 then x.ec else 0, if x.kind = 5 then x.el else [],
    if x.kind = 7 then x.si else 0, if x.kind = 7 then x.st else 0, if x.kind = 7 then x.mo else none, if x.kind = 7 then x.mc else 0, if x.kind = 7 then x.ml else [], if x.kind = 7 then x.ao else none, if x.kind = 7 then x.ac else 0, if x.kind = 7 then x.d else []⟩
theorem plainP_v (x : Mp) : (plainP x).v = plainM x.v := by
  unfold plainP plainM Mp.v
  by_cases h5 : x.kind = 5
  · by_cases h7 : x.kind = 7
    · omega
    · simp [h5]
  · by_cases h7 : x.kind = 7
    · simp [h7]
    · simp [h5, h7]
theorem Ens.nil (W : World) : Ens W none 0 [] := ⟨⟨by simp, by simp, by decide, fun _ => rfl, fun j u hu => by simp at hu⟩, fun x hx => by simp at hx⟩
theorem plainP_at {W : World} {x : Mp} (h : MpAt W x) : MpAt W (plainP x) := by
  obtain ⟨h1, h2, h3⟩ := h
  refine ⟨?_, ?_, ?_⟩
  · by_cases k : x.kind = 5
    · simpa [plainP, k] using h1
    · simpa [plainP, k] using Ens.nil W
  · by_cases k : x.kind = 7
    · simpa [plainP, k] using h2
    · simpa [plainP, k] using Iz.nil W .i64
  · by_cases k : x.kind = 7
    · simpa [plainP, k] using h3
    · simpa [plainP, k] using Bs.nil W
theorem plainP_el (x : Mp) : (plainP x).el.length ≤ x.el.length := by
  by_cases k : x.kind = 5 <;> simp [plainP, k]
theorem plainP_ml (x : Mp) : (plainP x).ml.length ≤ x.ml.length := by
  by_cases k : x.kind = 7 <;> simp [plainP, k]
theorem plain_any (x : Mp) (w : World) : Calls Try.prog 70 #[.agg (mpA x)] w fun e w' => e = .returned (.agg (mpA (plainP x))) ∧ Below w.heap.size w w' := by
  obtain ⟨kind, frm, dst, term, index, logTerm, commit, round, ok, force, eo, ec, el, si, st, mo, mc, ml, ao, ac, d⟩ := x
  by_cases k1 : kind = 1
  · subst k1; exact plain_1 frm dst term index logTerm commit round ok force eo ec el si st mo mc ml ao ac d w
  by_cases k2 : kind = 2
  · subst k2; exact plain_2 frm dst term index logTerm commit round ok force eo ec el si st mo mc ml ao ac d w
  by_cases k3 : kind = 3
  · subst k3; exact plain_3 frm dst term index logTerm commit round ok force eo ec el si st mo mc ml ao ac d w
  by_cases k4 : kind = 4
  · subst k4; exact plain_4 frm dst term index logTerm commit round ok force eo ec el si st mo mc ml ao ac d w
  by_cases k5 : kind = 5
  · subst k5; exact plain_5 frm dst term index logTerm commit round ok force eo ec el si st mo mc ml ao ac d w
  by_cases k6 : kind = 6
  · subst k6; exact plain_6 frm dst term index logTerm commit round ok force eo ec el si st mo mc ml ao ac d w
  by_cases k7 : kind = 7
  · subst k7; exact plain_7 frm dst term index logTerm commit round ok force eo ec el si st mo mc ml ao ac d w
  have h := plain_o kind frm dst term index logTerm commit round ok force eo ec el si st mo mc ml ao ac d w k1 k2 k3 k4 k5 k6 k7
  simpa [plainP, mpA, k1, k2, k3, k4, k5, k6, k7] using h
end Go.Proofs.Ytbmkgcoolofmpaa
namespace Go.Proofs.Ytbmkgcoolofmpaa
set_option linter.unusedVariables false
set_option linter.unusedSimpArgs false
set_option linter.unusedSectionVars false
open Go Go.RowKit Go.Shelf
set_option maxRecDepth 100000 in
set_option maxHeartbeats 4000000 in
theorem refRow_any (f t : Int) (eo : Option Addr) (ec : Nat) (el : List Ep) (w : World) (hen : Ens w eo ec el) (hl : el.length ≤ 1000000) :
    Calls Try.prog 68 #[.slice eo el.length ec, .int .u64 f, .int .u64 t] w fun e w' => e = .returned (.bool (rowB f t (el.map Ep.e) && decide (el.length ≤ 8))) ∧ Below w.heap.size w w' := by
  obtain ⟨c0, hc0⟩ : ∃ c0, c0 = rowB f t (el.map Ep.e) := ⟨_, rfl⟩
  rw [← hc0]
  have HC0 := Lib.hid hc0
  clear hc0
  go_enter Try.func68, Try.ntmps68
  go_wp2_with fail
  go_loopw [1, 7] (fun v u wr => ∃ (i : Nat) (last : Int), v = .int .u64 last ∧ u = .int .i64 (i : Nat) ∧ i ≤ el.length ∧ Hid (c0 = rowB last t ((el.map Ep.e).drop i)) ∧ Below w.heap.size w wr) (fun _ u _ => el.length - (intOf u).toNat)
  case atStart => exact ⟨0, f, rfl, rfl, Nat.zero_le _, HC0, Below.refl _ _⟩
  case round =>
    obtain ⟨i, last, rfl, rfl, hi, Hinv, hB⟩ := hrel
    by_cases hlt : i < el.length
    · have g1 := hen.below hB
      obtain ⟨b1, o1, rfl, p0, p1, p2⟩ := g1.get i hlt
      have hd0 := hen.data _ (List.getElem_mem hlt)
      have hst := rowB_drop last t (el.map Ep.e) i (by simpa using hlt)
      simp only [List.getElem_map] at hst
      obtain ⟨y, hy⟩ : ∃ y, y = el[i] := ⟨_, rfl⟩
      rw [← hy] at p0 p1 p2 hd0 hst
      clear hy
      obtain ⟨⟨x1, x2, xd⟩, xa, xc⟩ := y
      simp only at p0 p1 p2 hd0 hst
      have i0 : (0 : Int) ≤ (i : Int) := by omega
      have i1 : (i : Int) < (el.length : Int) := by omega
      have Hs := Lib.hid (refSound_e x1 x2 xa xd.length xc xd rfl wr)
      have Hm := Lib.hid (fun W hW => refMemRead_any xa xc xd W hW)
      obtain ⟨mk, hmk⟩ : ∃ mk, mk = memOk xd := ⟨_, rfl⟩
      obtain ⟨sk, hsk⟩ : ∃ sk, sk = soundE ⟨x1, x2, xd⟩ := ⟨_, rfl⟩
      rw [← hmk] at hst Hm
      rw [← hsk] at hst Hs
      clear hmk hsk
      have hcw : ∀ W', Below wr.heap.size wr W' → (W'.cell? ⟨b1, o1 + i * 3, none⟩ = some (.int .u64 x1) ∧ W'.cell? ⟨b1, o1 + i * 3 + 1, none⟩ = some (.int .i64 x2) ∧ W'.cell? ⟨b1, o1 + i * 3 + 2, none⟩ = some (.slice xa xd.length xc)) := fun W' hb =>
        ⟨(hb.cell (p := ⟨b1, o1 + i * 3, none⟩) (cell?_lt p0)).trans p0, (hb.cell (p := ⟨b1, o1 + i * 3 + 1, none⟩) (cell?_lt p1)).trans p1, (hb.cell (p := ⟨b1, o1 + i * 3 + 2, none⟩) (cell?_lt p2)).trans p2⟩
      have Hst := Lib.hid hst
      clear hst
      have hno : c0 = false → (c0 && decide (el.length ≤ 8)) = false := fun h => by rw [h]; rfl
      have Hno := Lib.hid hno
      clear hno
      cases sk
      · have Hf := Lib.hid (Hno.out (by rw [Hinv.out, Hst.out]; rfl))
        go_wp2_with fail
        refine Hs.out.mono ?_
        rintro e w2 ⟨rfl, hb2⟩
        go_wp2_with fail
        go_ret
        exact ⟨by rw [Hf.out]; rfl, below_on hB hb2 (Nat.le_refl _)⟩
      · by_cases e1 : x1 < last
        · have Hf := Lib.hid (Hno.out (by rw [Hinv.out, Hst.out, decide_eq_false (p := last ≤ x1) (by omega)]; rfl))
          go_wp2_with fail
          refine Hs.out.mono ?_
          rintro e w2 ⟨rfl, hb2⟩
          obtain ⟨q0, q1, q2⟩ := hcw _ hb2
          go_wp2_with fail
          go_ret
          exact ⟨by rw [Hf.out]; rfl, below_on hB hb2 (Nat.le_refl _)⟩
        · by_cases e3 : t < x1
          · have Hf := Lib.hid (Hno.out (by rw [Hinv.out, Hst.out, decide_eq_false (p := x1 ≤ t) (by omega)]; simp))
            go_wp2_with fail
            refine Hs.out.mono ?_
            rintro e w2 ⟨rfl, hb2⟩
            obtain ⟨q0, q1, q2⟩ := hcw _ hb2
            go_wp2_with fail
            go_ret
            exact ⟨by rw [Hf.out]; rfl, below_on hB hb2 (Nat.le_refl _)⟩
          · by_cases e2 : x2 = 3
            · subst e2
              cases mk
              · have Hf := Lib.hid (Hno.out (by rw [Hinv.out, Hst.out]; simp))
                go_wp2_with fail
                refine Hs.out.mono ?_
                rintro e w2 ⟨rfl, hb2⟩
                obtain ⟨q0, q1, q2⟩ := hcw _ hb2
                have hB3 := below_on hB hb2 (Nat.le_refl _)
                have Hm2 := Lib.hid (Hm.out w2 (hd0.below hB3))
                go_wp2_with fail
                refine Hm2.out.mono ?_
                rintro e w3 ⟨⟨v3, rfl⟩, hb3⟩
                obtain ⟨r0, r1, r2⟩ := hcw _ (below_on hb2 hb3 (Nat.le_refl _))
                go_wp2_with fail
                go_ret
                exact ⟨by rw [Hf.out]; rfl, below_on hB3 hb3 (Nat.le_refl _)⟩
              · have Hgo : Hid (c0 = rowB x1 t ((el.map Ep.e).drop (i + 1))) := by show _ = _; rw [Hinv.out, Hst.out, decide_eq_true (p := last ≤ x1) (by omega), decide_eq_true (p := x1 ≤ t) (by omega)]; simp
                go_wp2_with fail
                refine Hs.out.mono ?_
                rintro e w2 ⟨rfl, hb2⟩
                obtain ⟨q0, q1, q2⟩ := hcw _ hb2
                have hB3 := below_on hB hb2 (Nat.le_refl _)
                have Hm2 := Lib.hid (Hm.out w2 (hd0.below hB3))
                go_wp2_with fail
                refine Hm2.out.mono ?_
                rintro e w3 ⟨⟨v3, rfl⟩, hb3⟩
                obtain ⟨r0, r1, r2⟩ := hcw _ (below_on hb2 hb3 (Nat.le_refl _))
                go_wp2_with fail
                go_roundw
                case rel => exact ⟨i + 1, x1, rfl, by simp, by omega, Hgo, below_on hB3 hb3 (Nat.le_refl _)⟩
                case measure => simp [intOf]; omega
            · have e2b : (x2 == 3) = false := by simpa using e2
              have Hgo : Hid (c0 = rowB x1 t ((el.map Ep.e).drop (i + 1))) := by show _ = _; rw [Hinv.out, Hst.out, decide_eq_true (p := last ≤ x1) (by omega), decide_eq_true (p := x1 ≤ t) (by omega)]; simp [e2]
              clear e2
              go_wp2_with fail
              refine Hs.out.mono ?_
              rintro e w2 ⟨rfl, hb2⟩
              obtain ⟨q0, q1, q2⟩ := hcw _ hb2
              have hB3 := below_on hB hb2 (Nat.le_refl _)
              have Hm2 := Lib.hid (Hm.out w2 (hd0.below hB3))
              go_wp2_with fail
              refine Hm2.out.mono ?_
              rintro e w3 ⟨⟨v3, rfl⟩, hb3⟩
              obtain ⟨r0, r1, r2⟩ := hcw _ (below_on hb2 hb3 (Nat.le_refl _))
              go_wp2_with fail
              go_roundw
              case rel => exact ⟨i + 1, x1, rfl, by simp, by omega, Hgo, below_on hB3 hb3 (Nat.le_refl _)⟩
              case measure => simp [intOf]; omega
    · have hii : i = el.length := by omega
      subst hii
      have Ht : Hid (c0 = true) := by show _ = _; rw [Hinv.out, List.drop_eq_nil_of_le (by simp)]; rfl
      by_cases q1 : el.length ≤ 8
      · have q1' : (el.length : Int) ≤ 8 := by omega
        have Hf : Hid ((c0 && decide (el.length ≤ 8)) = true) := by show _ = _; rw [Ht.out]; simpa using q1
        go_wp2_with fail
        go_ret
        exact ⟨by rw [Hf.out]; rfl, hB⟩
      · have q1' : ¬ (el.length : Int) ≤ 8 := by omega
        have Hf : Hid ((c0 && decide (el.length ≤ 8)) = false) := by show _ = _; rw [Ht.out]; simpa using q1
        go_wp2_with fail
        go_ret
        exact ⟨by first | (rw [Hf.out]; rfl) | rfl, hB⟩
end Go.Proofs.Ytbmkgcoolofmpaa
