/- Lemmas for BagOnce (Nf). No statement of the seat is proved here. -/
import Derived.Deep.RegionLaw
import Derived.Test.YtbmkgcoolofmpaaO6
namespace Go.Proofs.Ytbmkgcoolofmpaa
set_option linter.unusedVariables false
set_option linter.unusedSimpArgs false
set_option linter.unusedSectionVars false
open Go Go.RowKit Go.Shelf
/-- integers in blocks of integers -/
def IzT (w : World) (ao : Option Addr) (cap : Nat) (l : List Int) : Prop := Iz w .i64 ao cap l ∧ ∀ b off s, ao = some ⟨b, off, s⟩ → elem? w b = some 3
theorem IzT.nil (w : World) : IzT w none 0 [] := ⟨Iz.nil w .i64, fun b off s e => by cases e⟩
theorem IzT.kept {w w' : World} {ao : Option Addr} {cap : Nat} {l : List Int} (h : IzT w ao cap l) (hk : ∀ b, elem? w b = some 3 → w'.heap[b]? = w.heap[b]?) : IzT w' ao cap l :=
  ⟨⟨h.1.len, h.1.le, h.1.max, h.1.none, fun j u hu => by
    obtain ⟨b, off, e, hc⟩ := h.1.cell j u hu
    exact ⟨b, off, e, by rw [World.cell?_of_block (w := w) (hk b (h.2 b off _ e))]; exact hc⟩⟩, fun b off s e => by
    rw [elem?_same (hk b (h.2 b off s e))]; exact h.2 b off s e⟩
theorem IzT.below {w w' : World} {ao : Option Addr} {cap : Nat} {l : List Int} (h : IzT w ao cap l) (hb : Below w.heap.size w w') : IzT w' ao cap l := h.kept fun b e => hb.block b (elem?_lt e)
theorem IzT.grown {w w' : World} {T : TypeId} {g : Nat} {ao : Option Addr} {cap : Nat} {l : List Int} (h : IzT w ao cap l) (hg : w.grownBy w' (some g)) (hT : elem? w g = some T) (hne : T ≠ 3) : IzT w' ao cap l :=
  h.kept fun b e => hg.block b (elem?_lt e) (fun e2 => by
    simp only [Option.some.injEq] at e2
    subst e2
    rw [hT] at e
    exact hne (by simpa using e))
theorem IzT.of_own {w : World} {base cap : Nat} {ao : Option Addr} {l : List Int} (h : w.ownsRow base 3 1 (.slice ao l.length cap) l.length (l.map fun a => [Value.int .i64 a]).flatten) : IzT w ao cap l := by
  have e : ∀ l : List Int, (l.map fun a => [Value.int .i64 a]).flatten = l.map (Value.int .i64) := by
    intro l
    induction l with
    | nil => rfl
    | cons a l ih => simp only [List.map_cons, List.flatten_cons, ih]; rfl
  refine ⟨Iz.of_own (e l ▸ h), fun b off s ea => ?_⟩
  subst ea
  exact own_elemE h b rfl
theorem gMems_bytes (mx k : Nat) (s : St) : (gMems mx k s).2.1.length ≤ s.1.length := by
  induction k with
  | zero => simp [gMems]
  | succ k ih => simp only [gMems]; have := gN_len mx (gMems mx k s).2; omega
/-- what snapshot.Read tells -/
def SnTold (R : Sn × Bool) (w : World) (e : Ending) (w' : World) : Prop :=
  ∃ mo mc ao ac, e = .returned (.tuple #[.agg #[.int .u64 R.1.index, .int .u64 R.1.term, .slice mo R.1.members.length mc, .slice ao R.1.data.length ac], .bool R.2]) ∧ IzT w' mo mc R.1.members ∧ BsT w' ao ac R.1.data ∧ Below w.heap.size w w'
/-- a snapshot that is being read -/
structure SnA (W0 W : World) (q : Nat) (i t : Int) (mo : Option Addr) (mc : Nat) (ml : List Int) : Prop where
  blk : W.heap[q]? = some (.cells #[.int .u64 i, .int .u64 t, .slice mo ml.length mc, .slice none 0 0] 35 (0, 0))
  own : W.ownsRow W0.heap.size 3 1 (.slice mo ml.length mc) ml.length (ml.map fun a => [Value.int .i64 a]).flatten
theorem SnA.grown {W0 W W' : World} {q g : Nat} {i t : Int} {mo : Option Addr} {mc : Nat} {ml : List Int} {T : TypeId} (h : SnA W0 W q i t mo mc ml) (hg : W.grownBy W' (some g)) (hT : elem? W g = some T) (h1 : T ≠ 3) (h2 : T ≠ 35) : SnA W0 W' q i t mo mc ml :=
  ⟨(hg.block q (Array.getElem?_eq_some_iff.1 h.blk).1 (fun e => by
    simp only [Option.some.injEq] at e
    subst e
    rw [elem?_of h.blk] at hT
    exact h2 (by simpa using hT.symm))).trans h.blk, h.own.kept hg (.inr fun e => by
    have := own_elemE h.own g e
    rw [hT] at this
    exact h1 (by simpa using this))⟩
theorem SnA.below {W0 W W' : World} {q : Nat} {i t : Int} {mo : Option Addr} {mc : Nat} {ml : List Int} (h : SnA W0 W q i t mo mc ml) (hb : Below W.heap.size W W') : SnA W0 W' q i t mo mc ml :=
  ⟨(hb.block q (Array.getElem?_eq_some_iff.1 h.blk).1).trans h.blk, own_below h.own hb⟩
theorem RdS.elem {T : TypeId} {W0 W : World} {p : Nat} {s : St} (h : RdS T W0 W p s) : elem? W p = some T := by
  obtain ⟨⟨ao, cap, hr, hl⟩, h2, h3⟩ := h
  exact elem?_of hr.blk
theorem RdS.app {T e : TypeId} {k n : Nat} {v : Value} {xs : List Value} {W0 W W' : World} {p : Nat} {s : St} (h : RdS T W0 W p s) (ho : W.ownsRow W0.heap.size e k v n xs) (he : e ≠ T) (hg : W.grownBy W' v.ownBlock) : RdS T W0 W' p s :=
  h.grown hg fun q e' => ⟨(ho.lt q e').1, fun e2 => by
    have := own_elemE ho q e'
    rw [e2, h.elem] at this
    exact he (by simpa using this.symm)⟩
/-- one member more -/
theorem SnA.push {W0 W W' : World} {q : Nat} {i t x : Int} {mo mo' : Option Addr} {mc mc' : Nat} {ml : List Int} (h : SnA W0 W q i t mo mc ml) (hq : W0.heap.size ≤ q)
    (ho : W'.ownsRow W0.heap.size 3 1 (.slice mo' (ml.length + 1) mc') (ml.length + 1) ((ml.map fun a => [Value.int .i64 a]) ++ [[Value.int .i64 x]]).flatten) (hg : W.grownBy W' (Value.slice mo ml.length mc).ownBlock) :
    W'.heap[q]? = some (.cells #[.int .u64 i, .int .u64 t, .slice mo ml.length mc, .slice none 0 0] 35 (0, 0)) ∧ SnA W0 (W'.setCell ⟨q, 2, none⟩ (.slice mo' (ml.length + 1) mc')) q i t mo' mc' (ml ++ [x]) := by
  have k := (hg.block q (Array.getElem?_eq_some_iff.1 h.blk).1 (fun e => by
    have := own_elemE h.own q e.symm
    rw [elem?_of h.blk] at this
    exact absurd this (by decide))).trans h.blk
  have hs := block_set k 2 (.slice mo' (ml.length + 1) mc')
  simp only [List.setIfInBounds_toArray, List.set_cons_zero, List.set_cons_succ] at hs
  have e1 : (ml ++ [x]).length = ml.length + 1 := by simp
  have e2 : ((ml ++ [x]).map fun a => [Value.int .i64 a]).flatten = ((ml.map fun a => [Value.int .i64 a]) ++ [[Value.int .i64 x]]).flatten := by simp
  refine ⟨k, by rw [e1]; exact hs, ?_⟩
  rw [e1, e2]
  refine ho.kept (grown_set W' q 2 _) (.inr fun e => ?_)
  have := own_elemE ho q e
  rw [elem?_of k] at this
  exact absurd this (by decide)
theorem set4 {w : World} {b : Nat} {u0 u1 u2 u3 : Value} {T : TypeId} (h : w.heap[b]? = some (.cells #[u0, u1, u2, u3] T (0, 0))) (v0 v1 v2 v3 : Value) : ((((w.setCell ⟨b, 0, none⟩ v0).setCell ⟨b, 1, none⟩ v1).setCell ⟨b, 2, none⟩ v2).setCell ⟨b, 3, none⟩ v3).heap[b]? = some (.cells #[v0, v1, v2, v3] T (0, 0)) ∧ w.grownBy ((((w.setCell ⟨b, 0, none⟩ v0).setCell ⟨b, 1, none⟩ v1).setCell ⟨b, 2, none⟩ v2).setCell ⟨b, 3, none⟩ v3) (some b) := by
  have h0 := block_set (block_set (block_set (block_set h 0 v0) 1 v1) 2 v2) 3 v3
  simp only [List.setIfInBounds_toArray, List.set_cons_zero, List.set_cons_succ] at h0
  exact ⟨h0, grown_trans (grown_set _ _ _ _) (grown_trans (grown_set _ _ _ _) (grown_trans (grown_set _ _ _ _) (grown_set _ _ _ _)))⟩
theorem grown_row {B : Nat} {w0 w w' : World} {g : Nat} (h : Below B w0 w) (hg : w.grownBy w' (some g)) (hg2 : B ≤ g) (hB : B ≤ w.heap.size) : Below B w0 w' := h.grown hg hB (fun k e => by cases e; exact hg2)
set_option maxRecDepth 100000 in
set_option maxHeartbeats 8000000 in
theorem snapRead_any (ao : Option Addr) (cap : Nat) (l : List UInt8) (w : World) (hb : Bs w ao cap l) (hl : l.length ≤ 70000000000000) :
    Calls Try.prog 75 #[.slice ao l.length cap] w (SnTold (snR 6 l) w) := by
  rw [snR_mx 6 7 (by decide) (by decide) (by decide) (by decide) l]
  obtain ⟨R, hR⟩ : ∃ R, R = snR 7 l := ⟨_, rfl⟩
  rw [← hR]
  have HR := Lib.hid hR
  clear hR
  obtain ⟨W1, hW1⟩ : ∃ W1, W1 = w.alloc (.cells #[.int .u64 0, .int .u64 0, .slice none 0 0, .slice none 0 0] 35) := ⟨_, rfl⟩
  have hB1 : Below w.heap.size w W1 := by rw [hW1]; exact below_new _ _
  have k1 : W1.heap[w.heap.size]? = some (.cells #[.int .u64 0, .int .u64 0, .slice none 0 0, .slice none 0 0] 35) := by rw [hW1]; exact heap_alloc_new _ _
  have Hwh := Lib.hid (whole_any ao cap l W1 hl (hb.below hB1))
  go_enter Try.func75, Try.ntmps75
  go_upto_region 1 with fail
  rw [← hW1]
  clear hW1
  go_wp2_with fail
  refine Hwh.out.mono ?_
  rintro e W2 ⟨hB2, hor⟩
  have k2 := (hB2.block _ (Array.getElem?_eq_some_iff.1 k1).1).trans k1
  have z2 := (Array.getElem?_eq_some_iff.1 k2).1
  have hBw2 := below_on hB1 hB2 (Nat.le_refl _)
  have nope : R = (sn0, false) → SnTold R w (.returned (.tuple #[.agg #[.int .u64 0, .int .u64 0, .slice none 0 0, .slice none 0 0], .bool false])) = fun w' => SnTold (sn0, false) w (.returned (.tuple #[.agg #[.int .u64 0, .int .u64 0, .slice none 0 0, .slice none 0 0], .bool false])) w' := fun h => by rw [h]
  have hno : ∀ w', Below w.heap.size w w' → R = (sn0, false) → SnTold R w (.returned (.tuple #[.agg #[.int .u64 0, .int .u64 0, .slice none 0 0, .slice none 0 0], .bool false])) w' := fun w' hw h => by
    rw [h]; exact ⟨none, 0, none, 0, rfl, IzT.nil _, ⟨Bs.nil _, fun b off s e => by cases e⟩, hw⟩
  have Hno := Lib.hid hno
  clear nope hno k1 Hwh
  rcases hor with ⟨h1, h2, ab, cb, rfl, hbody⟩ | ⟨h1, rfl⟩
  · by_cases h3 : (Fr.take l).kind = 4
    · have hwh : wholeF 4 l := ⟨⟨h1, h2⟩, h3⟩
      rw [h3]
      obtain ⟨body, hbd⟩ : ∃ body, body = (Fr.take l).body := ⟨_, rfl⟩
      have HR2 : Hid (R = if doneR (gSn 7 (body, false)).2 = true ∧ soundSn (gSn 7 (body, false)).1 = true then ((gSn 7 (body, false)).1, true) else (sn0, false)) := by
        show _ = _
        rw [HR.out]; unfold snR; rw [if_pos hwh, hbd]
      have hbl : body.length ≤ 70000000000000 := by
        have := (wrapped_of 4 l hwh).2; rw [hbd]; omega
      rw [← hbd] at hbody ⊢
      clear HR hwh h1 h2 h3 hbd
      have e4 : (((4 : UInt8).toNat : Nat) : Int) = 4 := rfl
      rw [e4]
      clear e4
      go_upto_region 4 with fail
      go_wp2_with fail
      refine (rds_open hbody).mono ?_
      rintro e W3 ⟨rfl, hrs3, hB3⟩
      have hN : ∀ W s, RdS 123 W2 W W2.heap.size s → _ := fun W s h => rds_num 576460752303423488 (by decide) h
      have HN1 := Lib.hid hN
      have hN2 : ∀ W s, RdS 123 W2 W W2.heap.size s → _ := fun W s h => rds_num 1152921504606846976 (by decide) h
      have HN2 := Lib.hid hN2
      have hN3 : ∀ W s, RdS 123 W2 W W2.heap.size s → _ := fun W s h => rds_num 7 (by decide) h
      have HN3 := Lib.hid hN3
      clear hN hN2 hN3
      obtain ⟨⟨xi, s1⟩, hs1⟩ : ∃ r, r = gN 576460752303423488 (body, false) := ⟨_, rfl⟩
      obtain ⟨⟨xt, s2⟩, hs2⟩ : ∃ r, r = gN 1152921504606846976 s1 := ⟨_, rfl⟩
      obtain ⟨⟨xn, s3⟩, hs3⟩ : ∃ r, r = gN 7 s2 := ⟨_, rfl⟩
      have hc1 := HN1.out _ _ hrs3
      rw [← hs1] at hc1
      have Hs1 := Lib.hid hs1
      have Hs2 := Lib.hid hs2
      have Hs3 := Lib.hid hs3
      have hxn : xn ≤ 7 := by have := gN_le 7 s2; rw [← hs3] at this; exact this
      have Hc1 := Lib.hid hc1
      clear hs1 hs2 hs3 hc1
      go_wp2_with fail
      refine Hc1.out.mono ?_
      rintro e W4 ⟨rfl, hrs4, hg4⟩
      have hc2 := HN2.out _ _ hrs4
      rw [← Hs2.out] at hc2
      have Hc2 := Lib.hid hc2
      clear hc2
      simp only at hrs4 ⊢
      go_wp2_with fail
      refine Hc2.out.mono ?_
      rintro e W5 ⟨rfl, hrs5, hg5⟩
      simp only at hrs5 ⊢
      obtain ⟨q, hq⟩ : ∃ q, q = W5.heap.size := ⟨_, rfl⟩
      obtain ⟨W6, hW6⟩ : ∃ W6, W6 = W5.alloc (.cells #[.int .u64 (xi : Int), .int .u64 (xt : Int), .slice none 0 0, .slice none 0 0] 35) := ⟨_, rfl⟩
      have hB6 : Below W5.heap.size W5 W6 := by rw [hW6]; exact below_new _ _
      have k6 : W6.heap[q]? = some (.cells #[.int .u64 (xi : Int), .int .u64 (xt : Int), .slice none 0 0, .slice none 0 0] 35) := by rw [hW6, hq]; exact heap_alloc_new _ _
      have hrs6 := hrs5.below hB6
      have hqz : W2.heap.size ≤ q := by rw [hq]; exact hrs5.bel.size
      have hqp : q ≠ W2.heap.size := by have := hrs5.lt; omega
      have hsn6 : SnA W2 W6 q xi xt none 0 [] := ⟨k6, World.ownsRow_nil _ _ _ _⟩
      have hc3 := HN3.out _ _ hrs6
      rw [← Hs3.out] at hc3
      have Hc3 := Lib.hid hc3
      clear hc3 HN1 HN2 hrs3 hrs4 hg4 hg5 hB6
      go_upto_region 6 with fail
      rw [← hq, ← hW6]
      clear hW6 hrs5 hq
      go_wp2_with fail
      refine Hc3.out.mono ?_
      rintro e W7 ⟨rfl, hrs7, hg7⟩
      simp only at hrs7 ⊢
      have hsn7 := hsn6.grown hg7 hrs6.elem (by decide) (by decide)
      clear k6 hsn6 hrs6 hg7 Hc1 Hc2 Hc3
      go_wp2_with fail
      go_loopw [31] (fun u wr => ∃ (k : Nat) (mo : Option Addr) (mc : Nat) (ml : List Int) (s' : St), u = .int .u64 (k : Nat) ∧ k ≤ xn ∧ Hid ((ml, s') = gMems 7 k s3) ∧ SnA W2 wr q xi xt mo mc ml ∧ RdS 123 W2 wr W2.heap.size s') (fun u _ => xn - (intOf u).toNat)
      case atStart => exact ⟨0, none, 0, [], s3, rfl, Nat.zero_le _, Lib.hid rfl, hsn7, hrs7⟩
      case round =>
        clear hsn7 hrs7
        obtain ⟨k, mo, mc, ml, s', rfl, hk, hms, hsn, hrs⟩ := hrel
        have hmlk : ml.length = k := by have := gMems_len 7 k s3; rw [← hms.out] at this; exact this
        have hml7 : ml.length ≤ 7 := by omega
        have Hmlk := Lib.hid hmlk
        clear hmlk
        have i0 : (0 : Int) ≤ (k : Int) := by omega
        by_cases hlt : k < xn
        · have i1 : (k : Int) < (xn : Int) := by omega
          obtain ⟨⟨z, s4⟩, hz⟩ : ∃ r, r = gN 7 s' := ⟨_, rfl⟩
          have hz7 : z ≤ 7 := by have := gN_le 7 s'; rw [← hz] at this; exact this
          have hdr : Below wr.heap.size wr wr.drew := (Below.refl _ _).drew
          have hsnd := hsn.below hdr
          have hrsd := hrs.below hdr
          have hc := HN3.out _ _ hrsd
          rw [← hz] at hc
          have Hc := Lib.hid hc
          have Hz := Lib.hid hz
          have wz : IntKind.i64.wrap (z : Int) = (z : Int) := IntWalk.i64_in _ (by omega)
          have c2 : wr.cell? ⟨q, 2, none⟩ = some (.slice mo ml.length mc) := block_cell hsn.blk 2
          have helr := hrsd.elem
          have Hel := Lib.hid helr
          have hqw := (Array.getElem?_eq_some_iff.1 hsn.blk).1
          have hnext : ∀ s'', s'' = s4 → Hid ((ml ++ [(z : Int)], s'') = gMems 7 (k + 1) s3) := fun s'' e => by
            show _ = _
            subst e
            unfold gMems
            rw [← hms.out]
            simp only
            rw [← Hz.out]
          have Hnext := Lib.hid hnext
          clear hz hc hnext helr
          go_upto_region 8 with fail
          go_region_law (first
            | (go_simp; go_at_call 49; refine Hc.out.mono ?_; rintro e w3 ⟨rfl, hrs3, hg3⟩; have hsn3 := hsnd.grown hg3 Hel.out (by decide) (by decide); have c3 : w3.cell? ⟨q, 2, none⟩ = some (.slice mo ml.length mc) := block_cell hsn3.blk 2; have hq3 := (Array.getElem?_eq_some_iff.1 hsn3.blk).1; have hsn3a := hsn3.below (below_new w3 (.cells #[.int .i64 (z : Int)] 3)); have hrs3a := hrs3.below (below_new w3 (.cells #[.int .i64 (z : Int)] 3)); have hz3a := hrs3a.bel.size)
            | (refine step_append_one rfl (.tmp 34) (.tmp 38) 27 rfl W2.heap.size 3 infoInt Try.underlying27 rfl (by decide) _ ml.length (ml.map fun a => [Value.int .i64 a]) rfl hsn3a.own _ 1 [.int .i64 (z : Int)] rfl rfl (news_at _ rfl) (fun u hu => by simp at hu; subst hu; rfl) ?_ ?_ ?_ ?_; omega; (unfold maxLen; omega); exact hz3a; intro g4 c4 w4 how4 hg4 hlie; obtain ⟨kq4, hsn4⟩ := hsn3a.push hqz how4 hg4; have cc4 := block_cell kq4 2; have ff4 := block_free kq4 2; simp at cc4; have hrs4 := (hrs3a.app hsn3a.own (by decide) hg4).store (i := 2) hqz hqp (.slice (some ⟨g4, 0, none⟩) (ml.length + 1) c4)))
          all_goals
            go_wp2_with fail
            go_roundw
            case rel => exact ⟨k + 1, some ⟨g4, 0, none⟩, c4, ml ++ [(z : Int)], s4, by simp, by omega, Hnext.out _ rfl, hsn4, hrs4⟩
            case measure => simp [intOf]; omega
        · obtain rfl : k = xn := by omega
          obtain ⟨⟨d, s5⟩, hd⟩ : ∃ r, r = gT 32768 s' := ⟨_, rfl⟩
          have hdl : d.length ≤ 32768 := by have := gT_le 32768 s'; rw [← hd] at this; exact this
          have hs'l : s'.1.length ≤ 70000000000000 := by
            have a1 := gMems_bytes 7 k s3
            rw [← hms.out] at a1
            have a2 := gN_len 7 s2
            rw [← Hs3.out] at a2
            have a3 := gN_len 1152921504606846976 s1
            rw [← Hs2.out] at a3
            have a4 := gN_len 576460752303423488 (body, false)
            rw [← Hs1.out] at a4
            simp only at a1 a2 a3 a4
            omega
          have hR3 : R = if doneR s5 = true ∧ soundSn ⟨xi, xt, ml, d⟩ = true then (⟨xi, xt, ml, d⟩, true) else (sn0, false) := by
            rw [HR2.out]
            unfold gSn
            simp only [← Hs1.out, ← Hs2.out, ← Hs3.out, ← hms.out, ← hd]
          have HR3 := Lib.hid hR3
          have hc := rds_text 32768 (by decide) hrs hs'l
          rw [← hd] at hc
          have Hc := Lib.hid hc
          have Hd := Lib.hid hd
          clear hR3 hc hd HR2 hs'l i0
          go_wp2_with fail
          refine Hc.out.mono ?_
          rintro e W8 ⟨rfl, hrs8, hg8⟩
          have hsn8 := hsn.grown hg8 hrs.elem (by decide) (by decide)
          obtain ⟨cd, W9, hcv, hbd9, hB9, hT9⟩ := bytes_of d (by unfold maxLen; omega) W8
          have hsn9 := hsn8.below hB9
          have hrs9 := hrs8.below hB9
          have hbt9 : BsT W9 (some ⟨W8.heap.size, 0, none⟩) cd d := ⟨hbd9, fun b off s e => by cases e; exact hT9⟩
          have c9 := block_cell hsn9.blk 3
          have f9 := block_free hsn9.blk 3
          simp at c9
          have k10 := block_set hsn9.blk 3 (.slice (some ⟨W8.heap.size, 0, none⟩) d.length cd)
          simp only [List.setIfInBounds_toArray, List.set_cons_zero, List.set_cons_succ] at k10
          have hgq := grown_set W9 q 3 (.slice (some ⟨W8.heap.size, 0, none⟩) d.length cd)
          have hrs10 := hrs9.store (i := 3) hqz hqp (.slice (some ⟨W8.heap.size, 0, none⟩) d.length cd)
          have hbt10 := hbt9.grown hgq (elem?_of hsn9.blk) (by decide)
          have hit10 := (IzT.of_own hsn9.own).grown hgq (elem?_of hsn9.blk) (by decide)
          clear hsn hrs hg8 hsn8 hrs8 hbd9 hT9 hB9 hbt9 Hc hgq
          simp only
          go_upto_region 11 with fail
          obtain ⟨W10, hW10⟩ : ∃ W10, W10 = W9.setCell ⟨q, 3, none⟩ (.slice (some ⟨W8.heap.size, 0, none⟩) d.length cd) := ⟨_, rfl⟩
          rw [← hW10] at k10 hrs10 hbt10 hit10 ⊢
          clear hW10 hcv c9 f9 hsn9 hrs9
          have hen := rds_end hrs10
          cases hdone : doneR s5 with
          | false =>
            rw [hdone] at hen
            simp only [Bool.false_eq_true, if_false] at hen
            have hno : R = (sn0, false) := by rw [HR3.out, hdone]; simp
            have HnoR := Lib.hid hno
            have Hen := Lib.hid hen
            clear hno hen hdone HR3
            go_wp2_with fail
            refine Hen.out.mono ?_
            rintro e W11 ⟨rfl, rfl⟩
            have hbel := hrs10.bel
            have kR := (hbel.block _ z2).trans k2
            obtain ⟨cR0, cR1, cR2, cR3⟩ := (⟨block_cell kR 0, block_cell kR 1, block_cell kR 2, block_cell kR 3⟩ : W10.cell? ⟨w.heap.size, 0, none⟩ = some (.int .u64 0) ∧ W10.cell? ⟨w.heap.size, 1, none⟩ = some (.int .u64 0) ∧ W10.cell? ⟨w.heap.size, 2, none⟩ = some (.slice none 0 0) ∧ W10.cell? ⟨w.heap.size, 3, none⟩ = some (.slice none 0 0))
            have zR0 := block_free kR 0
            have zR1 := block_free kR 1
            have zR2 := block_free kR 2
            have zR3 := block_free kR 3
            have zR := (Array.getElem?_eq_some_iff.1 kR).1
            obtain ⟨kS, hgS⟩ := set4 kR (.int .u64 0) (.int .u64 0) (.slice none 0 0) (.slice none 0 0)
            have u0 := block_cell kS 0
            have u1 := block_cell kS 1
            have u2 := block_cell kS 2
            have u3 := block_cell kS 3
            simp at u0 u1 u2 u3
            go_wp2_with fail
            refine bodyPost_ret (v := .tuple #[.agg #[.int .u64 0, .int .u64 0, .slice none 0 0, .slice none 0 0], .bool false]) (by simp [results, Try.results75, go_sem, u0, u1, u2, u3]) rfl ?_
            exact Hno.out _ (grown_row (below_on hBw2 hbel (Nat.le_refl _)) hgS (Nat.le_refl _) (by omega)) HnoR.out
          | true =>
            rw [hdone] at hen
            simp only [if_true] at hen
            have Hen := Lib.hid hen
            have hR4 : R = if soundSn ⟨xi, xt, ml, d⟩ = true then (⟨xi, xt, ml, d⟩, true) else (sn0, false) := by rw [HR3.out, hdone]; simp
            have HR4 := Lib.hid hR4
            have Hso := Lib.hid (snapSound_any xi xt mo (some ⟨W8.heap.size, 0, none⟩) mc cd ml d W10 hit10.1 (by omega))
            clear hen hdone HR3 hR4
            obtain ⟨q0, q1, q2, q3⟩ := (⟨block_cell k10 0, block_cell k10 1, block_cell k10 2, block_cell k10 3⟩ : W10.cell? ⟨q, 0, none⟩ = some (.int .u64 (xi : Int)) ∧ W10.cell? ⟨q, 1, none⟩ = some (.int .u64 (xt : Int)) ∧ W10.cell? ⟨q, 2, none⟩ = some (.slice mo ml.length mc) ∧ W10.cell? ⟨q, 3, none⟩ = some (.slice (some ⟨W8.heap.size, 0, none⟩) d.length cd))
            go_wp2_with fail
            refine Hen.out.mono ?_
            rintro e W11 ⟨rfl, rfl⟩
            cases hsd : soundSn ⟨xi, xt, ml, d⟩ with
            | false =>
              rw [hsd] at Hso
              have hno : R = (sn0, false) := by rw [HR4.out, hsd]; simp
              have HnoR := Lib.hid hno
              clear hno hsd HR4
              go_wp2_with fail
              refine Hso.out.mono ?_
              rintro e W12 ⟨rfl, hB12⟩
              have hbel := below_on hrs10.bel hB12 (Nat.le_refl _)
              clear q0 q1 q2 q3
              have kR := (hbel.block _ z2).trans k2
              obtain ⟨cR0, cR1, cR2, cR3⟩ := (⟨block_cell kR 0, block_cell kR 1, block_cell kR 2, block_cell kR 3⟩ : W12.cell? ⟨w.heap.size, 0, none⟩ = some (.int .u64 0) ∧ W12.cell? ⟨w.heap.size, 1, none⟩ = some (.int .u64 0) ∧ W12.cell? ⟨w.heap.size, 2, none⟩ = some (.slice none 0 0) ∧ W12.cell? ⟨w.heap.size, 3, none⟩ = some (.slice none 0 0))
              have zR0 := block_free kR 0
              have zR1 := block_free kR 1
              have zR2 := block_free kR 2
              have zR3 := block_free kR 3
              have zR := (Array.getElem?_eq_some_iff.1 kR).1
              obtain ⟨kS, hgS⟩ := set4 kR (.int .u64 0) (.int .u64 0) (.slice none 0 0) (.slice none 0 0)
              have u0 := block_cell kS 0
              have u1 := block_cell kS 1
              have u2 := block_cell kS 2
              have u3 := block_cell kS 3
              simp at u0 u1 u2 u3
              go_wp2_with fail
              refine bodyPost_ret (v := .tuple #[.agg #[.int .u64 0, .int .u64 0, .slice none 0 0, .slice none 0 0], .bool false]) (by simp [results, Try.results75, go_sem, u0, u1, u2, u3]) rfl ?_
              exact Hno.out _ (grown_row (below_on hBw2 hbel (Nat.le_refl _)) hgS (Nat.le_refl _) (by omega)) HnoR.out
            | true =>
              rw [hsd] at Hso
              have hyes : R = (⟨xi, xt, ml, d⟩, true) := by rw [HR4.out, hsd]; simp
              have HyesR := Lib.hid hyes
              clear hyes hsd HR4
              go_wp2_with fail
              refine Hso.out.mono ?_
              rintro e W12 ⟨rfl, hB12⟩
              have hbel := below_on hrs10.bel hB12 (Nat.le_refl _)
              have hbt12 := hbt10.below hB12
              have hit12 := hit10.below hB12
              have k12 := (hB12.block _ (Array.getElem?_eq_some_iff.1 k10).1).trans k10
              clear q0 q1 q2 q3
              obtain ⟨q0, q1, q2, q3⟩ := (⟨block_cell k12 0, block_cell k12 1, block_cell k12 2, block_cell k12 3⟩ : W12.cell? ⟨q, 0, none⟩ = some (.int .u64 (xi : Int)) ∧ W12.cell? ⟨q, 1, none⟩ = some (.int .u64 (xt : Int)) ∧ W12.cell? ⟨q, 2, none⟩ = some (.slice mo ml.length mc) ∧ W12.cell? ⟨q, 3, none⟩ = some (.slice (some ⟨W8.heap.size, 0, none⟩) d.length cd))
              have kR := (hbel.block _ z2).trans k2
              obtain ⟨cR0, cR1, cR2, cR3⟩ := (⟨block_cell kR 0, block_cell kR 1, block_cell kR 2, block_cell kR 3⟩ : W12.cell? ⟨w.heap.size, 0, none⟩ = some (.int .u64 0) ∧ W12.cell? ⟨w.heap.size, 1, none⟩ = some (.int .u64 0) ∧ W12.cell? ⟨w.heap.size, 2, none⟩ = some (.slice none 0 0) ∧ W12.cell? ⟨w.heap.size, 3, none⟩ = some (.slice none 0 0))
              have zR0 := block_free kR 0
              have zR1 := block_free kR 1
              have zR2 := block_free kR 2
              have zR3 := block_free kR 3
              have zR := (Array.getElem?_eq_some_iff.1 kR).1
              obtain ⟨kS, hgS⟩ := set4 kR (.int .u64 (xi : Int)) (.int .u64 (xt : Int)) (.slice mo ml.length mc) (.slice (some ⟨W8.heap.size, 0, none⟩) d.length cd)
              have u0 := block_cell kS 0
              have u1 := block_cell kS 1
              have u2 := block_cell kS 2
              have u3 := block_cell kS 3
              simp at u0 u1 u2 u3
              go_wp2_with fail
              refine bodyPost_ret (v := .tuple #[.agg #[.int .u64 (xi : Int), .int .u64 (xt : Int), .slice mo ml.length mc, .slice (some ⟨W8.heap.size, 0, none⟩) d.length cd], .bool true]) (by simp [results, Try.results75, go_sem, u0, u1, u2, u3]) rfl ?_
              rw [HyesR.out]
              exact ⟨mo, mc, _, cd, rfl, hit12.grown hgS (elem?_of kR) (by decide), hbt12.grown hgS (elem?_of kR) (by decide), grown_row (below_on hBw2 hbel (Nat.le_refl _)) hgS (Nat.le_refl _) (by omega)⟩
    · have hnw : ¬ wholeF 4 l := fun h => h3 h.2
      have hno : R = (sn0, false) := by rw [HR.out]; unfold snR; rw [if_neg hnw]
      have HnoR := Lib.hid hno
      obtain ⟨kd, hkd⟩ : ∃ kd, kd = (Fr.take l).kind := ⟨_, rfl⟩
      rw [← hkd] at h3 ⊢
      have n4 := u8_ne h3
      rw [show (((4 : UInt8).toNat : Nat) : Int) = 4 from rfl] at n4
      have hbel := Below.refl W2.heap.size W2
      clear hnw hno h1 h2 h3 hkd HR hbody
      have kR := (hbel.block _ z2).trans k2
      obtain ⟨cR0, cR1, cR2, cR3⟩ := (⟨block_cell kR 0, block_cell kR 1, block_cell kR 2, block_cell kR 3⟩ : W2.cell? ⟨w.heap.size, 0, none⟩ = some (.int .u64 0) ∧ W2.cell? ⟨w.heap.size, 1, none⟩ = some (.int .u64 0) ∧ W2.cell? ⟨w.heap.size, 2, none⟩ = some (.slice none 0 0) ∧ W2.cell? ⟨w.heap.size, 3, none⟩ = some (.slice none 0 0))
      have zR0 := block_free kR 0
      have zR1 := block_free kR 1
      have zR2 := block_free kR 2
      have zR3 := block_free kR 3
      have zR := (Array.getElem?_eq_some_iff.1 kR).1
      obtain ⟨kS, hgS⟩ := set4 kR (.int .u64 0) (.int .u64 0) (.slice none 0 0) (.slice none 0 0)
      have u0 := block_cell kS 0
      have u1 := block_cell kS 1
      have u2 := block_cell kS 2
      have u3 := block_cell kS 3
      simp at u0 u1 u2 u3
      go_wp2_with fail
      refine bodyPost_ret (v := .tuple #[.agg #[.int .u64 0, .int .u64 0, .slice none 0 0, .slice none 0 0], .bool false]) (by simp [results, Try.results75, go_sem, u0, u1, u2, u3]) rfl ?_
      exact Hno.out _ (grown_row (below_on hBw2 hbel (Nat.le_refl _)) hgS (Nat.le_refl _) (by omega)) HnoR.out
  · have hnw : ¬ wholeF 4 l := fun h => h1 h.1
    have hno : R = (sn0, false) := by rw [HR.out]; unfold snR; rw [if_neg hnw]
    have HnoR := Lib.hid hno
    have hbel := Below.refl W2.heap.size W2
    clear hnw hno h1 HR
    have kR := (hbel.block _ z2).trans k2
    obtain ⟨cR0, cR1, cR2, cR3⟩ := (⟨block_cell kR 0, block_cell kR 1, block_cell kR 2, block_cell kR 3⟩ : W2.cell? ⟨w.heap.size, 0, none⟩ = some (.int .u64 0) ∧ W2.cell? ⟨w.heap.size, 1, none⟩ = some (.int .u64 0) ∧ W2.cell? ⟨w.heap.size, 2, none⟩ = some (.slice none 0 0) ∧ W2.cell? ⟨w.heap.size, 3, none⟩ = some (.slice none 0 0))
    have zR0 := block_free kR 0
    have zR1 := block_free kR 1
    have zR2 := block_free kR 2
    have zR3 := block_free kR 3
    have zR := (Array.getElem?_eq_some_iff.1 kR).1
    obtain ⟨kS, hgS⟩ := set4 kR (.int .u64 0) (.int .u64 0) (.slice none 0 0) (.slice none 0 0)
    have u0 := block_cell kS 0
    have u1 := block_cell kS 1
    have u2 := block_cell kS 2
    have u3 := block_cell kS 3
    simp at u0 u1 u2 u3
    go_wp2_with fail
    refine bodyPost_ret (v := .tuple #[.agg #[.int .u64 0, .int .u64 0, .slice none 0 0, .slice none 0 0], .bool false]) (by simp [results, Try.results75, go_sem, u0, u1, u2, u3]) rfl ?_
    exact Hno.out _ (grown_row (below_on hBw2 hbel (Nat.le_refl _)) hgS (Nat.le_refl _) (by omega)) HnoR.out
end Go.Proofs.Ytbmkgcoolofmpaa
