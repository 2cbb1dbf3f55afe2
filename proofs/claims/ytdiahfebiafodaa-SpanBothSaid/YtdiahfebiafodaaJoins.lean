/- SpanJoins' plain law and walk. No statement of the seat is proved here. -/
import Derived.Test.YtdiahfebiafodaaSides
import Derived.Test.YtdiahfebiafodaaOpenS
namespace Go.Proofs.Ytdiahfebiafodaa
set_option linter.unusedVariables false
set_option linter.unusedSimpArgs false
set_option linter.unusedSectionVars false
open Go Go.RowKit Go.Shelf
open Go.Sort (grow)

/-- separated spans -/
structure Good (out : List Sp) : Prop where
  right : ∀ o ∈ out, o.right = true
  apart : out.Pairwise fun x y => x.b < y.a
theorem right_of {s : Sp} (h : s.a < s.b) (h0 : 0 ≤ s.a) (h1 : s.b ≤ 1125899906842624) : s.right = true := by
  unfold Sp.right
  simp only [Bool.and_eq_true, decide_eq_true_eq]
  exact ⟨⟨h0, h⟩, h1⟩
theorem fold_good (t : Int) : ∀ (l out : List Sp), l.Pairwise (fun x y => x.a ≤ y.a) → (∀ s ∈ l, s.right = true) → Good out → (∀ s ∈ l, ∀ o ∈ out, o.a ≤ s.a) →
    Good (l.foldl mstep out) ∧ hasL (l.foldl mstep out) t = (hasL out t || hasL l t) := by
  intro l
  induction l with
  | nil => intro out _ _ hg _; exact ⟨hg, by simp [hasL]⟩
  | cons s l ih =>
    intro out hp hr hg ho
    rw [List.pairwise_cons] at hp
    have hs := right_lt (hr s (by simp))
    have hr2 : ∀ x ∈ l, x.right = true := fun x hx => hr x (by simp [hx])
    have hsa := ho s (by simp)
    have ho2 : ∀ x ∈ l, ∀ o ∈ out, o.a ≤ x.a := fun x hx => ho x (by simp [hx])
    show Good (l.foldl mstep (mstep out s)) ∧ hasL (l.foldl mstep (mstep out s)) t = _
    have hcons : hasL (s :: l) t = ((decide (s.a ≤ t) && decide (t < s.b)) || hasL l t) := rfl
    rcases List.eq_nil_or_concat out with rfl | ⟨o, ⟨p, q⟩, rfl⟩
    · rw [mstep_nil]
      obtain ⟨h1, h2⟩ := ih [s] hp.2 hr2 ⟨fun o ho => by simp at ho; subst ho; exact hr _ (by simp), by simp⟩ (fun x hx o ho => by simp at ho; subst ho; exact hp.1 x hx)
      refine ⟨h1, ?_⟩
      rw [h2, hcons]; simp [hasL]
    · rw [List.concat_eq_append] at *
      have hpq := right_lt (hg.right ⟨p, q⟩ (by simp))
      have hpa := hsa ⟨p, q⟩ (by simp)
      have hap := List.pairwise_append.1 hg.apart
      simp only at hpq hpa
      have happ : ∀ (o : List Sp) (u : Sp), hasL (o ++ [u]) t = (hasL o t || (decide (u.a ≤ t) && decide (t < u.b))) := by intro o u; simp [hasL]
      by_cases hq : s.a ≤ q
      · rw [mstep_in o p q s hq]
        obtain ⟨z, hz⟩ : ∃ z, z = if q < s.b then s.b else q := ⟨_, rfl⟩
        rw [← hz]
        have hz1 : q ≤ z ∧ s.b ≤ z ∧ z ≤ 1125899906842624 ∧ (z = q ∨ z = s.b) := by
          rw [hz]
          by_cases g : q < s.b
          · rw [if_pos g]; omega
          · rw [if_neg g]; omega
        obtain ⟨h1, h2⟩ := ih (o ++ [⟨p, z⟩]) hp.2 hr2 ⟨fun u hu => by
            rcases List.mem_append.1 hu with hu | hu
            · exact hg.right u (by simp [hu])
            · simp at hu; subst hu; exact right_of (by simp only; omega) (by simp only; omega) (by simp only; omega),
          List.pairwise_append.2 ⟨hap.1, by simp, fun u hu v hv => by simp at hv; subst hv; exact hap.2.2 u hu ⟨p, q⟩ (by simp)⟩⟩ (fun x hx u hu => by
            rcases List.mem_append.1 hu with hu | hu
            · exact ho2 x hx u (by simp [hu])
            · simp at hu; subst hu; exact ho2 x hx ⟨p, q⟩ (by simp))
        refine ⟨h1, ?_⟩
        rw [h2, hcons, happ, happ]
        have key : (decide (p ≤ t) && decide (t < z)) = ((decide (p ≤ t) && decide (t < q)) || (decide (s.a ≤ t) && decide (t < s.b))) := by
          rw [Bool.eq_iff_iff]
          simp only [Bool.and_eq_true, Bool.or_eq_true, decide_eq_true_eq]
          omega
        simp only [key, Bool.or_assoc]
      · rw [mstep_out o p q s hq]
        obtain ⟨h1, h2⟩ := ih (o ++ [⟨p, q⟩] ++ [s]) hp.2 hr2 ⟨fun u hu => by
            rcases List.mem_append.1 hu with hu | hu
            · exact hg.right u hu
            · simp at hu; subst hu; exact hr _ (by simp),
          List.pairwise_append.2 ⟨hg.apart, by simp, fun u hu v hv => by
            simp only [List.mem_singleton] at hv
            subst hv
            rcases List.mem_append.1 hu with hu | hu
            · have := hap.2.2 u hu ⟨p, q⟩ (by simp)
              simp only at this; omega
            · simp at hu; subst hu; simp only; omega⟩⟩ (fun x hx u hu => by
            rcases List.mem_append.1 hu with hu | hu
            · exact ho2 x hx u hu
            · simp at hu; subst hu; exact hp.1 x hx)
        refine ⟨h1, ?_⟩
        rw [h2, hcons, happ (o ++ [(⟨p, q⟩ : Sp)]) s]
        simp only [Bool.or_assoc]
theorem chain_good (l : List Sp) : ∀ e, Good l → (∀ o ∈ l, e ≤ o.a) → chain e l = true := by
  induction l with
  | nil => intro e _ _; rfl
  | cons s l ih =>
    intro e hg he
    have hp := List.pairwise_cons.1 hg.apart
    unfold chain
    rw [hg.right s (by simp), ih s.b ⟨fun o ho => hg.right o (by simp [ho]), hp.2⟩ (fun o ho => by have := hp.1 o ho; omega)]
    have := he s (by simp)
    simp [this]
theorem bad_none {l : List Sp} (h : l.any bad = false) : ∀ s ∈ l, s.right = true := by
  intro s hs
  have := List.any_eq_false.1 h s hs
  unfold bad at this
  simpa using this
/-- what is told of a joined row -/
theorem join_law {l L : List Sp} (t : Int) (hb : l.any bad = false) (hJ : JoinIs l L) (hlen : L.length ≤ 32) : rowErr L = 0 ∧ hasL L t = hasL l t ∧ ∀ i (hi : i + 1 < L.length), L[i].b < L[i + 1].a := by
  obtain ⟨l', h1, h2, rfl⟩ := hJ.2 hb
  have hr := bad_none hb
  obtain ⟨g1, g2⟩ := fold_good t l' [] h2 (fun s hs => hr s (h1.mem_iff.1 hs)) ⟨fun o ho => (by cases ho), List.Pairwise.nil⟩ (fun s _ o ho => (by cases ho))
  refine ⟨?_, ?_, ?_⟩
  · unfold rowErr
    rw [if_neg (by omega), if_pos (chain_good _ 0 g1 (fun o ho => (right_lt (g1.right o ho)).2.1))]
  · rw [g2]
    have e : hasL l' t = hasL l t := by
      unfold hasL
      rw [Bool.eq_iff_iff, List.any_eq_true, List.any_eq_true]
      constructor
      · rintro ⟨x, hx, h⟩; exact ⟨x, h1.mem_iff.1 hx, h⟩
      · rintro ⟨x, hx, h⟩; exact ⟨x, h1.mem_iff.2 hx, h⟩
    rw [e]; simp [hasL]
  · intro i hi
    exact List.pairwise_iff_getElem.1 g1.apart i (i + 1) (by omega) hi (by omega)

theorem any_at (l : List Sp) (i : Nat) (hi : i < l.length) : (l.drop i).any bad = (bad l[i] || (l.drop (i + 1)).any bad) := by
  rw [List.drop_eq_getElem_cons hi]; rfl

set_option maxRecDepth 10000 in
set_option maxHeartbeats 2000000 in
theorem spanJoins_walk (ao : Option Addr) (cap : Nat) (l : List Sp) (t : Int) (w : World) (hs : Sps w ao cap l) (hok : SpOk l) (t0 : -9223372036854775808 ≤ t) (t1 : t ≤ 9223372036854775807) :
    Calls Try.prog 7 #[.slice ao l.length cap, .int .i64 t] w fun e w' => e = .returned (.bool true) ∧ Below w.heap.size w w' := by
  have hm := hs.max
  have hle := hs.le
  unfold maxLen at hm
  have heqb := eqb
  by_cases hl : 32 < l.length
  · go_enter Try.func7, Try.ntmps7
    go_wp2_with fail
    refine (lives7_any _).mono ?_
    rintro e w1 ⟨rfl, hb1⟩
    go_wp2_with fail
    go_ret
    exact ⟨rfl, hb1⟩
  have hjoin := fun w' (h : Sps w' ao cap l) => join_any ao cap l w' (by omega) h
  go_enter Try.func7, Try.ntmps7
  go_wp2_with fail
  go_loopw [5, 16] (fun v u wr => ∃ (i : Nat) (is : Bool), v = .bool is ∧ u = .int .i64 i ∧ i ≤ l.length ∧ Hid (hasL l t = (is || hasL (l.drop i) t)) ∧ Hid (l.any bad = (l.drop i).any bad) ∧ Below w.heap.size w wr) (fun v u _ => l.length - (intOf u).toNat)
  case atStart => exact ⟨0, false, rfl, rfl, Nat.zero_le _, (by show hasL l t = _; simp), rfl, Below.refl _ _⟩
  case round =>
    obtain ⟨i, is, rfl, rfl, hi, hhs, hbd, hb⟩ := hrel
    by_cases hlt : i < l.length
    · have hs1 := hs.below hb
      obtain ⟨b, off, rfl, c0, c1⟩ := hs1.get i hlt
      have Hst := Lib.hid (has_at l t i hlt)
      have Hba := Lib.hid (any_at l i hlt)
      obtain ⟨s, hsd⟩ : ∃ s, s = l[i] := ⟨_, rfl⟩
      rw [← hsd] at c0 c1 Hst Hba
      clear hsd
      have hrt := fun W => right_any s W
      rw [show bad s = !s.right from rfl] at Hba
      obtain ⟨r, hr⟩ : ∃ r, r = s.right := ⟨_, rfl⟩
      rw [← hr] at hrt Hba
      clear hr
      obtain ⟨x, y⟩ := s
      unfold spVal at hrt
      simp only at c0 c1 Hst hrt
      have hs2 := hs1.below (below_new wr (.cells #[.int .i64 x, .int .i64 y] 30))
      have k0 : (wr.alloc (.cells #[.int .i64 x, .int .i64 y] 30)).cell? ⟨wr.heap.size, 0, none⟩ = some (.int .i64 x) := by rw [cell?_new]; rfl
      have k1 : (wr.alloc (.cells #[.int .i64 x, .int .i64 y] 30)).cell? ⟨wr.heap.size, 1, none⟩ = some (.int .i64 y) := by rw [cell?_new]; rfl
      go_wp2_with fail
      refine (hrt _).mono ?_
      rintro e w2 ⟨rfl, hb2⟩
      have k0 := (hb2.cell (cell?_lt k0)).trans k0
      have k1 := (hb2.cell (cell?_lt k1)).trans k1
      have B2 := below_on (below_on hb (below_new wr (.cells #[.int .i64 x, .int .i64 y] 30)) (Nat.le_refl _)) hb2 (Nat.le_refl _)
      cases r with
      | false =>
        have hbt : l.any bad = true := by rw [hbd.out, Hba.out]; rfl
        go_wp2_with fail
        refine (hjoin _ (hs2.below hb2)).mono ?_
        rintro e w3 ⟨⟨L, ao3, cap3, rfl, hs3, hJ, -⟩, hb3⟩
        obtain rfl := hJ.1 hbt
        go_wp2_with fail
        refine (lives7_any _).mono ?_
        rintro e w4 ⟨rfl, hb4⟩
        go_wp2_with fail
        go_ret
        exact ⟨by first | rfl | simp, below_on (below_on B2 hb3 (Nat.le_refl _)) hb4 (Nat.le_refl _)⟩
      | true =>
        have hbd2 : Hid (l.any bad = (l.drop (i + 1)).any bad) := by show l.any bad = _; rw [hbd.out, Hba.out]; simp
        have hh2 : Hid (hasL l t = ((is || (decide (x ≤ t) && decide (t < y))) || hasL (l.drop (i + 1)) t)) := by show hasL l t = _; rw [hhs.out, Hst.out, Bool.or_assoc]
        clear Hst Hba hhs hbd
        cases is with
        | true =>
          go_wp2_with fail
          go_roundw
          case rel => exact ⟨i + 1, true, by first | rfl | simp, by simp, by omega, (by show hasL l t = _; rw [hh2.out]; simp), hbd2, B2⟩
          case measure => simp [intOf]; omega
        | false =>
          by_cases g1 : x ≤ t
          · go_wp2_with fail
            go_roundw
            case rel => exact ⟨i + 1, decide (t < y), by first | rfl | simp [g1], by simp, by omega, (by show hasL l t = _; rw [hh2.out]; simp [g1]), hbd2, B2⟩
            case measure => simp [intOf]; omega
          · go_wp2_with fail
            go_roundw
            case rel =>
              have g2 : ¬ x ≤ t := by omega
              refine ⟨i + 1, false, by first | rfl | simp [g2], by simp, by omega, ?_, hbd2, B2⟩
              show hasL l t = _
              rw [hh2.out]; simp [g2]
            case measure => simp [intOf]; omega
    · have hi' : i = l.length := by omega
      subst hi'
      have hbf : l.any bad = false := by rw [hbd.out, List.drop_length]; rfl
      have his : is = hasL l t := by rw [hhs.out, List.drop_length]; simp [hasL]
      go_wp2_with fail
      refine (hjoin _ (hs.below hb)).mono ?_
      rintro e w2 ⟨⟨L, ao2, cap2, rfl, hs2, hJ, hLl⟩, hb2⟩
      obtain ⟨hr0, hh, hap⟩ := join_law t hbf hJ (by omega)
      have hhas := fun w' (h : Sps w' ao2 cap2 L) => spHas_any ao2 cap2 L t w' hr0 h
      rw [hh, ← his] at hhas
      have B1 := below_on hb hb2 (Nat.le_refl _)
      clear hh his hbf hr0 hJ hjoin hhs hbd hs
      go_wp2_with fail
      go_loopw [48] (fun u wr => ∃ (i : Nat), u = .int .i64 i ∧ i ≤ L.length ∧ Below w2.heap.size w2 wr) (fun u _ => L.length - (intOf u).toNat)
      case atStart => exact ⟨0, rfl, Nat.zero_le _, Below.refl _ _⟩
      case round =>
        obtain ⟨i, rfl, hi, hb⟩ := hrel
        by_cases hlt : i < L.length
        · cases i with
          | zero =>
            go_wp2_with fail
            refine wp_region_quiet_below (by kernel_rfl) (by kernel_rfl) (WQ.out ?_)
            refine WQ.val (by rfl) (.int .i64 ((0 : Nat) : Int)) (fun _ => rfl) ?_
            simp only [Act.put, List.setIfInBounds_toArray, List.set_cons_zero, List.set_cons_succ]
            refine WQ.val (by rfl) (.bool false) (fun _ => rfl) ?_
            simp only [Act.put, List.setIfInBounds_toArray, List.set_cons_zero, List.set_cons_succ]
            refine WQ.val (by rfl) (.bool false) (fun _ => rfl) ?_
            simp only [Act.put, List.setIfInBounds_toArray, List.set_cons_zero, List.set_cons_succ]
            refine WQ.skip (by rfl) ?_
            simp only [Act.put, List.setIfInBounds_toArray, List.set_cons_zero, List.set_cons_succ]
            refine WQ.skip (by rfl) ?_
            simp only [Act.put, List.setIfInBounds_toArray, List.set_cons_zero, List.set_cons_succ]
            refine WQ.skip (by rfl) ?_
            simp only [Act.put, List.setIfInBounds_toArray, List.set_cons_zero, List.set_cons_succ]
            refine WQ.skip (by rfl) ?_
            simp only [Act.put, List.setIfInBounds_toArray, List.set_cons_zero, List.set_cons_succ]
            refine WQ.skip (by rfl) ?_
            simp only [Act.put, List.setIfInBounds_toArray, List.set_cons_zero, List.set_cons_succ]
            refine WQ.skip (by rfl) ?_
            simp only [Act.put, List.setIfInBounds_toArray, List.set_cons_zero, List.set_cons_succ]
            refine WQ.skip (by rfl) ?_
            simp only [Act.put, List.setIfInBounds_toArray, List.set_cons_zero, List.set_cons_succ]
            refine WQ.skip (by rfl) ?_
            simp only [Act.put, List.setIfInBounds_toArray, List.set_cons_zero, List.set_cons_succ]
            refine WQ.skip (by rfl) ?_
            simp only [Act.put, List.setIfInBounds_toArray, List.set_cons_zero, List.set_cons_succ]
            refine WQ.skip (by rfl) ?_
            simp only [Act.put, List.setIfInBounds_toArray, List.set_cons_zero, List.set_cons_succ]
            refine WQ.skip (by rfl) ?_
            simp only [Act.put, List.setIfInBounds_toArray, List.set_cons_zero, List.set_cons_succ]
            refine WQ.skip (by rfl) ?_
            simp only [Act.put, List.setIfInBounds_toArray, List.set_cons_zero, List.set_cons_succ]
            refine WQ.val (by rfl) (.bool false) (fun _ => rfl) ?_
            simp only [Act.put, List.setIfInBounds_toArray, List.set_cons_zero, List.set_cons_succ]
            refine WQ.nil ?_
            intro _ hw'
            obtain ⟨⟨dq, osq⟩, hw''⟩ := hw'
            subst hw''
            go_wp2_with fail
            go_roundw
            case rel => exact ⟨1, by simp, by omega, below_on hb (below_regrown wr dq osq) (Nat.le_refl _)⟩
            case measure => simp [intOf]; omega
          | succ k =>
            have hk : k < L.length := by omega
            have hapk := hap k hlt
            obtain ⟨b, off, rfl, c0, -⟩ := (hs2.below hb).get (k + 1) hlt
            obtain ⟨b', off', e, -, q1⟩ := (hs2.below hb).get k hk
            simp only [Option.some.injEq, Addr.mk.injEq] at e
            obtain ⟨rfl, rfl, -⟩ := e
            obtain ⟨z, hz⟩ : ∃ z, z = L[k].b := ⟨_, rfl⟩
            obtain ⟨x, hx⟩ : ∃ x, x = L[k + 1].a := ⟨_, rfl⟩
            rw [← hz] at q1 hapk
            rw [← hx] at c0 hapk
            have hkw : IntKind.i64.wrap (k : Int) = (k : Int) := IntWalk.i64_in _ (by omega)
            have hkw2 : IntKind.i64.wrap ((k : Int) + 1 - 1) = (k : Int) := by rw [show (k : Int) + 1 - 1 = (k : Int) by omega]; exact hkw
            have hk0 : (0 : Int) ≤ (k : Int) + 1 := by omega
            clear hz hx hap
            go_wp2_with fail
            go_quiet (fail)
            have hbq : Below wr.heap.size wr (wr.drewN nq) := ⟨rfl, rfl, rfl, by simp [World.drewN], fun k hk => rfl⟩
            go_wp2_with fail
            go_roundw
            case rel => exact ⟨k + 1 + 1, by simp, by omega, below_on hb hbq (Nat.le_refl _)⟩
            case measure => simp [intOf]; omega
        · have hi' : i = L.length := by omega
          subst hi'
          have hLI : (L.length : Int) ≤ (l.length : Int) := by omega
          go_wp2_with fail
          refine (hhas _ (hs2.below hb)).mono ?_
          rintro e w3 ⟨rfl, hb3⟩
          go_wp2_with fail
          refine (lives7_any _).mono ?_
          rintro e w4 ⟨rfl, hb4⟩
          go_wp2_with fail
          go_ret
          exact ⟨by first | rfl | simp, below_on (below_on (below_on B1 hb (Nat.le_refl _)) hb3 (Nat.le_refl _)) hb4 (Nat.le_refl _)⟩
end Go.Proofs.Ytdiahfebiafodaa
