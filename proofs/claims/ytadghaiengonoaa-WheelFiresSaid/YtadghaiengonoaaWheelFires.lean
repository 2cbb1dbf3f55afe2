/- WheelFires: the walk. No statement of the seat is proved here. -/
import Derived.Test.YtadghaiengonoaaXs
import Derived.Deep.OwnRows
namespace Go.Proofs.Ytadghaiengonoaa
set_option linter.unusedVariables false
set_option linter.unusedSimpArgs false
set_option linter.unusedSectionVars false
open Go Go.RowKit Go.Maps Go.Deep

/-- what the first i dues have armed -/
structure FX (ds : List Int) (i : Nat) (X : List Th) : Prop where
  mem : ∀ t, t ∈ X ↔ ∃ j, ∃ hj : j < ds.length, j < i ∧ Inst ds[j] ∧ t = ⟨(j : Nat), 7, ds[j]⟩
  len : X.length ≤ i
theorem FX.start (ds : List Int) : FX ds 0 [] := ⟨fun t => by simp, by simp⟩
theorem FX.no {ds : List Int} {i : Nat} {X : List Th} (h : FX ds i X) : ∀ u ∈ X, u.id ≠ ((i : Nat) : Int) := fun u hu e => by
  obtain ⟨j, hj, hji, -, rfl⟩ := (h.mem u).1 hu
  simp only at e
  omega
theorem FX.put {ds : List Int} {i : Nat} {X : List Th} (h : FX ds i X) (hi : i < ds.length) (hd : Inst ds[i]) : FX ds (i + 1) (insT X ⟨(i : Nat), 7, ds[i]⟩) := by
  refine ⟨fun t => ?_, by rw [insT_len]; have := h.len; omega⟩
  rw [insT_mem, h.mem]
  constructor
  · rintro (⟨j, hj, h1, h2, h3⟩ | rfl)
    · exact ⟨j, hj, by omega, h2, h3⟩
    · exact ⟨i, hi, by omega, hd, rfl⟩
  · rintro ⟨j, hj, h1, h2, h3⟩
    by_cases e : j = i
    · subst e; exact .inr h3
    · exact .inl ⟨j, hj, by omega, h2, h3⟩
theorem FX.skip {ds : List Int} {i : Nat} {X : List Th} (h : FX ds i X) (hi : i < ds.length) (hd : ¬ Inst ds[i]) : FX ds (i + 1) X := by
  refine ⟨fun t => ?_, by have := h.len; omega⟩
  rw [h.mem]
  constructor
  · rintro ⟨j, hj, h1, h2, h3⟩
    exact ⟨j, hj, by omega, h2, h3⟩
  · rintro ⟨j, hj, h1, h2, h3⟩
    by_cases e : j = i
    · subst e; exact absurd h2 hd
    · exact ⟨j, hj, by omega, h2, h3⟩
/-- what has been told so far -/
structure MX (ds : List Int) (X Y : List Th) (M : Nat → Bool) (at_ : Int) : Prop where
  mem : ∀ t, t ∈ Y ↔ t ∈ X ∧ ∀ j : Nat, t.id = (j : Int) → M j = false
  met : ∀ j, M j = true → ∃ hj : j < ds.length, Inst ds[j] ∧ ds[j] ≤ at_
def told (M : Nat → Bool) (f : List Th) (j : Nat) : Bool := M j || f.any (fun t => decide (t.id = (j : Int)))
theorem MX.start {ds : List Int} {X : List Th} (at_ : Int) : MX ds X X (fun _ => false) at_ := ⟨fun t => by simp, fun j h => by simp at h⟩
theorem told_nil (M : Nat → Bool) : told M [] = M := by funext j; simp [told]
theorem told_snoc (M : Nat → Bool) (f : List Th) (t : Th) (k : Nat) (h : t.id = (k : Int)) : told M (f ++ [t]) = fun j => if j = k then true else told M f j := by
  funext j
  unfold told
  rw [List.any_append, List.any_cons, List.any_nil, h]
  by_cases e : j = k
  · subst e; simp
  · rw [if_neg e]
    have : decide ((k : Int) = (j : Int)) = false := by simp; omega
    rw [this]; simp
theorem MX.step {ds : List Int} {X Y : List Th} {M : Nat → Bool} {at_ tb : Int} (hX : FX ds ds.length X) (h : MX ds X Y M at_) (hle : at_ ≤ tb) :
    MX ds X (soonT Y tb) (told M (dueT Y tb)) tb ∧ ∀ j (hj : j < ds.length), Inst ds[j] → told M (dueT Y tb) j = decide (ds[j] ≤ tb) := by
  have key : ∀ j (hj : j < ds.length), Inst ds[j] → told M (dueT Y tb) j = decide (ds[j] ≤ tb) := fun j hj hd => by
    have hin : (⟨(j : Nat), 7, ds[j]⟩ : Th) ∈ X := (hX.mem _).2 ⟨j, hj, hj, hd, rfl⟩
    unfold told
    rw [Bool.eq_iff_iff]
    simp only [Bool.or_eq_true, List.any_eq_true, decide_eq_true_eq]
    constructor
    · rintro (h1 | ⟨t, ht, e⟩)
      · obtain ⟨_, _, h3⟩ := h.met j h1; omega
      · have h2 := List.mem_filter.1 ht
        have h3 := ((h.mem t).1 h2.1).1
        obtain ⟨k, hk, -, -, rfl⟩ := (hX.mem t).1 h3
        simp only at e h2
        have hkj : k = j := by omega
        subst hkj
        simpa using h2.2
    · intro h1
      cases hM : M j with
      | true => exact .inl rfl
      | false =>
        refine .inr ⟨_, List.mem_filter.2 ⟨(h.mem _).2 ⟨hin, fun k e => ?_⟩, by simpa using h1⟩, rfl⟩
        simp only at e
        have hkj : j = k := by omega
        rw [← hkj]; exact hM
  refine ⟨⟨fun t => ?_, fun j hj => ?_⟩, key⟩
  · constructor
    · intro ht
      have h2 := List.mem_filter.1 ht
      have h3 := (h.mem t).1 h2.1
      refine ⟨h3.1, fun j e => ?_⟩
      unfold told
      rw [h3.2 j e, Bool.false_or, List.any_eq_false]
      intro s hs
      have h4 := List.mem_filter.1 hs
      obtain ⟨a, ha, -, -, rfl⟩ := (hX.mem t).1 h3.1
      obtain ⟨b, hb, -, -, rfl⟩ := (hX.mem s).1 ((h.mem s).1 h4.1).1
      simp only at e h4 h2 ⊢
      simp only [decide_eq_true_eq] at h4 h2 ⊢
      intro e2
      have : a = b := by omega
      subst this
      omega
    · rintro ⟨h1, h2⟩
      obtain ⟨a, ha, -, hd, rfl⟩ := (hX.mem t).1 h1
      have h3 := h2 a rfl
      have h4 := key a ha hd
      rw [h3] at h4
      have h5 : ¬ ds[a] ≤ tb := by simpa using h4.symm
      refine List.mem_filter.2 ⟨(h.mem _).2 ⟨h1, fun j e => ?_⟩, by simp; omega⟩
      have h6 := h2 j e
      unfold told at h6
      simp only [Bool.or_eq_false_iff] at h6
      exact h6.1
  · unfold told at hj
    simp only [Bool.or_eq_true, List.any_eq_true, decide_eq_true_eq] at hj
    rcases hj with h1 | ⟨t, ht, e⟩
    · obtain ⟨h2, h3, h4⟩ := h.met j h1
      exact ⟨h2, h3, by omega⟩
    · have h2 := List.mem_filter.1 ht
      obtain ⟨k, hk, -, hd, rfl⟩ := (hX.mem t).1 ((h.mem t).1 h2.1).1
      simp only at e h2
      have hkj : k = j := by omega
      subst hkj
      exact ⟨hk, hd, by simpa using h2.2⟩
/-- the next one that is told -/
theorem MX.next {ds : List Int} {X Y : List Th} {M : Nat → Bool} {at_ tb : Int} (hX : FX ds ds.length X) (h : MX ds X Y M at_) (hI : Ids Y) (m : Nat) (hm : m < (dueT Y tb).length) :
    ∃ j, ∃ hj : j < ds.length, (dueT Y tb)[m] = ⟨(j : Nat), 7, ds[j]⟩ ∧ ds[j] ≤ tb ∧ told M ((dueT Y tb).take m) j = false := by
  have hin := List.getElem_mem hm
  have h2 := List.mem_filter.1 hin
  have h3 := (h.mem _).1 h2.1
  obtain ⟨j, hj, -, hd, e⟩ := (hX.mem _).1 h3.1
  have hle : ds[j] ≤ tb := by
    have := h2.2
    rw [e] at this
    simpa using this
  refine ⟨j, hj, e, hle, ?_⟩
  unfold told
  rw [h3.2 j (by rw [e]), Bool.false_or, List.any_eq_false]
  intro s hs e2
  simp only [decide_eq_true_eq] at e2
  obtain ⟨k, hk, rfl⟩ := List.getElem_of_mem hs
  rw [List.length_take] at hk
  rw [List.getElem_take] at e2
  have hkm : k < m := Nat.lt_of_lt_of_le hk (Nat.min_le_left _ _)
  have hp : ((dueT Y tb)[k]'(Nat.lt_trans hkm hm)).id ≠ ((dueT Y tb)[m]).id := List.pairwise_iff_getElem.1 (List.Pairwise.filter _ hI : Ids (dueT Y tb)) k m (Nat.lt_trans hkm hm) hm hkm
  rw [e] at hp
  exact hp e2
def intsW (l : List Int) : List Value := l.map (Value.int .i64)
theorem idok_n (i : Nat) (h : i ≤ 1000 := by omega) : IdOk (i : Int) := ⟨by omega, by omega⟩
abbrev boT : TypeId := 4
theorem infoB : (Try.prog.info? boT).map (fun i => (i.zero, i.size, i.bytes)) = some (some (.bool false), 1, 1) := by kernel_rfl
theorem ints_sl {W : World} {ao : Option Addr} {cap : Nat} {S : List Int} (h : Sl W 1 ao S.length cap (intsW S)) (i : Nat) (hi : i < S.length) : ∃ b off, ao = some ⟨b, off, none⟩ ∧ W.cell? ⟨b, off + i, none⟩ = some (.int .i64 S[i]) ∧ b < W.heap.size := by
  have h1 := h.cell i (.int .i64 S[i]) (by unfold intsW; simp [hi])
  obtain ⟨b, off, e, hc⟩ := h1
  exact ⟨b, off, e, hc, cell?_lt hc⟩
theorem len_u (n : Nat) (h : n ≤ 100) : IntKind.u64.wrap (n : Int) = (n : Int) := by simp [IntKind.wrap, IntKind.signed, IntKind.bits]; omega
theorem wrap_n (i n : Nat) (h : i < n) (hn : n ≤ 256) : wrap64 ((i : Int) + 1) = (i : Int) + 1 := IntWalk.wrap64_in _ (by omega)
def nextT (at_ s : Int) : Int := at_ + max (min s (1125899906842624 - at_)) 0
theorem nextT_in {at_ s : Int} (h : Inst at_) : Inst (nextT at_ s) ∧ at_ ≤ nextT at_ s := by
  obtain ⟨h1, h2⟩ := h
  unfold nextT Inst
  omega
theorem next_if {at_ s : Int} (h : Inst at_) : wrap64 (at_ + if (if 1125899906842624 - at_ < s then 1125899906842624 - at_ else s) < 0 then 0 else if 1125899906842624 - at_ < s then 1125899906842624 - at_ else s) = nextT at_ s := by
  have e : (at_ + if (if 1125899906842624 - at_ < s then 1125899906842624 - at_ else s) < 0 then 0 else if 1125899906842624 - at_ < s then 1125899906842624 - at_ else s) = nextT at_ s := by
    unfold nextT
    split <;> split <;> (try split at *) <;> omega
  rw [e]
  obtain ⟨h1, h2⟩ := (nextT_in (s := s) h).1
  exact IntWalk.wrap64_in _ (by omega)
theorem ld_u64 {W : World} {b o : Nat} {x : Int} (h : W.cell? ⟨b, o, none⟩ = some (.int .u64 x)) : (Instr.loadAt 28 (.pointer (some ⟨b, o, none⟩))).run Try.prog W = .ok (.int .u64 x) W := by go_simp
theorem ld_i64 {W : World} {b o : Nat} {x : Int} (h : W.cell? ⟨b, o, none⟩ = some (.int .i64 x)) : (Instr.loadAt 2 (.pointer (some ⟨b, o, none⟩))).run Try.prog W = .ok (.int .i64 x) W := by go_simp
theorem ld_bo {W : World} {b o : Nat} {x : Bool} (h : W.cell? ⟨b, o, none⟩ = some (.bool x)) : (Instr.loadAt boT (.pointer (some ⟨b, o, none⟩))).run Try.prog W = .ok (.bool x) W := by go_simp
theorem cell_blk {W W' : World} {b : Nat} (h : W'.heap[b]? = W.heap[b]?) (o : Nat) : W'.cell? ⟨b, o, none⟩ = W.cell? ⟨b, o, none⟩ := by simp [World.cell?, h]
theorem take_put {M : Nat → Bool} {f : List Th} {m k : Nat} (hm : m < f.length) (hk : f[m].id = (k : Int)) : told M (f.take (m + 1)) = fun j => if j = k then true else told M (f.take m) j := by
  rw [List.take_add_one, List.getElem?_eq_getElem hm, Option.toList_some]
  exact told_snoc M _ _ k hk
set_option maxRecDepth 100000 in
set_option maxHeartbeats 8000000 in
theorem wheelFires_run (W : World) (now : Int) (ao : Option Addr) (cap : Nat) (ds : List Int) (bo : Option Addr) (cb : Nat) (S : List Int) (hs : Sl W 1 ao ds.length cap (intsW ds)) (hS : Sl W 1 bo S.length cb (intsW S)) :
    Calls Try.prog 3 #[.int .i64 now, .slice ao ds.length cap, .slice bo S.length cb] W fun e W' => e = .returned (.bool true) ∧ Below W.heap.size W W' := by
  by_cases hcond : ds.length ≤ 100 ∧ S.length ≤ 100 ∧ 0 ≤ now ∧ now ≤ 1125899906842624
  · obtain ⟨hl, hSl, n1, n2⟩ := hcond
    have x1 : ¬ (ds.length : Int) > 100 := by omega
    have x2 : ¬ (S.length : Int) > 100 := by omega
    have x3 : ¬ now < 0 := by omega
    have x4 : ¬ now > 1125899906842624 := by omega
    have hn : Inst now := ⟨n1, n2⟩
    have Hn1 := Lib.hid (new_o W W now hn (Below.refl _ _))
    have Hn := Lib.hid hn
    have Hl := Lib.hid hl
    have HSl := Lib.hid hSl
    have Hs := Lib.hid hs
    have HS := Lib.hid hS
    clear hl hSl n1 n2 hn hs hS
    go_enter Try.func3, Try.ntmps3
    go_wp2_with fail
    refine Hn1.out.mono ?_
    rintro e W1 ⟨w, F1, rfl, hu1, -, -⟩
    have Hu1 := Lib.hid hu1
    clear hu1 Hn1 x1 x2 x3 x4
    go_wp2_with fail
    go_loopw [43] (fun u wr => ∃ (i : Nat) (F : Nat → Prop) (X : List Th), u = .int .i64 (i : Nat) ∧ i ≤ ds.length ∧ Hid (Wo W wr F w now X) ∧ Hid (FX ds i X)) (fun u _ => ds.length - (intOf u).toNat)
    case atStart => exact ⟨0, F1, [], rfl, Nat.zero_le _, Hu1, FX.start ds⟩
    case round =>
      clear Hu1
      obtain ⟨i, F, X, rfl, hi, hu, hfx⟩ := hrel
      by_cases hil : i < ds.length
      · obtain ⟨x1, x2⟩ := i_nums i ds.length hil
        obtain ⟨bx, fx, rfl, hcx, hbx⟩ := ints_sl (Hs.out.below hu.out.bel) i hil
        obtain ⟨d, hd⟩ : ∃ d, d = ds[i] := ⟨_, rfl⟩
        rw [← hd] at hcx
        have w1 := wrap_n i _ hil (Nat.le_trans Hl.out (by decide))
        have hcv := len_u i (Nat.le_trans (Nat.le_of_lt hil) Hl.out)
        have har := arm_o hu.out ⟨(i : Nat), 7, d⟩ (idok_n i (Nat.le_trans (Nat.le_of_lt hil) (Nat.le_trans Hl.out (by decide))))
        have Hil := Lib.hid hil
        by_cases hin : Inst d
        · obtain ⟨g1, g2⟩ := armX_in (X := X) (t := ⟨(i : Nat), 7, d⟩) hin hfx.out.no (Nat.lt_of_le_of_lt hfx.out.len (Nat.lt_of_lt_of_le hil (Nat.le_trans Hl.out (by decide))))
          rw [g1, g2] at har
          have hfx2 := hfx.out.put hil (by rw [← hd]; exact hin)
          rw [← hd] at hfx2
          have x5 : 0 ≤ d := hin.1
          have x6 : d ≤ 1125899906842624 := hin.2
          have Har := Lib.hid har
          have Hfx2 := Lib.hid hfx2
          clear har hfx2 g1 g2 hin hd hil hi
          go_wp2_with fail
          refine (show Calls _ _ _ _ _ from Har.out).mono ?_
          rintro e W2 ⟨rfl, F2, hu2, -, -⟩
          have Hu2 := Lib.hid hu2
          clear hu2 Har
          go_wp2_with fail
          go_roundw
          case rel => exact ⟨i + 1, F2, _, by first | rfl | rw [w1]; rfl, Hil.out, Hu2, Hfx2⟩
          case measure =>
            first | rw [w1] | skip
            exact ts_meas ds.length i Hil.out
        · have g1 : armE X ⟨(i : Nat), 7, d⟩ = 2 := by unfold armE; rw [if_neg hin]
          have g2 : armX X ⟨(i : Nat), 7, d⟩ = X := by unfold armX; rw [if_neg hin]
          rw [g1, g2] at har
          have hfx2 := hfx.out.skip hil (by rw [← hd]; exact hin)
          have hor : ¬ 0 ≤ d ∨ (0 ≤ d ∧ ¬ d ≤ 1125899906842624) := by unfold Inst at hin; omega
          have Har := Lib.hid har
          have Hfx2 := Lib.hid hfx2
          clear har hfx2 g1 g2 hin hd hil hi
          rcases hor with x5 | ⟨x5, x6⟩
          all_goals
            go_wp2_with fail
            refine (show Calls _ _ _ _ _ from Har.out).mono ?_
            rintro e W2 ⟨rfl, F2, hu2, -, -⟩
            have Hu2 := Lib.hid hu2
            clear hu2 Har
            go_wp2_with fail
            go_roundw
            case rel => exact ⟨i + 1, F2, _, by first | rfl | rw [w1]; rfl, Hil.out, Hu2, Hfx2⟩
            case measure =>
              first | rw [w1] | skip
              exact ts_meas ds.length i Hil.out
      · obtain rfl : i = ds.length := Nat.le_antisymm hi (Nat.le_of_not_lt hil)
        have x1 : ¬ (ds.length : Int) < (ds.length : Int) := Int.lt_irrefl _
        have hmk := fun V => run_make_row' (P := Try.prog) 31 boT (.bool false) 1 Try.underlying31 infoB rfl .i64 .i64 ds.length (Nat.le_trans (Nat.mul_le_mul_left 1 Hl.out) (by decide)) (Nat.le_trans Hl.out (by decide)) V
        have hmade := World.rowIs_made wr (.bool false) ds.length boT
        obtain ⟨W2, hW2⟩ : ∃ W2, W2 = wr.alloc (.cells (madeCells #[.bool false] ds.length) boT) := ⟨_, rfl⟩
        obtain ⟨mb, hmb⟩ : ∃ mb, mb = wr.heap.size := ⟨_, rfl⟩
        rw [← hW2, ← hmb] at hmade
        have hu2 := hu.out.below (by rw [hW2]; exact below_new _ _ : Below wr.heap.size wr W2)
        have hmF : ¬ F mb := fun e => by have := hu.out.bd mb e; rw [hmb] at this; exact absurd this (Nat.lt_irrefl _)
        have hmup : W.heap.size ≤ mb := by rw [hmb]; exact hu.out.bel.size
        have Hu2 := Lib.hid hu2
        have HmF := Lib.hid hmF
        have Hmup := Lib.hid hmup
        have Hmade := Lib.hid hmade
        clear hu2 hmF hmup hmade hi hil
        go_upto_region 14 with fail
        rw [← hW2, ← hmb]
        clear hW2 hmb hmk
        go_loopw [12, 70] (fun z u wx => ∃ (j : Nat) (F : Nat → Prop) (Y : List Th) (M : Nat → Bool) (at_ : Int), z = .int .i64 at_ ∧ u = .int .i64 (j : Nat) ∧ j ≤ S.length ∧ Hid (Wo W wx F w at_ Y) ∧ Hid (MX ds X Y M at_) ∧
          Hid (wx.rowIs mb boT ds.length (fun j => .bool (M j))) ∧ Hid (¬ F mb)) (fun _ u _ => S.length - (intOf u).toNat)
        case atStart => exact ⟨0, F, X, fun _ => false, now, rfl, rfl, Nat.zero_le _, Hu2, MX.start now, Hmade, HmF⟩
        case round =>
          clear Hu2 Hmade HmF
          obtain ⟨j, F, Y, M, at_, rfl, rfl, hj, hu, hmx, hmr, hmF⟩ := hrel
          by_cases hjl : j < S.length
          · obtain ⟨x1, x2⟩ := i_nums j S.length hjl
            obtain ⟨by_, fy, rfl, hcy, hby⟩ := ints_sl (HS.out.below hu.out.bel) j hjl
            obtain ⟨s, hs⟩ : ∃ s, s = S[j] := ⟨_, rfl⟩
            rw [← hs] at hcy
            have w1 := wrap_n j _ hjl (Nat.le_trans HSl.out (by decide))
            have hati := hu.out.okX.1
            have w2 : wrap64 (1125899906842624 - at_) = 1125899906842624 - at_ := IntWalk.wrap64_in _ (by obtain ⟨a1, a2⟩ := hati; omega)
            have Hjl := Lib.hid hjl
            have Hati := Lib.hid hati
            clear hs hjl hj hati
            go_upto_region 17 with fail
            rw [next_if Hati.out]
            obtain ⟨hti, hle⟩ := nextT_in (s := s) Hati.out
            obtain ⟨tb, htb⟩ : ∃ tb, tb = nextT at_ s := ⟨_, rfl⟩
            rw [← htb] at hti hle ⊢
            (try generalize (if 1125899906842624 - at_ < s then 1125899906842624 - at_ else s) = c1)
            (try generalize (if c1 < 0 then (0 : Int) else c1) = c2)
            have hav := adv_r hu.out tb
            obtain ⟨g1, g2, g3, g4⟩ := adv_in (now := at_) (X := Y) hti hle
            rw [g1, g2, g3, g4] at hav
            have hst := hmx.out.step hfx.out hle
            have Hav := Lib.hid hav
            have Hst := Lib.hid hst
            have Hti := Lib.hid hti
            clear htb hav g1 g2 g3 g4 hti hle hst w2
            go_wp2_with fail
            refine Hav.out.mono ?_
            rintro e W3 ⟨ao3, cap3, rfl, ⟨F3, hu3, hg3, hF3⟩, hrow3⟩
            have hml := hmr.out.lt
            have hmr3 : W3.rowIs mb boT ds.length (fun j => .bool (M j)) := hmr.out.of_block (hg3.block mb hml hmF.out)
            have hmF3 : ¬ F3 mb := fun e => (hF3 mb e).elim hmF.out (fun x => absurd hml (Nat.not_lt.2 x))
            obtain ⟨f, hf⟩ : ∃ f, f = dueT Y tb := ⟨_, rfl⟩
            have hnx := fun m (hm : m < f.length) => (by subst hf; exact hmx.out.next hfx.out hu.out.okX.2.2.1 m hm : ∃ j, ∃ hj : j < ds.length, f[m] = ⟨(j : Nat), 7, ds[j]⟩ ∧ ds[j] ≤ tb ∧ told M (f.take m) j = false)
            rw [← hf] at hrow3 Hst ⊢
            have hfl : f.length ≤ 256 := by rw [hf]; exact Nat.le_trans (List.length_filter_le _ _) hu.out.okX.2.2.2.2
            have Hnx := Lib.hid hnx
            have Hfl := Lib.hid hfl
            have Hu3 := Lib.hid hu3
            have HmF3 := Lib.hid hmF3
            have T1 := Lib.hid (Tt.of_own hrow3)
            have hmne : ∀ b off, ao3 = some ⟨b, off, none⟩ → b ≠ mb := fun b off e he => by
              have h1 := (hrow3.lt b (by rw [e]; rfl)).1
              rw [he] at h1
              exact absurd hml (Nat.not_lt.2 h1)
            have Hmne := Lib.hid hmne
            have Hmr3 : Hid (W3.rowIs mb boT ds.length (fun j => .bool (told M (f.take 0) j))) := by
              show W3.rowIs mb boT ds.length (fun j => .bool (told M (f.take 0) j))
              rw [List.take_zero, told_nil]; exact hmr3
            clear hmr3 hmF3 hml hu3 hg3 hF3 hnx hfl hrow3 hmne hf Hav
            go_wp2_with fail
            go_loopw [91] (fun u wx => ∃ m : Nat, u = .int .i64 (m : Nat) ∧ m ≤ f.length ∧ Hid (wx.rowIs mb boT ds.length (fun j => .bool (told M (f.take m) j))) ∧ Hid (Gr (fun i => i = mb) W3 wx)) (fun u _ => f.length - (intOf u).toNat)
            case atStart => exact ⟨0, rfl, Nat.zero_le _, Hmr3, Gr.refl _ _⟩
            case round =>
              clear Hmr3
              obtain ⟨m, rfl, hm, hmr, hgr⟩ := hrel
              by_cases hml : m < f.length
              · obtain ⟨y1, y2⟩ := i_nums m f.length hml
                have y3 : ¬ (f.length : Int) ≤ (m : Int) := by omega
                obtain ⟨k, hk, hfm, hkd, hkt⟩ := Hnx.out m hml
                obtain ⟨bx, fx, rfl, hbx, c0, c1, c2⟩ := Tt.cells T1.out m hml
                rw [hfm] at c0 c1 c2
                simp only at c0 c1 c2
                have hblk := hgr.out.block bx hbx (Hmne.out bx fx rfl)
                rw [← cell_blk hblk] at c0 c1 c2
                have hput : told M (f.take (m + 1)) = fun j => if j = k then true else told M (f.take m) j := take_put hml (by rw [hfm])
                have hB0 := hgr.out.above Hu3.out.bel.size (fun i e => by rw [e]; exact Hmup.out)
                have hBw := (Hu3.out.bel.trans hB0)
                obtain ⟨bd, fd, rfl, hcd, hbd⟩ := ints_sl Hs.out k hk
                obtain ⟨d, hd⟩ : ∃ d, d = ds[k] := ⟨_, rfl⟩
                rw [← hd] at c2 hcd hkd
                have hcd' := (hBw.cell (p := ⟨bd, fd + k, none⟩) hbd).trans hcd
                have hbd' := Nat.lt_of_lt_of_le hbd hBw.size
                obtain ⟨W4, hW4⟩ : ∃ W4, W4 = wr.alloc (.cells #[.int .u64 (k : Nat), .int .u64 7, .int .i64 d] thT) := ⟨_, rfl⟩
                obtain ⟨p, hp⟩ : ∃ p, p = wr.heap.size := ⟨_, rfl⟩
                have hb4 : Below wr.heap.size wr W4 := by rw [hW4]; exact below_new _ _
                have ht4 : W4.heap[p]? = some (.cells #[.int .u64 (k : Nat), .int .u64 7, .int .i64 d] thT (0, 0)) := by rw [hW4, hp]; exact heap_alloc_new _ _
                obtain ⟨e0, e1, e2, -, -, -⟩ := set3_res (t := ⟨(k : Nat), 7, d⟩) ht4
                simp only at e0 e1 e2
                have hmr4 := hmr.out.of_block (hb4.block mb hmr.out.lt)
                have hmk := hmr4.cell hk
                rw [hkt] at hmk
                have hcd4 := (hb4.cell (p := ⟨bd, fd + k, none⟩) hbd').trans hcd'
                have hpl := (Array.getElem?_eq_some_iff.1 ht4).1
                have hdl := Nat.lt_of_lt_of_le hbd' hb4.size
                have hmfr := hmr4.frozen k
                have z1 : ¬ (k : Int) ≥ (ds.length : Int) := by omega
                have z1' : (k : Int) < (ds.length : Int) := by omega
                have z2 : ¬ d > tb := by omega
                have w1 := wrap_n m _ hml Hfl.out
                have hcv := len_u ds.length Hl.out
                have hld0 : ∀ W', Below W4.heap.size W4 W' → (Instr.loadAt 28 (.pointer (some ⟨p, 0, none⟩))).run Try.prog W' = .ok (.int .u64 (k : Nat)) W' := fun W' h => ld_u64 ((h.cell (p := ⟨p, 0, none⟩) hpl).trans e0)
                have hld2 : ∀ W', Below W4.heap.size W4 W' → (Instr.loadAt 2 (.pointer (some ⟨p, 2, none⟩))).run Try.prog W' = .ok (.int .i64 d) W' := fun W' h => ld_i64 ((h.cell (p := ⟨p, 2, none⟩) hpl).trans e2)
                have hldm : ∀ W', Below W4.heap.size W4 W' → (Instr.loadAt boT (.pointer (some ⟨mb, k, none⟩))).run Try.prog W' = .ok (.bool false) W' := fun W' h => ld_bo ((h.cell (p := ⟨mb, k, none⟩) hmr4.lt).trans hmk)
                have hldd : ∀ W', Below W4.heap.size W4 W' → (Instr.loadAt 2 (.pointer (some ⟨bd, fd + k, none⟩))).run Try.prog W' = .ok (.int .i64 d) W' := fun W' h => ld_i64 ((h.cell (p := ⟨bd, fd + k, none⟩) hdl).trans hcd4)
                have hgr5 : Gr (fun i => i = mb) W3 (W4.drew.setCell ⟨mb, k, none⟩ (.bool true)) := (hgr.out.trans (Gr.below (hb4.trans (Below.refl _ W4).drew))).trans (Gr.one (grown_set W4.drew mb k (.bool true)) (fun b e => (Option.some.inj e).symm))
                have hmr5 : (W4.drew.setCell ⟨mb, k, none⟩ (.bool true)).rowIs mb boT ds.length (fun j => .bool (told M (f.take (m + 1)) j)) := (hmr4.drew.set k (.bool true)).congr (fun j hj => by rw [hput]; simp only; split <;> rfl)
                have Hld0 := Lib.hid hld0
                have Hld2 := Lib.hid hld2
                have Hldm := Lib.hid hldm
                have Hldd := Lib.hid hldd
                have Hgr5 := Lib.hid hgr5
                have Hmr5 := Lib.hid hmr5
                have Hml := Lib.hid hml
                clear hld0 hld2 hldm hldd hgr5 hmr5 hmr4 hcd4 hpl hdl e1 hput hBw hB0 hcd hcd' hbd hbd' hblk hbx hfm hd hkd hkt hk hml hm hb4 ht4
                go_upto_region 23 with fail
                rw [← hW4, ← hp]
                clear hW4 hp c0 c1 c2
                refine wp_region_held_drew (S := fun W' => Below W4.heap.size W4 W') (by kernel_rfl) (Below.refl _ W4).drew (fun hHeld => ?_)
                refine wpAnyH_take (i := 0) (v := ?_) rfl (by kernel_rfl) (by kernel_rfl) (by kernel_rfl) (fun _ _ _ h => h) (Or.inl ⟨by rfl, ?_⟩) (by assumption) ?_
                rotate_left
                · intro w8 hSw; clear hSw; go_simp; (try with_reducible rfl)
                simp only [Act.put, List.getElem_toArray, List.getElem_cons_zero, List.getElem_cons_succ, List.setIfInBounds_toArray, List.set_cons_zero, List.set_cons_succ]
                refine wpAnyH_take (i := 1) (v := .int .u64 (k : Nat)) rfl (by kernel_rfl) (by kernel_rfl) (by kernel_rfl) (fun _ _ _ h => h) (Or.inl ⟨by rfl, ?_⟩) (by assumption) ?_
                · intro w8 hSw; exact ld_takeT rfl (Hld0.out w8 hSw) rfl
                simp only [Act.put, List.getElem_toArray, List.getElem_cons_zero, List.getElem_cons_succ, List.setIfInBounds_toArray, List.set_cons_zero, List.set_cons_succ]
                refine wpAnyH_take (i := 2) (v := ?_) rfl (by kernel_rfl) (by kernel_rfl) (by kernel_rfl) (fun _ _ _ h => h) (Or.inl ⟨by rfl, ?_⟩) (by assumption) ?_
                rotate_left
                · intro w8 hSw; clear hSw; go_simp; (try with_reducible rfl)
                simp only [Act.put, List.getElem_toArray, List.getElem_cons_zero, List.getElem_cons_succ, List.setIfInBounds_toArray, List.set_cons_zero, List.set_cons_succ]
                refine wpAnyH_take (i := 3) (v := ?_) rfl (by kernel_rfl) (by kernel_rfl) (by kernel_rfl) (fun _ _ _ h => h) (Or.inl ⟨by rfl, ?_⟩) (by assumption) ?_
                rotate_left
                · intro w8 hSw; clear hSw; go_simp; (try with_reducible rfl)
                simp only [Act.put, List.getElem_toArray, List.getElem_cons_zero, List.getElem_cons_succ, List.setIfInBounds_toArray, List.set_cons_zero, List.set_cons_succ]
                refine wpAnyH_take (i := 4) (v := ?_) rfl (by kernel_rfl) (by kernel_rfl) (by kernel_rfl) (fun _ _ _ h => h) (Or.inl ⟨by rfl, ?_⟩) (by assumption) ?_
                rotate_left
                · intro w8 hSw; clear hSw; go_simp; (try with_reducible rfl)
                simp only [Act.put, List.getElem_toArray, List.getElem_cons_zero, List.getElem_cons_succ, List.setIfInBounds_toArray, List.set_cons_zero, List.set_cons_succ]
                refine wpAnyH_take (i := 5) (v := ?_) rfl (by kernel_rfl) (by kernel_rfl) (by kernel_rfl) (fun _ _ _ h => h) (Or.inl ⟨by rfl, ?_⟩) (by assumption) ?_
                rotate_left
                · intro w8 hSw; clear hSw; go_simp; (try with_reducible rfl)
                simp only [Act.put, List.getElem_toArray, List.getElem_cons_zero, List.getElem_cons_succ, List.setIfInBounds_toArray, List.set_cons_zero, List.set_cons_succ]
                refine wpAnyH_take (i := 6) (v := ?_) rfl (by kernel_rfl) (by kernel_rfl) (by kernel_rfl) (fun _ _ _ h => h) (Or.inl ⟨by rfl, ?_⟩) (by assumption) ?_
                rotate_left
                · intro w8 hSw; clear hSw; go_simp; (try with_reducible rfl)
                simp only [Act.put, List.getElem_toArray, List.getElem_cons_zero, List.getElem_cons_succ, List.setIfInBounds_toArray, List.set_cons_zero, List.set_cons_succ]
                refine wpAnyH_take (i := 7) (v := ?_) rfl (by kernel_rfl) (by kernel_rfl) (by kernel_rfl) (fun _ _ _ h => h) (Or.inl ⟨by rfl, ?_⟩) (by assumption) ?_
                rotate_left
                · intro w8 hSw; clear hSw; go_simp; (try with_reducible rfl)
                simp only [Act.put, List.getElem_toArray, List.getElem_cons_zero, List.getElem_cons_succ, List.setIfInBounds_toArray, List.set_cons_zero, List.set_cons_succ]
                refine wpAnyH_take (i := 8) (v := ?_) rfl (by kernel_rfl) (by kernel_rfl) (by kernel_rfl) (fun _ _ _ h => h) (Or.inl ⟨by rfl, ?_⟩) (by assumption) ?_
                rotate_left
                · intro w8 hSw; clear hSw; go_simp; (try with_reducible rfl)
                simp only [Act.put, List.getElem_toArray, List.getElem_cons_zero, List.getElem_cons_succ, List.setIfInBounds_toArray, List.set_cons_zero, List.set_cons_succ]
                refine wpAnyH_take (i := 9) (v := .int .u64 (k : Nat)) rfl (by kernel_rfl) (by kernel_rfl) (by kernel_rfl) (fun _ _ _ h => h) (Or.inl ⟨by rfl, ?_⟩) (by assumption) ?_
                · intro w8 hSw; exact ld_takeT rfl (Hld0.out w8 hSw) rfl
                simp only [Act.put, List.getElem_toArray, List.getElem_cons_zero, List.getElem_cons_succ, List.setIfInBounds_toArray, List.set_cons_zero, List.set_cons_succ]
                refine wpAnyH_take (i := 10) (v := ?_) rfl (by kernel_rfl) (by kernel_rfl) (by kernel_rfl) (fun _ _ _ h => h) (Or.inl ⟨by rfl, ?_⟩) (by assumption) ?_
                rotate_left
                · intro w8 hSw; clear hSw; go_simp; (try with_reducible rfl)
                simp only [Act.put, List.getElem_toArray, List.getElem_cons_zero, List.getElem_cons_succ, List.setIfInBounds_toArray, List.set_cons_zero, List.set_cons_succ]
                refine wpAnyH_take (i := 11) (v := .bool false) rfl (by kernel_rfl) (by kernel_rfl) (by kernel_rfl) (fun _ _ _ h => h) (Or.inl ⟨by rfl, ?_⟩) (by assumption) ?_
                · intro w8 hSw; exact ld_takeT rfl (Hldm.out w8 hSw) rfl
                simp only [Act.put, List.getElem_toArray, List.getElem_cons_zero, List.getElem_cons_succ, List.setIfInBounds_toArray, List.set_cons_zero, List.set_cons_succ]
                refine wpAnyH_take (i := 12) (v := ?_) rfl (by kernel_rfl) (by kernel_rfl) (by kernel_rfl) (fun _ _ _ h => h) (Or.inl ⟨by rfl, ?_⟩) (by assumption) ?_
                rotate_left
                · intro w8 hSw; clear hSw; go_simp; (try with_reducible rfl)
                simp only [Act.put, List.getElem_toArray, List.getElem_cons_zero, List.getElem_cons_succ, List.setIfInBounds_toArray, List.set_cons_zero, List.set_cons_succ]
                refine wpAnyH_take (i := 13) (v := ?_) rfl (by kernel_rfl) (by kernel_rfl) (by kernel_rfl) (fun _ _ _ h => h) (Or.inl ⟨by rfl, ?_⟩) (by assumption) ?_
                rotate_left
                · intro w8 hSw; clear hSw; go_simp; (try with_reducible rfl)
                simp only [Act.put, List.getElem_toArray, List.getElem_cons_zero, List.getElem_cons_succ, List.setIfInBounds_toArray, List.set_cons_zero, List.set_cons_succ]
                refine wpAnyH_take (i := 14) (v := ?_) rfl (by kernel_rfl) (by kernel_rfl) (by kernel_rfl) (fun _ _ _ h => h) (Or.inl ⟨by rfl, ?_⟩) (by assumption) ?_
                rotate_left
                · intro w8 hSw; clear hSw; go_simp; (try with_reducible rfl)
                simp only [Act.put, List.getElem_toArray, List.getElem_cons_zero, List.getElem_cons_succ, List.setIfInBounds_toArray, List.set_cons_zero, List.set_cons_succ]
                refine wpAnyH_take (i := 15) (v := .int .i64 d) rfl (by kernel_rfl) (by kernel_rfl) (by kernel_rfl) (fun _ _ _ h => h) (Or.inl ⟨by rfl, ?_⟩) (by assumption) ?_
                · intro w8 hSw; exact ld_takeT rfl (Hld2.out w8 hSw) rfl
                simp only [Act.put, List.getElem_toArray, List.getElem_cons_zero, List.getElem_cons_succ, List.setIfInBounds_toArray, List.set_cons_zero, List.set_cons_succ]
                refine wpAnyH_take (i := 16) (v := ?_) rfl (by kernel_rfl) (by kernel_rfl) (by kernel_rfl) (fun _ _ _ h => h) (Or.inl ⟨by rfl, ?_⟩) (by assumption) ?_
                rotate_left
                · intro w8 hSw; clear hSw; go_simp; (try with_reducible rfl)
                simp only [Act.put, List.getElem_toArray, List.getElem_cons_zero, List.getElem_cons_succ, List.setIfInBounds_toArray, List.set_cons_zero, List.set_cons_succ]
                refine wpAnyH_take (i := 17) (v := ?_) rfl (by kernel_rfl) (by kernel_rfl) (by kernel_rfl) (fun _ _ _ h => h) (Or.inl ⟨by rfl, ?_⟩) (by assumption) ?_
                rotate_left
                · intro w8 hSw; clear hSw; go_simp; (try with_reducible rfl)
                simp only [Act.put, List.getElem_toArray, List.getElem_cons_zero, List.getElem_cons_succ, List.setIfInBounds_toArray, List.set_cons_zero, List.set_cons_succ]
                refine wpAnyH_take (i := 18) (v := .int .u64 (k : Nat)) rfl (by kernel_rfl) (by kernel_rfl) (by kernel_rfl) (fun _ _ _ h => h) (Or.inl ⟨by rfl, ?_⟩) (by assumption) ?_
                · intro w8 hSw; exact ld_takeT rfl (Hld0.out w8 hSw) rfl
                simp only [Act.put, List.getElem_toArray, List.getElem_cons_zero, List.getElem_cons_succ, List.setIfInBounds_toArray, List.set_cons_zero, List.set_cons_succ]
                refine wpAnyH_take (i := 19) (v := ?_) rfl (by kernel_rfl) (by kernel_rfl) (by kernel_rfl) (fun _ _ _ h => h) (Or.inl ⟨by rfl, ?_⟩) (by assumption) ?_
                rotate_left
                · intro w8 hSw; clear hSw; go_simp; (try with_reducible rfl)
                simp only [Act.put, List.getElem_toArray, List.getElem_cons_zero, List.getElem_cons_succ, List.setIfInBounds_toArray, List.set_cons_zero, List.set_cons_succ]
                refine wpAnyH_take (i := 20) (v := .int .i64 d) rfl (by kernel_rfl) (by kernel_rfl) (by kernel_rfl) (fun _ _ _ h => h) (Or.inl ⟨by rfl, ?_⟩) (by assumption) ?_
                · intro w8 hSw; exact ld_takeT rfl (Hldd.out w8 hSw) rfl
                simp only [Act.put, List.getElem_toArray, List.getElem_cons_zero, List.getElem_cons_succ, List.setIfInBounds_toArray, List.set_cons_zero, List.set_cons_succ]
                refine wpAnyH_take (i := 21) (v := ?_) rfl (by kernel_rfl) (by kernel_rfl) (by kernel_rfl) (fun _ _ _ h => h) (Or.inl ⟨by rfl, ?_⟩) (by assumption) ?_
                rotate_left
                · intro w8 hSw; clear hSw; go_simp; (try with_reducible rfl)
                simp only [Act.put, List.getElem_toArray, List.getElem_cons_zero, List.getElem_cons_succ, List.setIfInBounds_toArray, List.set_cons_zero, List.set_cons_succ]
                refine wpAnyH_take (i := 22) (v := ?_) rfl (by kernel_rfl) (by kernel_rfl) (by kernel_rfl) (fun _ _ _ h => h) (Or.inl ⟨by rfl, ?_⟩) (by assumption) ?_
                rotate_left
                · intro w8 hSw; clear hSw; go_simp; (try with_reducible rfl)
                simp only [Act.put, List.getElem_toArray, List.getElem_cons_zero, List.getElem_cons_succ, List.setIfInBounds_toArray, List.set_cons_zero, List.set_cons_succ]
                refine wpAnyH_take (i := 23) (v := ?_) rfl (by kernel_rfl) (by kernel_rfl) (by kernel_rfl) (fun _ _ _ h => h) (Or.inl ⟨by rfl, ?_⟩) (by assumption) ?_
                rotate_left
                · intro w8 hSw; clear hSw; go_simp; (try with_reducible rfl)
                simp only [Act.put, List.getElem_toArray, List.getElem_cons_zero, List.getElem_cons_succ, List.setIfInBounds_toArray, List.set_cons_zero, List.set_cons_succ]
                refine wpAnyH_take (i := 24) (v := ?_) rfl (by kernel_rfl) (by kernel_rfl) (by kernel_rfl) (fun _ _ _ h => h) (Or.inl ⟨by rfl, ?_⟩) (by assumption) ?_
                rotate_left
                · intro w8 hSw; clear hSw; go_simp; (try with_reducible rfl)
                simp only [Act.put, List.getElem_toArray, List.getElem_cons_zero, List.getElem_cons_succ, List.setIfInBounds_toArray, List.set_cons_zero, List.set_cons_succ]
                refine wpAnyH_take (i := 25) (v := .int .i64 d) rfl (by kernel_rfl) (by kernel_rfl) (by kernel_rfl) (fun _ _ _ h => h) (Or.inl ⟨by rfl, ?_⟩) (by assumption) ?_
                · intro w8 hSw; exact ld_takeT rfl (Hld2.out w8 hSw) rfl
                simp only [Act.put, List.getElem_toArray, List.getElem_cons_zero, List.getElem_cons_succ, List.setIfInBounds_toArray, List.set_cons_zero, List.set_cons_succ]
                refine wpAnyH_take (i := 26) (v := ?_) rfl (by kernel_rfl) (by kernel_rfl) (by kernel_rfl) (fun _ _ _ h => h) (Or.inl ⟨by rfl, ?_⟩) (by assumption) ?_
                rotate_left
                · intro w8 hSw; clear hSw; go_simp; (try with_reducible rfl)
                simp only [Act.put, List.getElem_toArray, List.getElem_cons_zero, List.getElem_cons_succ, List.setIfInBounds_toArray, List.set_cons_zero, List.set_cons_succ]
                refine wpAnyH_take (i := 27) (v := ?_) rfl (by kernel_rfl) (by kernel_rfl) (by kernel_rfl) (fun _ _ _ h => h) (Or.inl ⟨by rfl, ?_⟩) (by assumption) ?_
                rotate_left
                · intro w8 hSw; clear hSw; go_simp; (try with_reducible rfl)
                simp only [Act.put, List.getElem_toArray, List.getElem_cons_zero, List.getElem_cons_succ, List.setIfInBounds_toArray, List.set_cons_zero, List.set_cons_succ]
                refine wpAnyH_take (i := 28) (v := ?_) rfl (by kernel_rfl) (by kernel_rfl) (by kernel_rfl) (fun _ _ _ h => h) (Or.inl ⟨by rfl, ?_⟩) (by assumption) ?_
                rotate_left
                · intro w8 hSw; clear hSw; go_simp; (try with_reducible rfl)
                simp only [Act.put, List.getElem_toArray, List.getElem_cons_zero, List.getElem_cons_succ, List.setIfInBounds_toArray, List.set_cons_zero, List.set_cons_succ]
                refine wpAnyH_done (by kernel_rfl) ?_ _
                go_wp2_with fail
                go_roundw
                case rel => exact ⟨m + 1, by first | rfl | rw [w1]; rfl, Hml.out, Hmr5, Hgr5⟩
                case measure =>
                  first | rw [w1] | skip
                  exact ts_meas _ m Hml.out
              · obtain rfl : m = f.length := Nat.le_antisymm hm (Nat.le_of_not_lt hml)
                have y1 : ¬ (f.length : Int) < (f.length : Int) := Int.lt_irrefl _
                rw [List.take_length] at hmr
                have hB0 := hgr.out.above Hu3.out.bel.size (fun i e => by rw [e]; exact Hmup.out)
                have HBw := Lib.hid (Hu3.out.bel.trans hB0)
                have HuE := Lib.hid (Hu3.out.beside hgr.out (fun i hi e => HmF3.out (e ▸ hi)) (fun i e => by rw [e]; exact Hmup.out))
                have HmrE := Lib.hid hmr.out
                clear hm hml hB0 hmr hgr Hu3
                go_wp2_with fail
                go_loopw [132] (fun u wx => ∃ i : Nat, u = .int .i64 (i : Nat) ∧ i ≤ ds.length ∧ Hid (Below wr.heap.size wr wx)) (fun u _ => ds.length - (intOf u).toNat)
                case atStart => exact ⟨0, rfl, Nat.zero_le _, (Below.refl _ _ : Below _ wr wr)⟩
                case round =>
                  obtain ⟨i, rfl, hi, hb⟩ := hrel
                  by_cases hil : i < ds.length
                  · obtain ⟨y2, y3⟩ := i_nums i ds.length hil
                    obtain ⟨bd, fd, rfl, hcd, hbd⟩ := ints_sl (Hs.out.below (below_on HBw.out hb.out (Nat.le_refl _))) i hil
                    have hmk := (hb.out.cell (p := ⟨mb, i, none⟩) HmrE.out.lt).trans (HmrE.out.cell hil)
                    have hkey := Hst.out.2 i hil
                    obtain ⟨d, hd⟩ : ∃ d, d = ds[i] := ⟨_, rfl⟩
                    rw [← hd] at hkey hcd
                    have w1 := wrap_n i _ hil (Nat.le_trans Hl.out (by decide))
                    have Hil := Lib.hid hil
                    have hor : (0 ≤ d ∧ d ≤ 1125899906842624 ∧ d ≤ tb) ∨ (0 ≤ d ∧ d ≤ 1125899906842624 ∧ ¬ d ≤ tb) ∨ ¬ 0 ≤ d ∨ (0 ≤ d ∧ ¬ d ≤ 1125899906842624) := by omega
                    have hmk2 : (0 ≤ d ∧ d ≤ 1125899906842624) → told M f i = decide (d ≤ tb) := fun h => hkey h
                    clear hd hil hi hkey
                    rcases hor with ⟨x5, x6, x7⟩ | ⟨x5, x6, x7⟩ | x5 | ⟨x5, x6⟩
                    · rw [hmk2 ⟨x5, x6⟩, decide_eq_true x7] at hmk
                      clear hmk2
                      go_wp2_with fail
                      go_roundw
                      case rel => exact ⟨i + 1, by first | rfl | rw [w1]; rfl, Hil.out, hb⟩
                      case measure =>
                        first | rw [w1] | skip
                        exact ts_meas _ i Hil.out
                    · rw [hmk2 ⟨x5, x6⟩, decide_eq_false x7] at hmk
                      clear hmk2
                      go_wp2_with fail
                      go_roundw
                      case rel => exact ⟨i + 1, by first | rfl | rw [w1]; rfl, Hil.out, hb⟩
                      case measure =>
                        first | rw [w1] | skip
                        exact ts_meas _ i Hil.out
                    all_goals
                      clear hmk2
                      go_wp2_with fail
                      go_roundw
                      case rel => exact ⟨i + 1, by first | rfl | rw [w1]; rfl, Hil.out, hb⟩
                      case measure =>
                        first | rw [w1] | skip
                        exact ts_meas _ i Hil.out
                  · obtain rfl : i = ds.length := Nat.le_antisymm hi (Nat.le_of_not_lt hil)
                    have y2 : ¬ (ds.length : Int) < (ds.length : Int) := Int.lt_irrefl _
                    have w1 := wrap_n j _ Hjl.out (Nat.le_trans HSl.out (by decide))
                    have HuZ := Lib.hid (HuE.out.below hb.out)
                    have HmrZ := Lib.hid (HmrE.out.of_block (hb.out.block mb HmrE.out.lt))
                    have Hmx := Lib.hid Hst.out.1
                    clear hi hil hb
                    go_wp2_with fail
                    go_roundw
                    case rel => exact ⟨j + 1, F3, _, _, tb, rfl, by first | rfl | rw [w1]; rfl, Hjl.out, HuZ, Hmx, HmrZ, HmF3⟩
                    case measure =>
                      first | rw [w1] | skip
                      exact ts_meas S.length j Hjl.out
          · obtain rfl : j = S.length := Nat.le_antisymm hj (Nat.le_of_not_lt hjl)
            have x1 : ¬ (S.length : Int) < (S.length : Int) := Int.lt_irrefl _
            have Hlv := Lib.hid (lives_wheel wr)
            have Hbel := Lib.hid hu.out.bel
            clear hj hjl hu hmx hmr hmF
            go_wp2_with fail
            refine Hlv.out.mono ?_
            rintro e V3 ⟨rfl, hb3⟩
            go_wp2_with fail
            go_ret
            exact ⟨rfl, below_on Hbel.out hb3 (Nat.le_refl _)⟩
  · have Hlv := Lib.hid (lives_wheel W)
    have hor : (ds.length : Int) > 100 ∨ (¬ (ds.length : Int) > 100 ∧ (S.length : Int) > 100) ∨ (¬ (ds.length : Int) > 100 ∧ ¬ (S.length : Int) > 100 ∧ now < 0) ∨ (¬ (ds.length : Int) > 100 ∧ ¬ (S.length : Int) > 100 ∧ ¬ now < 0 ∧ now > 1125899906842624) := by
      omega
    clear hcond hs hS
    rcases hor with h1 | ⟨h1, h2⟩ | ⟨h1, h2, h3⟩ | ⟨h1, h2, h3, h4⟩
    all_goals
      go_enter Try.func3, Try.ntmps3
      go_wp2_with fail
      refine Hlv.out.mono ?_
      rintro e W10 ⟨rfl, hb10⟩
      go_wp2_with fail
      go_ret
      exact ⟨rfl, hb10⟩
theorem wheelFires_walk (now : Int) (ao : Option Addr) (cap : Nat) (ds : List Int) (bo : Option Addr) (cb : Nat) (S : List Int) (W : World) (n1 : -9223372036854775808 ≤ now) (n2 : now ≤ 9223372036854775807) (hs : Sl W 1 ao ds.length cap (ds.map (Value.int .i64))) (hok : ∀ a ∈ ds, (Lit.int .i64 a).wf = true)
    (hS : Sl W 1 bo S.length cb (S.map (Value.int .i64))) (hSok : ∀ a ∈ S, (Lit.int .i64 a).wf = true) :
    Calls Try.prog 3 #[.int .i64 now, .slice ao ds.length cap, .slice bo S.length cb] W fun e W' => e = .returned (.bool true) ∧ Below W.heap.size W W' := wheelFires_run W now ao cap ds bo cb S hs hS
end Go.Proofs.Ytadghaiengonoaa
