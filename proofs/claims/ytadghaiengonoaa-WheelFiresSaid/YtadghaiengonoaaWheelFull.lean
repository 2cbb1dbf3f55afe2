/- WheelFull: the walk. No statement of the seat is proved here. -/
import Derived.Test.YtadghaiengonoaaXr
namespace Go.Proofs.Ytadghaiengonoaa
set_option linter.unusedVariables false
set_option linter.unusedSimpArgs false
set_option linter.unusedSectionVars false
open Go Go.RowKit Go.Maps

theorem Ids.inj {X : List Th} (h : Ids X) : ∀ s ∈ X, ∀ t ∈ X, s.id = t.id → s = t := by
  induction X with
  | nil => intro s hs; cases hs
  | cons x X ih =>
    have hp := List.pairwise_cons.1 h
    intro s hs t ht e
    rcases List.mem_cons.1 hs with h1 | h1
    · rcases List.mem_cons.1 ht with h2 | h2
      · rw [h1, h2]
      · exact absurd (by rw [← h1]; exact e) (hp.1 t h2)
    · rcases List.mem_cons.1 ht with h2 | h2
      · exact absurd (by rw [← h2]; exact e.symm) (hp.1 s h1)
      · exact ih hp.2 s h1 t h2 e
theorem Ids.nodup {X : List Th} (h : Ids X) : X.Nodup := List.Pairwise.imp (fun {a b} hne (e : a = b) => hne (by rw [e])) h
theorem ids_less {X : List Th} (h : Ids X) {t : Th} (ht : t ∈ X) : (lessId X t.id).length + 1 = X.length := by
  have := (perm_less h.inj h.nodup ht).length_eq
  simpa using this.symm
theorem armX_in {X : List Th} {t : Th} (hd : Inst t.due) (hn : ∀ u ∈ X, u.id ≠ t.id) (hl : X.length < 256) : armE X t = 0 ∧ armX X t = insT X t := by
  have hne : ¬ ∃ u ∈ X, u.id = t.id := fun ⟨u, hu, e⟩ => hn u hu e
  constructor
  · unfold armE; rw [if_pos hd, if_neg hne, if_neg (by omega)]
  · unfold armX; rw [if_pos hd, if_neg hne, if_neg (by omega)]
theorem armX_full {X : List Th} {t : Th} (hd : Inst t.due) (hn : ∀ u ∈ X, u.id ≠ t.id) (hl : 256 ≤ X.length) : armE X t = 30 ∧ armX X t = X := by
  have hne : ¬ ∃ u ∈ X, u.id = t.id := fun ⟨u, hu, e⟩ => hn u hu e
  constructor
  · unfold armE; rw [if_pos hd, if_neg hne, if_pos hl]
  · unfold armX; rw [if_pos hd, if_neg hne, if_pos hl]
theorem armX_there {X : List Th} {t : Th} (hd : Inst t.due) (hn : ∃ u ∈ X, u.id = t.id) : armE X t = 32 ∧ armX X t = X := by
  constructor
  · unfold armE; rw [if_pos hd, if_pos hn]
  · unfold armX; rw [if_pos hd, if_pos hn]
theorem insT_mem {X : List Th} {t u : Th} : u ∈ insT X t ↔ u ∈ X ∨ u = t := by
  unfold insT
  rw [(Sta.srt_perm thLe (X ++ [t])).mem_iff]
  simp
theorem insT_len (X : List Th) (t : Th) : (insT X t).length = X.length + 1 := by
  unfold insT
  rw [Sta.srt_len]; simp
/-- ids 0 .. i - 1 -/
def Upto (X : List Th) (i : Nat) : Prop := X.length = i ∧ ∀ j : Int, (∃ u ∈ X, u.id = j) ↔ 0 ≤ j ∧ j < (i : Int)
theorem Upto.put {X : List Th} {i : Nat} (h : Upto X i) (g d : Int) : Upto (insT X ⟨(i : Nat), g, d⟩) (i + 1) := by
  refine ⟨by rw [insT_len, h.1], fun j => ?_⟩
  constructor
  · rintro ⟨u, hu, e⟩
    rcases insT_mem.1 hu with h1 | h1
    · have := (h.2 j).1 ⟨u, h1, e⟩; omega
    · subst h1; simp only at e; omega
  · intro hj
    by_cases e : j = (i : Int)
    · exact ⟨_, insT_mem.2 (.inr rfl), e.symm⟩
    · obtain ⟨u, hu, e2⟩ := (h.2 j).2 (by omega)
      exact ⟨u, insT_mem.2 (.inl hu), e2⟩
theorem hu4x {W wr : World} {F : Nat → Prop} {w : Nat} {now : Int} {X : List Th} (h : Wo W wr F w now X) : Ids X := h.okX.2.2.1
theorem meas256 (i : Nat) (h : i < 256) : 256 - (intOf (.int .u64 ((i : Int) + 1))).toNat < 256 - (intOf (.int .u64 (i : Nat))).toNat := by simp only [intOf]; omega
set_option maxRecDepth 100000 in
set_option maxHeartbeats 4000000 in
theorem wheelFull_run (W : World) (now due id : Int) (hid : 0 ≤ id ∧ id < 256) : Calls Try.prog 5 #[.int .i64 now, .int .i64 due, .int .u8 id] W fun e W' => e = .returned (.bool true) ∧ Below W.heap.size W W' := by
  by_cases hok : Inst now ∧ Inst due
  · obtain ⟨⟨n1, n2⟩, ⟨d1, d2⟩⟩ := hok
    have hn : Inst now := ⟨n1, n2⟩
    have hd : Inst due := ⟨d1, d2⟩
    have x1 : ¬ now < 0 := by omega
    have x2 : ¬ now > 1125899906842624 := by omega
    have x3 : ¬ due < 0 := by omega
    have x4 : ¬ due > 1125899906842624 := by omega
    have Hnw := Lib.hid (new_o W W now hn (Below.refl _ _))
    have Hd := Lib.hid hd
    have Hid' := Lib.hid hid
    clear hn hd n1 n2 d1 d2 hid
    go_enter Try.func5, Try.ntmps5
    go_wp2_with fail
    refine Hnw.out.mono ?_
    rintro e W1 ⟨w, F1, rfl, hu1, -, -⟩
    have Hu1 := Lib.hid hu1
    clear hu1 Hnw x1 x2 x3 x4
    go_wp2_with fail
    go_loopw [29] (fun u wr => ∃ (i : Nat) (F : Nat → Prop) (X : List Th), u = .int .u64 (i : Nat) ∧ i ≤ 256 ∧ Hid (Wo W wr F w now X) ∧ Hid (Upto X i)) (fun u _ => 256 - (intOf u).toNat)
    case atStart => exact ⟨0, F1, [], rfl, by omega, Hu1, (⟨rfl, fun j => ⟨fun ⟨u, hu, _⟩ => by simp at hu, fun h => by omega⟩⟩ : Upto [] 0)⟩
    case round =>
      obtain ⟨i, F, X, rfl, hi, hu, hup⟩ := hrel
      by_cases hil : i < 256
      · have x1 : (i : Int) < 256 := by omega
        have w1 : IntKind.u64.wrap ((i : Int) + 1) = (i : Int) + 1 := by simp [IntKind.wrap, IntKind.signed, IntKind.bits]; omega
        have har := arm_o hu.out ⟨(i : Nat), 0, due⟩ ⟨by simp only; omega, by simp only; omega⟩
        have hnx : ∀ u ∈ X, u.id ≠ ((i : Nat) : Int) := fun u hu e => by have := (hup.out.2 u.id).1 ⟨u, hu, rfl⟩; omega
        obtain ⟨g1, g2⟩ := armX_in (t := ⟨(i : Nat), 0, due⟩) Hd.out hnx (by rw [hup.out.1]; exact hil)
        rw [g1, g2] at har
        have Har := Lib.hid har
        have Hi := Lib.hid hil
        clear har hnx g1 g2 hil hi
        go_wp2_with fail
        refine (show Calls _ _ _ _ _ from Har.out).mono ?_
        rintro e W2 ⟨rfl, F2, hu2, -, -⟩
        have Hu2 := Lib.hid hu2
        have Hup2 := Lib.hid (hup.out.put 0 due)
        clear hu2 Har
        go_wp2_with fail
        go_roundw
        case rel => exact ⟨i + 1, F2, _, by first | rfl | rw [w1]; rfl, Hi.out, Hu2, Hup2⟩
        case measure =>
          first | rw [w1] | skip
          exact meas256 i Hi.out
      · obtain rfl : i = 256 := Nat.le_antisymm hi (Nat.le_of_not_lt hil)
        have y1 : ¬ (((256 : Nat) : Int) < 256) := by decide
        have hlen := hup.out.1
        have hXid := hup.out.2
        obtain ⟨W2, hW2⟩ : ∃ W2, W2 = wr.alloc (.cells #[.int .u64 1000, .int .u64 0, .int .i64 due] thT) := ⟨_, rfl⟩
        obtain ⟨p, hp⟩ : ∃ p, p = wr.heap.size := ⟨_, rfl⟩
        have ht2 : W2.heap[p]? = some (.cells #[.int .u64 1000, .int .u64 0, .int .i64 due] thT (0, 0)) := by rw [hW2, hp]; exact heap_alloc_new _ _
        have hu2 : Wo W W2 F w now X := hu.out.below (by rw [hW2]; exact below_new _ _)
        have hpF : ¬ F p := fun e => by have := hu.out.bd p e; omega
        have hno1000 : ∀ u ∈ X, u.id ≠ 1000 := fun u hu e => by have := (hXid u.id).1 ⟨u, hu, rfl⟩; omega
        have ha2 := arm_o hu2 ⟨1000, 0, due⟩ ⟨by simp only; omega, by simp only; omega⟩
        obtain ⟨g1, g2⟩ := armX_full (t := ⟨1000, 0, due⟩) Hd.out hno1000 (Nat.le_of_eq hlen.symm)
        rw [g1, g2] at ha2
        obtain ⟨ui, hui, huid⟩ := (hXid id).2 ⟨Hid'.out.1, by have := Hid'.out.2; omega⟩
        obtain ⟨e0, e1, e2, -, -, -⟩ := set3_res (t := ⟨1000, 0, due⟩) ht2
        have hpl := (Array.getElem?_eq_some_iff.1 ht2).1
        have Ha2 := Lib.hid ha2
        have HpF := Lib.hid hpF
        have Ht2 := Lib.hid ht2
        have Hlen := Lib.hid hlen
        have Hno := Lib.hid hno1000
        have Hui := Lib.hid hui
        have Huid := Lib.hid huid
        have hcv : IntKind.u64.wrap id = id := by obtain ⟨i1, i2⟩ := Hid'.out; simp [IntKind.wrap, IntKind.signed, IntKind.bits]; omega
        clear ha2 hpF ht2 hlen hno1000 hui huid hu2 g1 g2 hXid hi hil
        go_upto_region 11 with fail
        rw [← hW2, ← hp]
        clear hW2 hp
        go_wp2_with fail
        refine (show Calls _ _ _ _ _ from Ha2.out).mono ?_
        rintro e W3 ⟨rfl, F3, hu3, hg3, hF3⟩
        have ha3 := arm_o hu3 ⟨id, 0, due⟩ ⟨by simp only; exact Hid'.out.1, by have := Hid'.out.2; simp only; omega⟩
        obtain ⟨g1, g2⟩ := armX_there (t := ⟨id, 0, due⟩) Hd.out ⟨ui, Hui.out, Huid.out⟩
        rw [g1, g2] at ha3
        have Ha3 := Lib.hid ha3
        have hpF3 : ¬ F3 p := fun e => (hF3 p e).elim HpF.out (fun x => absurd hpl (Nat.not_lt.2 x))
        have ht3 := (hg3.block p hpl HpF.out).trans Ht2.out
        have HpF3 := Lib.hid hpF3
        have Ht3 := Lib.hid ht3
        clear ha3 g1 g2 hpF3 ht3 hu3 hg3 hF3 e0 e1 e2 hpl
        go_wp2_with fail
        refine (show Calls _ _ _ _ _ from Ha3.out).mono ?_
        rintro e W4 ⟨rfl, F4, hu4, hg4, hF4⟩
        have hpl3 := (Array.getElem?_eq_some_iff.1 Ht3.out).1
        have hpF4 : ¬ F4 p := fun e => (hF4 p e).elim HpF3.out (fun x => absurd hpl3 (Nat.not_lt.2 x))
        have ht4 := (hg4.block p hpl3 HpF3.out).trans Ht3.out
        have hln := len_o hu4
        rw [Hlen.out] at hln
        have Hln := Lib.hid hln
        have Hu4 := Lib.hid hu4
        have HpF4 := Lib.hid hpF4
        have Ht4 := Lib.hid ht4
        clear hln hu4 hg4 hF4 hpF4 ht4 hpl3
        go_wp2_with fail
        refine Hln.out.mono ?_
        rintro e W5 ⟨rfl, hb5⟩
        have hcn := cancel_o (Hu4.out.below hb5) id ⟨Hid'.out.1, by have := Hid'.out.2; omega⟩
        have ht5 := (hb5.block p (Array.getElem?_eq_some_iff.1 Ht4.out).1).trans Ht4.out
        have hpl5 := (Array.getElem?_eq_some_iff.1 ht5).1
        have Hcn := Lib.hid hcn
        have Ht5 := Lib.hid ht5
        clear hcn ht5 hb5
        go_wp2_with fail
        refine Hcn.out.mono ?_
        rintro e W6 ⟨hci, F6, hu6, hg6, hF6⟩
        obtain ⟨v, hv, hvid, rfl⟩ : ∃ u ∈ X, u.id = id ∧ e = .returned (.tuple #[thVal u, .bool true]) := by
          rcases hci with h | ⟨h, -⟩
          · exact h
          · exact absurd Huid.out (h ui Hui.out)
        obtain ⟨vi, vg, vd⟩ := v
        have hpF6 : ¬ F6 p := fun e => (hF6 p e).elim HpF4.out (fun x => absurd hpl5 (Nat.not_lt.2 x))
        have ht6 := (hg6.block p hpl5 HpF4.out).trans Ht5.out
        obtain ⟨W7, hW7⟩ : ∃ W7, W7 = W6.alloc (.cells #[.int .u64 vi, .int .u64 vg, .int .i64 vd] thT) := ⟨_, rfl⟩
        have hb7 : Below W6.heap.size W6 W7 := by rw [hW7]; exact below_new _ _
        have ht7 := (hb7.block p (Array.getElem?_eq_some_iff.1 ht6).1).trans ht6
        obtain ⟨e0, e1, e2, -, -, -⟩ := set3_res (t := ⟨1000, 0, due⟩) ht7
        have hpl := (Array.getElem?_eq_some_iff.1 ht7).1
        have hXI := hu4x Hu4.out
        have hl6 : (lessId X id).length = 255 := by
          have := ids_less hXI Hui.out
          rw [Huid.out, Hlen.out] at this
          omega
        have hno6 : ∀ u ∈ lessId X id, u.id ≠ 1000 := fun u hu => Hno.out u (List.mem_filter.1 hu).1
        have hni6 : ∀ u ∈ lessId X id, u.id ≠ id := fun u hu => by simpa using (List.mem_filter.1 hu).2
        have ha7 := arm_o (hu6.below hb7) ⟨1000, 0, due⟩ ⟨by simp only; omega, by simp only; omega⟩
        obtain ⟨g1, g2⟩ := armX_in (t := ⟨1000, 0, due⟩) Hd.out hno6 (by rw [hl6]; decide)
        rw [g1, g2] at ha7
        have Ha7 := Lib.hid ha7
        have Hl6 := Lib.hid hl6
        have Hni6 := Lib.hid hni6
        clear ha7 g1 g2 hl6 hno6 hni6 hXI ht7 hb7 ht6 hpF6 hu6 hg6 hF6 hci hv hvid hpl5
        unfold thVal
        go_upto_region 14 with fail
        rw [← hW7]
        clear hW7
        go_wp2_with fail
        refine (show Calls _ _ _ _ _ from Ha7.out).mono ?_
        rintro e W8 ⟨rfl, F8, hu8, -, -⟩
        have hn8 : ∀ u ∈ insT (lessId X id) ⟨1000, 0, due⟩, u.id ≠ id := fun u hu => by
          rcases insT_mem.1 hu with h1 | h1
          · exact Hni6.out u h1
          · subst h1; have := Hid'.out.2; simp only; omega
        have ha8 := arm_o hu8 ⟨id, 0, due⟩ ⟨by simp only; exact Hid'.out.1, by have := Hid'.out.2; simp only; omega⟩
        obtain ⟨g1, g2⟩ := armX_full (t := ⟨id, 0, due⟩) Hd.out hn8 (by rw [insT_len, Hl6.out]; decide)
        rw [g1, g2] at ha8
        have Ha8 := Lib.hid ha8
        clear ha8 g1 g2 hn8 hu8 e0 e1 e2 hpl
        go_wp2_with fail
        refine (show Calls _ _ _ _ _ from Ha8.out).mono ?_
        rintro e W9 ⟨rfl, F9, hu9, -, -⟩
        have Hlv := Lib.hid (lives_wheel W9)
        have Hb9 := Lib.hid hu9.bel
        clear hu9
        go_wp2_with fail
        refine Hlv.out.mono ?_
        rintro e W10 ⟨rfl, hb10⟩
        go_wp2_with fail
        go_ret
        exact ⟨rfl, below_on Hb9.out hb10 (Nat.le_refl _)⟩
  · have Hlv := Lib.hid (lives_wheel W)
    have hor : now < 0 ∨ (¬ now < 0 ∧ now > 1125899906842624) ∨ (¬ now < 0 ∧ ¬ now > 1125899906842624 ∧ due < 0) ∨ (¬ now < 0 ∧ ¬ now > 1125899906842624 ∧ ¬ due < 0 ∧ due > 1125899906842624) := by
      unfold Inst at hok
      omega
    clear hok
    rcases hor with h1 | ⟨h1, h2⟩ | ⟨h1, h2, h3⟩ | ⟨h1, h2, h3, h4⟩
    all_goals
      go_enter Try.func5, Try.ntmps5
      go_wp2_with fail
      refine Hlv.out.mono ?_
      rintro e W10 ⟨rfl, hb10⟩
      go_wp2_with fail
      go_ret
      exact ⟨rfl, hb10⟩
theorem wheelFull_walk (now due id : Int) (W : World) (n1 : -9223372036854775808 ≤ now) (n2 : now ≤ 9223372036854775807) (d1 : -9223372036854775808 ≤ due) (d2 : due ≤ 9223372036854775807) (i1 : 0 ≤ id) (i2 : id ≤ 255) : Calls Try.prog 5 #[.int .i64 now, .int .i64 due, .int .u8 id] W fun e W' => e = .returned (.bool true) ∧ Below W.heap.size W W' := wheelFull_run W now due id ⟨i1, by omega⟩
end Go.Proofs.Ytadghaiengonoaa
