/- The reference's Read of a segment. No statement of the seat is proved here. -/
import Derived.Test.YtlphpjgiaflfkaaSe
namespace Go.Proofs.Ytlphpjgiaflfkaa
set_option linter.unusedVariables false
set_option linter.unusedSimpArgs false
set_option linter.unusedSectionVars false
open Go Go.RowKit Go.Shelf

theorem segRun_nil {s : SegS} {r : List UInt8} (h : r = [] ∨ (Fr.take r).err ≠ 0) : segRun s (Fr.all r) = s := by rw [Fr.all_end r h]; rfl
theorem segRun_no {s : SegS} {r : List UInt8} (h0 : r ≠ []) (he : (Fr.take r).err = 0) (hs : segStep s ((Fr.take r).kind, (Fr.take r).body) = none) : segRun s (Fr.all r) = s := by
  rw [Fr.all_step r h0 he, segRun, hs]
theorem segRun_go {s s' : SegS} {r : List UInt8} (h0 : r ≠ []) (he : (Fr.take r).err = 0) (hs : segStep s ((Fr.take r).kind, (Fr.take r).body) = some s') : segRun s (Fr.all r) = segRun s' (Fr.all (r.drop (Fr.take r).n)) := by
  rw [Fr.all_step r h0 he, segRun, hs]
theorem take_nil : (Fr.take []).err ≠ 0 := by decide
theorem take_ne {r : List UInt8} (he : (Fr.take r).err = 0) : r ≠ [] := fun h => by subst h; exact take_nil he
/-- the first frame: a head -/
theorem seg_first (b : List UInt8) : segRead b = (if (Fr.take b).err = 0 ∧ headV (Fr.take b).kind (Fr.take b).body ≠ 0 then segRun ⟨headV (Fr.take b).kind (Fr.take b).body, [], (Fr.take b).n⟩ (Fr.all (b.drop (Fr.take b).n)) else seg0) := by
  unfold segRead
  by_cases he : (Fr.take b).err = 0
  · have hn := (Fr.take_n b he).1
    by_cases hh : headV (Fr.take b).kind (Fr.take b).body = 0
    · rw [if_neg (fun h => h.2 hh)]
      exact segRun_no (take_ne he) he (by unfold segStep; rw [if_pos (show seg0.first = 0 from rfl)]; exact if_pos hh)
    · rw [if_pos ⟨he, hh⟩, segRun_go (s' := ⟨headV (Fr.take b).kind (Fr.take b).body, [], (Fr.take b).n⟩) (take_ne he) he]
      unfold segStep
      rw [if_pos (show seg0.first = 0 from rfl), if_neg hh]
      simp only [seg0, hn, Nat.zero_add]
  · rw [if_neg (fun h => he h.1)]
    exact segRun_nil (.inr he)
/-- one line more, or the end -/
theorem seg_line (s : SegS) (r : List UInt8) (hf : s.first ≠ 0) (he : (Fr.take r).err = 0) (hok : lineOk (Fr.take r).kind (Fr.take r).body (s.first + s.l.length) = true) :
    segRun s (Fr.all r) = segRun ⟨s.first, s.l ++ [lineE (Fr.take r).body], s.good + (Fr.take r).n⟩ (Fr.all (r.drop (Fr.take r).n)) := by
  have hn := (Fr.take_n r he).1
  rw [segRun_go (s' := ⟨s.first, s.l ++ [lineE (Fr.take r).body], s.good + (Fr.take r).n⟩) (take_ne he) he]
  unfold segStep
  rw [if_neg hf]
  simp only [hok, if_true, hn]
theorem seg_end (s : SegS) (r : List UInt8) (hf : s.first ≠ 0) (h : (Fr.take r).err ≠ 0 ∨ lineOk (Fr.take r).kind (Fr.take r).body (s.first + s.l.length) = false) : segRun s (Fr.all r) = s := by
  by_cases he : (Fr.take r).err = 0
  · refine segRun_no (take_ne he) he ?_
    unfold segStep
    rw [if_neg hf]
    rcases h with h | h
    · exact absurd he h
    · simp only [h]; rfl
  · exact segRun_nil (.inr he)
theorem line_kind {k : UInt8} {bd : List UInt8} {i : Nat} (h : k ≠ 2) : lineOk k bd i = false := by unfold lineOk; simp [h]
theorem ep_one (x : Ep) : ∀ u ∈ epCells x, u.oneCell' = true := by
  intro u hu
  simp [epCells] at hu
  rcases hu with rfl | rfl | rfl <;> rfl
/-- in the midst of the reference's Read -/
structure RfAt (w : World) (b : List UInt8) (f : Nat) (v : Value) (g : Nat) (wr : World) : Prop where
  ex : ∃ (l : List En) (el : List Ep), segRead b = segRun ⟨f, l, g⟩ (Fr.all (b.drop g)) ∧ EnsO wr w.heap.size v el ∧ el.map Ep.e = l ∧ l.length ≤ g
  le : g ≤ b.length
  bel : Below w.heap.size w wr
set_option maxRecDepth 100000 in
set_option maxHeartbeats 8000000 in
theorem segRefRead_any (ao : Option Addr) (cap : Nat) (b : List UInt8) (w : World) (hl : b.length ≤ 1000000) (hb : Bs w ao cap b) :
    Calls Try.prog 13 #[.slice ao b.length cap] w (ReadIs b w) := by
  have hseg := seg_first b
  have htn : (Fr.take b).err = 0 → (Fr.take b).n = (Fr.take b).body.length + 8 ∧ (Fr.take b).n ≤ b.length ∧ (Fr.take b).body.length ≤ 65536 := Fr.take_n b
  have htk := refTake_any ao cap b w (by omega) hb
  unfold TakeIs at htk
  obtain ⟨T, hT⟩ : ∃ T, T = Fr.take b := ⟨_, rfl⟩
  simp only [← hT] at hseg htn htk
  clear hT
  obtain ⟨k, bd, n, er⟩ := T
  simp only at hseg htn htk
  have Hseg := Lib.hid hseg
  have Htk := Lib.hid htk
  clear hseg htk
  go_enter Try.func13, Try.ntmps13
  go_wp2_with fail
  refine Htk.out.mono ?_
  rintro e w1 ⟨ab, cb, rfl, hb1, hB1⟩
  have hnum := fun (W : World) (p : Nat) (h : Rd 78 W p ab cb bd false) => refNum_rd 1152921504606846976 (by decide) h
  have hh : headV k bd = if k = 1 ∧ (readN 1152921504606846976 bd false).2.2 = false ∧ (readN 1152921504606846976 bd false).2.1.length = 0 then (readN 1152921504606846976 bd false).1 else 0 := rfl
  have hle := readN_le 1152921504606846976 bd false
  obtain ⟨r, hr⟩ : ∃ r, r = readN 1152921504606846976 bd false := ⟨_, rfl⟩
  simp only [← hr] at hnum hh hle
  clear hr
  obtain ⟨f, l1, b1⟩ := r
  simp only at hnum hh hle
  have Hh := Lib.hid hh
  have Hnum := Lib.hid hnum
  clear hh hnum
  have hB2 := below_new w1 (.cells #[.slice ab bd.length cb, .bool false] 78)
  have hrd : Rd 78 (w1.alloc (.cells #[.slice ab bd.length cb, .bool false] 78)) w1.heap.size ab cb bd false := ⟨heap_alloc_new _ _, hb1.below hB2⟩
  have hBw2 := below_on hB1 hB2 (Nat.le_refl _)
  go_wp2_with fail
  refine (Hnum.out _ _ hrd).mono ?_
  rintro e w3 ⟨a3, c3, rfl, h3, hg3, -⟩
  simp only at h3
  have hBw3 := below_grown hBw2 hg3 hB1.size hBw2.size
  have hE := refEnd_rd h3
  have hbad : (¬ (er = 0 ∧ headV k bd ≠ 0)) → segRead b = seg0 := fun h => by rw [Hseg.out, if_neg h]
  have hnone : segRead b = seg0 → ReadIs b w (.returned (.tuple #[.int .u64 0, .slice none 0 0, .int .i64 0])) w3 := fun h => ⟨.slice none 0 0, [], by rw [h]; rfl, EnsO.nil _ _, by rw [h]; rfl, hBw3⟩
  by_cases he : er = 0
  · have he1 : ((er : Int) != 0) = false := by simp [he]
    by_cases hk : k = 1
    · have hk1 : ((k.toNat : Int) != 1) = false := by subst hk; rfl
      by_cases hend : b1 = false ∧ l1.length = 0
      · have hr0 : endR l1 b1 = 0 := by unfold endR; rw [if_neg]; simp [hend.1, hend.2]
        rw [hr0] at hE
        have HE := Lib.hid hE
        clear hE
        have hhf : headV k bd = f := by rw [Hh.out, if_pos ⟨hk, hend⟩]
        by_cases hf : f = 0
        · have hf1 : (f : Int) < 1 := by omega
          have hfin := hnone (hbad (fun h => h.2 (by rw [hhf, hf])))
          have Hfin := Lib.hid hfin
          clear hfin hnone hbad he hk hend hr0 hhf
          go_wp2_with (go_at_call 44; refine HE.out.mono ?_; rintro e w4 ⟨rfl, rfl⟩)
          go_ret3
          exact Hfin.out
        · have hf1 : ¬ (f : Int) < 1 := by omega
          have hseg2 : segRead b = segRun ⟨f, [], n⟩ (Fr.all (b.drop n)) := by rw [Hseg.out, if_pos ⟨he, by rw [hhf]; exact hf⟩, hhf]
          obtain ⟨n1, n2, n3⟩ := htn he
          have Hseg2 := Lib.hid hseg2
          clear hnone hbad he hk hend hr0 hhf htn hseg2 n1 n3 hB1 hB2 hrd hBw2 hg3
          go_wp2_with (go_at_call 44; refine HE.out.mono ?_; rintro e w4 ⟨rfl, rfl⟩)
          go_loopw [11, 12] (fun v u wr => ∃ g : Nat, u = .int .i64 (g : Nat) ∧ RfAt w b f v g wr) (fun _ u _ => b.length - (intOf u).toNat)
          case atStart => exact ⟨n, rfl, ⟨⟨[], [], Hseg2.out, EnsO.nil _ _, rfl, by simp⟩, n2, hBw3⟩⟩
          case round =>
            obtain ⟨g, rfl, ⟨⟨l, el, hinv, hens, hel, hlg⟩, hgb, hbel⟩⟩ := hrel
            obtain ⟨av, cv, rfl⟩ := own_slice hens.own
            have hbw := hb.below hbel
            have hlen : el.length = l.length := by rw [← hel]; simp
            have Hinv := Lib.hid hinv
            have Hlen := Lib.hid hlen
            have Hel := Lib.hid hel
            have hel9 : el.length ≤ 1000000 := by omega
            clear hinv hlen hel Hseg Htk Hnum HE hBw3 h3 hf1 hk1 he1
            have i0 : (0 : Int) ≤ (g : Int) := by omega
            have i1 : (g : Int) ≤ (b.length : Int) := by omega
            go_wp2_with ((with_reducible show wpList _ _ _ (⟨_, Op.slice _ (.tmp 44) _ _ _, _, _, _, _⟩ :: _) _ _); refine wpl_slice_bs rfl (.tmp 44) (some (.tmp 45)) none 22 5 rfl Try.underlying22 sizeU8 _ _ b rfl hbw g b.length (.inl ⟨_, rfl, rfl⟩) (.inr ⟨rfl, rfl⟩) hgb (Nat.le_refl _) ?_; intro ao2 cap2 l2 hl2 hlen2 hb2; have hle2 : l2.length ≤ 1000000 := (by omega); clear hlen2)
            have e2 : l2 = b.drop g := by rw [hl2.out, List.take_length]
            have ht2 : (Fr.take l2).err = 0 → (Fr.take l2).n = (Fr.take l2).body.length + 8 ∧ (Fr.take l2).n ≤ l2.length ∧ (Fr.take l2).body.length ≤ 65536 := Fr.take_n l2
            have hse := fun h => seg_end ⟨f, l, g⟩ l2 hf h
            have hsl := fun h1 h2 => seg_line ⟨f, l, g⟩ l2 hf h1 h2
            rw [e2] at hse hsl
            simp only [← Hinv.out] at hse hsl
            rw [← e2] at hse hsl
            have htk2 := refTake_any ao2 cap2 l2 wr (by omega) hb2
            unfold TakeIs at htk2
            obtain ⟨T, hT⟩ : ∃ T, T = Fr.take l2 := ⟨_, rfl⟩
            simp only [← hT] at ht2 htk2 hse hsl
            clear hT
            obtain ⟨k2, bd2, m, er2⟩ := T
            simp only at ht2 htk2 hse hsl
            have Htk2 := Lib.hid htk2
            have Hse := Lib.hid hse
            have Hsl := Lib.hid hsl
            clear htk2 hse hsl hl2
            refine Htk2.out.mono ?_
            rintro e x1 ⟨ab2, cb2, rfl, hd1, hC1⟩
            have hDn : segRead b = ⟨f, l, g⟩ → ∀ W', Below wr.heap.size wr W' → ReadIs b w (.returned (.tuple #[.int .u64 (f : Nat), .slice av el.length cv, .int .i64 (g : Nat)])) W' := fun h W' hW => ⟨_, el, by rw [h], hens.below hW, by rw [h]; exact Hel.out, below_on hbel hW (Nat.le_refl _)⟩
            by_cases he2 : er2 = 0
            · by_cases hk2 : k2 = 2
              · have hkb : ((k2.toNat : Int) != 2) = false := by subst hk2; rfl
                have heb : ((er2 : Int) != 0) = false := by simp [he2]
                obtain ⟨m1, m2, m3⟩ := ht2 he2
                have m8 : 8 ≤ m := by omega
                clear m1 ht2
                have hsl := Hsl.out he2
                have hse := fun h => Hse.out (.inr h)
                obtain ⟨ok, hok⟩ : ∃ ok, ok = lineOk k2 bd2 (f + l.length) := ⟨_, rfl⟩
                obtain ⟨en, hen⟩ : ∃ en, en = lineE bd2 := ⟨_, rfl⟩
                rw [← hok] at hsl hse
                rw [← hen] at hsl
                unfold lineOk at hok
                rw [← hen] at hok
                unfold lineE at hen
                have n0 := fun (W : World) (p : Nat) (h : Rd 78 W p ab2 cb2 bd2 false) => refNum_rd 18446744073709551615 (by decide) h
                have q0 := readN_len 18446744073709551615 bd2 false
                have e0 : readN 18446744073709551615 bd2 false = ln0 bd2 := rfl
                rw [e0] at q0
                simp only [e0] at n0
                have n1 := fun (W : World) (p : Nat) (ao : Option Addr) (cap : Nat) (h : Rd 78 W p ao cap (ln0 bd2).2.1 (ln0 bd2).2.2) => refNum_rd 1152921504606846976 (by decide) h
                have q1 := readN_len 1152921504606846976 (ln0 bd2).2.1 (ln0 bd2).2.2
                have e1 : readN 1152921504606846976 (ln0 bd2).2.1 (ln0 bd2).2.2 = ln1 bd2 := rfl
                rw [e1] at q1
                simp only [e1] at n1
                have n2' := fun (W : World) (p : Nat) (ao : Option Addr) (cap : Nat) (h : Rd 78 W p ao cap (ln1 bd2).2.1 (ln1 bd2).2.2) => refNum_rd 3 (by decide) h
                have q2 := readN_len 3 (ln1 bd2).2.1 (ln1 bd2).2.2
                have mm2 := readN_le 3 (ln1 bd2).2.1 (ln1 bd2).2.2
                have e2' : readN 3 (ln1 bd2).2.1 (ln1 bd2).2.2 = ln2 bd2 := rfl
                rw [e2'] at q2 mm2
                simp only [e2'] at n2'
                have n3' := fun (W : World) (p : Nat) (ao : Option Addr) (cap : Nat) (h : Rd 78 W p ao cap (ln2 bd2).2.1 (ln2 bd2).2.2) => refText_rd 4096 (by decide) h (by omega)
                have mm3 := readT_le 4096 (ln2 bd2).2.1 (ln2 bd2).2.2
                have e3 : readT 4096 (ln2 bd2).2.1 (ln2 bd2).2.2 = ln3 bd2 := rfl
                rw [e3] at mm3
                simp only [e3] at n3'
                clear e0 e1 e2' e3 q0 q1 q2
                generalize ln0 bd2 = r0 at hok n0 n1
                obtain ⟨y0, l0, b0⟩ := r0
                generalize ln1 bd2 = r1 at hen n1 n2'
                obtain ⟨y1, l1', b1'⟩ := r1
                generalize ln2 bd2 = r2 at hen n2' n3' mm2
                obtain ⟨y2, l2', b2'⟩ := r2
                generalize ln3 bd2 = r3 at hok hen n3' mm3
                obtain ⟨dl, l3, b3⟩ := r3
                subst hen
                simp only at hok n0 n1 n2' n3' mm2 mm3 hsl
                have N0 := Lib.hid n0
                have N1 := Lib.hid n1
                have N2 := Lib.hid n2'
                have N3 := Lib.hid n3'
                have Hok := Lib.hid hok
                have Hsl2 := Lib.hid hsl
                have Hse2 := Lib.hid hse
                have w2' : IntKind.i64.wrap (y2 : Int) = (y2 : Int) := IntWalk.i64_in _ (by omega)
                clear n0 n1 n2' n3' hok hsl hse Hsl Hse
                have z1 := hC1.size
                go_wp2_with fail
                obtain ⟨W2, hW2⟩ : ∃ W2, W2 = x1.alloc (.cells #[.slice ab2 bd2.length cb2, .bool false] 78) := ⟨_, rfl⟩
                have hC2' : Below x1.heap.size x1 W2 := by rw [hW2]; exact below_new _ _
                have hr2 : Rd 78 W2 x1.heap.size ab2 cb2 bd2 false := ⟨by rw [hW2]; exact heap_alloc_new _ _, hd1.below hC2'⟩
                have z2 : x1.heap.size < W2.heap.size := (Array.getElem?_eq_some_iff.1 hr2.blk).1
                have hC2 := below_on hC1 hC2' (Nat.le_refl _)
                rw [← hW2]
                clear hW2 hC2'
                refine (N0.out W2 _ hr2).mono ?_
                rintro e W3 ⟨a3', c3', rfl, h3', hg3', -⟩
                simp only at h3'
                have hC3 := below_grown hC2 hg3' z1 hC2.size
                have z3 := hg3'.size
                go_wp2_with fail
                refine (N1.out W3 _ a3' c3' h3').mono ?_
                rintro e W4 ⟨a4, c4, rfl, h4, hg4, -⟩
                simp only at h4
                have hC4 := below_grown hC3 hg4 z1 hC3.size
                have z4 := hg4.size
                clear hr2 h3' hg3' hg4
                go_wp2_with fail
                obtain ⟨W5, hW5⟩ : ∃ W5, W5 = W4.alloc (.cells #[.int .u64 (y1 : Nat), .int .i64 0, .slice none 0 0] 38) := ⟨_, rfl⟩
                have hD5 : Below W4.heap.size W4 W5 := by rw [hW5]; exact below_new _ _
                have k5 : W5.heap[W4.heap.size]? = some (.cells #[.int .u64 (y1 : Nat), .int .i64 0, .slice none 0 0] 38) := by rw [hW5]; exact heap_alloc_new _ _
                have z5 : W4.heap.size < W5.heap.size := (Array.getElem?_eq_some_iff.1 k5).1
                have hC5 := below_on hC4 hD5 (Nat.le_refl _)
                have h5 := h4.below hD5
                rw [← hW5]
                clear hW5 hD5 h4
                refine (N2.out W5 _ a4 c4 h5).mono ?_
                rintro e W6 ⟨a6, c6, rfl, h6, hg6, -⟩
                simp only at h6
                have k6 := (hg6.block _ z5 (by simp <;> omega)).trans k5
                have hC6 := below_grown hC5 hg6 z1 hC5.size
                have z6 := hg6.size
                have f6 := block_free k6 1
                have d6 : W6.cell? ⟨W4.heap.size, 1, none⟩ = some (.int .i64 0) := block_cell k6 1
                have s6 : W4.heap.size < W6.heap.size := (Array.getElem?_eq_some_iff.1 k6).1
                clear k5 h5 hg6
                go_wp2_with fail
                obtain ⟨W7, hW7⟩ : ∃ W7, W7 = W6.setCell ⟨W4.heap.size, 1, none⟩ (.int .i64 (y2 : Nat)) := ⟨_, rfl⟩
                have k7 : W7.heap[W4.heap.size]? = some (.cells #[.int .u64 (y1 : Nat), .int .i64 (y2 : Nat), .slice none 0 0] 38) := by
                  have := block_set k6 1 (.int .i64 (y2 : Nat))
                  simp only [List.setIfInBounds_toArray, List.set_cons_zero, List.set_cons_succ] at this
                  rw [hW7]; exact this
                have hg7 : W6.grownBy W7 (some W4.heap.size) := by rw [hW7]; exact grown_set _ _ _ _
                rw [← hW7]
                clear hW7 f6 d6
                have h7 := h6.apart k6 (ent_u8 _ _ _ (fun n e => by cases e)) (by omega) hg7
                have hC7 := below_grown hC6 hg7 (by omega) hC6.size
                have z7 := hg7.size
                refine (N3.out W7 _ a6 c6 h7).mono ?_
                rintro e W8 ⟨a8, c8, rfl, h8, hg8, -⟩
                simp only at h8
                have k8 := (hg8.block _ (by omega) (by simp <;> omega)).trans k7
                have hC8 := below_grown hC7 hg8 z1 hC7.size
                have z8 := hg8.size
                obtain ⟨cd, W9, hcv, hb9, hD9, ht9⟩ := bytes_of dl (by unfold maxLen; omega) W8
                have k9 := (hD9.block _ (by omega)).trans k8
                have h9 := h8.below hD9
                have hC9 := below_on hC8 hD9 (Nat.le_refl _)
                have z9 := hD9.size
                have f9 := block_free k9 2
                have d9 : W9.cell? ⟨W4.heap.size, 2, none⟩ = some (.slice none 0 0) := block_cell k9 2
                have s9 : W4.heap.size < W9.heap.size := (Array.getElem?_eq_some_iff.1 k9).1
                clear k6 k7 k8 h6 h7 h8 hg7 hg8 hD9
                go_wp2_with fail
                obtain ⟨W10, hW10⟩ : ∃ W10, W10 = W9.setCell ⟨W4.heap.size, 2, none⟩ (.slice (some ⟨W8.heap.size, 0, none⟩) dl.length cd) := ⟨_, rfl⟩
                have k10 : W10.heap[W4.heap.size]? = some (.cells #[.int .u64 (y1 : Nat), .int .i64 (y2 : Nat), .slice (some ⟨W8.heap.size, 0, none⟩) dl.length cd] 38) := by
                  have := block_set k9 2 (.slice (some ⟨W8.heap.size, 0, none⟩) dl.length cd)
                  simp only [List.setIfInBounds_toArray, List.set_cons_zero, List.set_cons_succ] at this
                  rw [hW10]; exact this
                have hg10 : W9.grownBy W10 (some W4.heap.size) := by rw [hW10]; exact grown_set _ _ _ _
                rw [← hW10]
                clear hW10 f9 d9 hcv
                have h10 := h9.apart k9 (ent_u8 _ _ _ (fun n e => by cases e)) (by omega) hg10
                have hC10 := below_grown hC9 hg10 (by omega) hC9.size
                have hbt10 : BsT W10 (some ⟨W8.heap.size, 0, none⟩) cd dl := BsT.grown (w := W9) ⟨hb9, fun b off s e => by cases e; exact ht9⟩ hg10 (elem?_of k9) (by decide)
                have s10 : W4.heap.size < W10.heap.size := (Array.getElem?_eq_some_iff.1 k10).1
                obtain ⟨p0, p1, p2⟩ : W10.cell? ⟨W4.heap.size, 0, none⟩ = some (.int .u64 (y1 : Nat)) ∧ W10.cell? ⟨W4.heap.size, 1, none⟩ = some (.int .i64 (y2 : Nat)) ∧ W10.cell? ⟨W4.heap.size, 2, none⟩ = some (.slice (some ⟨W8.heap.size, 0, none⟩) dl.length cd) := ⟨block_cell k10 0, block_cell k10 1, block_cell k10 2⟩
                have hE10 := refEnd_rd h10
                obtain ⟨en, hen⟩ : ∃ en, en = endR l3 b3 := ⟨_, rfl⟩
                rw [← hen] at hE10
                have HE10 := Lib.hid hE10
                have Hsnd := Lib.hid (refSound_e (y1 : Int) (y2 : Int) (some ⟨W8.heap.size, 0, none⟩) dl.length cd dl rfl W10)
                clear h9 h10 hg10 hb9 ht9 k9 hE10
                have u1 : IntKind.u64.wrap (el.length : Int) = (el.length : Int) := IntWalk.u64_in _ (by omega)
                have u2' : IntKind.u64.wrap ((f : Int) + (el.length : Int)) = (f : Int) + (el.length : Int) := IntWalk.u64_in _ (by omega)
                have hno : ok = false → ∀ W', Below W10.heap.size W10 W' → ReadIs b w (.returned (.tuple #[.int .u64 (f : Nat), .slice av el.length cv, .int .i64 (g : Nat)])) W' := fun h W' hW => hDn (Hse2.out h) W' (below_on hC10 hW (Nat.le_refl _))
                have Hno := Lib.hid hno
                clear hno hDn
                by_cases hen0 : endR l3 b3 = 0
                · have hea : en = 0 := by rw [hen, hen0]
                  subst hea
                  obtain ⟨s, hs⟩ : ∃ s, s = soundE ⟨(y1 : Int), (y2 : Int), dl⟩ := ⟨_, rfl⟩
                  rw [← hs] at Hsnd Hok
                  have Hs := Lib.hid hs
                  clear hs hen
                  cases s with
                  | false =>
                    have Hfin := Lib.hid (fun W' hW => Hno.out (by rw [Hok.out]; simp) W' hW)
                    clear Hno hen0 hk2 he2
                    go_wp2_with (first
                      | (go_at_call 44; refine HE10.out.mono ?_; rintro e w4 ⟨rfl, rfl⟩)
                      | (go_at_call 34; refine Hsnd.out.mono ?_; rintro e W11 ⟨rfl, hD11⟩))
                    go_ret3
                    exact Hfin.out W11 hD11
                  | true =>
                    by_cases hix : (y0 : Int) = (f : Int) + (el.length : Int)
                    · have hixb : ((y0 : Int) != (f : Int) + (el.length : Int)) = false := by simp [hix]
                      have hokt : ok = true := by rw [Hok.out]; have := Hlen.out; simp [hk2, hen0]; omega
                      have hgo := Hsl2.out hokt
                      rw [e2, List.drop_drop] at hgo
                      have hgm : g + m ≤ b.length := by have := congrArg List.length e2; simp at this; omega
                      have Hgo := Lib.hid hgo
                      have w3' : IntKind.i64.wrap ((g : Int) + (m : Int)) = ((g + m : Nat) : Int) := by rw [IntWalk.i64_in _ (by omega)]; simp
                      clear hgo Hno hen0 hk2 he2 hix
                      go_wp2_with (first
                        | (go_at_call 44; refine HE10.out.mono ?_; rintro e w4 ⟨rfl, rfl⟩)
                        | (go_at_call 34; refine Hsnd.out.mono ?_; rintro e W11 ⟨rfl, hD11⟩; have hC11 := below_on hC10 hD11 (Nat.le_refl _); have k11 := (hD11.block _ s10).trans k10; have t0 := block_cell k11 0; have t1 := block_cell k11 1; have t2 := block_cell k11 2; have hens11 := (hens.below hC11).below (below_new W11 (.cells #[.int .u64 (y1 : Nat), .int .i64 (y2 : Nat), .slice (some ⟨W8.heap.size, 0, none⟩) dl.length cd] 38)); have hbt11 := (hbt10.below hD11).below (below_new W11 (.cells #[.int .u64 (y1 : Nat), .int .i64 (y2 : Nat), .slice (some ⟨W8.heap.size, 0, none⟩) dl.length cd] 38)); have s11 := (Array.getElem?_eq_some_iff.1 k11).1; simp only [List.getElem?_toArray, List.getElem?_cons_zero, List.getElem?_cons_succ] at t0 t1 t2; have zz : w.heap.size ≤ W11.heap.size := (by have := hbel.size; have := hC11.size; omega))
                        | (at_builtin; refine wpl_append_one rfl (.tmp 97) (.tmp 99) 25 rfl w.heap.size 38 infoEn Try.underlying25 rfl (by decide) _ el.length (el.map epCells) rfl hens11.own _ 1 (epCells ⟨⟨(y1 : Nat), (y2 : Nat), dl⟩, some ⟨W8.heap.size, 0, none⟩, cd⟩) rfl rfl (news_at _ rfl) (ep_one _) ?_ ?_ ?_ ?_; omega; (unfold maxLen; omega); (simp; omega); intro g4 c4 W12 hown12 hg12 hlie))
                      have hens12 := hens11.push hown12 hg12 hbt11
                      go_roundw
                      case rel =>
                        refine ⟨g + m, rfl, ⟨⟨_, el ++ [⟨⟨(y1 : Nat), (y2 : Nat), dl⟩, some ⟨W8.heap.size, 0, none⟩, cd⟩], Hgo.out, by simpa using hens12, by simp [Hel.out], by simp; omega⟩, hgm, ?_⟩⟩
                        exact below_app ((below_on hbel hC11 (Nat.le_refl _)).alloc zz _) hg12 hens11.own (Nat.le_refl _) (by simp; omega)
                      case measure => simp [intOf]; omega
                    · have hixb : ((y0 : Int) != (f : Int) + (el.length : Int)) = true := by simp [hix]
                      have Hfin := Lib.hid (fun W' hW => Hno.out (by rw [Hok.out]; have := Hlen.out; simp; intro _ _; omega) W' hW)
                      clear Hno hen0 hk2 he2 hix
                      go_wp2_with (first
                        | (go_at_call 44; refine HE10.out.mono ?_; rintro e w4 ⟨rfl, rfl⟩)
                        | (go_at_call 34; refine Hsnd.out.mono ?_; rintro e W11 ⟨rfl, hD11⟩))
                      go_ret3
                      exact Hfin.out W11 hD11
                · have hea : (en != 0) = true := by rw [hen]; simpa using hen0
                  have Hfin := Lib.hid (fun W' hW => Hno.out (by rw [Hok.out]; simp [hen0]) W' hW)
                  clear Hno hen0 hk2 he2 hen
                  go_wp2_with (go_at_call 44; refine HE10.out.mono ?_; rintro e w4 ⟨rfl, rfl⟩)
                  go_ret3
                  exact Hfin.out W10 (Below.refl _ _)
              · have hkb : ((k2.toNat : Int) != 2) = true := u8_ne (k := 2) hk2
                have heb : ((er2 : Int) != 0) = false := by simp [he2]
                have Hfin := Lib.hid (hDn (Hse.out (.inr (line_kind hk2))) x1 hC1)
                clear hDn he2 hk2 ht2
                go_wp2_with fail
                go_ret3
                exact Hfin.out
            · have heb : ((er2 : Int) != 0) = true := by simp; omega
              have Hfin := Lib.hid (hDn (Hse.out (.inl he2)) x1 hC1)
              clear hDn he2 ht2
              go_wp2_with fail
              go_ret3
              exact Hfin.out
      · have hr0 : endR l1 b1 = 20 := by
          unfold endR
          rw [if_pos]
          by_cases hb : b1 = true
          · exact .inl hb
          · refine .inr ?_
            have : l1.length ≠ 0 := fun h => hend ⟨by simpa using hb, h⟩
            omega
        rw [hr0] at hE
        have HE := Lib.hid hE
        clear hE
        have hfin := hnone (hbad (fun h => h.2 (by rw [Hh.out, if_neg (fun h => hend h.2)])))
        have Hfin := Lib.hid hfin
        clear hfin hnone hbad he hk hend hr0
        go_wp2_with (go_at_call 44; refine HE.out.mono ?_; rintro e w4 ⟨rfl, rfl⟩)
        go_ret3
        exact Hfin.out
    · have hk1 : ((k.toNat : Int) != 1) = true := u8_ne (k := 1) hk
      have hfin := hnone (hbad (fun h => h.2 (by rw [Hh.out, if_neg (fun h => hk h.1)])))
      have Hfin := Lib.hid hfin
      clear hfin hnone hbad he hk hE
      go_wp2_with fail
      go_ret3
      exact Hfin.out
  · have he1 : ((er : Int) != 0) = true := by simp; omega
    have hfin := hnone (hbad (fun h => he h.1))
    have Hfin := Lib.hid hfin
    clear hfin hnone hbad he hE
    go_wp2_with fail
    go_ret3
    exact Hfin.out
end Go.Proofs.Ytlphpjgiaflfkaa
