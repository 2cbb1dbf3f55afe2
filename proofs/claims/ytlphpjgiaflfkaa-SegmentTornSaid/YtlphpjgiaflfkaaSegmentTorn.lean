/- SegmentTorn: the walk. No statement of the seat is proved here. -/
import Derived.Test.YtlphpjgiaflfkaaSw
import Derived.Test.YtlphpjgiaflfkaaSv
namespace Go.Proofs.Ytlphpjgiaflfkaa
set_option linter.unusedVariables false
set_option linter.unusedSimpArgs false
set_option linter.unusedSectionVars false
open Go Go.RowKit Go.Shelf

theorem Ens.take {W : World} {ao : Option Addr} {cap : Nat} {l : List Ep} (h : Ens W ao cap l) (k : Nat) (hk : k ≤ l.length) : Ens W ao cap (l.take k) := by
  have hle := h.sl.le
  refine ⟨⟨?_, by rw [List.length_take]; omega, h.sl.max, h.sl.none, fun j u hu => ?_⟩, fun x hx => h.data x (List.mem_of_mem_take hx)⟩
  · induction (l.take k) with
    | nil => rfl
    | cons a l ih => rw [List.map_cons, List.flatten_cons, List.length_append, ih, List.length_cons, Nat.succ_mul]; simp [epCells]; omega
  · refine h.sl.cell j u ?_
    rw [← List.take_append_drop k l, List.map_append, List.flatten_append, List.getElem?_append_left (List.getElem?_eq_some_iff.1 hu).1]
    exact hu
theorem xor_is (a b : Int) : ∃ c : UInt8, bits BinOp.xor IntKind.u8 a b = (c.toNat : Int) := by
  obtain ⟨z, hz⟩ : ∃ z : Int, bits BinOp.xor IntKind.u8 a b = z % 256 := ⟨_, rfl⟩
  rw [hz]
  exact u8_of _ (by omega) (by omega)
set_option maxRecDepth 100000 in
set_option maxHeartbeats 2000000 in
theorem segmentTorn_far (f : Int) (ao : Option Addr) (cap : Nat) (l : List Ep) (cut turn : Int) (w : World) (h : Ens w ao cap l) (hc : ¬ LightP l ∨ f < 1 ∨ 576460752303423488 < f ∨ l.length = 0) :
    Calls Try.prog 4 #[.int .u64 f, .slice ao l.length cap, .int .u16 cut, .int .u32 turn] w fun e w' => e = .returned (.bool true) ∧ Below w.heap.size w w' := by
  have hl := light24_any ao cap l w h
  by_cases h1 : LightP l
  · rw [decide_eq_true h1] at hl
    have Hl := Lib.hid hl
    have H1 := Lib.hid h1
    have hlen := h1.2
    clear hl h1
    by_cases h2 : f < 1
    · clear hc
      go_enter Try.func4, Try.ntmps4
      go_wp2_with fail
      refine Hl.out.mono ?_
      rintro e w1 ⟨rfl, hB1⟩
      go_upto_if 36 with fail
      go_wp2_with fail
      refine (lives24_any _).mono ?_
      rintro e w2 ⟨rfl, hB2⟩
      go_wp2_with fail
      go_ret
      exact ⟨rfl, below_on hB1 hB2 (Nat.le_refl _)⟩
    · by_cases h3 : 576460752303423488 < f
      · clear hc
        go_enter Try.func4, Try.ntmps4
        go_wp2_with fail
        refine Hl.out.mono ?_
        rintro e w1 ⟨rfl, hB1⟩
        go_upto_if 36 with fail
        go_wp2_with fail
        refine (lives24_any _).mono ?_
        rintro e w2 ⟨rfl, hB2⟩
        go_wp2_with fail
        go_ret
        exact ⟨rfl, below_on hB1 hB2 (Nat.le_refl _)⟩
      · have h4 : l.length = 0 := by
          rcases hc with hc | hc | hc | hc
          · exact absurd H1.out hc
          · exact absurd hc h2
          · exact absurd hc h3
          · exact hc
        have h4b : ((l.length : Int) == 0) = true := by simp [h4]
        clear hc h4
        go_enter Try.func4, Try.ntmps4
        go_wp2_with fail
        refine Hl.out.mono ?_
        rintro e w1 ⟨rfl, hB1⟩
        go_upto_if 36 with fail
        go_wp2_with fail
        refine (lives24_any _).mono ?_
        rintro e w2 ⟨rfl, hB2⟩
        go_wp2_with fail
        go_ret
        exact ⟨rfl, below_on hB1 hB2 (Nat.le_refl _)⟩
  · rw [decide_eq_false h1] at hl
    have Hl := Lib.hid hl
    clear hl h1 hc
    go_enter Try.func4, Try.ntmps4
    go_wp2_with fail
    refine Hl.out.mono ?_
    rintro e w1 ⟨rfl, hB1⟩
    go_upto_if 36 with fail
    go_wp2_with fail
    refine (lives24_any _).mono ?_
    rintro e w2 ⟨rfl, hB2⟩
    go_wp2_with fail
    go_ret
    exact ⟨rfl, below_on hB1 hB2 (Nat.le_refl _)⟩
theorem torn_a (b H N : Nat) (h : b = H + N) (hb : N ≤ 1000000) : wrap64 ((b : Int) - (H : Int)) = (N : Int) := by
  subst h
  rw [IntWalk.wrap64_in (((H + N : Nat) : Int) - (H : Int)) (by omega)]; omega
theorem torn_b (c : Nat) (h : c ≤ 65535) : wrap64 (c : Int) = (c : Int) := IntWalk.wrap64_in (c : Int) (by omega)
theorem torn_c (c N m : Nat) (h : m = c % N) : (c : Int).tmod (N : Int) = (m : Int) := by
  subst h
  rw [Int.tmod_eq_emod_of_nonneg (by omega)]; exact (Int.natCast_emod _ _).symm
theorem lines_len (l : List En) : ∀ i, i + l.length < 2 ^ 64 → (∀ e ∈ l, soundE e = true) → (linesB i l).length ≤ 4200 * l.length := by
  induction l with
  | nil => intro i _ _; simp [linesB]
  | cons e l ih =>
    intro i hi hs
    have h1 := ih (i + 1) (by simp at hi; omega) (fun x hx => hs x (by simp [hx]))
    obtain ⟨s1, s2, s3, s4, s5⟩ := soundE_iff.1 (hs e (by simp))
    have h2 : (lnB i e).length = (lineN i e.term.toNat e.kind.toNat e.data).length + 8 := Fr.wrapped_length _ _
    have h3 := lineN_len i e.term.toNat e.kind.toNat e.data (by simp at hi; omega) (by omega) (by omega) (by omega)
    rw [linesB_cons, List.length_append, List.length_cons]
    omega
theorem torn_e (a b : Nat) (ha : a ≤ 17) (hb : b ≤ 1000000) : wrap64 ((a : Int) + (b : Int)) = ((a + b : Nat) : Int) := by
  rw [IntWalk.wrap64_in ((a : Int) + (b : Int)) (by omega)]; omega
theorem torn_f (a b : Nat) (ha : a ≤ 17) (hb : b ≤ 900000) : a + b ≤ 1000000 := by omega
theorem torn_g (es : List En) (l : List Ep) (h : es = l.map Ep.e) (k : Nat) (h1 : k < es.length) (h2 : k < l.length) : es[k] = l[k].e := by
  subst h; simp
theorem torn_h (f k : Nat) (h : f ≤ 576460752303423488) (hk : k ≤ 60) : f + k < 2 ^ 64 := by omega
theorem torn_i (i t k : Nat) (d L : List UInt8) (h : L = lineB i t k d) (hi : i < 2 ^ 64) (ht : (t : Int) ≤ 1152921504606846976) (hk : (k : Int) ≤ 3) (hd : d.length ≤ 4096) : L.length ≤ 1000000 := by
  have h1 := lineN_len i t k d hi (by omega) (by omega) (by omega)
  rw [h, lineB, Fr.wrapped_length]; omega
theorem torn_j (a : Nat) (h : a ≤ 1000000) : wrap64 ((a : Int) - 3) = (a : Int) - 3 := IntWalk.wrap64_in ((a : Int) - 3) (by omega)
theorem torn_k (n a : Nat) (d : Int) (h : (a : Int) - d = (n : Int)) (ha : n ≤ 1000000) (_ : 0 ≤ d) : wrap64 ((a : Int) - d) = (n : Int) := by
  rw [h]; exact IntWalk.wrap64_in (n : Int) (by omega)
theorem torn_l (a h m : Nat) (e : a = h + m) (hn : ¬ a < h + 3) : 3 ≤ m := by omega
theorem torn_m (k : Nat) (h : k ≤ 1000000) : wrap64 ((k : Int) + 1) = ((k + 1 : Nat) : Int) := by
  rw [IntWalk.wrap64_in ((k : Int) + 1) (by omega)]; omega
theorem lines_pos (f : Nat) (l : List En) (h : 0 < l.length) : 0 < (linesB f l).length := by
  cases l with
  | nil => simp at h
  | cons e l =>
    rw [linesB_cons, List.length_append]
    have : (lnB f e).length = (lineN f e.term.toNat e.kind.toNat e.data).length + 8 := Fr.wrapped_length _ _
    omega
set_option maxRecDepth 100000 in
set_option maxHeartbeats 8000000 in
theorem segmentTorn_near (f : Nat) (ao : Option Addr) (cap : Nat) (l : List Ep) (cut turn : Nat) (w : World) (h : Ens w ao cap l) (hlt : LightP l) (f1 : 1 ≤ f) (f2 : f ≤ 576460752303423488) (hl0 : 0 < l.length) (hcut : cut ≤ 65535) (hturn : turn ≤ 4294967295) :
    Calls Try.prog 4 #[.int .u64 (f : Nat), .slice ao l.length cap, .int .u16 (cut : Nat), .int .u32 (turn : Nat)] w fun e w' => e = .returned (.bool true) ∧ Below w.heap.size w w' := by
  have hl := light24_any ao cap l w h
  rw [decide_eq_true hlt] at hl
  have Hl := Lib.hid hl
  have hlen := hlt.2
  have Hdat := Lib.hid hlt.1
  have Hwh := Lib.hid (fun W hW => whole24_any f f2 ao cap l W hW hlen)
  have Hhd := Lib.hid (fun W => refHeadB_any f (by omega) W)
  have g1 : ¬ (f : Int) < 1 := by omega
  have g2 : ¬ (576460752303423488 : Int) < (f : Int) := by omega
  have g3 : ((l.length : Int) == 0) = false := by rw [beq_eq_false_iff_ne]; omega
  have Hhll : Hid ((headB f).length ≤ 17) := by
    show _ ≤ _
    have := numB_len f (by omega)
    unfold headB
    rw [Fr.wrapped_length]; omega
  clear hl hlt
  go_enter Try.func4, Try.ntmps4
  go_wp2_with fail
  refine Hl.out.mono ?_
  rintro e w1 ⟨rfl, hB1⟩
  have h1 := h.below hB1
  clear Hl
  go_wp2_with fail
  refine (Hwh.out _ h1).mono ?_
  rintro e w2 ⟨hB2', hcase⟩
  have hB2 := below_on hB1 hB2' (Nat.le_refl _)
  rcases hcase with ⟨hsd, a2, c2, b, rfl, hb, hown2⟩ | rfl
  · have h2 := h.below hB2
    have hbs2 := Bs.of_own hown2
    obtain ⟨es, hes⟩ : ∃ es, es = l.map Ep.e := ⟨_, rfl⟩
    rw [← hes] at hb
    have hesl : es.length = l.length := by rw [hes]; simp
    have hesd : ∀ e ∈ es, soundE e = true := by rw [hes]; intro e he; obtain ⟨x, hx, rfl⟩ := List.mem_map.1 he; exact hsd x hx
    have hpos := lines_pos f es (by omega)
    have hNl := lines_len es f (by omega) hesd
    obtain ⟨m, hm⟩ : ∃ m, m = cut % (linesB f es).length := ⟨_, rfl⟩
    have hmlt : m < (linesB f es).length := by rw [hm]; exact Nat.mod_lt _ hpos
    obtain ⟨k, hk, q, hq, hmq, hrd, htn⟩ := torn_law f es (by omega) f2 hesd (by omega) m hmlt
    obtain ⟨H, hH⟩ : ∃ H, H = headB f := ⟨_, rfl⟩
    have hhll := Hhll.out
    rw [← hH] at hb hrd htn hhll
    have hhd := Hhd.out
    rw [← hH] at hhd
    obtain ⟨N, hN⟩ : ∃ N, N = (linesB f es).length := ⟨_, rfl⟩
    have hbl : b.length = H.length + N := by rw [hb, hN]; simp
    rw [← hb] at hrd htn
    rw [← hN] at hm hmlt hpos hNl
    have s1 : wrap64 ((b.length : Int) - (H.length : Int)) = (N : Int) := torn_a _ _ _ hbl (Nat.le_trans hNl (by omega))
    have s2 : wrap64 (cut : Int) = (cut : Int) := torn_b _ hcut
    have s3 : (cut : Int).tmod (N : Int) = (m : Int) := torn_c _ _ _ hm
    have s4 : ¬ (N : Int) = 0 := Int.natCast_ne_zero.2 (Nat.pos_iff_ne_zero.1 hpos)
    clear hm
    obtain ⟨A, hA⟩ : ∃ A, A = H.length + m := ⟨_, rfl⟩
    have hab : A ≤ b.length := by rw [hbl, hA]; exact Nat.add_le_add_left (Nat.le_of_lt hmlt) _
    have s5 : wrap64 ((H.length : Int) + (m : Int)) = (A : Int) := by subst hA; exact torn_e _ _ hhll (Nat.le_trans (Nat.le_of_lt hmlt) (Nat.le_trans hNl (by omega)))
    rw [← hA] at hrd htn
    obtain ⟨T, hT⟩ : ∃ T, T = b.take A := ⟨_, rfl⟩
    have hTl : T.length = A := by rw [hT, List.length_take]; exact Nat.min_eq_left hab
    rw [← hT] at hrd
    have HA := Lib.hid hA
    clear hA
    have Hhd2 := Lib.hid hhd
    have Hrd := Lib.hid hrd
    have Htn := Lib.hid htn
    have Hes := Lib.hid hes
    have Hq := Lib.hid hq
    have Hmq := Lib.hid hmq
    have HT := Lib.hid hT
    have HTl := Lib.hid hTl
    have Hbl := Lib.hid hbl
    have Hsd := Lib.hid hsd
    have Hc2 := Lib.hid hbs2.le
    have Hab := Lib.hid hab
    clear hab
    have Hbs2 := Lib.hid hbs2
    have Hesl := Lib.hid hesl
    have Hesd := Lib.hid hesd
    have Hk := Lib.hid hk
    have HNl := Lib.hid hNl
    have Hpos := Lib.hid hpos
    have Hmlt := Lib.hid hmlt
    have Hcut := Lib.hid hcut
    clear hhd hrd htn hes hq hmq hT hTl hb hH hN hsd hbs2 Hhd Hhll Hwh hesl hesd hNl hpos hmlt hcut hbl
    go_wp2_with fail
    refine (Hhd2.out _).mono ?_
    rintro e w3 ⟨a3, c3, rfl, hf3⟩
    have hB3 := below_on hB2 hf3.bel (Nat.le_refl _)
    have hown3 := own_below hown2 hf3.bel
    have hb3 := Bs.of_own hown3
    have hc2 : (A : Int) ≤ (c2 : Int) := Int.ofNat_le.2 (Nat.le_trans Hab.out Hc2.out)
    have hTb : Bs w3 a2 c2 T := by rw [HT.out]; exact hb3.take A Hab.out
    have hrdc := segRead_any a2 c2 T w3 (by rw [HTl.out, HA.out]; exact torn_f _ _ hhll (Nat.le_trans (Nat.le_of_lt Hmlt.out) (Nat.le_trans HNl.out (by rw [Hesl.out]; omega)))) hTb
    rw [HTl.out] at hrdc
    have Hrdc := Lib.hid hrdc
    clear hrdc
    go_wp2_with fail
    refine Hrdc.out.mono ?_
    rintro e w4 ⟨v4, el, rfl, hens, hel, hB4'⟩
    rw [Hrd.out] at hel ⊢
    simp only at hel ⊢
    have hB4 := below_on hB3 hB4' (Nat.le_refl _)
    obtain ⟨a4, c4, rfl⟩ := own_slice hens.own
    have hkl : k < l.length := Nat.lt_of_lt_of_eq hk Hesl.out
    have hell : el.length = k := by
      have h1 := congrArg List.length hel
      rw [List.length_map, List.length_take, Nat.min_eq_left (Nat.le_of_lt hk)] at h1
      exact h1
    have hens4 := hens.ens
    obtain ⟨G, hG⟩ : ∃ G, G = H.length + (linesB f (List.take k es)).length := ⟨_, rfl⟩
    have hAG : A = G + q := by rw [HA.out, Hmq.out, hG, Nat.add_assoc]
    rw [← hG]
    have HG := Lib.hid hG
    clear hG
    have h4 := h.below hB4
    obtain ⟨b1, o1, rfl, -, -, -⟩ := h4.get k hkl
    have hek : es[k] = l[k].e := torn_g _ _ Hes.out k hk hkl
    have hsk := Hesd.out es[k] (List.getElem_mem hk)
    have hqq : q < (lnB (f + k) l[k].e).length := Nat.lt_of_lt_of_eq Hq.out (congrArg (fun e => (lnB (f + k) e).length) hek)
    rw [hek] at hsk
    have hdk := fun W (hW : Ens W (some ⟨b1, o1, none⟩) cap l) => hW.data l[k] (List.getElem_mem hkl)
    have hgt := fun W (hW : Ens W (some ⟨b1, o1, none⟩) cap l) => hW.get k hkl
    obtain ⟨x, hx⟩ : ∃ x, x = l[k] := ⟨_, rfl⟩
    rw [← hx] at hsk hqq hdk
    simp only [← hx] at hgt
    clear hx hek Hq
    obtain ⟨⟨x1, x2, xd⟩, xa, xc⟩ := x
    simp only at hsk hqq hdk hgt
    obtain ⟨t1, t2, t3, t4, t5⟩ := soundE_iff.1 hsk
    simp only at t1 t2 t3 t4 t5
    obtain ⟨t, rfl⟩ := Int.eq_ofNat_of_zero_le (show (0 : Int) ≤ x1 from Int.le_trans (by decide) t1)
    obtain ⟨kk, rfl⟩ := Int.eq_ofNat_of_zero_le (show (0 : Int) ≤ x2 from Int.le_trans (by decide) t3)
    have hkf : k ≤ 60 := Nat.le_trans (Nat.le_of_lt hkl) hlen
    have hln := fun W hd => refLine_any (f + k) t kk (torn_h f k f2 hkf) xa xc xd W hd hsk
    have hlnb : lnB (f + k) ⟨(t : Nat), (kk : Nat), xd⟩ = lineB (f + k) t kk xd := by simp [lnB]
    rw [hlnb] at hqq
    obtain ⟨L, hL⟩ : ∃ L, L = lineB (f + k) t kk xd := ⟨_, rfl⟩
    rw [← hL] at hln hqq
    have Hln := Lib.hid hln
    have Hgt := Lib.hid hgt
    have Hdk := Lib.hid hdk
    have hsame := fun W (hW : Ens W a4 c4 el) (hW2 : Ens W (some ⟨b1, o1, none⟩) cap (l.take k)) => segRefSame_any a4 (some ⟨b1, o1, none⟩) c4 cap el (l.take k) W hW hW2 (by rw [hell]; exact Nat.le_trans hkf (by decide)) (by rw [List.length_take, Nat.min_eq_left (Nat.le_of_lt hkl)]; exact Nat.le_trans hkf (by decide))
    have hdec : decide (el.map Ep.e = (l.take k).map Ep.e) = true := by rw [decide_eq_true_eq, hel, Hes.out, List.map_take]
    rw [hdec, List.length_take, Nat.min_eq_left (Nat.le_of_lt hkl), hell] at hsame
    have Hsame := Lib.hid hsame
    rw [hell]
    have r1 : ¬ (l.length : Int) ≤ (k : Int) := by omega
    have r2 : (k : Int) ≤ (cap : Int) := by have := h4.sl.le; omega
    have r3 : ¬ (A : Int) < (G : Int) := by omega
    have r4 : wrap64 ((A : Int) - (G : Int)) = (q : Int) := torn_a A G q hAG (Nat.le_trans (Nat.le_of_lt hqq) (torn_i (f + k) t kk xd L hL (torn_h f k f2 hkf) t2 t4 t5))
    have r5 : IntKind.u64.wrap (k : Int) = (k : Int) := IntWalk.u64_in _ (by omega)
    have r6 : IntKind.u64.wrap ((f : Int) + (k : Int)) = ((f + k : Nat) : Int) := by rw [IntWalk.u64_in _ (by omega)]; omega
    have r7 : ¬ (L.length : Int) ≤ (q : Int) := by omega
    have r8 : (0 : Int) ≤ (k : Int) := by omega
    have r9 : (k : Int) < (l.length : Int) := by omega
    have Hell := Lib.hid hell
    have Hel := Lib.hid hel
    have HAG := Lib.hid hAG
    have Hsk := Lib.hid hsk
    have HL := Lib.hid hL
    have Hqq := Lib.hid hqq
    clear hell hel hAG hsk hL hqq hlnb hln hgt hdk hsame hdec t1 t2 t3 t4 t5 s1 s2 s3 s4 hc2
    go_wp2_with fail
    refine (Hsame.out _ hens4 (h4.take k (Nat.le_of_lt hkl))).mono ?_
    rintro e w5 ⟨rfl, hB5'⟩
    have hB5 := below_on hB4 hB5' (Nat.le_refl _)
    have h5 := h.below hB5
    obtain ⟨b5, o5, e5, p0, p1, p2⟩ := Hgt.out w5 h5
    simp only [Option.some.injEq, Addr.mk.injEq] at e5
    obtain ⟨rfl, rfl, -⟩ := e5
    have hdk5 := Hdk.out _ h5
    clear h1 h2 h4 hB1 hB2'
    go_wp2_with fail
    refine (Hln.out _ hdk5).mono ?_
    rintro e w6 ⟨a6, c6, rfl, hf6⟩
    have hB6 := below_on hB5 hf6.bel (Nat.le_refl _)
    have h46 := below_on hB5' hf6.bel (Nat.le_refl _)
    have h36 := below_on hB4' h46 (Nat.le_refl _)
    have hTb6 := hTb.below h36
    have hTl := HTl.out
    subst hTl
    have hc2 : (T.length : Int) ≤ (c2 : Int) := Int.ofNat_le.2 (Nat.le_trans Hab.out Hc2.out)
    have Hdk5 := Lib.hid hdk5
    have H5 := Lib.hid h5
    have hnew := below_new w6 (.cells #[] 5)
    have how0 := own_empty w6 w6.heap.size 5 1 (Nat.le_refl _)
    have hTb7 := hTb6.below hnew
    clear p0 p1 p2 r2 hdk5 h5
    go_upto_if 108 with fail
    have Htb : Hid (T.length ≤ 1000000) := by show _ ≤ _; rw [HA.out]; exact torn_f _ _ hhll (Nat.le_trans (Nat.le_of_lt Hmlt.out) (Nat.le_trans HNl.out (by rw [Hesl.out]; omega)))
    by_cases hn : T.length < H.length + 3
    · have z1 : wrap64 ((T.length : Int) - 3) = (T.length : Int) - 3 := torn_j _ Htb.out
      have z2 : (T.length : Int) - 3 < (H.length : Int) := by omega
      clear hn
      go_upto_if 119 with (first | (at_builtin; refine wpl_append_bs rfl (.tmp 109) (.tmp 112) 22 rfl w6.heap.size 5 infoU8 Try.underlying22 _ _ [] rfl how0 _ _ T rfl hTb7 ?_ ?_ ?_; (simp only [List.length_nil, Nat.zero_add]; exact Nat.le_trans Htb.out (by decide)); (exact hnew.size); intro a9 c9 l9 w9 hl9 hown9 hg9; obtain rfl : l9 = T := (by rw [hl9.out]; rfl)) | fail)
      have hB9' := below_app hnew hg9 how0 (Nat.le_refl _) hnew.size
      have hB9 := below_on hB6 hB9' (Nat.le_refl _)
      go_wp2_with fail
      refine (lives24_any _).mono ?_
      rintro e w10 ⟨rfl, hB10⟩
      go_wp2_with fail
      go_ret
      exact ⟨rfl, below_on hB9 hB10 (Nat.le_refl _)⟩
    · obtain ⟨n, hnT⟩ : ∃ n, T.length = n + 3 := ⟨T.length - 3, by omega⟩
      have z1 : wrap64 ((T.length : Int) - 3) = (n : Int) := by rw [hnT]; exact torn_k n _ 3 (by omega) (by have := Htb.out; omega) (by omega)
      have z2 : wrap64 ((T.length : Int) - 2) = ((n + 1 : Nat) : Int) := by rw [hnT]; exact torn_k (n + 1) _ 2 (by omega) (by have := Htb.out; omega) (by omega)
      have z3 : wrap64 ((T.length : Int) - 1) = ((n + 2 : Nat) : Int) := by rw [hnT]; exact torn_k (n + 2) _ 1 (by omega) (by have := Htb.out; omega) (by omega)
      have z4 : ¬ (n : Int) < (H.length : Int) := by omega
      have HnT := Lib.hid hnT
      have Hn := Lib.hid hn
      clear hn hnT
      go_upto_if 119 with (first | (at_builtin; refine wpl_append_bs rfl (.tmp 109) (.tmp 112) 22 rfl w6.heap.size 5 infoU8 Try.underlying22 _ _ [] rfl how0 _ _ T rfl hTb7 ?_ ?_ ?_; (simp only [List.length_nil, Nat.zero_add]; exact Nat.le_trans Htb.out (by decide)); (exact hnew.size); intro a9 c9 l9 w9 hl9 hown9 hg9; obtain rfl : l9 = T := (by rw [hl9.out]; rfl)) | fail)
      have hB9' := below_app hnew hg9 how0 (Nat.le_refl _) hnew.size
      have hB9 := below_on hB6 hB9' (Nat.le_refl _)
      obtain ⟨g9, rfl⟩ : ∃ g, a9 = some ⟨g, 0, none⟩ := by
        rcases hown9.2 with ⟨_, hn⟩ | ⟨g, cap', cur, hv, _⟩
        · have := HnT.out; omega
        · simp only [Value.slice.injEq] at hv
          exact ⟨g, hv.1⟩
      have i0 : n < l9.length := by rw [HnT.out]; omega
      have i1 : n + 1 < l9.length := by rw [HnT.out]; omega
      have i2 : n + 2 < l9.length := by rw [HnT.out]; omega
      have q0 : w9.cell? ⟨g9, n, none⟩ = some (.int .u8 (l9[n].toNat : Int)) := by
        have hc := hown9.cellAt n (by omega)
        rw [List.getElem?_map, List.getElem?_eq_getElem i0] at hc
        exact hc
      have q1 : w9.cell? ⟨g9, n + 1, none⟩ = some (.int .u8 (l9[n + 1].toNat : Int)) := by
        have hc := hown9.cellAt (n + 1) (by omega)
        rw [List.getElem?_map, List.getElem?_eq_getElem i1] at hc
        exact hc
      have q2 : w9.cell? ⟨g9, n + 2, none⟩ = some (.int .u8 (l9[n + 2].toNat : Int)) := by
        have hc := hown9.cellAt (n + 2) (by omega)
        rw [List.getElem?_map, List.getElem?_eq_getElem i2] at hc
        exact hc
      have j0 : (0 : Int) ≤ (n : Int) := by omega
      have j1 : (n : Int) < (l9.length : Int) := by omega
      have j2 : ((n + 1 : Nat) : Int) < (l9.length : Int) := by omega
      have j3 : ((n + 2 : Nat) : Int) < (l9.length : Int) := by omega
      have f0 := hown9.frozenAt n
      have f1' := hown9.frozenAt (n + 1)
      have f2' := hown9.frozenAt (n + 2)
      obtain ⟨v0, hv0⟩ : ∃ v, v = l9[n] := ⟨_, rfl⟩
      obtain ⟨v1, hv1⟩ : ∃ v, v = l9[n + 1] := ⟨_, rfl⟩
      obtain ⟨v2, hv2⟩ : ∃ v, v = l9[n + 2] := ⟨_, rfl⟩
      rw [← hv0] at q0
      rw [← hv1] at q1
      rw [← hv2] at q2
      clear hv0 hv1 hv2
      go_wp2_with fail
      clear q0 q1 q2 f0 f1' f2' z1 z2 z3 z4 j0 j1 j2 j3
      obtain ⟨x0, ex0⟩ := xor_is (v0.toNat : Int) ((turn : Int) / 65536 % 256)
      obtain ⟨x1, ex1⟩ := xor_is (v1.toNat : Int) ((turn : Int) / 256 % 256)
      obtain ⟨x2, ex2⟩ := xor_is (v2.toNat : Int) ((turn : Int) % 256)
      rw [ex0, ex1, ex2]
      clear ex0 ex1 ex2
      obtain ⟨W10, hW10⟩ : ∃ W, W = ((w9.setCell ⟨g9, n, none⟩ (.int .u8 (x0.toNat : Int))).setCell ⟨g9, n + 1, none⟩ (.int .u8 (x1.toNat : Int))).setCell ⟨g9, n + 2, none⟩ (.int .u8 (x2.toNat : Int)) := ⟨_, rfl⟩
      have hown10 : W10.ownsRow w6.heap.size 5 1 (.slice (some ⟨g9, 0, none⟩) l9.length c9) l9.length ((((l9.set n x0).set (n + 1) x1).set (n + 2) x2).map u8) := by
        rw [hW10, List.map_set, List.map_set, List.map_set]
        exact (((hown9.stored n _).1.stored (n + 1) _).1.stored (n + 2) _).1
      have hg9 : w.heap.size ≤ g9 := Nat.le_trans hB6.size (hown9.lt g9 rfl).1
      have hB10 : Below w.heap.size w W10 := by rw [hW10]; exact ((hB9.setCell hg9 _).setCell hg9 _).setCell hg9 _
      rw [← hW10]
      clear hW10
      rw [set_three l9 n HnT.out x0 x1 x2] at hown10
      have hS3 : List.take (l9.length - 3) b = l9.take n := by
        have h1 : l9.length - 3 = n := by rw [HnT.out]; exact Nat.add_sub_cancel n 3
        have h2 : l9.take n = (List.take l9.length b).take n := congrArg (List.take n) HT.out
        rw [h1, h2, List.take_take, Nat.min_eq_left (Nat.le_of_lt i0)]
      have h3m : 3 ≤ m := torn_l _ _ _ HA.out Hn.out
      obtain ⟨k', g', hk1, hk2, hr2⟩ := Htn.out h3m x0 x1 x2
      rw [hS3] at hr2
      have hSl : (l9.take n ++ [x0, x1, x2]).length = l9.length := by rw [List.length_append, List.length_take, HnT.out]; simp
      obtain ⟨S, hS⟩ : ∃ S, S = l9.take n ++ [x0, x1, x2] := ⟨_, rfl⟩
      rw [← hS] at hr2 hSl hown10
      clear hS hS3
      rw [← hSl] at hown10
      have hrd2 := segRead_any (some ⟨g9, 0, none⟩) c9 S W10 (by rw [hSl]; exact Htb.out) (Bs.of_own hown10)
      rw [hSl] at hrd2
      refine hrd2.mono ?_
      rintro e w11 ⟨v11, el2, rfl, hens2, hel2, hB11'⟩
      rw [hr2] at hel2 ⊢
      simp only at hel2 ⊢
      have hB11 := below_on hB10 hB11' (Nat.le_refl _)
      obtain ⟨a11, c11, rfl⟩ := own_slice hens2.own
      have hell2 : el2.length = k' := by
        have h1 := congrArg List.length hel2
        rw [List.length_map, List.length_take, Nat.min_eq_left (Nat.le_trans hk1 (Nat.le_of_lt hk))] at h1
        exact h1
      have h11 := h.below hB11
      have hens11 := hens2.ens
      have hkb : k' ≤ 1000000 := Nat.le_trans hk1 (Nat.le_trans hkf (by decide))
      have hkl2 : k' ≤ l.length := Nat.le_trans hk1 (Nat.le_of_lt hkl)
      have hsame2 := segRefSame_any a11 (some ⟨b1, o1, none⟩) c11 cap el2 (l.take k') w11 hens11 (h11.take k' hkl2) (by rw [hell2]; exact hkb) (by rw [List.length_take, Nat.min_eq_left hkl2]; exact hkb)
      have hdec2 : decide (el2.map Ep.e = (l.take k').map Ep.e) = true := by rw [decide_eq_true_eq, hel2, Hes.out, List.map_take]
      rw [hdec2, List.length_take, Nat.min_eq_left hkl2, hell2] at hsame2
      have Hsame2 := Lib.hid hsame2
      rw [hell2]
      have y1 : (k' : Int) ≤ (k : Int) := Int.ofNat_le.2 hk1
      have y3 : (k : Int) ≤ ((k' + 1 : Nat) : Int) := Int.ofNat_le.2 hk2
      have y4 : (k' : Int) ≤ (cap : Int) := Int.ofNat_le.2 (Nat.le_trans hkl2 h11.sl.le)
      have Hell2 := Lib.hid hell2
      clear hell2 hel2 hsame2 hdec2 hr2 hrd2 hSl h11 hens11
      go_wp2_with fail
      refine Hsame2.out.mono ?_
      rintro e w12 ⟨rfl, hB12⟩
      have hB12' := below_on hB11 hB12 (Nat.le_refl _)
      go_wp2_with fail
      refine (lives24_any _).mono ?_
      rintro e w13 ⟨rfl, hB13⟩
      go_wp2_with fail
      go_ret
      exact ⟨rfl, below_on hB12' hB13 (Nat.le_refl _)⟩
  · go_wp2_with fail
    refine (lives24_any _).mono ?_
    rintro e w3 ⟨rfl, hB3⟩
    go_wp2_with fail
    go_ret
    exact ⟨rfl, below_on hB2 hB3 (Nat.le_refl _)⟩
theorem segmentTorn_walk (f : Int) (ao : Option Addr) (cap : Nat) (l : List Ep) (cut turn : Int) (w : World) (f0 : 0 ≤ f) (f1 : f ≤ 18446744073709551615) (h : Ens w ao cap l) (c0 : 0 ≤ cut) (c1 : cut ≤ 65535) (t0 : 0 ≤ turn) (t1 : turn ≤ 4294967295) :
    Calls Try.prog 4 #[.int .u64 f, .slice ao l.length cap, .int .u16 cut, .int .u32 turn] w fun e w' => e = .returned (.bool true) ∧ Below w.heap.size w w' := by
  by_cases h1 : LightP l
  · by_cases h2 : f < 1
    · exact segmentTorn_far f ao cap l cut turn w h (.inr (.inl h2))
    · by_cases h3 : 576460752303423488 < f
      · exact segmentTorn_far f ao cap l cut turn w h (.inr (.inr (.inl h3)))
      · by_cases h4 : l.length = 0
        · exact segmentTorn_far f ao cap l cut turn w h (.inr (.inr (.inr h4)))
        · obtain ⟨F, rfl⟩ := Int.eq_ofNat_of_zero_le f0
          obtain ⟨C, rfl⟩ := Int.eq_ofNat_of_zero_le c0
          obtain ⟨T, rfl⟩ := Int.eq_ofNat_of_zero_le t0
          exact segmentTorn_near F ao cap l C T w h h1 (by omega) (by omega) (by omega) (by omega) (by omega)
  · exact segmentTorn_far f ao cap l cut turn w h (.inl h1)
end Go.Proofs.Ytlphpjgiaflfkaa
