/- OutboxBytes: the walk. No statement of the seat is proved here. -/
import Derived.Test.YtdcinhnplcipoaaObBq
import Derived.Test.YtdcinhnplcipoaaObDo
import Derived.Test.YtdcinhnplcipoaaObLt
namespace Go.Proofs.Ytdcinhnplcipoaa
set_option linter.unusedVariables false
set_option linter.unusedSimpArgs false
set_option linter.unusedSectionVars false
open Go Go.RowKit Go.Shelf

theorem left_blk {W : World} {p n cap : Nat} {ao : Option Addr} {bad : Bool} (h : W.heap[p]? = some (.cells #[.slice ao n cap, .bool bad] 105 (0, 0))) :
    Calls Try.prog 34 #[.pointer (some ⟨p, 0, none⟩)] W fun e W' => e = .returned (.int .i64 n) ∧ W = W' := by
  have c0 := block_cell h 0
  simp at c0
  go_enter Try.func34, Try.ntmps34
  go_wp2_with fail
  go_ret
  exact ⟨rfl, rfl⟩
theorem bad_blk {W : World} {p n cap : Nat} {ao : Option Addr} {bad : Bool} (h : W.heap[p]? = some (.cells #[.slice ao n cap, .bool bad] 105 (0, 0))) :
    Calls Try.prog 35 #[.pointer (some ⟨p, 0, none⟩)] W fun e W' => e = .returned (.bool bad) ∧ W = W' := by
  have c1 := block_cell h 1
  simp at c1
  go_enter Try.func35, Try.ntmps35
  go_wp2_with fail
  go_ret
  exact ⟨rfl, rfl⟩
theorem neqb (b : Bool) (w : World) : (binOp .neq 4 (.bool b) (.bool b)).run Try.prog w = .ok (.bool false) w := by cases b <;> kernel_rfl
theorem eqlb (b : Bool) (w : World) : (binOp .eql 4 (.bool b) (.bool b)).run Try.prog w = .ok (.bool true) w := by cases b <;> kernel_rfl
theorem neqs (s : ByteArray) (w : World) : (binOp .neq 9 (.string s) (.string s)).run Try.prog w = .ok (.bool false) w := by
  simp [go_sem]
theorem readS_len (s : List UInt8 × Bool) : (readS s).1.2.length ≤ 128 := by
  unfold readS
  simp only
  split
  · simp only [readL_len]
    exact readN_le _ _ _
  · simp
theorem Bs.above {w w' : World} {B : Nat} {ao : Option Addr} {cap : Nat} {l : List UInt8} (h : Bs w ao cap l) (hl : Low B l ao) (hk : ∀ k, k < B → w'.heap[k]? = w.heap[k]?) : Bs w' ao cap l :=
  ⟨h.len, h.le, h.max, h.none, fun j v hv => by
    obtain ⟨b, off, e, hc⟩ := h.cell j v hv
    have h0 : 0 < l.length := by
      cases l with
      | nil => simp at hv
      | cons c l => simp
    exact ⟨b, off, e, by rw [World.cell?_of_block (w := w) (hk b (hl h0 _ e))]; exact hc⟩⟩
theorem Wr.grown {W W' : World} {base p g : Nat} {v : Value} {l : List UInt8} (h : Wr W base p v l) (hg : W.grownBy W' (some g)) (h1 : p ≠ g) (h2 : v.ownBlock ≠ some g) : Wr W' base p v l :=
  ⟨(hg.block p (Array.getElem?_eq_some_iff.1 h.blk).1 (by simp; omega)).trans h.blk, h.own.kept hg (.inr h2), h.le, h.ne, Nat.le_trans h.sz hg.size⟩
set_option maxRecDepth 100000 in
set_option maxHeartbeats 16000000 in
theorem bytes_main (m : Nat) (aoa : Option Addr) (ca : Nat) (A : List No) (lb : Int) (aob : Option Addr) (cb : Nat) (Bn : List No) (aos : Option Addr) (cs : Nat) (bs : List UInt8) (w : World)
    (hA : Ns w aoa ca A) (haok : ∀ n ∈ A, 0 ≤ n.tk ∧ n.tk ≤ 18446744073709551615) (hB : Ns w aob cb Bn) (hs : Bs w aos cs bs) (hcA : A.length ≤ 200) (hcB : Bn.length ≤ 200) (hcs : bs.length ≤ 3000) :
    Calls Try.prog 7 #[.agg #[.int .u64 (m : Int), .slice aoa A.length ca], .agg #[.int .u64 lb, .slice aob Bn.length cb], .slice aos bs.length cs] w fun e w' => e = .returned (.bool true) ∧ Below w.heap.size w w' := by
  have hlA : A.length ≤ 1000000 := by omega
  have hlB : Bn.length ≤ 1000000 := by omega
  have hlight1 := fun W => light_any (m : Int) aoa A.length ca W
  have hlight2 := fun W => light_any lb aob Bn.length cb W
  have hd : decide ((A.length : Int) ≤ 200) = true := by simp; omega
  have hd2 : decide ((Bn.length : Int) ≤ 200) = true := by simp; omega
  rw [hd] at hlight1
  rw [hd2] at hlight2
  have Hli1 := Lib.hid hlight1
  have Hli2 := Lib.hid hlight2
  clear hlight1 hlight2 hd hd2
  have hc3 : ¬ (3000 : Int) < (bs.length : Int) := by omega
  obtain ⟨W1, hW1⟩ : ∃ W1, W1 = (w.alloc (.cells #[.int .u64 (m : Int), .slice aoa A.length ca] 44)).alloc (.cells #[.int .u64 lb, .slice aob Bn.length cb] 44) := ⟨_, rfl⟩
  obtain ⟨k0, k1, kz, hB1⟩ := news2 hW1
  have fA : ∀ W', Below W1.heap.size W1 W' → Ns W' aoa ca A := fun W' h => (hA.below hB1).below h
  have fB : ∀ W', Below W1.heap.size W1 W' → Ns W' aob cb Bn := fun W' h => (hB.below hB1).below h
  have hcw : ∀ W' : World, Below W1.heap.size W1 W' → (W'.cell? ⟨w.heap.size, 0, none⟩ = some (.int .u64 (m : Int)) ∧ W'.cell? ⟨w.heap.size, 1, none⟩ = some (.slice aoa A.length ca) ∧ W'.cell? ⟨w.heap.size + 1, 0, none⟩ = some (.int .u64 lb) ∧ W'.cell? ⟨w.heap.size + 1, 1, none⟩ = some (.slice aob Bn.length cb)) := by
    intro W' hw
    have e0 := (hw.block _ (by omega)).trans k0
    have e1 := (hw.block _ (by omega)).trans k1
    exact ⟨block_cell e0 0, block_cell e0 1, block_cell e1 0, block_cell e1 1⟩
  have hso1 := fun W' hw => sound_any (m : Int) aoa ca A W' (fA W' hw) hlA
  have hso2 := fun W' hw => refSound_any (m : Int) aoa ca A W' (fA W' hw) hlA
  obtain ⟨sA, hsA⟩ : ∃ sA, sA = soundS (m : Int) A := ⟨_, rfl⟩
  simp only [← hsA] at hso1 hso2
  have hsm1 := fun W' hw => sameS_any (m : Int) lb aoa aob ca cb A Bn W' (fA W' hw) (fB W' hw) hlA hlB
  have hsm2 := fun W' hw => refSame_any (m : Int) lb aoa aob ca cb A Bn W' (fA W' hw) (fB W' hw) hlA hlB
  obtain ⟨c, hc⟩ : ∃ c, c = (decide ((m : Int) = lb) && decide (A = Bn)) := ⟨_, rfl⟩
  simp only [← hc] at hsm1 hsm2
  have hsm3 := fun W' hw => sameS_any (m : Int) (m : Int) aoa aoa ca ca A A W' (fA W' hw) (fA W' hw) hlA hlA
  simp only [decide_true, Bool.and_true] at hsm3
  have Hso1 := Lib.hid hso1
  have Hso2 := Lib.hid hso2
  have Hsm1 := Lib.hid hsm1
  have Hsm2 := Lib.hid hsm2
  have Hsm3 := Lib.hid hsm3
  have HsA := Lib.hid hsA
  clear hso1 hso2 hsm1 hsm2 hsm3 hc hsA
  have hnb := neqb
  go_enter Try.func7, Try.ntmps7
  go_wp2_with fail
  rw [← hW1]
  clear hW1
  have kz1 : w.heap.size < W1.heap.size := by omega
  have kz2 : w.heap.size + 1 < W1.heap.size := by omega
  refine (Hli1.out _).mono ?_
  rintro e w2 ⟨rfl, hb2⟩
  have kz3 : w.heap.size + 1 < w2.heap.size := by have := hb2.size; omega
  obtain ⟨p0, p1, q0, q1⟩ := hcw w2 hb2
  go_wp2_with fail
  refine (Hli2.out _).mono ?_
  rintro e w3 ⟨rfl, hb3'⟩
  have hb3 : Below W1.heap.size W1 w3 := below_on hb2 hb3' (Nat.le_refl _)
  clear p0 p1 q0 q1 hb2 hb3' kz3 kz Hli1 Hli2
  have hd3 : Below W1.heap.size W1 w3.drew := hb3.drew
  go_upto_region 3 with fail
  go_cut [49] (fun v wx => v = .bool false ∧ Below W1.heap.size W1 wx)
  case first =>
    go_region_held3 (fun W' => (W'.cell? ⟨w.heap.size, 0, none⟩ = some (.int .u64 (m : Int)) ∧ W'.cell? ⟨w.heap.size, 1, none⟩ = some (.slice aoa A.length ca) ∧ W'.cell? ⟨w.heap.size + 1, 0, none⟩ = some (.int .u64 lb) ∧ W'.cell? ⟨w.heap.size + 1, 1, none⟩ = some (.slice aob Bn.length cb)))
      (first | exact hL8 | exact hL7 | exact hL6 | exact hL5 | exact hL4 | exact hcw _ hd3 | go_keep)
      (first
        | (go_at_call 16; refine (Hsm3.out w7 hB7).mono ?_; rintro e w8 ⟨rfl, hb8⟩; have hB8 : Below W1.heap.size W1 w8 := below_on hB7 hb8 (Nat.le_refl _); have hL8 := hcw w8 hB8)
        | (go_at_call 24; refine (Hsm2.out w6 hB6).mono ?_; rintro e w7 ⟨rfl, hb7⟩; have hB7 : Below W1.heap.size W1 w7 := below_on hB6 hb7 (Nat.le_refl _); have hL7 := hcw w7 hB7)
        | (go_at_call 16; refine (Hsm1.out w5 hB5).mono ?_; rintro e w6 ⟨rfl, hb6⟩; have hB6 : Below W1.heap.size W1 w6 := below_on hB5 hb6 (Nat.le_refl _); have hL6 := hcw w6 hB6)
        | (go_at_call 20; refine (Hso2.out w4 hB4).mono ?_; rintro e w5 ⟨rfl, hb5⟩; have hB5 : Below W1.heap.size W1 w5 := below_on hB4 hb5 (Nat.le_refl _); have hL5 := hcw w5 hB5)
        | (go_at_call 27; refine (Hso1.out w3.drew hd3).mono ?_; rintro e w4 ⟨rfl, hb4⟩; have hB4 : Below W1.heap.size W1 w4 := below_on hd3 hb4 (Nat.le_refl _); have hL4 := hcw w4 hB4))
    all_goals
      go_wp2_with fail
      go_meet
      exact ⟨rfl, hB8⟩
  case rest =>
    obtain ⟨rfl, hBc⟩ := hcut
    obtain ⟨p0, p1, q0, q1⟩ := hcw wc hBc
    clear Hsm1 Hsm2 Hsm3 Hso2 hb3 hd3
    go_wp2_with fail
    refine (Hso1.out wc hBc).mono ?_
    rintro e w5 ⟨rfl, hb5⟩
    have hB5 := below_on hBc hb5 (Nat.le_refl _)
    clear Hso1 p0 p1 q0 q1
    go_upto_if 51 with fail
    go_cut [] (fun wx => Below W1.heap.size W1 wx)
    case first =>
      cases sA with
      | false =>
        go_wp2_with fail
        go_meet
        exact hB5
      | true =>
        have hS : soundS (m : Int) A = true := HsA.out.symm
        have hm64 : m < 2 ^ 64 := by have := (soundS_iff.1 hS).1; omega
        have hok := enc_ok hS haok
        have hrt := readS_enc hS (by omega) haok
        have hrt2 : encS (m : Int) A = numsB [m, A.length] ++ encL A := by unfold encS; simp
        rw [hrt2] at hrt
        have hl1 := numsB_len [m, A.length] (by intro n hn; simp at hn; rcases hn with rfl | rfl <;> omega)
        have hl2 := encL_len A hok
        simp at hl1
        have hrb : ∀ W' : World, Below W1.heap.size W1 W' → Calls Try.prog 32 #[.agg #[.int .u64 (m : Int), .slice aoa A.length ca]] W' fun e W'' => ∃ ao2 cap2, e = .returned (.slice ao2 (numsB [m, A.length] ++ encL A).length cap2) ∧ W''.ownsRow W'.heap.size 5 1 (.slice ao2 (numsB [m, A.length] ++ encL A).length cap2) (numsB [m, A.length] ++ encL A).length ((numsB [m, A.length] ++ encL A).map u8) ∧ Below W'.heap.size W' W'' := fun W' hw =>
          (refBytes_any m hm64 aoa ca A W' (fA W' hw) hok (by omega)).mono fun e W'' ⟨ao2, cap2, l2, h1, h2, h3, h4⟩ => by
            subst h2
            exact ⟨ao2, cap2, h1, h3, h4⟩
        have hlz : (numsB [m, A.length] ++ encL A).length ≤ 1099511627776 := by rw [List.length_append]; omega
        obtain ⟨E, hE⟩ : ∃ E, E = numsB [m, A.length] ++ encL A := ⟨_, rfl⟩
        have hps := fun (W' : World) (q : Nat) (h : Wr W' q q (.slice none 0 0) []) (hn : Ns W' aoa ca A) (hf : 0 < A.length → ∀ a, aoa = some a → a.block ≠ q ∧ (Value.slice none 0 0).ownBlock ≠ some a.block) => putS_any m hm64 aoa ca A h hn hok (by omega) (by simp) hf
        simp only [List.nil_append] at hps
        simp only [← hE] at hrt hrb hlz hps
        have Hps := Lib.hid hps
        have Hrb := Lib.hid hrb
        have Hrt := Lib.hid hrt
        have Hlz := Lib.hid hlz
        clear hps hrb hrt hlz hrt2 hl1 hl2 hE hm64 hok hS
        obtain ⟨p0, p1, q0, q1⟩ := hcw w5 hB5
        have z5 : w.heap.size < w5.heap.size := cell?_lt p0
        go_wp2_with fail
        obtain ⟨W6, hW6⟩ : ∃ W6, W6 = w5.alloc (.cells #[.slice none 0 0] 68) := ⟨_, rfl⟩
        have hb6 : Below w5.heap.size w5 W6 := by rw [hW6]; exact below_new _ _
        have x6 : W6.heap[w5.heap.size]? = _ := (congrArg (fun z : World => z.heap[w5.heap.size]?) hW6).trans (heap_alloc_new _ _)
        rw [← hW6]
        clear hW6 p0 p1 q0 q1
        have hz6 := (Array.getElem?_eq_some_iff.1 x6).1
        have hwr6 : Wr W6 w5.heap.size w5.heap.size (.slice none 0 0) [] := ⟨x6, World.ownsRow_nil _ _ _ _, Nat.le_refl _, by simp [Value.ownBlock], by omega⟩
        have hB6 := below_on hB5 hb6 (Nat.le_refl _)
        have hW1P : W1.heap.size ≤ w5.heap.size := by have := hB5.size; omega
        refine (Hps.out W6 _ hwr6 (fA W6 hB6) (fun h0 a e => ⟨by obtain ⟨T, hT, -⟩ := hA.typ a.block a.off a.spot e h0; have := elem?_lt hT; omega, by simp [Value.ownBlock]⟩)).mono ?_
        rintro e w7 ⟨rfl, v7, hwr7, hfr7, hv7⟩
        have hB7 : Below W1.heap.size W1 w7 := hfr7.below_of hB6 hB6.size hW1P (fun k e => by simp [Value.ownBlock] at e)
        go_wp2_with fail
        refine (bytes_wr hwr7 Hlz.out).mono ?_
        rintro e w8 ⟨ao8, c8, rfl, how8, hb8⟩
        have hB8 := below_on hB7 hb8 (Nat.le_refl _)
        have hwr8 := hwr7.below hb8
        have hwz8 := hwr8.own.lt
        have hPz8 := (Array.getElem?_eq_some_iff.1 hwr8.blk).1
        go_wp2_with fail
        refine (open_rd ao8 c8 E w8 (Bs.of_own how8)).mono ?_
        rintro e w9 ⟨rfl, hrd9, hb9⟩
        have hB9 := below_on hB8 hb9 (Nat.le_refl _)
        have hwr9 := hwr8.below hb9
        have hrs := readS_any hrd9
        rw [Hrt.out] at hrs
        unfold ReadTold at hrs
        simp only at hrs
        go_wp2_with fail
        refine hrs.mono ?_
        clear hrs
        rintro e w10 ⟨ao10, c10, ar10, cr10, rfl, hns10, hrd10, hg10, -⟩
        have hB10 : Below W1.heap.size W1 w10 := below_grown hB9 hg10 (by have := hB8.size; omega) hB9.size
        have hwr10 := hwr9.grown hg10 (by omega) (fun e => by have := (hwz8 _ e).2; omega)
        clear how8 hrd9 hrd10 hwr9 hwr8 hwr7 hwr6 hg10 hb8 hb9 hfr7 hv7
        have fz := hcw w10 hB10
        obtain ⟨p0, p1, q0, q1⟩ := fz
        go_wp2_with fail
        obtain ⟨W11, hW11⟩ : ∃ W11, W11 = w10.alloc (.cells #[.int .u64 (m : Int), .slice ao10 A.length c10] 44) := ⟨_, rfl⟩
        have hb11 : Below w10.heap.size w10 W11 := by rw [hW11]; exact below_new _ _
        have x11 : W11.heap[w10.heap.size]? = _ := (congrArg (fun z : World => z.heap[w10.heap.size]?) hW11).trans (heap_alloc_new _ _)
        go_upto_region 9 with fail
        rw [← hW11]
        clear hW11 p0 p1 q0 q1
        have hB11 := below_on hB10 hb11 (Nat.le_refl _)
        have hwr11 := (hwr10.below hb11).below (Below.refl _ _).drew
        have hns11 := hns10.below hb11
        have hd11 : Below W11.heap.size W11 W11.drew := (Below.refl _ _).drew
        have hcx : ∀ W' : World, Below W11.heap.size W11 W' → (W'.cell? ⟨w.heap.size, 0, none⟩ = some (.int .u64 (m : Int)) ∧ W'.cell? ⟨w.heap.size, 1, none⟩ = some (.slice aoa A.length ca) ∧ W'.cell? ⟨w10.heap.size, 0, none⟩ = some (.int .u64 (m : Int)) ∧ W'.cell? ⟨w10.heap.size, 1, none⟩ = some (.slice ao10 A.length c10)) := by
          intro W' hw
          obtain ⟨e0, e1, -, -⟩ := hcw W' (below_on hB11 hw (Nat.le_refl _))
          have e2 := (hw.block _ (Array.getElem?_eq_some_iff.1 x11).1).trans x11
          exact ⟨e0, e1, block_cell e2 0, block_cell e2 1⟩
        have hconv : ∀ (ao : Option Addr) (c : Nat) (W : World), Bs W ao c E → (convert 66 9 (.slice ao E.length c)).run Try.prog W = .ok (.string ⟨E.toArray⟩) W := fun ao c W h =>
          run_string_bs _ _ 5 Try.underlying66 Try.underlying5 Try.underlying9 ao c E h
        have Hconv := Lib.hid hconv
        have hsm := fun (W' : World) (hw : Below W11.heap.size W11 W') => refSame_any (m : Int) (m : Int) ao10 aoa c10 ca A A W' (hns11.below hw) (fA W' (below_on hB11 hw (Nat.le_refl _))) hlA hlA
        simp only [decide_true, Bool.and_true] at hsm
        have Hsm := Lib.hid hsm
        have hrb2 := fun (W' : World) (hw : Below W11.heap.size W11 W') => Hrb.out W' (below_on hB11 hw (Nat.le_refl _))
        have Hrb2 := Lib.hid hrb2
        have hnst := neqs
        clear hconv hsm hrb2 hwr10 hns10 hns11 hb11 Hrb Hrt Hps
        obtain ⟨a0, a1, a2, a3⟩ := hcx _ hd11
        obtain ⟨b0, b1, b2, b3⟩ := hcx _ (Below.refl _ _)
        clear a0 a1 a2 a3
        go_region_law (first
          | (go_simp; go_at_call 31; refine (bytes_wr hwr11 Hlz.out).mono ?_; rintro e w12 ⟨ao12, c12, rfl, how12, hb12⟩; have hB12 : Below W11.heap.size W11 w12 := below_on hd11 hb12 (Nat.le_refl _); obtain ⟨a0, a1, a2, a3⟩ := hcx w12 hB12; have hcv := Hconv.out ao12 c12 w12 (Bs.of_own how12))
          | (go_simp; go_at_call 32; refine (Hrb2.out w12 hB12).mono ?_; rintro e w13 ⟨ao13, c13, rfl, how13, hb13⟩; have hB13 : Below W11.heap.size W11 w13 := below_on hB12 hb13 (Nat.le_refl _); obtain ⟨d0, d1, d2, d3⟩ := hcx w13 hB13; have hcv13 := Hconv.out ao12 c12 w13 ((Bs.of_own how12).below hb13); have hcv14 := Hconv.out ao13 c13 w13 (Bs.of_own how13))
          | (go_simp; go_at_call 24; refine (Hsm.out w13 hB13).mono ?_; rintro e w14 ⟨rfl, hb14⟩; have hB14 : Below W11.heap.size W11 w14 := below_on hB13 hb14 (Nat.le_refl _)))
        all_goals
          go_wp2_with fail
          go_meet
          exact below_on hB11 hB14 (Nat.le_refl _)
    case rest =>
      clear hBc hb5 hB5
      have hW : Below w.heap.size w wc := below_on hB1 hcut (Nat.le_refl _)
      have hsw := hs.below hW
      have hlow := Low.of hs
      go_wp2_with fail
      refine (open_rd aos cs bs wc hsw).mono ?_
      rintro e w6 ⟨rfl, hrd6, hb6⟩
      have hp6 := (Array.getElem?_eq_some_iff.1 hrd6.blk).1
      go_wp2_with fail
      obtain ⟨W7, hW7⟩ : ∃ W7, W7 = w6.alloc (.cells #[.slice aos bs.length cs, .bool false] 79) := ⟨_, rfl⟩
      have hb7 : Below w6.heap.size w6 W7 := by rw [hW7]; exact below_new _ _
      have x7 : W7.heap[w6.heap.size]? = _ := (congrArg (fun z : World => z.heap[w6.heap.size]?) hW7).trans (heap_alloc_new _ _)
      rw [← hW7]
      clear hW7
      obtain ⟨P, hP⟩ : ∃ P, P = wc.heap.size := ⟨_, rfl⟩
      obtain ⟨X, hX⟩ : ∃ X, X = w6.heap.size := ⟨_, rfl⟩
      rw [← hP] at hrd6 hp6 ⊢
      rw [← hX] at x7 ⊢
      have hPX : P < X := by omega
      have hwP : w.heap.size ≤ P := by have := hW.size; omega
      have hrd7 := hrd6.below hb7
      have hB7 : Below w.heap.size w W7 := below_on hW (below_on hb6 hb7 (Nat.le_refl _)) (Nat.le_refl _)
      have hbs7 := hsw.below (below_on hb6 hb7 (Nat.le_refl _))
      clear hb6 hb7 hrd6 hp6 hX hP hcw fA fB
      have hrs := readS_any hrd7
      obtain ⟨⟨⟨rl, rn⟩, ok, rest, rbad⟩, hr⟩ : ∃ r, r = readS (bs, false) := ⟨_, rfl⟩
      have hrn : rn.length ≤ 1000000 := by have := readS_len (bs, false); rw [← hr] at this; simp only at this; omega
      rw [← hr] at hrs
      unfold ReadTold at hrs
      simp only at hrs
      have Hr := Lib.hid hr
      clear hr
      refine hrs.mono ?_
      clear hrs
      rintro e w8 ⟨ao8, c8, ar8, cr8, rfl, hns8, hrd8, hg8, hnew8⟩
      have x8 := (hg8.block X (Array.getElem?_eq_some_iff.1 x7).1 (by simp; omega)).trans x7
      have hB8 : Below w.heap.size w w8 := below_grown hB7 hg8 hwP hB7.size
      have hlw7 := hB7.size
      have hkk : ∀ k, k < w.heap.size → w8.heap[k]? = W7.heap[k]? := fun k hk => hg8.block k (by omega) (by simp; omega)
      have hbs8 := hbs7.above hlow hkk
      go_wp2_with fail
      obtain ⟨W9, hW9⟩ : ∃ W9, W9 = w8.alloc (.cells #[.int .u64 rl, .slice ao8 rn.length c8] 44) := ⟨_, rfl⟩
      have hb9 : Below w8.heap.size w8 W9 := by rw [hW9]; exact below_new _ _
      have s9 : W9.heap[w8.heap.size]? = _ := (congrArg (fun z : World => z.heap[w8.heap.size]?) hW9).trans (heap_alloc_new _ _)
      rw [← hW9]
      clear hW9
      obtain ⟨Y, hY⟩ : ∃ Y, Y = w8.heap.size := ⟨_, rfl⟩
      have hXY : X < Y := by have := (Array.getElem?_eq_some_iff.1 x8).1; omega
      rw [← hY] at s9 ⊢
      have x9 := (hb9.block X (Array.getElem?_eq_some_iff.1 x8).1).trans x8
      have p9 := (hb9.block P (Array.getElem?_eq_some_iff.1 hrd8.blk).1).trans hrd8.blk
      have hB9 := below_on hB8 hb9 (Nat.le_refl _)
      have hns9 := hns8.below hb9
      have hbs9 := hbs8.below hb9
      have hX7 : X < W7.heap.size := (Array.getElem?_eq_some_iff.1 x7).1
      clear hb9 hY hrd8 x8 hbs8 hns8 hg8 hrd7 x7
      have hrs := refReadS_any (⟨x9, hbs9⟩ : Rd 79 W9 X aos cs bs false)
      rw [← Hr.out] at hrs
      unfold ReadTold at hrs
      simp only at hrs
      refine hrs.mono ?_
      clear hrs
      rintro e w10 ⟨ao10, c10, ar10, cr10, rfl, hns10, hrd10, hg10, -⟩
      have s10 := (hg10.block Y (Array.getElem?_eq_some_iff.1 s9).1 (by simp; omega)).trans s9
      have p10 := (hg10.block P (Array.getElem?_eq_some_iff.1 p9).1 (by simp; omega)).trans p9
      have hB10 : Below w.heap.size w w10 := below_grown hB9 hg10 (by omega) hB9.size
      have hns10' : Ns w10 ao8 c8 rn := hns9.kept fun k off s e h0 => by
        obtain ⟨T, ht, hf⟩ := hns9.typ k off s e h0
        refine hg10.block k (elem?_lt ht) (fun e2 => ?_)
        simp only [Option.some.injEq] at e2
        subst e2
        have := hnew8 h0 _ e
        simp only at this
        omega
      go_wp2_with fail
      obtain ⟨W11, hW11⟩ : ∃ W11, W11 = w10.alloc (.cells #[.int .u64 rl, .slice ao10 rn.length c10] 53) := ⟨_, rfl⟩
      have hb11 : Below w10.heap.size w10 W11 := by rw [hW11]; exact below_new _ _
      have z11 : W11.heap[w10.heap.size]? = _ := (congrArg (fun z : World => z.heap[w10.heap.size]?) hW11).trans (heap_alloc_new _ _)
      go_upto_region 14 with fail
      rw [← hW11]
      clear hW11
      have s11 := (hb11.block Y (Array.getElem?_eq_some_iff.1 s10).1).trans s10
      have p11 := (hb11.block P (Array.getElem?_eq_some_iff.1 p10).1).trans p10
      have x11 := (hb11.block X (Array.getElem?_eq_some_iff.1 hrd10.blk).1).trans hrd10.blk
      have hB11 := below_on hB10 hb11 (Nat.le_refl _)
      have hn1 := hns10'.below hb11
      have hn2 := hns10.below hb11
      obtain ⟨Z, hZ⟩ : ∃ Z, Z = w10.heap.size := ⟨_, rfl⟩
      rw [← hZ] at z11 ⊢
      clear hb11 hZ s10 p10 hns10 hns10' hrd10 hg10 x9 s9 p9 hns9 hbs9
      have hd11 : Below W11.heap.size W11 W11.drew := (Below.refl _ _).drew
      have hsm := fun (W' : World) (hw : Below W11.heap.size W11 W') => refSame_any rl rl ao8 ao10 c8 c10 rn rn W' (hn1.below hw) (hn2.below hw) hrn hrn
      simp only [decide_true, Bool.and_true] at hsm
      have Hsm := Lib.hid hsm
      have hlf := fun (W' : World) (hw : Below W11.heap.size W11 W') => left_blk ((hw.block P (Array.getElem?_eq_some_iff.1 p11).1).trans p11)
      have hba := fun (W' : World) (hw : Below W11.heap.size W11 W') => bad_blk ((hw.block P (Array.getElem?_eq_some_iff.1 p11).1).trans p11)
      have Hlf := Lib.hid hlf
      have Hba := Lib.hid hba
      clear hsm hlf hba
      have hcz : ∀ W' : World, Below W11.heap.size W11 W' → (W'.cell? ⟨Y, 0, none⟩ = some (.int .u64 rl) ∧ W'.cell? ⟨Y, 1, none⟩ = some (.slice ao8 rn.length c8) ∧ W'.cell? ⟨Z, 0, none⟩ = some (.int .u64 rl) ∧ W'.cell? ⟨Z, 1, none⟩ = some (.slice ao10 rn.length c10) ∧ W'.cell? ⟨X, 0, none⟩ = some (.slice ar10 rest.length cr10) ∧ W'.cell? ⟨X, 1, none⟩ = some (.bool rbad)) := by
        intro W' hw
        have e0 := (hw.block _ (Array.getElem?_eq_some_iff.1 s11).1).trans s11
        have e1 := (hw.block _ (Array.getElem?_eq_some_iff.1 z11).1).trans z11
        have e2 := (hw.block _ (Array.getElem?_eq_some_iff.1 x11).1).trans x11
        exact ⟨block_cell e0 0, block_cell e0 1, block_cell e1 0, block_cell e1 1, block_cell e2 0, block_cell e2 1⟩
      have hee := eqlb
      clear hnb
      go_region_held3 (fun W' => (W'.cell? ⟨Y, 0, none⟩ = some (.int .u64 rl) ∧ W'.cell? ⟨Y, 1, none⟩ = some (.slice ao8 rn.length c8) ∧ W'.cell? ⟨Z, 0, none⟩ = some (.int .u64 rl) ∧ W'.cell? ⟨Z, 1, none⟩ = some (.slice ao10 rn.length c10) ∧ W'.cell? ⟨X, 0, none⟩ = some (.slice ar10 rest.length cr10) ∧ W'.cell? ⟨X, 1, none⟩ = some (.bool rbad)))
        (first | exact hL13 | exact hL12 | exact hcz _ hd11 | go_keep)
        (first
          | (go_at_call 10; refine (lives17_any w12).mono ?_; rintro e w13 ⟨rfl, hb13⟩; have hB13 : Below W11.heap.size W11 w13 := below_on hB12 hb13 (Nat.le_refl _); have hL13 := hcz w13 hB13)
          | (go_at_call 34; refine (Hlf.out w12 hB12).mono ?_; rintro e w14 ⟨rfl, rfl⟩)
          | (go_at_call 35; refine (Hba.out w12 hB12).mono ?_; rintro e w15 ⟨rfl, rfl⟩)
          | (go_at_call 24; refine (Hsm.out W11.drew hd11).mono ?_; rintro e w12 ⟨rfl, hb12⟩; have hB12 : Below W11.heap.size W11 w12 := below_on hd11 hb12 (Nat.le_refl _); have hL12 := hcz w12 hB12))
      all_goals
        go_wp2_with fail
        go_ret
        exact ⟨rfl, below_on hB11 hB13 (Nat.le_refl _)⟩
end Go.Proofs.Ytdcinhnplcipoaa
