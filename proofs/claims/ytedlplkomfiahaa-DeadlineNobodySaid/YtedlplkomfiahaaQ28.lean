/- Lemmas for DeadlinePlays (Do Dp OpenD Dq). No statement of the seat is proved here. -/
import Derived.Test.YtedlplkomfiahaaQ18
import Derived.Test.YtedlplkomfiahaaQ23
import Derived.Test.YtedlplkomfiahaaQ24
import Derived.Test.YtedlplkomfiahaaQ25
import Derived.Test.YtedlplkomfiahaaQ27
namespace Go.Proofs.Ytedlplkomfiahaa
set_option linter.unusedVariables false
set_option linter.unusedSimpArgs false
set_option linter.unusedSectionVars false
open Go Go.RowKit Go.Maps Go.Deep
theorem thLt_trans {a b c : Th} (h1 : thLt a b = true) (h2 : thLt b c = true) : thLt a c = true := by
  rw [thLt_iff] at *; omega
theorem snd_asc {last : Int} {X : List Th} (h : sndTo last X X.length) : Asc X := by
  refine List.pairwise_iff_getElem.2 fun i j hi hj hij => ?_
  obtain ⟨d, rfl⟩ : ∃ d, j = i + 1 + d := ⟨j - (i + 1), by omega⟩
  clear hij
  induction d with
  | zero => exact (h (i + 1) hj hj).1.2.2.2 i hi rfl
  | succ d ih => exact thLt_trans (ih (by omega)) ((h (i + 1 + (d + 1)) hj hj).1.2.2.2 (i + 1 + d) (by omega) (by omega))
theorem snd_ids {last : Int} {X : List Th} (h : sndTo last X X.length) : Ids X :=
  List.pairwise_iff_getElem.2 fun i j hi hj hij => ((h j hj hj).2 i hi hij).1
theorem Wo.rebase {Wb W wr : World} {F : Nat → Prop} {w : Nat} {now : Int} {X : List Th} (h : Wo W wr F w now X) (hb : Below Wb.heap.size Wb W) : Wo Wb wr F w now X := ⟨h.whl, fun i hi => Nat.le_trans hb.size (h.up i hi), below_on hb h.bel (Nat.le_refl _)⟩
theorem Bk.rebase {Wb W wr : World} {G : Nat → Prop} {b : Nat} {now last : Int} {X : List Th} (h : Bk W wr G b now last X) (hb : Below Wb.heap.size Wb W) : Bk Wb wr G b now last X := by
  obtain ⟨w, F, h1, h2, h3, h4, h5, h6⟩ := h
  exact ⟨w, F, h1.rebase hb, h2, h3, h4, Nat.le_trans hb.size h5, h6⟩
theorem Bk.setLast {W wr : World} {G : Nat → Prop} {b : Nat} {now last : Int} {X : List Th} (h : Bk W wr G b now last X) (l' : Int) (hl : 0 ≤ l' ∧ l' ≤ 1152921504606846976) : ∃ U, U = wr.setCell ⟨b, 1, none⟩ (.int .u64 l') ∧ Bk W U G b now l' X ∧ Gr G wr U := by
  obtain ⟨w, F, h1, h2, h3, h4, h5, h6⟩ := h
  have xU := block_set h2 1 (.int .u64 l')
  simp only [List.setIfInBounds_toArray, List.set_cons_zero, List.set_cons_succ] at xU
  have hgU : Gr (fun i => i = b) wr (wr.setCell ⟨b, 1, none⟩ (.int .u64 l')) := Gr.one (grown_set wr b 1 _) (fun b e => (Option.some.inj e).symm)
  exact ⟨_, rfl, ⟨w, F, h1.beside hgU (fun i hi e => by subst e; exact h3 hi) (fun i e => by subst e; exact h5), xU, h3, h4, h5, hl⟩, hgU.mono fun i e => (h4 i).2 (.inr e)⟩
def LoadIs (W : World) (now last : Int) (X : List Th) (e : Ending) (W' : World) : Prop :=
  (¬ SoundP now last X ∧ e = .returned (.tuple #[.pointer none, .int .i64 2]) ∧ Below W.heap.size W W') ∨
  (SoundP now last X ∧ ∃ b G, e = .returned (.tuple #[.pointer (some ⟨b, 0, none⟩), .int .i64 0]) ∧ Bk W W' G b now last X)
set_option maxRecDepth 100000 in
set_option maxHeartbeats 8000000 in
theorem dload_any (W : World) (now last : Int) (ao : Option Addr) (cap : Nat) (X : List Th) (h : ThR W ao cap X) (hl : X.length ≤ 1000) (hok : ∀ t ∈ X, IdOk t.id ∧ IdOk t.gen) (h0 : 0 ≤ last) :
    Calls Try.prog 15 #[dsV now last ao X.length cap] W (LoadIs W now last X) := by
  obtain ⟨W1, hW1⟩ : ∃ W1, W1 = W.alloc (.cells #[.int .i64 now, .int .u64 last, .slice ao X.length cap] dsT) := ⟨_, rfl⟩
  obtain ⟨b1, hb1⟩ : ∃ b, b = W.heap.size := ⟨_, rfl⟩
  have hB1 : Below W.heap.size W W1 := by rw [hW1]; exact below_new _ _
  have t1 : W1.heap[b1]? = some (.cells #[.int .i64 now, .int .u64 last, .slice ao X.length cap] dsT (0, 0)) := by rw [hW1, hb1]; exact heap_alloc_new _ _
  have p0 := block_cell t1 0
  have p1 := block_cell t1 1
  have p2 := block_cell t1 2
  have l1 := (Array.getElem?_eq_some_iff.1 t1).1
  simp at p0 p1 p2
  have Hsn := Lib.hid (dsound_any W1 now last ao cap X (ThR.below h hB1) hl hok)
  have HB1 := Lib.hid hB1
  have T1 := Lib.hid t1
  have HR := Lib.hid h
  have HL := Lib.hid hl
  have HO := Lib.hid hok
  have H0 := Lib.hid h0
  clear h hl hB1 t1 hok h0
  unfold dsV at *
  go_enter Try.func15, Try.ntmps15
  go_upto_region 1 with fail
  rw [← hW1, ← hb1]
  clear hW1 hb1
  go_wp2_with fail
  refine (show Calls _ _ _ _ _ from Hsn.out).mono ?_
  rintro e V1 ⟨v, rfl, hv, hb⟩
  cases v with
  | false =>
    have hno : ¬ SoundP now last X := fun h => Bool.noConfusion (hv.2 h)
    have Hno := Lib.hid hno
    have HB := Lib.hid (below_on HB1.out hb (Nat.le_refl _))
    clear hno hb hv
    go_wp2_with fail
    go_ret2
    exact .inl ⟨Hno.out, rfl, HB.out⟩
  | true =>
    have hs := hv.1 rfl
    have Hs := Lib.hid hs
    have HB := Lib.hid (below_on HB1.out hb (Nat.le_refl _))
    have T1b := Lib.hid (bx_below hb T1.out)
    have Hnew := Lib.hid (bnew_o W V1 now hs.1 (below_on HB1.out hb (Nat.le_refl _)))
    clear hv hs p0 p1 p2 l1
    have p0 := block_cell T1b.out 0
    have l1 := (Array.getElem?_eq_some_iff.1 T1b.out).1
    simp at p0
    clear hb
    go_wp2_with fail
    refine (show Calls _ _ _ _ _ from Hnew.out).mono ?_
    rintro e V2 ⟨b, G, rfl, hbk, hb2, hG⟩
    have t2 := bx_below hb2 T1b.out
    clear p0 l1
    have p1 := block_cell t2 1
    have p2 := block_cell t2 2
    have l1 := (Array.getElem?_eq_some_iff.1 t2).1
    simp at p1 p2
    obtain ⟨U, hU, hbkU, hgU⟩ := hbk.setLast last ⟨H0.out, Hs.out.2.1⟩
    have hnb : b1 ≠ b := fun e => by
      have h1 := (Array.getElem?_eq_some_iff.1 T1b.out).1
      have h2 : G b := by obtain ⟨w, F, -, -, -, h4, -⟩ := hbk; exact (h4 b).2 (.inr rfl)
      have := hG b h2
      omega
    have hfb : ∃ x0 x1, V2.heap[b]? = some (.cells #[x0, .int .u64 x1] bkT (0, 0)) := by obtain ⟨w, F, -, h2, -⟩ := hbk; exact ⟨_, _, h2⟩
    obtain ⟨x0, x1', hxb⟩ := hfb
    have y1 := block_cell hxb 1
    have f1 := block_free hxb 1
    have lb := (Array.getElem?_eq_some_iff.1 hxb).1
    simp at y1 f1
    have hBU : Below W.heap.size W U := (below_on HB.out hb2 (Nat.le_refl _)).trans (hgU.above (Nat.le_trans HB.out.size hb2.size) (fun i hi => Nat.le_trans HB.out.size (hG i hi)))
    have hGW : ∀ i, G i → W.heap.size ≤ i := fun i hi => Nat.le_trans HB.out.size (hG i hi)
    have HU := Lib.hid hU
    have HbkU := Lib.hid hbkU
    have HBU := Lib.hid hBU
    have HGW := Lib.hid hGW
    have tU := (hgU.block b1 (Array.getElem?_eq_some_iff.1 t2).1 (fun e => by have := hG b1 e; have h1 := (Array.getElem?_eq_some_iff.1 T1b.out).1; omega)).trans t2
    have TU := Lib.hid tU
    clear hbk hb2 hG t2 hU hbkU hgU hxb hBU hGW tU
    go_upto_region 5 with fail
    rw [← HU.out]
    clear p1 p2 l1 y1 f1 lb
    have p2 := block_cell TU.out 2
    have l1 := (Array.getElem?_eq_some_iff.1 TU.out).1
    simp at p2
    go_wp2_with fail
    clear p2 l1 hnb
    go_loopw [21] (fun u wr => ∃ (i : Nat) (G : Nat → Prop), u = .int .i64 (i : Nat) ∧ i ≤ X.length ∧ Hid (Bk W wr G b now last (X.take i)) ∧ Hid (∀ j, G j → W.heap.size ≤ j) ∧ Hid (Below W.heap.size W wr)) (fun u _ => X.length - (intOf u).toNat)
    case atStart => exact ⟨0, G, rfl, Nat.zero_le _, HbkU, HGW, HBU⟩
    case round =>
      obtain ⟨i, G, rfl, hi, hbk, hG, hbw⟩ := hrel
      by_cases hil : i < X.length
      · obtain ⟨x1, x2⟩ := i_nums i X.length hil
        obtain ⟨bx, fx, rfl, hbx, c0, c1, c2⟩ := ThR.cells (ThR.below HR.out hbw.out) i hil
        have hto : X.take i ++ [X[i]] = X.take (i + 1) := List.take_append_getElem hil
        have hasc : Asc (X.take (i + 1)) := List.Pairwise.sublist (List.take_sublist _ _) (snd_asc Hs.out.2.2.2)
        have hids : Ids (X.take (i + 1)) := List.Pairwise.sublist (List.take_sublist _ _) (snd_ids Hs.out.2.2.2)
        have hitem := (Hs.out.2.2.2 i hil hil)
        have hnid : ∀ u ∈ X.take i, u.id ≠ X[i].id := fun u hu => by
          obtain ⟨k, hk, rfl⟩ := List.getElem_of_mem hu
          rw [List.length_take] at hk
          rw [List.getElem_take]
          exact (hitem.2 k (by omega) (by omega)).1
        have harm := arm_is (X := X.take i) (m := X.take (i + 1)) (t := X[i]) hitem.1.2.2.1 hnid (by rw [List.length_take]; have := Hs.out.2.2.1; omega) hasc hids (by rw [hto])
        have hid := (HO.out X[i] (List.getElem_mem hil)).1
        obtain ⟨⟨ti, tg, td⟩, hy⟩ : ∃ y, y = X[i] := ⟨_, rfl⟩
        rw [← hy] at c0 c1 c2 harm hid
        simp only at c0 c1 c2 hid
        obtain ⟨w, F, h1, h2, h3, h4, h5, h6⟩ := hbk.out
        obtain ⟨V, hV⟩ : ∃ V, V = wr.alloc (.cells #[.int .u64 ti, .int .u64 tg, .int .i64 td] thT) := ⟨_, rfl⟩
        obtain ⟨p, hp⟩ : ∃ p, p = wr.heap.size := ⟨_, rfl⟩
        have hBV : Below wr.heap.size wr V := by rw [hV]; exact below_new _ _
        have hxp : V.heap[p]? = some (.cells #[.int .u64 ti, .int .u64 tg, .int .i64 td] thT (0, 0)) := by rw [hV, hp]; exact heap_alloc_new _ _
        have hxb := bx_below hBV h2
        have hpF : ¬ F p := fun e => by have := h1.bd p e; omega
        have hld : ∀ W', (W'.heap[b]? = V.heap[b]? ∧ W'.heap[p]? = V.heap[p]?) → (Instr.loadAt 59 (.pointer (some ⟨b, 0, none⟩))).run Try.prog W' = .ok (.pointer (some ⟨w, 0, none⟩)) W' ∧ (Instr.loadAt thT (.pointer (some ⟨p, 0, none⟩))).run Try.prog W' = .ok (thVal ⟨ti, tg, td⟩) W' := fun W' hw => by
          have q0 := block_cell (hw.1.trans hxb) 0
          simp at q0
          exact ⟨by go_simp, ldTb ⟨ti, tg, td⟩ (hw.2.trans hxp)⟩
        have har := arm_o ((h1.below hBV).below (Below.refl _ V).drew) ⟨ti, tg, td⟩ hid
        rw [harm.1, harm.2] at har
        have Har := Lib.hid har
        have Hld := Lib.hid hld
        have Hlt := Lib.hid (And.intro (Array.getElem?_eq_some_iff.1 hxb).1 (Array.getElem?_eq_some_iff.1 hxp).1)
        have HF := Lib.hid (And.intro h3 hpF)
        have Hend : Hid (∀ V3, Wnx W V.drew F w now (X.take (i + 1)) V3 → ∃ G', Bk W V3 G' b now last (X.take (i + 1)) ∧ (∀ j, G' j → W.heap.size ≤ j) ∧ Below W.heap.size W V3) := (fun V3 hw => by
          have hbd := (bx_below (below_on hBV (Below.refl _ V).drew (Nat.le_refl _)) h2)
          obtain ⟨G', k1, k2, k3⟩ := bk_wn (((h1.below hBV).below (Below.refl _ V).drew)) hbd h3 h4 h5 h6 hw
          have hbV : Below W.heap.size W V.drew := (below_on hbw.out hBV (Nat.le_refl _)).drew
          exact ⟨G', k1, fun j hj => (k3 j hj).elim (hG.out j) (fun h => Nat.le_trans hbV.size h), hbV.trans (k2.above hbV.size hG.out)⟩ : ∀ V3, Wnx W V.drew F w now (X.take (i + 1)) V3 → ∃ G', Bk W V3 G' b now last (X.take (i + 1)) ∧ (∀ j, G' j → W.heap.size ≤ j) ∧ Below W.heap.size W V3)
        have Hi := Lib.hid hil
        have HV := Lib.hid (And.intro hV hp)
        have w1 : wrap64 ((i : Int) + 1) = (i : Int) + 1 := IntWalk.wrap64_in _ (by have := HL.out; omega)
        have HW1 := Lib.hid w1
        clear hto hasc hids hitem hnid harm hid hy h1 h2 h3 h4 h5 h6 hBV hxp hxb hpF hld har hV hp hi w1
        go_upto_region 8 with fail
        rw [← HV.out.1, ← HV.out.2]
        clear c0 c1 c2 hbx
        refine wp_region_held_drew (S := fun W' => W'.heap[b]? = V.heap[b]? ∧ W'.heap[p]? = V.heap[p]?) (by kernel_rfl) ⟨rfl, rfl⟩ (fun hHeld => ?_)
        refine wpAnyH_take (i := 0) (v := ?_) rfl (by kernel_rfl) (by kernel_rfl) (by kernel_rfl) (fun _ _ _ h => h) (Or.inl ⟨by rfl, ?_⟩) (by assumption) ?_
        rotate_left
        · intro w8 hSw; clear hSw; go_simp; (try with_reducible rfl)
        simp only [Act.put, List.getElem_toArray, List.getElem_cons_zero, List.getElem_cons_succ, List.setIfInBounds_toArray, List.set_cons_zero, List.set_cons_succ]
        refine wpAnyH_take (i := 1) (v := ?_) rfl (by kernel_rfl) (by kernel_rfl) (by kernel_rfl) (fun _ _ _ h => h) (Or.inl ⟨by rfl, ?_⟩) (by assumption) ?_
        rotate_left
        · intro w8 hSw; clear hSw; go_simp; (try with_reducible rfl)
        simp only [Act.put, List.getElem_toArray, List.getElem_cons_zero, List.getElem_cons_succ, List.setIfInBounds_toArray, List.set_cons_zero, List.set_cons_succ]
        refine wpAnyH_take (i := 2) (v := ?_) rfl (by kernel_rfl) (by kernel_rfl) (by kernel_rfl) (fun _ _ _ h => h) (Or.inl ⟨by rfl, ?_⟩) (by assumption) ?_
        rotate_left
        · intro w8 hSw; clear hSw; go_simp; (try with_reducible rfl)
        simp only [Act.put, List.getElem_toArray, List.getElem_cons_zero, List.getElem_cons_succ, List.setIfInBounds_toArray, List.set_cons_zero, List.set_cons_succ]
        refine wpAnyH_take (i := 3) (v := .pointer (some ⟨w, 0, none⟩)) rfl (by kernel_rfl) (by kernel_rfl) (by kernel_rfl) (fun _ _ _ h => h) (Or.inl ⟨by rfl, ?_⟩) (by assumption) ?_
        · intro w8 hSw; exact ld_takeT rfl (Hld.out w8 hSw).1 rfl
        simp only [Act.put, List.getElem_toArray, List.getElem_cons_zero, List.getElem_cons_succ, List.setIfInBounds_toArray, List.set_cons_zero, List.set_cons_succ]
        refine wpAnyH_take (i := 4) (v := thVal ⟨ti, tg, td⟩) rfl (by kernel_rfl) (by kernel_rfl) (by kernel_rfl) (fun _ _ _ h => h) (Or.inl ⟨by rfl, ?_⟩) (by assumption) ?_
        · intro w8 hSw; exact ld_takeT rfl (Hld.out w8 hSw).2 rfl
        simp only [Act.put, List.getElem_toArray, List.getElem_cons_zero, List.getElem_cons_succ, List.setIfInBounds_toArray, List.set_cons_zero, List.set_cons_succ]
        refine wpAnyH_ready (rs := [5]) (by kernel_rfl) (by simp) ?_
        refine AllReadyH.cons rfl (fun K hK => ?_) AllReadyH.nil
        go_simp
        go_at_call 38
        refine (Har.out).mono ?_
        rintro e V3 ⟨rfl, hwn⟩; have hSS : V3.heap[b]? = V.heap[b]? ∧ V3.heap[p]? = V.heap[p]? := (by obtain ⟨F3, k1, k2, k3⟩ := hwn; exact ⟨k2.block b Hlt.out.1 HF.out.1, k2.block p Hlt.out.2 HF.out.2⟩)
        refine hK.out _ _ hSS (fun hHeld => ?_)
        clear hK K
        try simp only [Act.put, List.getElem_toArray, List.getElem_cons_zero, List.getElem_cons_succ, List.setIfInBounds_toArray, List.set_cons_zero, List.set_cons_succ]
        refine wpAnyH_done (by kernel_rfl) ?_ _
        obtain ⟨G', k1, k2, k3⟩ := Hend.out V3 hwn
        have K1 := Lib.hid k1
        have K2 := Lib.hid k2
        have K3 := Lib.hid k3
        have w1 := HW1.out
        clear k1 k2 k3 hwn hSS hHeld
        go_wp2_with fail
        go_roundw
        case rel => exact ⟨i + 1, G', by first | rfl | rw [w1]; rfl, Hi.out, K1, K2, K3⟩
        case measure =>
          first | rw [w1] | skip
          exact ts_meas X.length i Hi.out
      · obtain rfl : i = X.length := Nat.le_antisymm hi (Nat.le_of_not_lt hil)
        have x1 : ¬ (X.length : Int) < (X.length : Int) := Int.lt_irrefl _
        rw [List.take_length] at hbk
        clear hi hil
        go_wp2_with fail
        go_ret2
        exact .inr ⟨Hs.out, b, G, rfl, hbk.out⟩
end Go.Proofs.Ytedlplkomfiahaa
namespace Go.Proofs.Ytedlplkomfiahaa
set_option linter.unusedVariables false
set_option linter.unusedSimpArgs false
set_option linter.unusedSectionVars false
open Go Go.RowKit Go.Maps Go.Deep
set_option maxRecDepth 100000 in
set_option maxHeartbeats 4000000 in
theorem bclone_o {W wr : World} {G : Nat → Prop} {b : Nat} {now last : Int} {X : List Th} (h : Bk W wr G b now last X) (hs : SoundP now last X) (hok : ∀ t ∈ X, IdOk t.id ∧ IdOk t.gen) :
    Calls Try.prog 20 #[.pointer (some ⟨b, 0, none⟩)] wr fun e W' => ∃ c G', e = .returned (.pointer (some ⟨c, 0, none⟩)) ∧ Bk wr W' G' c now last X := by
  have Hst := Lib.hid (bstate_o h)
  obtain ⟨w, F, h1, h2, h3, h4, h5, h6⟩ := h
  have e0 := block_cell h2 0
  have el := (Array.getElem?_eq_some_iff.1 h2).1
  simp at e0
  have Hno := Lib.hid (bnone_no wr b w e0 el)
  have Hs := Lib.hid hs
  have HO := Lib.hid hok
  have H6 := Lib.hid h6
  clear h1 h2 h3 h4 h5 h6 hs hok
  go_enter Try.func20, Try.ntmps20
  go_wp2_with fail
  refine Hno.out.mono ?_
  rintro e V1 ⟨rfl, hv⟩
  subst V1
  go_wp2_with fail
  refine (show Calls _ _ _ _ _ from Hst.out).mono ?_
  rintro e V1 ⟨ao, cap, rfl, ho, hb⟩
  have hld := dload_any V1 now last ao cap X (Tt.of_own ho).thr (by have := Hs.out.2.2.1; omega) HO.out H6.out.1
  have Hld := Lib.hid hld
  have Hb := Lib.hid hb
  unfold dsV at *
  clear hld ho hb
  go_wp2_with fail
  refine (show Calls _ _ _ _ _ from Hld.out).mono ?_
  rintro e V2 (⟨hn, -, -⟩ | ⟨-, c, G', rfl, hbk⟩)
  · exact absurd Hs.out hn
  · have Hbk := Lib.hid (hbk.rebase Hb.out)
    clear hbk
    go_wp2_with fail
    go_ret
    exact ⟨c, G', rfl, Hbk.out⟩
section
variable {W : World} {q : Option Addr}
theorem bset_none (h : BNone W q) (id due : Int) : Calls Try.prog 12 #[.pointer q, .int .u64 id, .int .i64 due] W fun e W' => e = .returned (.tuple #[.int .u64 0, .int .i64 1]) ∧ Below W.heap.size W W' := by
  have Hno := Lib.hid (h W (Below.refl _ _))
  go_enter Try.func12, Try.ntmps12
  go_wp2_with fail
  refine Hno.out.mono ?_
  rintro e V1 ⟨rfl, hv⟩
  subst V1
  go_wp2_with fail
  go_ret2
  exact ⟨rfl, Below.refl _ _⟩
theorem badv_none (h : BNone W q) (tb : Int) : Calls Try.prog 11 #[.pointer q, .int .i64 tb] W fun e W' => e = .returned (.tuple #[.slice none 0 0, .int .i64 1]) ∧ Below W.heap.size W W' := by
  have Hno := Lib.hid (h W (Below.refl _ _))
  go_enter Try.func11, Try.ntmps11
  go_wp2_with fail
  refine Hno.out.mono ?_
  rintro e V1 ⟨rfl, hv⟩
  subst V1
  go_wp2_with fail
  go_ret2
  exact ⟨rfl, Below.refl _ _⟩
theorem bget_none (h : BNone W q) (id : Int) : Calls Try.prog 21 #[.pointer q, .int .u64 id] W fun e W' => e = .returned (.tuple #[thVal ⟨0, 0, 0⟩, .bool false]) ∧ Below W.heap.size W W' := by
  obtain ⟨W1, hW1⟩ : ∃ W1, W1 = W.alloc (.cells #[.int .u64 0, .int .u64 0, .int .i64 0] thT) := ⟨_, rfl⟩
  obtain ⟨p, hp⟩ : ∃ p, p = W.heap.size := ⟨_, rfl⟩
  have hB1 : Below W.heap.size W W1 := by rw [hW1]; exact below_new _ _
  have hx1 : W1.heap[p]? = some (.cells #[.int .u64 0, .int .u64 0, .int .i64 0] thT (0, 0)) := by rw [hW1, hp]; exact heap_alloc_new _ _
  have Hno := Lib.hid (h W1 hB1)
  have y0 := block_cell hx1 0
  have y1 := block_cell hx1 1
  have y2 := block_cell hx1 2
  have f0 := block_free hx1 0
  have f1 := block_free hx1 1
  have f2 := block_free hx1 2
  have l3 := (Array.getElem?_eq_some_iff.1 hx1).1
  have hp1 : W.heap.size ≤ p := by omega
  simp at y0 y1 y2 f0 f1 f2
  have u3 := bx_set3 hx1 (.int .u64 0) (.int .u64 0) (.int .i64 0)
  have hbU : Below W.heap.size W (((W1.setCell ⟨p, 0, none⟩ (.int .u64 0)).setCell ⟨p, 1, none⟩ (.int .u64 0)).setCell ⟨p, 2, none⟩ (.int .i64 0)) := sets_up (sets_up (sets_up hB1 hp1 0 _) hp1 1 _) hp1 2 _
  obtain ⟨U, hU⟩ : ∃ U, U = ((W1.setCell ⟨p, 0, none⟩ (.int .u64 0)).setCell ⟨p, 1, none⟩ (.int .u64 0)).setCell ⟨p, 2, none⟩ (.int .i64 0) := ⟨_, rfl⟩
  rw [← hU] at u3 hbU
  have HU := Lib.hid hU
  have U3 := Lib.hid u3
  have HbU := Lib.hid hbU
  clear hx1 hB1 u3 hbU hU hp1
  go_enter Try.func21, Try.ntmps21
  go_upto_region 1 with fail
  rw [← hW1, ← hp]
  clear hW1 hp
  go_wp2_with fail
  refine Hno.out.mono ?_
  rintro e V1 ⟨rfl, hv⟩
  subst V1
  go_wp2_with fail
  rw [← HU.out]
  have u0 := block_cell U3.out 0
  have u1 := block_cell U3.out 1
  have u2 := block_cell U3.out 2
  have ul := (Array.getElem?_eq_some_iff.1 U3.out).1
  simp at u0 u1 u2
  refine bodyPost_ret (v := .tuple #[.agg #[.int .u64 0, .int .u64 0, .int .i64 0], .bool false]) ?_ rfl ⟨rfl, HbU.out⟩
  simp [results, Try.results21, go_sem, u0, u1, u2, ul]
theorem bclear_none (h : BNone W q) (id : Int) : Calls Try.prog 10 #[.pointer q, .int .u64 id] W fun e W' => e = .returned (.tuple #[thVal ⟨0, 0, 0⟩, .bool false]) ∧ Below W.heap.size W W' := by
  obtain ⟨W1, hW1⟩ : ∃ W1, W1 = W.alloc (.cells #[.int .u64 0, .int .u64 0, .int .i64 0] thT) := ⟨_, rfl⟩
  obtain ⟨p, hp⟩ : ∃ p, p = W.heap.size := ⟨_, rfl⟩
  have hB1 : Below W.heap.size W W1 := by rw [hW1]; exact below_new _ _
  have hx1 : W1.heap[p]? = some (.cells #[.int .u64 0, .int .u64 0, .int .i64 0] thT (0, 0)) := by rw [hW1, hp]; exact heap_alloc_new _ _
  have Hno := Lib.hid (h W1 hB1)
  have y0 := block_cell hx1 0
  have y1 := block_cell hx1 1
  have y2 := block_cell hx1 2
  have f0 := block_free hx1 0
  have f1 := block_free hx1 1
  have f2 := block_free hx1 2
  have l3 := (Array.getElem?_eq_some_iff.1 hx1).1
  have hp1 : W.heap.size ≤ p := by omega
  simp at y0 y1 y2 f0 f1 f2
  have u3 := bx_set3 hx1 (.int .u64 0) (.int .u64 0) (.int .i64 0)
  have hbU : Below W.heap.size W (((W1.setCell ⟨p, 0, none⟩ (.int .u64 0)).setCell ⟨p, 1, none⟩ (.int .u64 0)).setCell ⟨p, 2, none⟩ (.int .i64 0)) := sets_up (sets_up (sets_up hB1 hp1 0 _) hp1 1 _) hp1 2 _
  obtain ⟨U, hU⟩ : ∃ U, U = ((W1.setCell ⟨p, 0, none⟩ (.int .u64 0)).setCell ⟨p, 1, none⟩ (.int .u64 0)).setCell ⟨p, 2, none⟩ (.int .i64 0) := ⟨_, rfl⟩
  rw [← hU] at u3 hbU
  have HU := Lib.hid hU
  have U3 := Lib.hid u3
  have HbU := Lib.hid hbU
  clear hx1 hB1 u3 hbU hU hp1
  go_enter Try.func10, Try.ntmps10
  go_upto_region 1 with fail
  rw [← hW1, ← hp]
  clear hW1 hp
  go_wp2_with fail
  refine Hno.out.mono ?_
  rintro e V1 ⟨rfl, hv⟩
  subst V1
  go_wp2_with fail
  rw [← HU.out]
  have u0 := block_cell U3.out 0
  have u1 := block_cell U3.out 1
  have u2 := block_cell U3.out 2
  have ul := (Array.getElem?_eq_some_iff.1 U3.out).1
  simp at u0 u1 u2
  refine bodyPost_ret (v := .tuple #[.agg #[.int .u64 0, .int .u64 0, .int .i64 0], .bool false]) ?_ rfl ⟨rfl, HbU.out⟩
  simp [results, Try.results10, go_sem, u0, u1, u2, ul]
theorem bstate_none (h : BNone W q) : Calls Try.prog 13 #[.pointer q] W fun e W' => e = .returned (dsV 0 0 none 0 0) ∧ Below W.heap.size W W' := by
  obtain ⟨W1, hW1⟩ : ∃ W1, W1 = W.alloc (.cells #[.int .i64 0, .int .u64 0, .slice none 0 0] dsT) := ⟨_, rfl⟩
  obtain ⟨p, hp⟩ : ∃ p, p = W.heap.size := ⟨_, rfl⟩
  have hB1 : Below W.heap.size W W1 := by rw [hW1]; exact below_new _ _
  have hx1 : W1.heap[p]? = some (.cells #[.int .i64 0, .int .u64 0, .slice none 0 0] dsT (0, 0)) := by rw [hW1, hp]; exact heap_alloc_new _ _
  have Hno := Lib.hid (h W1 hB1)
  have y0 := block_cell hx1 0
  have y1 := block_cell hx1 1
  have y2 := block_cell hx1 2
  have f0 := block_free hx1 0
  have f1 := block_free hx1 1
  have f2 := block_free hx1 2
  have l3 := (Array.getElem?_eq_some_iff.1 hx1).1
  have hp1 : W.heap.size ≤ p := by omega
  simp at y0 y1 y2 f0 f1 f2
  have u3 := bx_set3 hx1 (.int .i64 0) (.int .u64 0) (.slice none 0 0)
  have hbU : Below W.heap.size W (((W1.setCell ⟨p, 0, none⟩ (.int .i64 0)).setCell ⟨p, 1, none⟩ (.int .u64 0)).setCell ⟨p, 2, none⟩ (.slice none 0 0)) := sets_up (sets_up (sets_up hB1 hp1 0 _) hp1 1 _) hp1 2 _
  obtain ⟨U, hU⟩ : ∃ U, U = ((W1.setCell ⟨p, 0, none⟩ (.int .i64 0)).setCell ⟨p, 1, none⟩ (.int .u64 0)).setCell ⟨p, 2, none⟩ (.slice none 0 0) := ⟨_, rfl⟩
  rw [← hU] at u3 hbU
  have HU := Lib.hid hU
  have U3 := Lib.hid u3
  have HbU := Lib.hid hbU
  clear hx1 hB1 u3 hbU hU hp1
  go_enter Try.func13, Try.ntmps13
  go_upto_region 1 with fail
  rw [← hW1, ← hp]
  clear hW1 hp
  go_wp2_with fail
  refine Hno.out.mono ?_
  rintro e V1 ⟨rfl, hv⟩
  subst V1
  go_wp2_with fail
  rw [← HU.out]
  have u0 := block_cell U3.out 0
  have u1 := block_cell U3.out 1
  have u2 := block_cell U3.out 2
  have ul := (Array.getElem?_eq_some_iff.1 U3.out).1
  simp at u0 u1 u2
  refine bodyPost_ret (v := .agg #[.int .i64 0, .int .u64 0, .slice none 0 0]) ?_ rfl ⟨rfl, HbU.out⟩
  simp [results, Try.results13, go_sem, u0, u1, u2, ul]
theorem bclone_none (h : BNone W q) : Calls Try.prog 20 #[.pointer q] W fun e W' => ∃ c, e = .returned (.pointer (some ⟨c, 0, none⟩)) ∧ W'.cell? ⟨c, 0, none⟩ = some (.pointer none) ∧ Below W.heap.size W W' := by
  have Hno := Lib.hid (h W (Below.refl _ _))
  obtain ⟨W1, hW1⟩ : ∃ W1, W1 = W.alloc (.cells #[.pointer none, .int .u64 0] bkT) := ⟨_, rfl⟩
  obtain ⟨p, hp⟩ : ∃ p, p = W.heap.size := ⟨_, rfl⟩
  have hB1 : Below W.heap.size W W1 := by rw [hW1]; exact below_new _ _
  have hx1 : W1.heap[p]? = some (.cells #[.pointer none, .int .u64 0] bkT (0, 0)) := by rw [hW1, hp]; exact heap_alloc_new _ _
  have y0 := block_cell hx1 0
  simp at y0
  have Y0 := Lib.hid y0
  have HB := Lib.hid hB1
  clear y0 hx1 hB1
  go_enter Try.func20, Try.ntmps20
  go_wp2_with fail
  refine Hno.out.mono ?_
  rintro e V1 ⟨rfl, hv⟩
  subst V1
  go_wp2_with fail
  rw [← hW1, ← hp]
  go_ret
  exact ⟨p, rfl, Y0.out, by rw [hp]; exact HB.out⟩
end
theorem insT_one (t : Th) : insT [] t = [t] := srt_is (List.pairwise_singleton _ _) (List.pairwise_singleton _ _) (List.Perm.refl _)
theorem set_empty : setN 0 [] 7 10 = 1 ∧ setE 0 [] 7 10 = 0 ∧ setL 0 [] 7 10 = 1 ∧ setX 0 [] 7 10 = [⟨7, 1, 10⟩] := by
  obtain ⟨h1, h2, h3, h4⟩ := set_in 0 [] 7 10 ⟨by omega, by omega⟩ ⟨by omega, .inr (by simp)⟩
  refine ⟨h1, h2, h3, h4.trans ?_⟩
  rw [show lessId [] 7 = [] from rfl, insT_one]; rfl
theorem set_again : setN 1 [⟨7, 1, 10⟩] 7 20 = 2 ∧ setE 1 [⟨7, 1, 10⟩] 7 20 = 0 ∧ setL 1 [⟨7, 1, 10⟩] 7 20 = 2 ∧ setX 1 [⟨7, 1, 10⟩] 7 20 = [⟨7, 2, 20⟩] := by
  obtain ⟨h1, h2, h3, h4⟩ := set_in 1 [⟨7, 1, 10⟩] 7 20 ⟨by omega, by omega⟩ ⟨by omega, .inr (by simp)⟩
  refine ⟨h1, h2, h3, h4.trans ?_⟩
  rw [show lessId [(⟨7, 1, 10⟩ : Th)] 7 = [] from rfl, insT_one]; rfl
set_option maxRecDepth 100000 in
set_option maxHeartbeats 4000000 in
theorem lives13 (W : World) : Calls Try.prog 9 #[] W fun e W' => e = .returned (.bool true) ∧ Below W.heap.size W W' := by
  have v1 : advL 0 15 [(⟨7, 2, 20⟩ : Th)] = [] ∧ advX 0 15 [(⟨7, 2, 20⟩ : Th)] = [⟨7, 2, 20⟩] ∧ advN 0 15 = 15 ∧ advE 0 15 = 0 := ⟨rfl, rfl, rfl, rfl⟩
  have v2 : advL 15 20 [(⟨7, 2, 20⟩ : Th)] = [⟨7, 2, 20⟩] ∧ advX 15 20 [(⟨7, 2, 20⟩ : Th)] = [] ∧ advN 15 20 = 20 ∧ advE 15 20 = 0 := ⟨rfl, rfl, rfl, rfl⟩
  have V1 := Lib.hid v1
  have V2 := Lib.hid v2
  have Hnew := Lib.hid (bnew_o W W 0 ⟨by omega, by omega⟩ (Below.refl _ _))
  clear v1 v2
  go_enter Try.func9, Try.ntmps9
  go_wp2_with fail
  refine (show Calls _ _ _ _ _ from Hnew.out).mono ?_
  rintro e U1 ⟨b, G, rfl, hb1, -, -⟩
  have hs := bset_o hb1 7 10 ⟨by omega, by omega⟩
  rw [set_empty.1, set_empty.2.1, set_empty.2.2.1, set_empty.2.2.2] at hs
  have Hs := Lib.hid hs
  clear hs hb1
  go_wp2_with fail
  refine (show Calls _ _ _ _ _ from Hs.out).mono ?_
  rintro e U2 ⟨rfl, G2, hb2, -, -⟩
  have hs := bset_o hb2 7 20 ⟨by omega, by omega⟩
  rw [set_again.1, set_again.2.1, set_again.2.2.1, set_again.2.2.2] at hs
  have Hs2 := Lib.hid hs
  clear hs hb2
  go_wp2_with fail
  refine (show Calls _ _ _ _ _ from Hs2.out).mono ?_
  rintro e U3 ⟨rfl, G3, hb3, -, -⟩
  have hs := badv_o hb3 15
  rw [V1.out.1, V1.out.2.1, V1.out.2.2.1, V1.out.2.2.2] at hs
  have Ha1 := Lib.hid hs
  clear hs hb3
  go_wp2_with fail
  refine (show Calls _ _ _ _ _ from Ha1.out).mono ?_
  rintro e U4 ⟨a1, c1, rfl, ⟨G4, hb4, -, -⟩, -⟩
  have hs := badv_o hb4 20
  rw [V2.out.1, V2.out.2.1, V2.out.2.2.1, V2.out.2.2.2] at hs
  have Ha2 := Lib.hid hs
  clear hs hb4
  go_wp2_with fail
  refine (show Calls _ _ _ _ _ from Ha2.out).mono ?_
  rintro e U5 ⟨a2, c2, rfl, ⟨G5, hb5, -, -⟩, ho⟩
  obtain ⟨bx, fx, rfl, hbx, k0, k1, k2⟩ := Tt.cells (Tt.of_own ho) 0 (by simp)
  simp at k0 k1 k2
  have HB := Lib.hid hb5.bel
  have heq := eq_th ⟨7, 2, 20⟩
  unfold thVal at heq
  clear ho hb5
  go_wp2_with fail
  go_ret
  exact ⟨rfl, HB.out⟩
end Go.Proofs.Ytedlplkomfiahaa
namespace Go.Proofs.Ytedlplkomfiahaa
set_option linter.unusedVariables false
set_option linter.unusedSimpArgs false
set_option linter.unusedSectionVars false
open Go Go.ChangeShapes Go.WideShapes Go.ChangeAt Go.RowKit Go.Deep
def DOpOk (o : DOp) : Prop := IdOk o.id ∧ -9223372036854775808 ≤ o.at_ ∧ o.at_ ≤ 9223372036854775807
def DOps (w : World) (ao : Option Addr) (cap : Nat) (l : List DOp) : Prop := Sl w 3 ao l.length cap (l.map dopCells).flatten
theorem wf_u {x : Int} (h : (Lit.int .u64 x).wf = true) : IdOk x := by
  simp [Lit.wf, IntKind.min, IntKind.max, IntKind.signed, IntKind.bits] at h
  exact ⟨h.1, by omega⟩
theorem wf_i {x : Int} (h : (Lit.int .i64 x).wf = true) : -9223372036854775808 ≤ x ∧ x ≤ 9223372036854775807 := by
  simp [Lit.wf, IntKind.min, IntKind.max, IntKind.signed, IntKind.bits] at h
  exact ⟨by omega, by omega⟩
theorem ThOk.gen {t : Th} (h : ThOk t) : IdOk t.gen := wf_u h.2.1
section
variable {H : Type} {enc : TypeId × Value → H} {w : World} {base : Nat} {held : Bool}
set_option maxRecDepth 100000 in
theorem row_dop (n : Nat) (cs : List Value) (y : DataW H × List MemPlace) (hcs : cs.length = 3) (h : DataW.trod enc Try.prog w base (fun _ => true) held n 30 cs = some y) : ∃ a : DOp, cs = dopCells a ∧ DOpOk a := by
  obtain ⟨a, e, w0, w1, w2⟩ := row_ints3 Try.underlying30 (by kernel_rfl) (by kernel_rfl) Try.underlying3 Try.underlying28 Try.underlying2 n cs y hcs h
  exact ⟨⟨a.1, a.2.1, a.2.2⟩, e, wf_u w1, wf_i w2⟩
set_option maxRecDepth 100000 in
theorem open_dops {fuel : Nat} {ao : Option Addr} {len cap : Nat} {x : DataW H × List MemPlace} (h : DataW.trod enc Try.prog w base (fun _ => true) held fuel 22 (Value.slice ao len cap).cells.toList = some x) :
    ∃ l : List DOp, len = l.length ∧ DOps w ao cap l ∧ ∀ a ∈ l, DOpOk a :=
  open_rows dopCells DOpOk (fun _ => rfl) (by decide) Try.underlying22 (by kernel_rfl) (fun n cs y hcs hy => row_dop n cs y hcs hy) h
set_option maxRecDepth 100000 in
theorem open_dop {r : Reach} {b0 : Nat} {v : Value} {d : DataW H} {p : List MemPlace} (hv : Value.okWide Try.prog w r b0 30 v) (h : DataW.Trod enc Try.prog w base (fun _ => true) held 30 v d p) : ∃ o : DOp, v = dopVal o ∧ DOpOk o := by
  obtain ⟨cs, rfl, hsz⟩ := okWide_struct Try.underlying30 hv
  have hC : Try.prog.cellsOf 30 = 3 := by kernel_rfl
  rw [hC] at hsz
  obtain ⟨cs⟩ := cs
  obtain ⟨fuel, hf⟩ := h
  have hf2 : DataW.trod enc Try.prog w base (fun _ => true) held fuel 30 cs = some (d, p) := by simpa [Value.cells] using hf
  obtain ⟨o, ho, hok⟩ := row_dop _ cs _ (by simpa using hsz) hf2
  subst ho
  exact ⟨o, rfl, hok⟩
set_option maxRecDepth 100000 in
theorem open_dstate {r : Reach} {b0 : Nat} {v : Value} {d : DataW H} {p : List MemPlace} (hv : Value.okWide Try.prog w r b0 42 v) (h : DataW.Trod enc Try.prog w base (fun _ => true) held 42 v d p) :
    ∃ (now last : Int) (ao : Option Addr) (cap : Nat) (l : List Th), v = dsV now last ao l.length cap ∧ (Lit.int .i64 now).wf = true ∧ (Lit.int .u64 last).wf = true ∧ Sl w 3 ao l.length cap (thFlat l) ∧ ∀ a ∈ l, ThOk a := by
  unfold Value.okWide at hv
  rw [Try.underlying42] at hv
  simp only at hv
  obtain ⟨cs, rfl, hsz, ts, hts, _, hall⟩ := hv
  have hts2 : Try.prog.cellTypes Try.prog.depth 42 = some [2, 28, 35] := by kernel_rfl
  rw [hts2] at hts
  simp only [Option.some.injEq] at hts
  subst hts
  have hC : Try.prog.cellsOf 42 = 3 := by kernel_rfl
  rw [hC] at hsz
  obtain ⟨cs⟩ := cs
  match cs, hsz with
  | [c0, c1, c2], _ =>
    obtain ⟨u, hu, hc1⟩ := hall 2 c2 rfl
    have hu2 : u = 35 := by simpa using hu.symm
    subst hu2
    have hv1 : Value.okWide Try.prog w r b0 35 c2 := by unfold Value.okWide; rw [Try.underlying35]; exact hc1
    obtain ⟨ao, len, cap, rfl⟩ := okWide_slice Try.underlying35 hv1
    obtain ⟨fuel, hf⟩ := h
    obtain ⟨xs, n, _, hx, _, hlen, hg⟩ := DataW.trod_struct Try.underlying42 hf
    match xs, hlen with
    | [y0, y1, y2], _ =>
      have t0 := hg 0 _ rfl
      have t1 := hg 1 _ rfl
      have t2 := hg 2 _ rfl
      have k0 : Try.prog.cellsOf 2 = 1 := by kernel_rfl
      have k1 : Try.prog.cellsOf 28 = 1 := by kernel_rfl
      have k2 : Try.prog.cellsOf 35 = 1 := by kernel_rfl
      simp [Value.cells, k0, k1, k2] at t0 t1 t2
      obtain ⟨n0, e0, d0, w0⟩ := DataW.trod_int (k := .i64) Try.underlying2 t0
      obtain ⟨n1, e1, d1, w1⟩ := DataW.trod_int (k := .u64) Try.underlying28 t1
      simp at e0 e1
      subst e0
      subst e1
      obtain ⟨l, hl, hsl, hok⟩ := open_ths (by simpa [Value.cells] using t2)
      subst hl
      exact ⟨n0, n1, ao, cap, l, rfl, w0, w1, hsl, hok⟩
end
theorem DOps.get {w : World} {ao : Option Addr} {cap : Nat} {l : List DOp} (h : DOps w ao cap l) (i : Nat) (hi : i < l.length) :
    ∃ b off, ao = some ⟨b, off, none⟩ ∧ ∀ j (hj : j < 3), w.cell? ⟨b, off + i * 3 + j, none⟩ = some ((dopCells l[i])[j]'hj) := by
  have key : ∀ j (hj : j < 3), (l.map dopCells).flatten[i * 3 + j]? = some ((dopCells l[i])[j]'hj) := by
    intro j hj
    have := flatten_get (rows := l.map dopCells) (k := 3) (by intro r hr; obtain ⟨x, _, rfl⟩ := List.mem_map.1 hr; rfl) i j (by simpa using hi) (by rw [List.getElem_map]; exact hj)
    rw [this]; simp only [List.getElem_map]; rfl
  obtain ⟨b, off, e, _⟩ := h.cell _ _ (key 0 (by decide))
  refine ⟨b, off, e, fun j hj => ?_⟩
  obtain ⟨b', off', e', hc⟩ := h.cell _ _ (key j hj)
  rw [e] at e'
  simp only [Option.some.injEq, Addr.mk.injEq] at e'
  obtain ⟨rfl, rfl, -⟩ := e'
  rw [Nat.add_assoc]; exact hc
theorem DOps.below {w w' : World} {ao : Option Addr} {cap : Nat} {l : List DOp} (h : DOps w ao cap l) (hb : Below w.heap.size w w') : DOps w' ao cap l := Sl.below h hb
end Go.Proofs.Ytedlplkomfiahaa
namespace Go.Proofs.Ytedlplkomfiahaa
set_option linter.unusedVariables false
set_option linter.unusedSimpArgs false
set_option linter.unusedSectionVars false
open Go Go.RowKit Go.Maps Go.Deep
theorem ddo_any (Wb W : World) (G : Nat → Prop) (b : Nat) (now last : Int) (X : List Th) (ao : Option Addr) (cap : Nat) (o : DOp) (hW : Bk Wb W G b now last X) (hR : Rt W ao cap (slot0 X)) (hA : RAp W G ao) (hid : IdOk o.id) :
    Calls Try.prog 18 #[.pointer (some ⟨b, 0, none⟩), dsV now last ao X.length cap, dopVal o] W (DDone Wb W G b ao) := by
  by_cases h1 : o.kind = 1
  · exact ddo_clr Wb W G b now last X ao cap o h1 hW hR hA hid
  by_cases h2 : o.kind = 2
  · exact ddo_adv Wb W G b now last X ao cap o h2 hW hR hA hid
  by_cases h3 : o.kind = 3
  · exact ddo_get Wb W G b now last X ao cap o h3 hW hR hA hid
  exact ddo_set Wb W G b now last X ao cap o ⟨h1, h2, h3⟩ hW hR hA hid
theorem rsame13_eq (W : World) (n1 s1 : Int) (a1 : Option Addr) (c1 : Nat) (X : List Th) (a2 : Option Addr) (c2 : Nat) (hX : Rt W a1 c1 (slot0 X)) (hY : Rt W a2 c2 (slot0 X)) (hl : X.length ≤ 1000) :
    Calls Try.prog 19 #[dsV n1 s1 a1 X.length c1, dsV n1 s1 a2 X.length c2] W fun e W' => e = .returned (.bool true) ∧ Below W.heap.size W W' := by
  refine (rsame13_any W n1 s1 a1 c1 X n1 s1 a2 c2 X hX hY hl).mono ?_
  rintro e W' ⟨rfl, hb⟩
  exact ⟨by rw [decide_eq_true ⟨rfl, rfl, rfl⟩], hb⟩
/-- the reference's state stands in a box -/
structure Pd (W wr : World) (G : Nat → Prop) (b p : Nat) (now last : Int) (X : List Th) (a : Option Addr) (c : Nat) : Prop where
  wo : Bk W wr G b now last X
  rt : Rt wr a c (slot0 X)
  ap : RAp wr G a
  bx : wr.heap[p]? = some (.cells #[.int .i64 now, .int .u64 last, .slice a X.length c] rsT (0, 0))
  out : ¬ G p
  up : W.heap.size ≤ p
theorem Pd.below {W wr wr' : World} {G : Nat → Prop} {b p : Nat} {now last : Int} {X : List Th} {a : Option Addr} {c : Nat} (h : Pd W wr G b p now last X a c) (hb : Below wr.heap.size wr wr') : Pd W wr' G b p now last X a c :=
  ⟨h.wo.below hb, h.rt.below hb, h.ap.up hb.size, bx_below hb h.bx, h.out, h.up⟩
theorem Pd.set {W wr V : World} {G : Nat → Prop} {b p : Nat} {now last : Int} {X : List Th} {a : Option Addr} {c : Nat} (h : Pd W wr G b p now last X a c) {now' last' : Int} {X' : List Th} {G' : Nat → Prop} {a' : Option Addr} {c' : Nat} (hwo : Bk W V G' b now' last' X') (hr : Rt V a' c' (slot0 X')) (hA : RAp V G' a') (hg : Gr G wr V) (hF : ∀ i, G' i → G i ∨ wr.heap.size ≤ i) :
    V.heap[p]? = some (.cells #[.int .i64 now, .int .u64 last, .slice a X.length c] rsT (0, 0)) ∧ ∃ U, U = ((V.setCell ⟨p, 0, none⟩ (.int .i64 now')).setCell ⟨p, 1, none⟩ (.int .u64 last')).setCell ⟨p, 2, none⟩ (.slice a' X'.length c') ∧ Pd W U G' b p now' last' X' a' c' ∧ ∀ i, i ≠ p → U.heap[i]? = V.heap[i]? := by
  have hlt := (Array.getElem?_eq_some_iff.1 h.bx).1
  have xV := (hg.block p hlt h.out).trans h.bx
  have hnF : ¬ G' p := fun e => by rcases hF p e with h1 | h1; exact h.out h1; omega
  obtain ⟨U, e, ⟨h1, h2, h3, -, -⟩, h4, h5⟩ := ddone_sets (G := G') (W := W) (Z := V) (V := V) (Nat.le_refl _) hwo.bel hr hA hwo (Gr.refl _ _) (fun i hi => .inl hi) xV h.up hnF (.int .i64 now') (.int .u64 last') (.slice a' X'.length c')
  exact ⟨xV, U, e, ⟨h1, h2, h3, h4, hnF, h.up⟩, h5⟩
end Go.Proofs.Ytedlplkomfiahaa
