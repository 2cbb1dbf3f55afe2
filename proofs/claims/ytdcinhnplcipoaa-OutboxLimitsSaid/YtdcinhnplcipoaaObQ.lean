/- Contracts of the box's Put where it tells an error, and of Tick. No statement of the seat is proved here. -/
import Derived.Test.YtdcinhnplcipoaaObC
namespace Go.Proofs.Ytdcinhnplcipoaa
set_option linter.unusedVariables false
set_option linter.unusedSimpArgs false
set_option linter.unusedSectionVars false
open Go Go.RowKit Go.Shelf

/-- the error of a Put -/
def putErr (last : Int) (l : List No) (n : No) (now : Int) : Nat :=
  if (!instB now || !fitsN n) = true then 2 else if 1152921504606846976 ≤ last then 10 else if 128 ≤ l.length ∧ l.findIdx (fun n => !waitsB n) = l.length then 30 else 0
set_option maxRecDepth 100000 in
set_option maxHeartbeats 2000000 in
theorem put_bad {W : World} {base b : Nat} {last : Int} {v : Value} {l : List No} (n : No) (now : Int) (hn : l.length ≤ 1000000) (h : Bx W base b last v l) (he : putErr last l n now ≠ 0) :
    Calls Try.prog 9 #[.pointer (some ⟨b, 0, none⟩), noVal n, .int .i64 now] W fun e W' => e = .returned (.tuple #[.int .u64 0, .int .i64 (putErr last l n now : Nat)]) ∧ Below W.heap.size W W' := by
  have hin := fun W => inst_any now W
  have hfi := fun W => fits_any n W
  obtain ⟨ao, cap, rfl, -⟩ := h.ns
  obtain ⟨E, hE⟩ : ∃ E, E = putErr last l n now := ⟨_, rfl⟩
  rw [← hE] at he ⊢
  unfold putErr at hE
  obtain ⟨qi, hqi⟩ : ∃ q, q = instB now := ⟨_, rfl⟩
  obtain ⟨qf, hqf⟩ : ∃ q, q = fitsN n := ⟨_, rfl⟩
  rw [← hqi, ← hqf] at hE
  simp only [← hqi] at hin
  simp only [← hqf] at hfi
  obtain ⟨sid, tk, lv, pt, st, tr, rt, wt, nx⟩ := n
  unfold noVal at hfi ⊢
  simp only at hfi ⊢
  have Hfi := Lib.hid hfi
  have Hin := Lib.hid hin
  clear hfi hin hqi hqf
  cases qi with
  | false =>
    have hE2 : E = 2 := by rw [hE]; rfl
    subst hE2
    clear hE he
    go_enter Try.func9, Try.ntmps9
    go_wp2_with fail
    refine (none_bx (h.below (below_new _ _))).mono ?_
    rintro e W1 ⟨rfl, rfl⟩
    go_wp2_with fail
    refine (Hin.out _).mono ?_
    rintro e W1 ⟨rfl, rfl⟩
    go_wp2_with fail
    refine bodyPost_ret (v := .tuple #[.int .u64 0, .int .i64 2]) (by simp [results, Try.results9, go_sem]) rfl ?_
    exact ⟨rfl, below_new _ _⟩
  | true =>
    cases qf with
    | false =>
      have hE2 : E = 2 := by rw [hE]; rfl
      subst hE2
      clear hE he
      go_enter Try.func9, Try.ntmps9
      go_wp2_with fail
      refine (none_bx (h.below (below_new _ _))).mono ?_
      rintro e W1 ⟨rfl, rfl⟩
      go_wp2_with fail
      refine (Hin.out _).mono ?_
      rintro e W1 ⟨rfl, rfl⟩
      go_wp2_with fail
      refine (Hfi.out _).mono ?_
      rintro e W2 ⟨rfl, hb2⟩
      go_wp2_with fail
      refine bodyPost_ret (v := .tuple #[.int .u64 0, .int .i64 2]) (by simp [results, Try.results9, go_sem]) rfl ?_
      exact ⟨rfl, below_on (below_new _ _) hb2 (Nat.le_refl _)⟩
    | true =>
      rw [if_neg (by simp)] at hE
      by_cases hl : 1152921504606846976 ≤ last
      · rw [if_pos hl] at hE
        subst hE
        clear he
        go_enter Try.func9, Try.ntmps9
        go_wp2_with fail
        refine (none_bx (h.below (below_new _ _))).mono ?_
        rintro e W1 ⟨rfl, rfl⟩
        go_wp2_with fail
        refine (Hin.out _).mono ?_
        rintro e W1 ⟨rfl, rfl⟩
        go_wp2_with fail
        refine (Hfi.out _).mono ?_
        rintro e W2 ⟨rfl, hb2⟩
        have hB2 := below_on (below_new W _) hb2 (Nat.le_refl _)
        obtain ⟨x0, x1, x2⟩ := (h.below hB2).cells
        go_wp2_with fail
        refine bodyPost_ret (v := .tuple #[.int .u64 0, .int .i64 10]) (by simp [results, Try.results9, go_sem]) rfl ?_
        exact ⟨rfl, hB2⟩
      · rw [if_neg hl] at hE
        by_cases hf : 128 ≤ l.length ∧ l.findIdx (fun n => !waitsB n) = l.length
        · rw [if_pos hf] at hE
          subst hE
          clear he
          obtain ⟨hf1, hf2⟩ := hf
          have hix := fun W2 (h2 : Ns W2 ao cap l) => index_any 40 #[] (fun n => !waitsB n) (enters_of Try.func40 (by kernel_rfl) rfl) ao cap l W2 h2 (by omega) (fun W3 n hb => put1_any n W3)
          have hz : firstN l (fun n => !waitsB n) = -1 := by unfold firstN; rw [if_neg (by omega)]
          rw [hz] at hix
          have Hix := Lib.hid hix
          clear hz hix hf2
          have n0 : (128 : Int) ≤ (l.length : Int) := by omega
          have hl' : last < 1152921504606846976 := by omega
          go_enter Try.func9, Try.ntmps9
          go_wp2_with fail
          refine (none_bx (h.below (below_new _ _))).mono ?_
          rintro e W1 ⟨rfl, rfl⟩
          go_wp2_with fail
          refine (Hin.out _).mono ?_
          rintro e W1 ⟨rfl, rfl⟩
          go_wp2_with fail
          refine (Hfi.out _).mono ?_
          rintro e W2 ⟨rfl, hb2⟩
          have hB2 := below_on (below_new W _) hb2 (Nat.le_refl _)
          have h2 := h.below hB2
          obtain ⟨x0, x1, x2⟩ := h2.cells
          go_wp2_with fail
          refine (Hix.out _ (Ns.of_own h2.own)).mono ?_
          rintro e W3 ⟨rfl, hb3⟩
          go_wp2_with fail
          refine bodyPost_ret (v := .tuple #[.int .u64 0, .int .i64 30]) (by simp [results, Try.results9, go_sem]) rfl ?_
          exact ⟨rfl, below_on hB2 hb3 (Nat.le_refl _)⟩
        · rw [if_neg hf] at hE
          exact absurd hE he
/-- what a Tick makes of a notice -/
def tickN (now : Int) (n : No) : No := if spentB now n then setSt n 3 else n
theorem tick_set (l : List No) (now : Int) (i : Nat) (hi : i < l.length) : ((l.take i).map (tickN now) ++ l.drop i).set i (tickN now l[i]) = (l.take (i + 1)).map (tickN now) ++ l.drop (i + 1) := by
  have e : ((l.take i).map (tickN now)).length = i := by simp; omega
  rw [List.set_append_right _ _ (by omega), e, Nat.sub_self, List.drop_eq_getElem_cons hi, List.set_cons_zero, List.take_succ_eq_append_getElem hi, List.map_append, List.append_assoc]
  rfl
theorem tick_at (l : List No) (now : Int) (i : Nat) (hi : i < l.length) : ((l.take i).map (tickN now) ++ l.drop i)[i]'(by simp; omega) = l[i] := by
  rw [List.getElem_append_right (by simp; omega)]
  simp [Nat.min_eq_left (Nat.le_of_lt hi)]
theorem tick_len (l : List No) (now : Int) (i : Nat) (hi : i ≤ l.length) : ((l.take i).map (tickN now) ++ l.drop i).length = l.length := by simp; omega
theorem Fr2.own {B b : Nat} {v v2 : Value} {W W' : World} {base e size n : Nat} {xs : List Value} (h : Fr2 B b v W W') (ho : W.ownsRow base e size v2 n xs) (hb : b < base) (hB : ∀ k, v2.ownBlock = some k → k < B) (hv : ∀ k, v.ownBlock = some k → k < base) : W'.ownsRow base e size v2 n xs := by
  obtain ⟨h1, h2⟩ := ho
  refine ⟨h1, ?_⟩
  rcases h2 with h2 | ⟨g, cap, cur, hv', hg', hh, r'⟩
  · exact .inl h2
  · refine .inr ⟨g, cap, cur, hv', hg', ?_, r'⟩
    rw [h.block g (hB g (by rw [hv']; rfl)) (by omega) (fun e => by have := hv g e; omega)]; exact hh
/-- what a Tick leaves -/
def TickOk (base b : Nat) (last : Int) (v : Value) (l : List No) (now : Int) (W : World) (e : Ending) (W' : World) : Prop :=
  ∃ so sc, e = .returned (.slice so (l.filter (spentB now)).length sc) ∧ (W'.ownsRow W.heap.size 22 1 (.slice so (l.filter (spentB now)).length sc) (l.filter (spentB now)).length ((ids (l.filter (spentB now))).map uCell).flatten) ∧ Bx W' base b last v (l.map (tickN now)) ∧ Fr2 W.heap.size b v W W'
set_option maxHeartbeats 4000000 in
theorem tick_bx {W : World} {base b : Nat} {last : Int} {v : Value} {l : List No} (now : Int) (hn : l.length ≤ 1000000) (h : Bx W base b last v l) :
    Calls Try.prog 17 #[.pointer (some ⟨b, 0, none⟩), .int .i64 now] W (TickOk base b last v l now W) := by
  obtain ⟨ao, cap, rfl, hs⟩ := h.ns
  have hbW := (Array.getElem?_eq_some_iff.1 h.blk).1
  have hcell : (W.alloc (.cells #[.int .i64 now] 2)).cell? ⟨W.heap.size, 0, none⟩ = some (.int .i64 now) := by simp
  have h1 := h.below (below_new W (.cells #[.int .i64 now] 2))
  have hb1 := below_new W (.cells #[.int .i64 now] 2)
  have hz1 : (W.alloc (.cells #[.int .i64 now] 2)).heap.size = W.heap.size + 1 := by simp
  obtain ⟨W1, hW1⟩ : ∃ W1, W1 = W.alloc (.cells #[.int .i64 now] 2) := ⟨_, rfl⟩
  rw [← hW1] at hcell h1 hb1 hz1
  have hpk := pickU_any 47 #[.pointer (some ⟨W.heap.size, 0, none⟩)] (spentB now) (enters_of Try.func47 (by kernel_rfl) rfl) ao cap l W1 (Ns.of_own h1.own) hn
    (fun W2 n hb => tick1_any n W.heap.size now W2 ((hb.cell (p := ⟨W.heap.size, 0, none⟩) (cell?_lt hcell)).trans hcell))
  obtain ⟨F, hF⟩ : ∃ F, F = l.filter (spentB now) := ⟨_, rfl⟩
  unfold TickOk
  rw [← hF] at hpk ⊢
  have Hpk := Lib.hid hpk
  have HF := Lib.hid hF
  clear hpk hF
  have HzW := Lib.hid hz1
  clear hz1
  go_enter Try.func17, Try.ntmps17
  go_wp2_with fail
  rw [← hW1]
  refine (none_bx h1).mono ?_
  rintro e W2 ⟨rfl, rfl⟩
  obtain ⟨x0, x1, x2⟩ := h1.cells
  clear hW1
  go_wp2_with fail
  refine Hpk.out.mono ?_
  rintro e W2 ⟨⟨so, sc, rfl, hownF⟩, hb2⟩
  have h2 := h1.below hb2
  clear x0 x1 x2
  obtain ⟨x0, x1, x2⟩ := h2.cells
  have hcell2 := (hb2.cell (p := ⟨W.heap.size, 0, none⟩) (cell?_lt hcell)).trans hcell
  have hB2 := below_on hb1 hb2 (Nat.le_refl _)
  go_wp2_with fail
  have hBL := Lib.hid hB2
  go_loopw [22] (fun u wr => ∃ i : Nat, u = .int .i64 i ∧ i ≤ l.length ∧ Bx wr base b last (.slice ao l.length cap) ((l.take i).map (tickN now) ++ l.drop i) ∧ wr.cell? ⟨W.heap.size, 0, none⟩ = some (.int .i64 now) ∧ Fr2 W2.heap.size b (.slice ao l.length cap) W2 wr) (fun u _ => l.length - (intOf u).toNat)
  case atStart => exact ⟨0, rfl, Nat.zero_le _, h2, hcell2, Fr2.below (Below.refl _ _) (Nat.le_refl _)⟩
  case round =>
    obtain ⟨i, rfl, hi, hx, hc, hfr⟩ := hrel
    clear x0 x1 x2 hcell2
    by_cases hlt : i < l.length
    · have hlen := tick_len l now i hi
      obtain ⟨g, cap', hv, hat, hfz, hgb, hbg⟩ := hx.at_ i (by omega)
      rw [tick_at l now i hlt] at hat
      have hset := tick_set l now i hlt
      have hself := List.set_getElem_self («as» := (l.take i).map (tickN now) ++ l.drop i) (i := i) (by omega)
      rw [tick_at l now i hlt] at hself
      rw [hlen] at hv
      cases hv
      have hsto := fun W' (h' : Bx W' base b last (.slice (some ⟨g, 0, none⟩) l.length cap) ((l.take i).map (tickN now) ++ l.drop i)) => h'.storedSt (g := g) (cap := cap) i (by omega) 3 (by rw [hlen])
      simp only [tick_at l now i hlt] at hsto
      obtain ⟨c0, c1, c2, c3, c4, c5, c6, c7, c8⟩ := hat
      have hps := fun W' hc' => tick1_any l[i] W.heap.size now W' hc'
      have htk : tickN now l[i] = if spentB now l[i] then setSt l[i] 3 else l[i] := rfl
      obtain ⟨s, hsd⟩ : ∃ s, s = l[i] := ⟨_, rfl⟩
      simp only [← hsd] at c0 c1 c2 c3 c4 c5 c6 c7 c8 hps hsto hset htk hself
      obtain ⟨q, hq⟩ : ∃ q, q = spentB now s := ⟨_, rfl⟩
      simp only [← hq] at hps htk
      clear hq hsd
      have Hset := Lib.hid hset
      have Hsto := Lib.hid hsto
      have Hself := Lib.hid hself
      have Htk := Lib.hid htk
      have Hlen := Lib.hid hlen
      clear hset hsto htk hlen hself
      obtain ⟨sid, tk, lv, pt, st, tr, rt, wt, nx⟩ := s
      unfold noVal at hps
      simp only at c0 c1 c2 c3 c4 c5 c6 c7 c8 hps
      have Hps := Lib.hid hps
      clear hps
      obtain ⟨x0, x1, x2⟩ := hx.cells
      have i0 : (0 : Int) ≤ (i : Int) := by omega
      have i1 : (i : Int) < (l.length : Int) := by omega
      have hglt := (h.own.lt g rfl).2
      have hzB := HzW.out
      have hsz2 := hBL.out.size
      go_wp2_with fail
      refine (Hps.out _ hc).mono ?_
      rintro e W3 ⟨rfl, hb3⟩
      have hx3 := hx.below hb3
      have hc3 := (hb3.cell (p := ⟨W.heap.size, 0, none⟩) (cell?_lt hc)).trans hc
      have hfr3 : Fr2 W2.heap.size b (.slice (some ⟨g, 0, none⟩) l.length cap) W2 W3 := hfr.trans (Fr2.below hb3 (by have := hfr.size; omega))
      cases q with
      | false =>
        have hnew : Bx W3 base b last (.slice (some ⟨g, 0, none⟩) l.length cap) ((l.take (i + 1)).map (tickN now) ++ l.drop (i + 1)) := by
          rw [← Hset.out, Htk.out, if_neg (by decide)]
          rw [Hself.out]; exact hx3
        go_wp2_with fail
        go_roundw
        case rel => exact ⟨i + 1, by simp, by omega, hnew, hc3, hfr3⟩
        case measure => simp [intOf]; omega
      | true =>
        obtain ⟨hx4, hg4⟩ := Hsto.out W3 hx3
        have hnew : Bx (W3.setCell ⟨g, i * 9 + 4, none⟩ (.int .i64 3)) base b last (.slice (some ⟨g, 0, none⟩) l.length cap) ((l.take (i + 1)).map (tickN now) ++ l.drop (i + 1)) := by
          rw [← Hset.out, Htk.out, if_pos rfl]; exact hx4
        have hc4 : (W3.setCell ⟨g, i * 9 + 4, none⟩ (.int .i64 3)).cell? ⟨W.heap.size, 0, none⟩ = some (.int .i64 now) := (World.cell?_setCell_other _ _ _ _ (by simp; try omega)).trans hc3
        have hfr4 : Fr2 W2.heap.size b (.slice (some ⟨g, 0, none⟩) l.length cap) W2 (W3.setCell ⟨g, i * 9 + 4, none⟩ (.int .i64 3)) := hfr3.trans (Fr2.row hg4 rfl (by have := hfr3.size; omega))
        obtain ⟨y0, y1, y2⟩ := hx3.cells
        have c4' := (hb3.cell (p := ⟨g, i * 9 + 4, none⟩) (cell?_lt c4)).trans c4
        have z4 := (hb3.frozen (p := ⟨g, i * 9 + 4, none⟩) (cell?_lt c4)).trans (hfz (i * 9 + 4))
        clear hx4 hg4
        go_wp2_with fail
        go_roundw
        case rel => exact ⟨i + 1, by simp, by omega, hnew, hc4, hfr4⟩
        case measure => simp [intOf]; omega
    · have hi' : i = l.length := by omega
      subst hi'
      rw [List.take_length, List.drop_length, List.append_nil] at hx
      have hzB := HzW.out
      have hsz2 := hBL.out.size
      go_wp2_with fail
      go_ret
      refine ⟨so, sc, rfl, ?_, hx, (Fr2.below hBL.out (Nat.le_refl _)).trans ⟨hfr.os, hfr.tape, hfr.output, hfr.size, fun k hk h3 h4 => hfr.block k (by omega) h3 h4⟩⟩
      exact own_base (hfr.own hownF (by omega) (fun k hk => (hownF.lt k hk).2) (fun k hk => by have := (h.own.lt k hk).2; omega)) (by omega)
end Go.Proofs.Ytdcinhnplcipoaa
