/- Contracts of outbox.Sound, Load, and of the reference's Sound, Find, Count. No statement of the seat is proved here. -/
import Derived.Test.YtdcinhnplcipoaaObT
namespace Go.Proofs.Ytdcinhnplcipoaa
set_option linter.unusedVariables false
set_option linter.unusedSimpArgs false
set_option linter.unusedSectionVars false
open Go Go.RowKit Go.Shelf

/-- may notices be, behind an ID? -/
def soundF (top : Int) : Int → List No → Bool
  | _, [] => true
  | last, n :: l => decide (last < n.id) && decide (n.id ≤ top) && fitsN n && standsN n && soundF top n.id l
def soundS (top : Int) (l : List No) : Bool := decide (top ≤ 1152921504606846976) && decide (l.length ≤ 128) && soundF top 0 l
theorem soundF_at (top last : Int) (l : List No) (i : Nat) (hi : i < l.length) : soundF top last (l.drop i) = (decide (last < l[i].id) && decide (l[i].id ≤ top) && fitsN l[i] && standsN l[i] && soundF top l[i].id (l.drop (i + 1))) := by
  rw [List.drop_eq_getElem_cons hi]; rfl
set_option maxRecDepth 100000 in
set_option maxHeartbeats 4000000 in
theorem sound_any (top : Int) (ao : Option Addr) (cap : Nat) (l : List No) (w : World) (hs : Ns w ao cap l) (hl : l.length ≤ 1000000) :
    Calls Try.prog 27 #[.agg #[.int .u64 top, .slice ao l.length cap]] w fun e w' => e = .returned (.bool (soundS top l)) ∧ Below w.heap.size w w' := by
  obtain ⟨c, hc⟩ : ∃ c, c = soundS top l := ⟨_, rfl⟩
  rw [← hc]
  unfold soundS at hc
  by_cases h1 : 1152921504606846976 < top
  · have HcF : Hid (c = false) := by show c = false; rw [hc]; have : ¬ top ≤ 1152921504606846976 := by omega
                                     simp [this]
    clear hc
    go_enter Try.func27, Try.ntmps27
    go_wp2_with fail
    go_ret
    exact ⟨ret_bool HcF.out.symm, below_new _ _⟩
  by_cases h2 : 128 < l.length
  · have HcF : Hid (c = false) := by show c = false; rw [hc]; have : ¬ l.length ≤ 128 := by omega
                                     simp [this]
    have h3 : (128 : Int) < (l.length : Int) := by omega
    clear hc
    go_enter Try.func27, Try.ntmps27
    go_wp2_with fail
    go_ret
    exact ⟨ret_bool HcF.out.symm, below_new _ _⟩
  have hc2 : c = soundF top 0 l := by
    rw [hc]
    have e1 : top ≤ 1152921504606846976 := by omega
    have e2 : l.length ≤ 128 := by omega
    simp [e1, e2]
  have Hc := Lib.hid hc2
  clear hc hc2
  have h3 : ¬ (128 : Int) < (l.length : Int) := by omega
  have hb1 := below_new w (.cells #[.int .u64 top, .slice ao l.length cap] 44)
  have hr1 : (w.alloc (.cells #[.int .u64 top, .slice ao l.length cap] 44)).heap[w.heap.size]? = _ := heap_alloc_new _ _
  have hs1 := hs.below hb1
  obtain ⟨W1, hW1⟩ : ∃ W1, W1 = w.alloc (.cells #[.int .u64 top, .slice ao l.length cap] 44) := ⟨_, rfl⟩
  go_enter Try.func27, Try.ntmps27
  go_wp2_with fail
  rw [← hW1]
  rw [← hW1] at hb1 hr1 hs1
  clear hW1
  go_loopw [3, 18] (fun v u wr => ∃ (i : Nat) (last : Int), v = .int .u64 last ∧ u = .int .i64 i ∧ i ≤ l.length ∧ Hid (c = soundF top last (l.drop i)) ∧ Below W1.heap.size W1 wr) (fun _ u _ => l.length - (intOf u).toNat)
  case atStart => exact ⟨0, 0, rfl, rfl, Nat.zero_le _, Hc, Below.refl _ _⟩
  case round =>
    obtain ⟨i, last, rfl, rfl, hi, hri, hb⟩ := hrel
    have hB := below_on hb1 hb (Nat.le_refl _)
    by_cases hlt : i < l.length
    · obtain ⟨b, off, rfl, c0, c1, c2, c3, c4, c5, c6, c7, c8⟩ := (hs1.below hb).get i hlt
      have Hst := Lib.hid (soundF_at top last l i hlt)
      obtain ⟨s, hsd⟩ : ∃ s, s = l[i] := ⟨_, rfl⟩
      rw [← hsd] at c0 c1 c2 c3 c4 c5 c6 c7 c8 Hst
      clear hsd
      have hfi := fun W => fits_any s W
      have hsta := fun W => stands_any s W
      obtain ⟨qf, hqf⟩ : ∃ q, q = fitsN s := ⟨_, rfl⟩
      obtain ⟨qs, hqs⟩ : ∃ q, q = standsN s := ⟨_, rfl⟩
      rw [← hqf, ← hqs] at Hst
      simp only [← hqf] at hfi
      simp only [← hqs] at hsta
      clear hqf hqs
      obtain ⟨id, tk, lv, pt, st, tr, rt, wt, nx⟩ := s
      unfold noVal at hfi hsta
      simp only at c0 c1 c2 c3 c4 c5 c6 c7 c8 hfi hsta Hst
      have Hfi := Lib.hid hfi
      have Hsta := Lib.hid hsta
      clear hfi hsta
      have i0 : (0 : Int) ≤ (i : Int) := by omega
      have i1 : (i : Int) < (l.length : Int) := by omega
      have hrw := (hb.block w.heap.size (Array.getElem?_eq_some_iff.1 hr1).1).trans hr1
      have p0 := block_cell hrw 0
      simp at p0
      have hwlt := (Array.getElem?_eq_some_iff.1 hrw).1
      have hBn := hB.alloc hB.size (.cells #[.int .u64 id, .int .u64 tk, .int .i64 lv, .int .i64 pt, .int .i64 st, .int .i64 tr, .int .i64 rt, .int .i64 wt, .int .i64 nx] 24)
      by_cases g1 : id ≤ last
      · have HcF : Hid (c = false) := by show c = false; rw [hri.out, Hst.out]; have : ¬ last < id := by omega
                                         simp [this]
        clear hri Hst
        go_wp2_with fail
        go_ret
        exact ⟨ret_bool HcF.out.symm, hBn⟩
      by_cases g2 : top < id
      · have HcF : Hid (c = false) := by show c = false; rw [hri.out, Hst.out]; have : ¬ id ≤ top := by omega
                                         simp [this]
        clear hri Hst
        go_wp2_with fail
        go_ret
        exact ⟨ret_bool HcF.out.symm, hBn⟩
      have Hc3 : Hid (c = (qf && qs && soundF top id (l.drop (i + 1)))) := by
        show c = _
        rw [hri.out, Hst.out]
        have e1 : last < id := by omega
        have e2 : id ≤ top := by omega
        simp [e1, e2]
      clear hri Hst
      go_wp2_with fail
      refine (Hfi.out _).mono ?_
      rintro e w2 ⟨rfl, hb2⟩
      have hB2 := below_on hB (below_on (below_new wr _) hb2 (Nat.le_refl _)) (Nat.le_refl _)
      have hbl2 := below_on hb (below_on (below_new wr _) hb2 (Nat.le_refl _)) (Nat.le_refl _)
      have hblk := alloc_after hb2
      clear hb2
      cases qf with
      | false =>
        have HcF : Hid (c = false) := by show c = false; rw [Hc3.out]; simp
        clear Hc3
        go_wp2_with fail
        go_ret
        exact ⟨ret_bool HcF.out.symm, hB2⟩
      | true =>
        obtain ⟨d0, d1, d2, d3, d4, d5, d6, d7, d8⟩ := blk9 hblk
        go_wp2_with fail
        refine (Hsta.out _).mono ?_
        rintro e w3 ⟨rfl, hb3⟩
        have hB3 := below_on hB2 hb3 (Nat.le_refl _)
        have hbl3 := below_on hbl2 hb3 (Nat.le_refl _)
        have k0 := (hb3.cell (p := ⟨wr.heap.size, 0, none⟩) (cell?_lt d0)).trans d0
        cases qs with
        | false =>
          have HcF : Hid (c = false) := by show c = false; rw [Hc3.out]; simp
          clear Hc3
          go_wp2_with fail
          go_ret
          exact ⟨ret_bool HcF.out.symm, hB3⟩
        | true =>
          have Hc4 : Hid (c = soundF top id (l.drop (i + 1))) := by show c = _; rw [Hc3.out]; simp
          clear Hc3
          go_wp2_with fail
          go_roundw
          case rel => exact ⟨i + 1, id, rfl, by simp, by omega, Hc4, hbl3⟩
          case measure => simp [intOf]; omega
    · have hi' : i = l.length := by omega
      subst hi'
      have HcT : Hid (c = true) := by show c = true; rw [hri.out, List.drop_length]; rfl
      clear hri
      go_wp2_with fail
      go_ret
      exact ⟨ret_bool HcT.out.symm, hB⟩
theorem load_bad (top : Int) (ao : Option Addr) (cap : Nat) (l : List No) (w : World) (hs : Ns w ao cap l) (hl : l.length ≤ 1000000) (h : soundS top l = false) :
    Calls Try.prog 19 #[.agg #[.int .u64 top, .slice ao l.length cap]] w fun e w' => e = .returned (.tuple #[.pointer none, .int .i64 2]) ∧ Below w.heap.size w w' := by
  have hso := sound_any top ao cap l (w.alloc (.cells #[.int .u64 top, .slice ao l.length cap] 44)) (hs.below (below_new _ _)) hl
  rw [h] at hso
  have Hso := Lib.hid hso
  clear hso h
  go_enter Try.func19, Try.ntmps19
  go_wp2_with fail
  refine Hso.out.mono ?_
  rintro e w2 ⟨rfl, hb2⟩
  go_wp2_with fail
  refine bodyPost_ret (v := .tuple #[.pointer none, .int .i64 2]) (by simp [results, Try.results19, go_sem]) rfl ?_
  exact ⟨rfl, below_on (below_new _ _) hb2 (Nat.le_refl _)⟩
/-- a box that has a state -/
def Loaded (last : Int) (l : List No) (W : World) (e : Ending) (W' : World) : Prop :=
  ∃ b v, e = .returned (.tuple #[.pointer (some ⟨b, 0, none⟩), .int .i64 0]) ∧ Bx W' W.heap.size b last v l ∧ Below W.heap.size W W'
set_option maxHeartbeats 2000000 in
theorem load_ok (top : Int) (ao : Option Addr) (cap : Nat) (l : List No) (w : World) (hs : Ns w ao cap l) (hl : l.length ≤ 1000000) (h : soundS top l = true) :
    Calls Try.prog 19 #[.agg #[.int .u64 top, .slice ao l.length cap]] w (Loaded top l w) := by
  have hso := sound_any top ao cap l (w.alloc (.cells #[.int .u64 top, .slice ao l.length cap] 44)) (hs.below (below_new _ _)) hl
  rw [h] at hso
  have Hso := Lib.hid hso
  clear hso h
  go_enter Try.func19, Try.ntmps19
  go_wp2_with fail
  refine Hso.out.mono ?_
  rintro e w2 ⟨rfl, hb2⟩
  have hr := alloc_after hb2
  have hB2 := below_on (below_new w _) hb2 (Nat.le_refl _)
  have p0 := block_cell hr 0
  have p1 := block_cell hr 1
  simp at p0 p1
  have hcl := clone_any ao cap l w2.drew hl ((hs.below hB2).below (Below.refl _ _).drew)
  have Hcl := Lib.hid hcl
  clear hcl
  go_wp2_with fail
  go_region_law ((go_simp; go_at_call 45; refine Hcl.out.mono ?_; rintro e W3 ⟨⟨ao3, cap3, rfl, how3⟩, hb3⟩; have hr3 := ((below_on (Below.refl _ _).drew hb3 (Nat.le_refl _) : Below w2.heap.size w2 W3).block w.heap.size (Array.getElem?_eq_some_iff.1 hr).1).trans hr; have pp0 := block_cell hr3 0; have pp1 := block_cell hr3 1; simp at pp0 pp1))
  all_goals
    go_wp2_with fail
    refine bodyPost_ret (v := .tuple #[.pointer (some ⟨W3.heap.size, 0, none⟩), .int .i64 0]) (by simp [results, Try.results19, go_sem]) rfl ?_
    have hB3 := below_on hB2 (below_on (Below.refl _ _).drew hb3 (Nat.le_refl _)) (Nat.le_refl _)
    have hzd : w2.drew.heap.size = w2.heap.size := rfl
    have hz2 := hB2.size
    have hz3 := hb3.size
    refine ⟨W3.heap.size, .slice ao3 l.length cap3, rfl, ⟨heap_alloc_new _ _, (own_base how3 (by omega)).alloc _, hB3.size, fun e => ?_, ?_⟩, hB3.alloc hB3.size _⟩
    · have := (how3.lt _ e).2
      omega
    · have := hB3.size
      simp; omega
theorem find_step (l : List No) (id : Int) (i : Nat) (hi : i < l.length) : (l.drop i).findIdx (fun n => n.id == id) = if (l[i].id == id) then 0 else (l.drop (i + 1)).findIdx (fun n => n.id == id) + 1 := idx_at l _ i hi
/-- the reference's place, or -1 -/
def findV (l : List No) (id : Int) : Int := if placeN l id < l.length then (placeN l id : Int) else -1
set_option maxHeartbeats 1000000 in
theorem find_any (last id : Int) (ao : Option Addr) (cap : Nat) (l : List No) (w : World) (hs : Ns w ao cap l) (hl : l.length ≤ 1000000) :
    Calls Try.prog 22 #[.agg #[.int .u64 last, .slice ao l.length cap], .int .u64 id] w fun e w' => e = .returned (.int .i64 (findV l id)) ∧ Below w.heap.size w w' := by
  obtain ⟨z, hz⟩ : ∃ z, z = findV l id := ⟨_, rfl⟩
  rw [← hz]
  obtain ⟨r, hr⟩ : ∃ r, r = placeN l id := ⟨_, rfl⟩
  have hz2 : z = if r < l.length then (r : Int) else -1 := by rw [hz, hr]; rfl
  have hr2 : r = l.findIdx (fun n => n.id == id) := hr
  have Hz := Lib.hid hz2
  have Hr := Lib.hid hr2
  clear hz hr hz2 hr2
  have hb1 := below_new w (.cells #[.int .u64 last, .slice ao l.length cap] 53)
  have hr1 : (w.alloc (.cells #[.int .u64 last, .slice ao l.length cap] 53)).heap[w.heap.size]? = _ := heap_alloc_new _ _
  have hs1 := hs.below hb1
  obtain ⟨W1, hW1⟩ : ∃ W1, W1 = w.alloc (.cells #[.int .u64 last, .slice ao l.length cap] 53) := ⟨_, rfl⟩
  go_enter Try.func22, Try.ntmps22
  go_wp2_with fail
  rw [← hW1]
  rw [← hW1] at hb1 hr1 hs1
  clear hW1
  have p1 := block_cell hr1 1
  simp at p1
  go_loop [5] (fun u => ∃ i : Nat, u = .int .i64 i ∧ i ≤ l.length ∧ Hid (r = i + (l.drop i).findIdx (fun n => n.id == id))) (fun u => l.length - (intOf u).toNat)
  case atStart => exact ⟨0, rfl, Nat.zero_le _, (by show r = 0 + (l.drop 0).findIdx _; rw [Hr.out]; simp)⟩
  case round =>
    obtain ⟨i, rfl, hi, hri⟩ := hrel
    by_cases hlt : i < l.length
    · obtain ⟨b, off, rfl, c0, -, -, -, -, -, -, -, -⟩ := hs1.get i hlt
      have Hst := Lib.hid (find_step l id i hlt)
      obtain ⟨x, hx⟩ : ∃ x, x = l[i].id := ⟨_, rfl⟩
      rw [← hx] at c0 Hst
      clear hx
      have i0 : (0 : Int) ≤ (i : Int) := by omega
      have i1 : (i : Int) < (l.length : Int) := by omega
      by_cases hxe : x = id
      · have hr2 : Hid (r = i) := by show r = i; rw [hri.out, Hst.out, if_pos (by simpa using hxe)]; rfl
        have he : (x == id) = true := by simpa using hxe
        clear Hst hri
        go_wp2_with fail
        go_ret
        exact ⟨ret_int (by rw [Hz.out, hr2.out, if_pos hlt]), hb1⟩
      · have hr2 : Hid (r = i + 1 + (l.drop (i + 1)).findIdx (fun n => n.id == id)) := by show r = _; rw [hri.out, Hst.out, if_neg (by simpa using hxe)]; omega
        have he : (x == id) = false := by simpa using hxe
        clear Hst hri
        go_wp2_with fail
        go_round
        case rel => exact ⟨i + 1, by simp, by omega, hr2⟩
        case measure => simp [intOf]; omega
    · have hi' : i = l.length := by omega
      subst hi'
      have hr2 : Hid (r = l.length) := by show r = _; rw [hri.out]; simp
      clear hri
      go_wp2_with fail
      go_ret
      exact ⟨ret_int (by rw [Hz.out, hr2.out, if_neg (by omega)]), hb1⟩
set_option maxHeartbeats 1000000 in
theorem count_any (last : Int) (ao : Option Addr) (cap : Nat) (l : List No) (w : World) (hs : Ns w ao cap l) (hl : l.length ≤ 1000000) :
    Calls Try.prog 23 #[.agg #[.int .u64 last, .slice ao l.length cap]] w fun e w' => e = .returned (.int .i64 ((l.filter waitsB).length : Nat)) ∧ Below w.heap.size w w' := by
  obtain ⟨F, hF⟩ : ∃ F, F = (l.filter waitsB).length := ⟨_, rfl⟩
  rw [← hF]
  have HF := Lib.hid hF
  clear hF
  have hb1 := below_new w (.cells #[.int .u64 last, .slice ao l.length cap] 53)
  have hr1 : (w.alloc (.cells #[.int .u64 last, .slice ao l.length cap] 53)).heap[w.heap.size]? = _ := heap_alloc_new _ _
  have hs1 := hs.below hb1
  obtain ⟨W1, hW1⟩ : ∃ W1, W1 = w.alloc (.cells #[.int .u64 last, .slice ao l.length cap] 53) := ⟨_, rfl⟩
  go_enter Try.func23, Try.ntmps23
  go_wp2_with fail
  rw [← hW1]
  rw [← hW1] at hb1 hr1 hs1
  clear hW1
  have p1 := block_cell hr1 1
  simp at p1
  go_loop [3, 4] (fun v u => ∃ i n : Nat, v = .int .i64 n ∧ u = .int .i64 i ∧ i ≤ l.length ∧ n ≤ i ∧ Hid (n = ((l.take i).filter waitsB).length)) (fun _ u => l.length - (intOf u).toNat)
  case atStart => exact ⟨0, 0, rfl, rfl, Nat.zero_le _, Nat.le_refl _, rfl⟩
  case round =>
    obtain ⟨i, n, rfl, rfl, hi, hn, hri⟩ := hrel
    by_cases hlt : i < l.length
    · obtain ⟨b, off, rfl, -, -, -, -, c4, -, -, -, -⟩ := hs1.get i hlt
      have Hst := Lib.hid (filter_snocN waitsB l i hlt)
      have hwd : waitsB l[i] = (l[i].st == 1) := rfl
      obtain ⟨x, hx⟩ : ∃ x, x = l[i].st := ⟨_, rfl⟩
      rw [← hx] at c4 hwd
      rw [hwd] at Hst
      clear hx hwd
      have i0 : (0 : Int) ≤ (i : Int) := by omega
      have i1 : (i : Int) < (l.length : Int) := by omega
      by_cases hxe : x = 1
      · have he : (x == 1) = true := by simpa using hxe
        have hr2 : Hid (n + 1 = ((l.take (i + 1)).filter waitsB).length) := by show _ = _; rw [Hst.out, he, hri.out]; simp
        clear Hst hri
        go_wp2_with fail
        go_round
        case rel => exact ⟨i + 1, n + 1, by simp, by simp, by omega, by omega, hr2⟩
        case measure => simp [intOf]; omega
      · have he : (x == 1) = false := by simpa using hxe
        have hr2 : Hid (n = ((l.take (i + 1)).filter waitsB).length) := by show _ = _; rw [Hst.out, he, hri.out]; simp
        clear Hst hri
        go_wp2_with fail
        go_round
        case rel => exact ⟨i + 1, n, rfl, by simp, by omega, by omega, hr2⟩
        case measure => simp [intOf]; omega
    · have hi' : i = l.length := by omega
      subst hi'
      have hr2 : Hid (F = n) := by show F = n; rw [HF.out, hri.out, List.take_length]
      clear hri
      go_wp2_with fail
      go_ret
      exact ⟨ret_int (by rw [hr2.out]), hb1⟩
end Go.Proofs.Ytdcinhnplcipoaa
