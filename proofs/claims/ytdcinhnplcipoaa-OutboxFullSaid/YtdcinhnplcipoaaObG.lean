/- OutboxFull's walk. No statement of the seat is proved here. -/
import Derived.Test.YtdcinhnplcipoaaObF
namespace Go.Proofs.Ytdcinhnplcipoaa
set_option linter.unusedVariables false
set_option linter.unusedSimpArgs false
set_option linter.unusedSectionVars false
open Go Go.RowKit Go.Shelf

theorem Bx.low' {w W W' : World} {base b : Nat} {last : Int} {v : Value} {l : List No} (h : Bx W base b last v l) (hf : Fr2 W.heap.size b v W W') (hb : Below w.heap.size w W) (hbb : w.heap.size ≤ b) : Below w.heap.size w W' := h.low hf hb hbb
theorem try_at {W : World} {base b : Nat} {last : Int} {v : Value} {l : List No} (id now : Int) (i : Nat) (s : No) (hn : l.length ≤ 1000000) (h : Bx W base b last v l) (hi : placeN l id = i) (hp : i < l.length) (hs : l[i] = s) (he : tryErr s now = 0) (hf : fitsN s = true) (ht : 0 ≤ s.tr) (hx : 0 ≤ s.nx) :
    Calls Try.prog 11 #[.pointer (some ⟨b, 0, none⟩), .int .u64 id, .int .i64 now] W fun e W' => e = .returned (.tuple #[noVal (tryN s now), .int .i64 0]) ∧ Bx W' base b last v (l.set i (tryN s now)) ∧ Fr2 W.heap.size b v W W' := by
  subst hi
  subst hs
  exact try_ok id now hn h hp he hf ht hx
theorem ack_at {W : World} {base b : Nat} {last : Int} {v : Value} {l : List No} (id : Int) (i : Nat) (s : No) (hn : l.length ≤ 1000000) (h : Bx W base b last v l) (hi : placeN l id = i) (hp : i < l.length) (hs : l[i] = s) (he : ackBad s = false) :
    Calls Try.prog 12 #[.pointer (some ⟨b, 0, none⟩), .int .u64 id] W fun e W' => e = .returned (.tuple #[noVal (setSt s 2), .int .i64 0]) ∧ Bx W' base b last v (l.set i (setSt s 2)) ∧ Fr2 W.heap.size b v W W' := by
  subst hi
  subst hs
  exact ack_ok id hn h hp he
theorem err_full {last : Int} {l : List No} {n : No} {now : Int} (hi : instB now = true) (hf : fitsN n = true) (h1 : last < 1152921504606846976) (hl : l.length = 128) (hw : l.findIdx (fun n => !waitsB n) = l.length) : putErr last l n now = 30 := by
  unfold putErr
  rw [if_neg (by rw [hi, hf]; decide), if_neg (by omega), if_pos ⟨by omega, hw⟩]
theorem Fr2.first {W W' : World} {base b : Nat} {last : Int} {v : Value} {l : List No} {o : Obj} {r : Nat} (h : Bx W base b last v l) (hf : Fr2 W.heap.size b v W W') (hr : W.heap[r]? = some o) (hb : r < b) : W'.heap[r]? = some o :=
  hf.kept hr (by omega) (fun e => by have := (h.own.lt r e).1; have := h.lt; omega)
set_option maxRecDepth 100000 in
set_option maxHeartbeats 8000000 in
theorem outboxFull_walk (n : No) (now x : Int) (w : World) (w0 : -9223372036854775808 ≤ now) (w1 : now ≤ 9223372036854775807) (x0 : 0 ≤ x) (x1 : x ≤ 255) :
    Calls Try.prog 3 #[noVal n, .int .i64 now, .int .u8 x] w fun e w' => e = .returned (.bool true) ∧ Below w.heap.size w w' := by
  have hbn := below_new w (.cells #[.int .u64 n.id, .int .u64 n.tk, .int .i64 n.lv, .int .i64 n.pt, .int .i64 n.st, .int .i64 n.tr, .int .i64 n.rt, .int .i64 n.wt, .int .i64 n.nx] 24)
  have hr0 : (w.alloc (.cells #[.int .u64 n.id, .int .u64 n.tk, .int .i64 n.lv, .int .i64 n.pt, .int .i64 n.st, .int .i64 n.tr, .int .i64 n.rt, .int .i64 n.wt, .int .i64 n.nx] 24)).heap[w.heap.size]? = _ := heap_alloc_new _ _
  have hz0 : (w.alloc (.cells #[.int .u64 n.id, .int .u64 n.tk, .int .i64 n.lv, .int .i64 n.pt, .int .i64 n.st, .int .i64 n.tr, .int .i64 n.rt, .int .i64 n.wt, .int .i64 n.nx] 24)).heap.size = w.heap.size + 1 := by simp
  obtain ⟨W0, hW0⟩ : ∃ W0, W0 = w.alloc (.cells #[.int .u64 n.id, .int .u64 n.tk, .int .i64 n.lv, .int .i64 n.pt, .int .i64 n.st, .int .i64 n.tr, .int .i64 n.rt, .int .i64 n.wt, .int .i64 n.nx] 24) := ⟨_, rfl⟩
  rw [← hW0] at hbn hr0 hz0
  have Hz0 := Lib.hid hz0
  have hlt0 : w.heap.size < W0.heap.size := by omega
  have hle0 : w.heap.size ≤ W0.heap.size := by omega
  clear hz0
  obtain ⟨E, hE⟩ : ∃ E, E = putErr 0 [] n now := ⟨_, rfl⟩
  by_cases he : putErr 0 [] n now = 0
  · obtain ⟨hi, hf⟩ := put_err0 he
    obtain ⟨sid, tk, lv, pt, st, tr, rt, wt, nx⟩ := n
    clear he hE
    unfold noVal
    simp only at hr0 hW0 ⊢
    obtain ⟨nn, hnn⟩ : ∃ nn, nn = (⟨sid, tk, lv, pt, st, tr, rt, wt, nx⟩ : No) := ⟨_, rfl⟩
    have Hi := Lib.hid hi
    have Hf := Lib.hid hf
    have Hnn := Lib.hid hnn
    have hf' : fitsN nn = true := by rw [hnn]; exact hf
    have Hf' := Lib.hid hf'
    clear hi hf hnn hf'
    obtain ⟨j, hj⟩ : ∃ j : Nat, x % 128 = (j : Int) := ⟨(x % 128).toNat, by omega⟩
    have hj2 : j < 128 := by omega
    have Hj := Lib.hid hj
    clear hj
    go_enter Try.func3, Try.ntmps3
    go_wp2_with fail
    rw [← hW0]
    refine (new_bx W0).mono ?_
    rintro e w1 ⟨rfl, h1, hb1⟩
    have hr1 := (hb1.block _ hlt0).trans hr0
    have B1 := below_on hbn hb1 (Nat.le_refl _)
    obtain ⟨b, hb⟩ : ∃ b, b = W0.heap.size := ⟨_, rfl⟩
    rw [← hb] at h1 ⊢
    have hblt : w.heap.size < b := by omega
    have hble : w.heap.size ≤ b := by omega
    clear hb hW0 hr0
    obtain ⟨q0, q1, q2, q3, q4, q5, q6, q7, q8⟩ := blk9 hr1
    go_wp2_with fail
    refine (put_ok (last := 0) (l := []) ⟨sid, tk, lv, pt, st, tr, rt, wt, nx⟩ now (by simp) (by simp) h1 Hi.out Hf.out (by omega) (by omega)).mono ?_
    rintro e w2 ⟨v2, rfl, h2, hf2, -⟩
    have B2 := h1.low' hf2 B1 hble
    have hr2 := Fr2.first h1 hf2 hr1 hblt
    rw [← Hnn.out] at h2
    have h2' : Bx w2 (b + 1) b ((0 : Nat) + 1 : Int) v2 (fullL 1 nn now) := h2
    clear h2 hf2 q0 q1 q2 q3 q4 q5 q6 q7 q8 h1 hr1
    go_wp2_with fail
    go_loopw [36] (fun u wr => ∃ k : Nat, u = .int .i64 k ∧ k ≤ 127 ∧ ∃ v, Bx wr (b + 1) b (((k + 1 : Nat) : Int)) v (fullL (k + 1) nn now) ∧ wr.heap[w.heap.size]? = some (.cells #[.int .u64 sid, .int .u64 tk, .int .i64 lv, .int .i64 pt, .int .i64 st, .int .i64 tr, .int .i64 rt, .int .i64 wt, .int .i64 nx] 24 (0, 0)) ∧ Below w.heap.size w wr) (fun u _ => 127 - (intOf u).toNat)
    case atStart => exact ⟨0, rfl, by omega, v2, h2', hr2, B2⟩
    case round =>
      clear h2' hr2 B2
      obtain ⟨k, rfl, hk, v, hx, hrr, hB⟩ := hrel
      obtain ⟨q0, q1, q2, q3, q4, q5, q6, q7, q8⟩ := blk9 hrr
      by_cases hlt : k < 127
      · have hfl := full_len (k + 1) nn now
        have hfs := full_succ (k + 1) nn now (by omega)
        have hpu := put_ok ⟨sid, tk, lv, pt, st, tr, rt, wt, nx⟩ now (by rw [hfl]; omega) (by rw [hfl]; omega) hx Hi.out Hf.out (by omega) (by omega)
        rw [← Hnn.out] at hpu
        rw [hfs] at hpu
        have Hpu := Lib.hid hpu
        clear hpu hfs hfl
        go_wp2_with fail
        refine Calls.mono (show Calls Try.prog 9 #[.pointer (some ⟨b, 0, none⟩), noVal ⟨sid, tk, lv, pt, st, tr, rt, wt, nx⟩, .int .i64 now] wr _ by rw [← Hnn.out]; exact Hpu.out) ?_
        rintro e w3 ⟨v3, rfl, h3, hf3, -⟩
        have B3 := hx.low' hf3 hB hble
        have hr3 := Fr2.first hx hf3 hrr hblt
        go_wp2_with fail
        go_roundw
        case rel => exact ⟨k + 1, by simp, by omega, v3, h3, hr3, B3⟩
        case measure => simp [intOf]; omega
      · have hk' : k = 127 := by omega
        subst hk'
        go_wp2_with fail
        have hfl := full_len 128 nn now
        have her : putErr ((128 : Nat) : Int) (fullL 128 nn now) ⟨sid, tk, lv, pt, st, tr, rt, wt, nx⟩ now = 30 := err_full Hi.out Hf.out (by decide) hfl (full_waits _ _ _)
        refine (put_bad (last := ((127 + 1 : Nat) : Int)) ⟨sid, tk, lv, pt, st, tr, rt, wt, nx⟩ now (by rw [full_len]; omega) hx (by show putErr ((128 : Nat) : Int) (fullL 128 nn now) _ now ≠ 0; rw [her]; decide)).mono ?_
        rw [show putErr ((127 + 1 : Nat) : Int) (fullL (127 + 1) nn now) ⟨sid, tk, lv, pt, st, tr, rt, wt, nx⟩ now = 30 from her]
        rintro e w3 ⟨rfl, hb3⟩
        have h3 : Bx w3 (b + 1) b 128 v (fullL 128 nn now) := hx.below hb3
        have hr3 := (hb3.block _ (Array.getElem?_eq_some_iff.1 hrr).1).trans hrr
        have B3 := below_on hB hb3 (Nat.le_refl _)
        clear hx hB hrr q0 q1 q2 q3 q4 q5 q6 q7 q8 her
        obtain ⟨q0, q1, q2, q3, q4, q5, q6, q7, q8⟩ := blk9 hr3
        go_wp2_with fail
        rw [Hj.out]
        have hpl := full_place nn now j hj2
        have hat := full_at 128 nn now j hj2
        obtain ⟨T, hT⟩ : ∃ T, T = tryN (putN (j : Int) nn now) now := ⟨_, rfl⟩
        have hTid : T.id = (j : Int) + 1 := by rw [hT]; rfl
        have hTw : waitsB T = true := by rw [hT]; rfl
        have hTt : T.tr = 1 := by rw [hT]; rfl
        have hin := Hi.out
        refine (try_at ((j : Int) + 1) now j (putN (j : Int) nn now) (by rw [hfl]; omega) h3 hpl (by rw [hfl]; exact hj2) hat (try_full _ _ _ Hf'.out) (by rw [fits_put]; exact Hf'.out) (by show (0 : Int) ≤ 0; omega) (by have := (instT now hin).1; exact this)).mono ?_
        rw [← hT]
        rintro e w4 ⟨rfl, h4, hf4⟩
        have B4 := h3.low' hf4 B3 hble
        have hr4 := Fr2.first h3 hf4 hr3 hblt
        have HT := Lib.hid hT
        clear hT h3 hf4 hr3 q0 q1 q2 q3 q4 q5 q6 q7 q8 hpl hat hin
        have hAid : (setSt T 2).id = (j : Int) + 1 := hTid
        have hAw : waitsB (setSt T 2) = false := rfl
        have hTb : ackBad T = false := by unfold ackBad; rw [hTw, hTt]; rfl
        obtain ⟨A, hA⟩ : ∃ A, A = setSt T 2 := ⟨_, rfl⟩
        have hack := fun W (h : Bx W (b + 1) b 128 v ((fullL 128 nn now).set j T)) => ack_at ((j : Int) + 1) j T (by rw [List.length_set, hfl]; omega) h (set_place nn now j hj2 T hTid) (by rw [List.length_set, hfl]; exact hj2) (List.getElem_set_self _) hTb
        rw [← hA] at hAw hack
        simp only [List.set_set] at hack
        obtain ⟨a0, a1, a2, a3, a4, a5, a6, a7, a8⟩ := A
        obtain ⟨t0, t1, t2, t3, t4, t5, t6, t7, t8⟩ := T
        unfold noVal at hack ⊢
        simp only at hack ⊢
        have Hack := Lib.hid hack
        have HAw := Lib.hid hAw
        clear hack hAw hTb hA HT hTid hTw hTt hAid
        go_wp2_with fail
        refine (Hack.out _ (h4.below (below_new w4 _))).mono ?_
        rintro e w5 ⟨rfl, h5, hf5⟩
        have B4' := B4.alloc B4.size (.cells #[.int .u64 t0, .int .u64 t1, .int .i64 t2, .int .i64 t3, .int .i64 t4, .int .i64 t5, .int .i64 t6, .int .i64 t7, .int .i64 t8] 24)
        have B5 := (h4.below (below_new w4 _)).low' hf5 B4' hble
        have hr5 := Fr2.first (h4.below (below_new w4 _)) hf5 ((heap_alloc_old _ _ (Array.getElem?_eq_some_iff.1 hr4).1).trans hr4) hblt
        clear hf5 h4 B4 B4' hr4
        have h5a := h5.below (below_new w5 (.cells #[.int .u64 a0, .int .u64 a1, .int .i64 a2, .int .i64 a3, .int .i64 a4, .int .i64 a5, .int .i64 a6, .int .i64 a7, .int .i64 a8] 24))
        have B5a := B5.alloc B5.size (.cells #[.int .u64 a0, .int .u64 a1, .int .i64 a2, .int .i64 a3, .int .i64 a4, .int .i64 a5, .int .i64 a6, .int .i64 a7, .int .i64 a8] 24)
        have hr5a := (heap_alloc_old w5 (.cells #[.int .u64 a0, .int .u64 a1, .int .i64 a2, .int .i64 a3, .int .i64 a4, .int .i64 a5, .int .i64 a6, .int .i64 a7, .int .i64 a8] 24) (Array.getElem?_eq_some_iff.1 hr5).1).trans hr5
        clear h5 B5 hr5
        obtain ⟨W5, hW5⟩ : ∃ W5, W5 = w5.alloc (.cells #[.int .u64 a0, .int .u64 a1, .int .i64 a2, .int .i64 a3, .int .i64 a4, .int .i64 a5, .int .i64 a6, .int .i64 a7, .int .i64 a8] 24) := ⟨_, rfl⟩
        rw [← hW5] at h5a B5a hr5a
        have HW5 := Lib.hid hW5
        clear hW5
        obtain ⟨q0, q1, q2, q3, q4, q5, q6, q7, q8⟩ := blk9 hr5a
        rw [HW5.out] at q0 q1 q2 q3 q4 q5 q6 q7 q8
        go_wp2_with fail
        rw [← HW5.out]
        have hlen5 : ((fullL 128 nn now).set j ⟨a0, a1, a2, a3, a4, a5, a6, a7, a8⟩).length = 128 := by rw [List.length_set, hfl]
        have hput := put_ok (last := 128) ⟨sid, tk, lv, pt, st, tr, rt, wt, nx⟩ now (by rw [hlen5]; omega) (fun _ => by rw [set_rest nn now j hj2 _ HAw.out]; exact hj2) h5a Hi.out Hf.out (by omega) (by omega)
        rw [← Hnn.out, room_set nn now j hj2 _ HAw.out] at hput
        have Hput := Lib.hid hput
        clear hput hlen5 q0 q1 q2 q3 q4 q5 q6 q7 q8
        refine Calls.mono (show Calls Try.prog 9 #[.pointer (some ⟨b, 0, none⟩), noVal ⟨sid, tk, lv, pt, st, tr, rt, wt, nx⟩, .int .i64 now] W5 _ by rw [← Hnn.out]; exact Hput.out) ?_
        rintro e w6 ⟨v6, rfl, h6, hf6, -⟩
        have B6 := h5a.low' hf6 B5a hble
        have hr6 := Fr2.first h5a hf6 hr5a hblt
        clear hf6 h5a B5a hr5a
        have hll := last_len nn now j hj2
        obtain ⟨q0, q1, q2, q3, q4, q5, q6, q7, q8⟩ := blk9 hr6
        go_wp2_with fail
        refine (get_no ((j : Int) + 1) (by rw [hll]; omega) h6 (last_place nn now j hj2)).mono ?_
        rintro e w7 ⟨rfl, hb7⟩
        have h7 := h6.below hb7
        have B7 := below_on B6 hb7 (Nat.le_refl _)
        have hr7 := (hb7.block _ (Array.getElem?_eq_some_iff.1 hr6).1).trans hr6
        clear h6 B6 hr6 q0 q1 q2 q3 q4 q5 q6 q7 q8
        unfold noVal noZ
        simp only
        have h7a := h7.below (below_new w7 (.cells #[.int .u64 0, .int .u64 0, .int .i64 0, .int .i64 0, .int .i64 0, .int .i64 0, .int .i64 0, .int .i64 0, .int .i64 0] 24))
        have B7a := B7.alloc B7.size (.cells #[.int .u64 0, .int .u64 0, .int .i64 0, .int .i64 0, .int .i64 0, .int .i64 0, .int .i64 0, .int .i64 0, .int .i64 0] 24)
        have hr7a := (heap_alloc_old w7 (.cells #[.int .u64 0, .int .u64 0, .int .i64 0, .int .i64 0, .int .i64 0, .int .i64 0, .int .i64 0, .int .i64 0, .int .i64 0] 24) (Array.getElem?_eq_some_iff.1 hr7).1).trans hr7
        obtain ⟨q0, q1, q2, q3, q4, q5, q6, q7, q8⟩ := blk9 hr7a
        have her : putErr (128 + 1) (lastL nn now j) ⟨sid, tk, lv, pt, st, tr, rt, wt, nx⟩ now = 30 := err_full Hi.out Hf.out (by decide) hll (last_waits nn now j hj2)
        have hpb := put_bad ⟨sid, tk, lv, pt, st, tr, rt, wt, nx⟩ now (by rw [hll]; omega) h7a (by rw [her]; decide)
        rw [her] at hpb
        have Hpb := Lib.hid hpb
        clear hpb her h7 B7 hr7 hr7a
        go_wp2_with fail
        refine Hpb.out.mono ?_
        rintro e w8 ⟨rfl, hb8⟩
        have h8 := h7a.below hb8
        have B8 := below_on B7a hb8 (Nat.le_refl _)
        clear q0 q1 q2 q3 q4 q5 q6 q7 q8
        have hwt := waiting_bx (by rw [hll]; omega) h8
        rw [last_count nn now j hj2] at hwt
        have Hwt := Lib.hid hwt
        clear hwt hll hfl
        go_wp2_with fail
        refine Hwt.out.mono ?_
        rintro e w9 ⟨rfl, hb9⟩
        have B9 := below_on B8 hb9 (Nat.le_refl _)
        go_wp2_with fail
        refine (lives17_any _).mono ?_
        rintro e w10 ⟨rfl, hb10⟩
        have B10 := below_on B9 hb10 (Nat.le_refl _)
        go_wp2_with fail
        go_ret
        exact ⟨rfl, B10⟩
  · obtain ⟨sid, tk, lv, pt, st, tr, rt, wt, nx⟩ := n
    unfold noVal
    simp only at hr0 hW0 ⊢
    have he1 : ((putErr 0 [] ⟨sid, tk, lv, pt, st, tr, rt, wt, nx⟩ now : Nat) : Int) ≠ 0 := by omega
    go_enter Try.func3, Try.ntmps3
    go_wp2_with fail
    rw [← hW0]
    refine (new_bx W0).mono ?_
    rintro e w1 ⟨rfl, h1, hb1⟩
    have hr1 := (hb1.block _ hlt0).trans hr0
    have B1 := below_on hbn hb1 (Nat.le_refl _)
    obtain ⟨q0, q1, q2, q3, q4, q5, q6, q7, q8⟩ := blk9 hr1
    have hpb := put_bad ⟨sid, tk, lv, pt, st, tr, rt, wt, nx⟩ now (by simp) h1 he
    generalize putErr 0 [] ⟨sid, tk, lv, pt, st, tr, rt, wt, nx⟩ now = E2 at hpb he1
    have Hpb := Lib.hid hpb
    clear hpb he hE hr0 hW0
    go_wp2_with fail
    refine Hpb.out.mono ?_
    rintro e w2 ⟨rfl, hb2⟩
    have B2 := below_on B1 hb2 (Nat.le_refl _)
    go_wp2_with fail
    refine (lives17_any _).mono ?_
    rintro e w3 ⟨rfl, hb3⟩
    go_wp2_with fail
    go_ret
    exact ⟨rfl, below_on B2 hb3 (Nat.le_refl _)⟩
end Go.Proofs.Ytdcinhnplcipoaa
