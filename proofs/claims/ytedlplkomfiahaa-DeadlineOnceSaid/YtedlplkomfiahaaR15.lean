/- Lemmas for DeadlineOnce (Xq). No statement of the seat is proved here. -/
import Derived.Test.YtedlplkomfiahaaR14
namespace Go.Proofs.Ytedlplkomfiahaa
set_option linter.unusedVariables false
set_option linter.unusedSimpArgs false
set_option linter.unusedSectionVars false
open Go Go.RowKit Go.Maps
/-- the rings below i and of ring i the slots below k -/
def upR (R : Nat → RLs) (i k : Nat) : List Th := ((List.range i).map fun j => (R j).map (·.1)).flatten ++ ((R i).filter (fun p => decide (p.2 < k))).map (·.1)
theorem upR_zero (R : Nat → RLs) (i : Nat) : upR R i 0 = ((List.range i).map fun j => (R j).map (·.1)).flatten := by
  unfold upR; simp
theorem upR_next (R : Nat → RLs) (i k : Nat) (h : ∀ p ∈ R i, p.2 < k) : upR R (i + 1) 0 = upR R i k := by
  rw [upR_zero]
  unfold upR
  rw [List.range_succ, List.map_append, List.flatten_append, List.filter_eq_self.2 (fun p hp => by simpa using h p hp)]
  simp
theorem upR_step (R : Nat → RLs) (i k : Nat) (x : Th) : (upR R i (k + 1)).count x = (upR R i k).count x + (rowOf (R i) k).count x := by
  unfold upR
  rw [List.count_append, List.count_append]
  have h := left_cnt ((R i).filter (fun p => decide (p.2 < k + 1))) k x
  have e1 : rowOf ((R i).filter (fun p => decide (p.2 < k + 1))) k = rowOf (R i) k := by
    unfold rowOf
    rw [List.filter_filter]
    congr 1
    apply List.filter_congr
    intro p _
    rw [Bool.eq_iff_iff]
    simp only [Bool.and_eq_true, decide_eq_true_eq]
    omega
  have e2 : left ((R i).filter (fun p => decide (p.2 < k + 1))) k = (R i).filter (fun p => decide (p.2 < k)) := by
    unfold left
    rw [List.filter_filter]
    apply List.filter_congr
    intro p _
    rw [Bool.eq_iff_iff]
    simp only [Bool.and_eq_true, decide_eq_true_eq]
    omega
  rw [e1, e2] at h
  omega
theorem upR_all (R : Nat → RLs) (far : List Th) (x : Th) : far.count x + (upR R 4 0).count x = (Tot R far).count x := by
  rw [Tot.cnt, upR_zero]
  simp [List.range_succ, List.count_append]
theorem upR_le (R : Nat → RLs) (far : List Th) (i k : Nat) (hi : i < 4) : (upR R i k).length ≤ (Tot R far).length := by
  have h0 : ((R i).filter (fun p => decide (p.2 < k))).length ≤ (R i).length := List.length_filter_le _ _
  unfold upR Tot
  rcases (by omega : i = 0 ∨ i = 1 ∨ i = 2 ∨ i = 3) with rfl | rfl | rfl | rfl <;> simp [List.range_succ] <;> omega
/-- the bits that are left of a ring's used slots -/
theorem shr_bits (U k : Nat) : (U / 2 ^ k) % 2 = 1 ↔ U.testBit k = true := by
  rw [Nat.testBit_eq_decide_div_mod_eq]; simp
theorem shr_zero {U : Nat} {L : RLs} (h : UsedIs U L) (hL : RLok L) (k : Nat) (h0 : U / 2 ^ k = 0) : ∀ p ∈ L, p.2 < k := by
  intro p hp
  rcases Nat.lt_or_ge p.2 k with h1 | h1
  · exact h1
  · have hb := (h.bit p.2 (hL.slot p hp)).2 ⟨p, hp, rfl⟩
    rw [← shr_bits] at hb
    have : U / 2 ^ p.2 = 0 := by
      have h2 : U < 2 ^ k := by
        rcases Nat.div_eq_zero_iff.1 h0 with h3 | h3
        · have := Nat.two_pow_pos k; omega
        · exact h3
      exact Nat.div_eq_of_lt (Nat.lt_of_lt_of_le h2 (Nat.pow_le_pow_right (by decide) h1))
    rw [this] at hb
    omega
theorem shr_lt {U k : Nat} (hU : U < 18446744073709551616) (h0 : U / 2 ^ k ≠ 0) : k < 64 := by
  rcases Nat.lt_or_ge k 64 with h1 | h1
  · exact h1
  · exfalso
    apply h0
    exact Nat.div_eq_of_lt (Nat.lt_of_lt_of_le hU (Nat.pow_le_pow_right (n := 2) (by decide) h1))
theorem bits_andx (x y : Nat) (hx : x < 18446744073709551616) (hy : y < 18446744073709551616) : bits .and .u64 (x : Nat) (y : Nat) = ((x &&& y : Nat) : Int) := by
  have h1 : bits .and .u64 (x : Nat) (y : Nat) = IntKind.u64.wrap (((BitVec.ofNat 64 x &&& BitVec.ofNat 64 y).toNat : Nat) : Int) := rfl
  have h64 : (18446744073709551616 : Nat) = 2 ^ 64 := by decide
  rw [h1, BitVec.toNat_and, BitVec.toNat_ofNat, BitVec.toNat_ofNat, ← h64, Nat.mod_eq_of_lt hx, Nat.mod_eq_of_lt hy]
  refine wrapU _ ?_
  exact Nat.lt_of_le_of_lt Nat.and_le_left hx
theorem and_one (x : Nat) (hx : x < 18446744073709551616) : bits .and .u64 (x : Nat) 1 = ((x % 2 : Nat) : Int) := by
  have h := bits_andx x 1 hx (by decide)
  rw [show ((1 : Nat) : Int) = 1 from rfl] at h
  rw [h, Nat.and_one_is_mod]
def AllIs (W : World) (X : List Th) (e : Ending) (W' : World) : Prop := ∃ ao cap, e = .returned (.slice ao X.length cap) ∧ W'.ownsRow W.heap.size thT 3 (.slice ao X.length cap) X.length (thFlat X) ∧ Below W.heap.size W W'
theorem look_sl (W : World) (F : Nat → Prop) (r n k : Nat) (L : RLs) (h : Rng W F r n L) (hk : k < 64) (hn : n ≤ 1000000) :
    Calls Try.prog 75 #[.pointer (some ⟨r, 0, none⟩), .int .i64 (k : Nat)] W fun e W' => ∃ ao cap, e = .returned (.slice ao (Sta.srt thLe (rowOf L k)).length cap) ∧ Sl W' 3 ao (Sta.srt thLe (rowOf L k)).length cap (thFlat (Sta.srt thLe (rowOf L k))) ∧ Below W.heap.size W W' := by
  refine (look_ok W F r n k L h hk hn).mono ?_
  rintro e W' ⟨v, rfl, hv, hb⟩
  obtain ⟨ao, cap, rfl⟩ := own_slice hv
  exact ⟨ao, cap, rfl, Sl.of_own hv, hb⟩
theorem all_len (a b c d : Nat) (h : a = b + c) (h1 : b ≤ d) (h2 : c ≤ d) (h3 : d ≤ 256) : a ≤ 512 := by omega
theorem u_lt (u u2 : Nat) (h : u2 < u) : (intOf (.int .u64 (u2 : Nat))).toNat < (intOf (.int .u64 (u : Nat))).toNat := by simp only [intOf]; omega
set_option maxRecDepth 100000 in
set_option maxHeartbeats 4000000 in
theorem all_any (W : World) (F : Nat → Prop) (w : Nat) (now : Int) (X : List Th) (h : Whl W F w now X) :
    Calls Try.prog 40 #[.pointer (some ⟨w, 0, none⟩)] W fun e W' => AllIs W X e W' := by
  obtain ⟨G, rs, pf, mf, R, far, hm, hn, hi⟩ := h
  obtain ⟨a0, a1, a2, a3, a4, a5, b0, hwl, hfl⟩ := hm.cells
  have Hno := Lib.hid (wnone_no W w pf a5 hwl)
  obtain ⟨D, hD, hE⟩ := hm.map
  have hfn := fpairs_nodup hE
  have hml := hm.bd mf hm.fm
  have hlT := hi.lenT
  have hlF := Tot.len_far R far
  have Hm := Lib.hid hm
  have Hi := Lib.hid hi
  have Hfn := Lib.hid hfn
  have Hml := Lib.hid hml
  have HlT := Lib.hid hlT
  have HlF := Lib.hid hlF
  clear hm hi hn hfn hml hlT hlF
  go_enter Try.func40, Try.ntmps40
  go_wp2_with fail
  refine Hno.out.mono ?_
  rintro e W2 ⟨rfl, hW2⟩
  subst hW2
  go_wp2_with (first
    | (at_range; refine wpl_range_th _ rfl _ rfl mf 256 D far rfl hD hE ?_; intro w0 cnt0 hrg0 hg0 hs0)
    | go_in)
  go_frame
  have hb0 : Below W2.heap.size W2 w0 := ⟨hg0.os, hg0.tape, hg0.output, hg0.size, fun i hi => hg0.block i hi (fun e => by cases e)⟩
  have Hb0 := Lib.hid hb0
  have Hrg0 := Lib.hid hrg0
  have Hs0 := Lib.hid (Nat.le_of_eq hs0.symm)
  clear hb0 hrg0 hg0 hs0 hD hE a0 a1 a2 a3 a4 a5 b0 hwl hfl
  go_loopw [2] (fun v wr => ∃ (todo l : List Th) (cnt : Nat) (ao : Option Addr) (cap : Nat), v = .slice ao l.length cap ∧ Hid (Rgs wr mf W2.heap.size 256 D far todo cnt) ∧ Hid todo.Nodup ∧ Hid (∀ x, far.count x = l.count x + todo.count x) ∧
    Hid (wr.ownsRow (W2.heap.size + 1) thT 3 (.slice ao l.length cap) l.length (thFlat l)) ∧ Hid (Below W2.heap.size W2 wr) ∧ Hid (W2.heap.size + 1 ≤ wr.heap.size)) (fun _ wr => wr.rangeLeft mf W2.heap.size)
  case atStart => exact ⟨far, [], cnt0, none, 0, rfl, Hrg0, Hfn, (fun x => by simp : ∀ x, far.count x = ([] : List Th).count x + far.count x), World.ownsRow_nil _ _ _ _, Hb0, Hs0⟩
  case round =>
    obtain ⟨todo, l, cnt, ao, cap, rfl, hrg, hnd, hct, hrow, hb, hsz⟩ := hrel
    have hrg' := hrg.out
    have hll : l.length ≤ 256 := by
      have hp : far.Perm (l ++ todo) := of_cnt fun x => by rw [List.count_append]; exact hct.out x
      have h1 := hp.length_eq
      rw [List.length_append] at h1
      have h2 := HlT.out
      have h3 := HlF.out
      omega
    have HLL := Lib.hid hll
    clear hll
    go_wp2_with (first
      | (at_next; refine wpl_next_th _ rfl _ rfl mf W2.heap.size 256 D far todo cnt rfl hrg' ?_ ?_)
      | go_in)
    · intro h0
      subst h0
      have hct2 : ∀ x, l.count x = far.count x + (upR R 0 0).count x := fun x => by
        have h1 := hct.out x
        rw [upR_zero]
        simp only [List.range_zero, List.map_nil, List.flatten_nil, List.count_nil] at h1 ⊢
        omega
      have Hct2 := Lib.hid hct2
      have hm2 := Hm.out.below hb.out
      obtain ⟨a0, a1, a2, a3, a4, a5, b0, hwl, hfl⟩ := hm2.cells
      clear hrg' hct2 hm2
      go_wp2_with fail
      clear a0 a1 a2 a3 a4 a5 b0 hwl hfl
      go_loopw [2, 31] (fun v u wx => ∃ (i : Nat) (l : List Th) (ao : Option Addr) (cap : Nat), v = .slice ao l.length cap ∧ u = .int .i64 (i : Nat) ∧ i ≤ 4 ∧ Hid (∀ x, l.count x = far.count x + (upR R i 0).count x) ∧
        Hid (wx.ownsRow (W2.heap.size + 1) thT 3 (.slice ao l.length cap) l.length (thFlat l)) ∧ Hid (Below W2.heap.size W2 wx) ∧ Hid (W2.heap.size + 1 ≤ wx.heap.size)) (fun _ u _ => 4 - (intOf u).toNat)
      case atStart => exact ⟨0, l, ao, cap, rfl, rfl, by omega, Hct2, hrow, hb, hsz⟩
      case round =>
        clear hrow hb hsz hct Hct2
        obtain ⟨i, l, ao, cap, rfl, rfl, hi4, hct, hrow, hb, hsz⟩ := hrel
        by_cases hil : i < 4
        · have x1 : (i : Int) < 4 := by omega
          have ix := idxk rs i hil
          have w1 := wrap_k i 3 (Nat.le_of_lt_succ hil) (by decide)
          have Hil := Lib.hid hil
          have hrg := (Hm.out.below hb.out).ring i hil
          obtain ⟨mb, sv, U, hrm, hU⟩ := hrg.mem
          have Hus := Lib.hid (used_ring wr (rs i) mb U hrm.cellM hrm.cellU hrm.lt.1)
          have HU := Lib.hid hU
          have Hok := Lib.hid hrg.ok
          clear hrg hrm hU hil hi4
          go_wp2_with fail
          refine Hus.out.mono ?_
          rintro e W3 ⟨rfl, hW3⟩
          subst hW3
          clear Hus
          go_wp2_with fail
          go_loopw [2, 7, 8] (fun v y z wx => ∃ (k : Nat) (l : List Th) (ao : Option Addr) (cap : Nat), v = .slice ao l.length cap ∧ y = .int .u64 ((U / 2 ^ k : Nat) : Int) ∧ z = .int .i64 (k : Nat) ∧ k ≤ 64 ∧ Hid (∀ x, l.count x = far.count x + (upR R i k).count x) ∧
            Hid (wx.ownsRow (W2.heap.size + 1) thT 3 (.slice ao l.length cap) l.length (thFlat l)) ∧ Hid (Below W2.heap.size W2 wx) ∧ Hid (W2.heap.size + 1 ≤ wx.heap.size)) (fun _ y _ _ => (intOf y).toNat)
          case atStart => exact ⟨0, l, ao, cap, rfl, by rw [Nat.pow_zero, Nat.div_one], rfl, Nat.zero_le _, hct, hrow, hb, hsz⟩
          case round =>
            clear hrow hb hsz hct
            obtain ⟨k, l, ao, cap, rfl, rfl, rfl, hk, hct, hrow, hb, hsz⟩ := hrel
            obtain ⟨u, hu⟩ : ∃ u, u = U / 2 ^ k := ⟨_, rfl⟩
            rw [← hu]
            by_cases h0 : u = 0
            · subst h0
              have hnx : ∀ x, l.count x = far.count x + (upR R (i + 1) 0).count x := fun x => by
                rw [upR_next R i k (shr_zero HU.out Hok.out k hu.symm)]
                exact hct.out x
              have Hnx := Lib.hid hnx
              clear hnx hu hk
              go_wp2_with fail
              go_roundw
              case rel => exact ⟨i + 1, l, ao, cap, rfl, by first | rfl | rw [w1]; rfl, Hil.out, Hnx, hrow, hb, hsz⟩
              case measure =>
                first | rw [w1] | skip
                exact meas4 i Hil.out
            · have hk6 : k < 64 := shr_lt HU.out.lt (by rw [← hu]; exact h0)
              have hul : u < 18446744073709551616 := by rw [hu]; exact Nat.lt_of_le_of_lt (Nat.div_le_self _ _) HU.out.lt
              have y1 : ((u : Int) == 0) = false := by simp; omega
              have y2 : ¬ (u : Int) = 0 := by omega
              have y3 := and_one u hul
              obtain ⟨u2, hu2⟩ : ∃ u2, u2 = U / 2 ^ (k + 1) := ⟨_, rfl⟩
              have e2 : u2 = u / 2 := by rw [hu2, hu, Nat.pow_succ, Nat.div_div_eq_div_mul]
              have y4 : (u : Int) / 2 = (u2 : Nat) := by rw [e2]; omega
              have hlt : u2 < u := by rw [e2]; omega
              have w2 := wrap_k k 63 (Nat.le_of_lt_succ hk6) (by decide)
              have hbit : u % 2 = 1 ↔ ∃ p ∈ R i, p.2 = k := by rw [hu, shr_bits]; exact HU.out.bit k hk6
              obtain ⟨m2, hm2⟩ : ∃ m, m = u % 2 := ⟨_, rfl⟩
              rw [← hm2] at y3 hbit
              have Hbit := Lib.hid hbit
              have Hu2 := Lib.hid hu2
              have Hk6 := Lib.hid hk6
              have Hlt := Lib.hid hlt
              have hll : l.length ≤ 512 := by
                have hp : l.Perm (far ++ upR R i k) := of_cnt fun x => by rw [List.count_append]; exact hct.out x
                have g1 := hp.length_eq
                rw [List.length_append] at g1
                exact all_len _ _ _ _ g1 HlF.out (upR_le R far i k Hil.out) HlT.out
              have hrl : (Sta.srt thLe (rowOf (R i) k)).length ≤ 256 := by
                rw [Sta.srt_len]
                exact Nat.le_trans (rowOf_len (R i) k) (Nat.le_trans (Tot.len_ring R far i Hil.out) HlT.out)
              have Hrl := Lib.hid hrl
              clear hrl
              have HLL := Lib.hid hll
              by_cases hb1 : m2 = 1
              · subst hb1
                have Hlk := Lib.hid (look_sl wr (G i) (rs i) 256 k (R i) ((Hm.out.below hb.out).ring i Hil.out) hk6 (by decide))
                clear hbit hu2 hk6 hlt hll hu h0 hk hul e2 hm2
                go_wp2_with fail
                refine Hlk.out.mono ?_
                rintro e W5 ⟨ao5, cap5, rfl, hsl5, hb5⟩
                have hb6 := below_on hb.out hb5 (Nat.le_refl _)
                have hrow6 := own_below hrow.out hb5
                have hsz6 := Nat.le_trans hsz.out hb5.size
                have hct6 : ∀ x, (l ++ Sta.srt thLe (rowOf (R i) k)).count x = far.count x + (upR R i (k + 1)).count x := fun x => by
                  have g1 := hct.out x
                  have g2 := upR_step R i k x
                  have g3 := cnt_of (Sta.srt_perm thLe (rowOf (R i) k)) x
                  rw [List.count_append]
                  omega
                obtain ⟨m, hm⟩ : ∃ m, m = Sta.srt thLe (rowOf (R i) k) := ⟨_, rfl⟩
                rw [← hm] at hct6 hsl5 Hrl ⊢
                have Hsl5 := Lib.hid hsl5
                have Hrow6 := Lib.hid hrow6
                have Hb6 := Lib.hid hb6
                have Hsz6 := Lib.hid hsz6
                have Hct6 := Lib.hid hct6
                clear hsl5 hrow6 hb6 hsz6 hct6 hb5 hm Hlk
                go_wp2_with (at_builtin; refine wpl_append rfl (.tmp 45) (.tmp 48) thsT rfl (W2.heap.size + 1) thT infoTh Try.underlying35 rfl (by decide) (.slice ao l.length cap) l.length (thFlat l) rfl Hrow6.out _ _ _ _ rfl Hsl5.out (ths_one m) ?_ ?_ ?_ ?_; (have := HLL.out; have := Hrl.out; unfold maxLen; omega); (have := HLL.out; have := Hrl.out; omega); exact Hsz6.out; intro ao7 cap7 w7 hown7 hg7)
                rw [← thFlat_two, ← List.length_append] at hown7
                have hb7 := below_app Hb6.out hg7 Hrow6.out (Nat.le_succ _) (Nat.le_of_succ_le Hsz6.out)
                have hsz7 := Nat.le_trans Hsz6.out hg7.size
                have Hown7 := Lib.hid hown7
                have Hb7 := Lib.hid hb7
                have Hsz7 := Lib.hid hsz7
                clear hown7 hb7 hsz7 hg7
                go_roundw
                case rel => exact ⟨k + 1, l ++ m, ao7, cap7, by rw [List.length_append], by rw [Hu2.out], by first | rfl | rw [w2]; rfl, Hk6.out, Hct6, Hown7, Hb7, Hsz7⟩
                case measure => exact u_lt u u2 Hlt.out
              · have y5 : m2 = 0 := by omega
                subst y5
                have hnr : rowOf (R i) k = [] := by
                  cases hro : rowOf (R i) k with
                  | nil => rfl
                  | cons t m =>
                    exfalso
                    have := mem_rowOf.1 (show t ∈ rowOf (R i) k by rw [hro]; simp)
                    exact hb1 (hbit.2 ⟨_, this, rfl⟩)
                have hct6 : ∀ x, l.count x = far.count x + (upR R i (k + 1)).count x := fun x => by
                  have g1 := hct.out x
                  have g2 := upR_step R i k x
                  rw [hnr] at g2
                  simp only [List.count_nil] at g2
                  omega
                have Hct6 := Lib.hid hct6
                clear hbit hu2 hk6 hlt hll hu h0 hk hul e2 hm2 hct6 hnr hb1 Hbit
                go_wp2_with fail
                go_roundw
                case rel => exact ⟨k + 1, l, ao, cap, rfl, by rw [Hu2.out], by first | rfl | rw [w2]; rfl, Hk6.out, Hct6, hrow, hb, hsz⟩
                case measure => exact u_lt u u2 Hlt.out
        · obtain rfl : i = 4 := by omega
          have hp : l.Perm (Tot R far) := of_cnt fun x => by rw [hct.out x, upR_all]
          have hlX : l.length = X.length := (hp.trans Hi.out.perm.symm).length_eq
          have hsr := Hi.out.all hp
          have hst := sort_any wr (fun _ => True) (.slice ao l.length cap) l ⟨own_base hrow.out (Nat.zero_le _), fun _ _ => trivial⟩ (by rw [hlX]; have := Hi.out.len; omega)
          rw [hsr] at hst
          have Hst := Lib.hid hst
          have HlX := Lib.hid hlX
          clear hp hlX hsr hst hi4 hil
          go_wp2_with fail
          refine Hst.out.mono ?_
          rintro e W7 ⟨rfl, hr7, hg7⟩
          have hrow7 : W7.ownsRow W2.heap.size thT 3 (.slice ao X.length cap) X.length (thFlat X) := by
            have h1 := hr7.own
            rw [HlX.out] at h1
            refine ⟨h1.1, ?_⟩
            rcases h1.2 with hn | ⟨g, c1, cur, he, hb, hh, rest⟩
            · exact .inl hn
            · refine .inr ⟨g, c1, cur, he, ?_, hh, rest⟩
              have := (hrow.out.lt g (by rw [HlX.out, he]; rfl)).1
              omega
          have hb7 : Below W2.heap.size W2 W7 := by
            cases hx : (Value.slice ao l.length cap).ownBlock with
            | none => rw [hx] at hg7; exact below_on hb.out ⟨hg7.os, hg7.tape, hg7.output, hg7.size, fun i hi => hg7.block i hi (fun e => by cases e)⟩ (Nat.le_refl _)
            | some g => rw [hx] at hg7; exact below_grown hb.out hg7 (Nat.le_of_succ_le (hrow.out.lt g hx).1) (Nat.le_of_succ_le hsz.out)
          have Hrow7 := Lib.hid hrow7
          have Hb7 := Lib.hid hb7
          clear hrow7 hb7 hr7 hg7
          go_wp2_with fail
          go_ret
          exact ⟨ao, cap, by rw [← HlX.out]; rfl, Hrow7.out, Hb7.out⟩
    · intro t w1 cnt1 htd hrg1 hlt hg1 hs1 hen
      have hids : ∀ s ∈ todo, ∀ u ∈ todo, s.id = u.id → s = u := fun s hs u hu e => hrg'.ids (hrg'.sub s hs) (hrg'.sub u hu) e
      have hpl := perm_less hids hnd.out htd
      have hb1 : Below W2.heap.size W2 w1 := below_grown hb.out hg1 (Nat.le_refl _) (Nat.le_of_succ_le hsz.out)
      have hrow1 : w1.ownsRow (W2.heap.size + 1) thT 3 (.slice ao l.length cap) l.length (thFlat l) := row_kept hrow.out fun g hg => hg1.block g (hrow.out.lt g hg).2 (fun e => by have := (hrow.out.lt g hg).1; simp only [Option.some.injEq] at e; omega)
      have hsz1 : W2.heap.size + 1 ≤ w1.heap.size := Nat.le_trans hsz.out hg1.size
      have Hleft := Lib.hid hrg'.left_eq
      have hct1 : ∀ x, far.count x = (l ++ [t]).count x + (lessId todo t.id).count x := fun x => by
        have h1 := hct.out x
        have h2 := cnt_of hpl x
        rw [List.count_cons] at h2
        simp only [List.count_append, List.count_cons, List.count_nil]
        omega
      have hnd1 : (lessId todo t.id).Nodup := hnd.out.filter _
      obtain ⟨ti, tg, td⟩ := t
      unfold thVal at hen
      obtain ⟨W4, hW4⟩ : ∃ W4, W4 = w1.alloc (.cells #[.int .u64 ti, .int .u64 tg, .int .i64 td] thT) := ⟨_, rfl⟩
      obtain ⟨q, hq⟩ : ∃ q, q = w1.heap.size := ⟨_, rfl⟩
      have hb14 : Below w1.heap.size w1 W4 := by rw [hW4]; exact below_new _ _
      have hq4 : W4.heap[q]? = some (.cells #[.int .u64 ti, .int .u64 tg, .int .i64 td] thT (0, 0)) := by rw [hW4, hq]; exact heap_alloc_new _ _
      obtain ⟨q0, q1, q2, -, -, -⟩ := set3_res (t := ⟨ti, tg, td⟩) hq4
      have hql := (Array.getElem?_eq_some_iff.1 hq4).1
      have Hb4 := Lib.hid (below_on hb1 hb14 (Nat.le_refl _))
      have Hrow4 := Lib.hid (own_below hrow1 hb14)
      have Hrg4 := Lib.hid (hrg1.stay (hb14.block _ hrg1.lt.1) (hb14.block _ hrg1.lt.2.1))
      have Hsz4 := Lib.hid (Nat.le_trans hsz1 hb14.size)
      have Hct1 := Lib.hid hct1
      have Hnd1 := Lib.hid hnd1
      have Hlt := Lib.hid hlt
      have hl1 : l.length ≤ 256 := HLL.out
      clear hids hpl hb1 hrow1 hsz1 hct1 hnd1 hb14 hq4 hrg1 hrg' hg1 hs1 htd hlt
      go_upto_region 6 with fail
      rw [← hW4, ← hq]
      clear hW4 hq hen
      go_wp2_with (at_builtin; refine wpl_append_one rfl (.tmp 23) (.tmp 25) thsT rfl (W2.heap.size + 1) thT infoTh Try.underlying35 rfl (by decide) (.slice ao l.length cap) l.length (l.map thCells) rfl (Hrow4.out.alloc _) _ 1 (thCells ⟨ti, tg, td⟩) rfl rfl (news_at _ rfl) (th_one _) ?_ ?_ ?_ ?_; omega; (unfold maxLen; omega); (have := Hsz4.out; simp; omega); intro g4 c4 w4 hown4 hg4 hlie)
      have hba := below_new W4 (.cells #[.int .u64 ti, .int .u64 tg, .int .i64 td] thT)
      have hrg4 : Rgs w4 mf W2.heap.size 256 D far (lessId todo ti) cnt1 := by
        have hlt := Hrg4.out.lt
        refine (Hrg4.out.stay (hba.block _ hlt.1) (hba.block _ hlt.2.1)).kept hg4 (fun e => ?_) (fun e => ?_)
        · have := (Hrow4.out.lt mf e.symm).1; have := Hml.out; omega
        · have := (Hrow4.out.lt _ e.symm).1; omega
      have hb4 : Below W2.heap.size W2 w4 := below_app (below_on Hb4.out hba (Nat.le_refl _)) hg4 (Hrow4.out.alloc _) (Nat.le_of_succ_le (Nat.le_refl _)) (Nat.le_trans (Nat.le_of_succ_le Hsz4.out) hba.size)
      have hsz4 : W2.heap.size + 1 ≤ w4.heap.size := Nat.le_trans (Nat.le_trans Hsz4.out hba.size) hg4.size
      rw [thFlat_app] at hown4
      have hown5 : w4.ownsRow (W2.heap.size + 1) thT 3 (.slice (some ⟨g4, 0, none⟩) (l ++ [(⟨ti, tg, td⟩ : Th)]).length c4) (l ++ [(⟨ti, tg, td⟩ : Th)]).length (thFlat (l ++ [⟨ti, tg, td⟩])) := by rw [List.length_append]; exact hown4
      have Hrg5 := Lib.hid hrg4
      have Hb5 := Lib.hid hb4
      have Hsz5 := Lib.hid hsz4
      have Hown5 := Lib.hid hown5
      clear hba hrg4 hb4 hsz4 hown4 hown5 hg4 hlie q0 q1 q2 hql
      go_roundw
      case rel => exact ⟨lessId todo ti, l ++ [⟨ti, tg, td⟩], cnt1, some ⟨g4, 0, none⟩, c4, by rw [List.length_append]; rfl, Hrg5, Hnd1, Hct1, Hown5, Hb5, Hsz5⟩
      case measure => rw [Hrg5.out.left_eq, Hleft.out]; exact Hlt.out
end Go.Proofs.Ytedlplkomfiahaa
