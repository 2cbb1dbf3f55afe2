/- Notices, as lists; contracts of outbox's small functions. No statement of the seat is proved here. -/
import Derived.Test.YtdcinhnplcipoaaAux3
import Derived.WalkLawsBesides
import Derived.BigQuiet
import Derived.Deep.QuietTactic
import Derived.RegionTactic
import Derived.BigRegion
import Derived.Deep.RegionWith
import Derived.Deep.RegionLaw
import Derived.Deep.RegionHeld3
import Derived.Deep.DeepCutAuto
import Derived.IntWalk
import Derived.WalkSpells
import Derived.Laws.NewBlocks
namespace Go.Proofs.Ytdcinhnplcipoaa
set_option linter.unusedVariables false
set_option linter.unusedSimpArgs false
set_option linter.unusedSectionVars false
open Go Go.RowKit

/-- a notice -/
structure No where
  id : Int
  tk : Int
  lv : Int
  pt : Int
  st : Int
  tr : Int
  rt : Int
  wt : Int
  nx : Int
deriving DecidableEq, Inhabited
def noCells (n : No) : List Value := [.int .u64 n.id, .int .u64 n.tk, .int .i64 n.lv, .int .i64 n.pt, .int .i64 n.st, .int .i64 n.tr, .int .i64 n.rt, .int .i64 n.wt, .int .i64 n.nx]
def noVal (n : No) : Value := .agg #[.int .u64 n.id, .int .u64 n.tk, .int .i64 n.lv, .int .i64 n.pt, .int .i64 n.st, .int .i64 n.tr, .int .i64 n.rt, .int .i64 n.wt, .int .i64 n.nx]
def instB (t : Int) : Bool := decide (0 ≤ t) && decide (t ≤ 1125899906842624)
def fitsN (n : No) : Bool := decide (1 ≤ n.rt) && decide (n.rt ≤ 8) && decide (1 ≤ n.wt) && decide (n.wt ≤ 1048576) && decide (0 ≤ n.lv) && decide (n.lv < 6) && decide (0 ≤ n.pt) && decide (n.pt < 8)
def waitsB (n : No) : Bool := n.st == 1

theorem instT (t : Int) (h : instB t = true) : 0 ≤ t ∧ t ≤ 1125899906842624 := by unfold instB at h; simpa using h
theorem no_one (n : No) : ∀ u ∈ noCells n, u.oneCell' = true := by
  intro u hu
  simp [noCells] at hu
  rcases hu with rfl | rfl | rfl | rfl | rfl | rfl | rfl | rfl | rfl <;> rfl
theorem no_each (l : List No) : ∀ r ∈ l.map noCells, r.length = 9 := by
  intro r hr; obtain ⟨x, _, rfl⟩ := List.mem_map.1 hr; rfl
theorem nos_one (l : List No) : ∀ u ∈ (l.map noCells).flatten, u.oneCell' = true := by
  intro u hu
  obtain ⟨r, hr, hu⟩ := List.mem_flatten.1 hu
  obtain ⟨s, _, rfl⟩ := List.mem_map.1 hr
  exact no_one s u hu
/-- not the type of a block that the reference writes beside its rows -/
def farT (T : TypeId) : Bool := !(T == 53 || T == 62 || T == 22)
/-- the slice reads as the notices -/
structure Ns (w : World) (ao : Option Addr) (cap : Nat) (l : List No) : Prop where
  sl : Sl w 9 ao l.length cap (l.map noCells).flatten
  typ : ∀ b off s, ao = some ⟨b, off, s⟩ → 0 < l.length → ∃ T, elem? w b = some T ∧ farT T = true
theorem Ns.kept {w w' : World} {ao : Option Addr} {cap : Nat} {l : List No} (h : Ns w ao cap l) (hk : ∀ b off s, ao = some ⟨b, off, s⟩ → 0 < l.length → w'.heap[b]? = w.heap[b]?) : Ns w' ao cap l := by
  refine ⟨⟨h.sl.len, h.sl.le, h.sl.max, h.sl.none, fun j u hu => ?_⟩, fun b off s e h0 => ?_⟩
  · obtain ⟨b, off, e, hc⟩ := h.sl.cell j u hu
    have h0 : 0 < l.length := by
      rcases Nat.eq_zero_or_pos l.length with h0 | h0
      · rw [List.eq_nil_of_length_eq_zero h0] at hu; simp at hu
      · exact h0
    exact ⟨b, off, e, by rw [World.cell?_of_block (w := w) (hk b off .none e h0)]; exact hc⟩
  · rw [elem?_same (hk b off s e h0)]; exact h.typ b off s e h0
theorem Ns.below {w w' : World} {ao : Option Addr} {cap : Nat} {l : List No} (h : Ns w ao cap l) (hb : Below w.heap.size w w') : Ns w' ao cap l :=
  h.kept fun b off s e h0 => by obtain ⟨T, hT, -⟩ := h.typ b off s e h0; exact hb.block b (elem?_lt hT)
theorem Ns.grown {w w' : World} {T : TypeId} {cap g : Nat} {ao : Option Addr} {l : List No} (h : Ns w ao cap l) (hg : w.grownBy w' (some g)) (hT : elem? w g = some T) (hne : farT T = false) : Ns w' ao cap l :=
  h.kept fun b off s e h0 => by
    obtain ⟨U, hU, hf⟩ := h.typ b off s e h0
    refine hg.block b (elem?_lt hU) fun e2 => ?_
    simp only [Option.some.injEq] at e2
    rw [e2, hT] at hU
    simp only [Option.some.injEq] at hU
    rw [← hU, hne] at hf
    cases hf
theorem Ns.nil (w : World) : Ns w none 0 [] := ⟨⟨by simp, by simp, by decide, fun _ => rfl, fun j u hu => by simp at hu⟩, by simp⟩
theorem Ns.of_rw {w : World} {cap : Nat} {ao : Option Addr} {l : List No} (h : Rw w 24 9 ao l.length cap (l.map noCells)) : Ns w ao cap l := ⟨h.sl, fun b off s e _ => ⟨_, h.typ b off s e, by decide⟩⟩
theorem Ns.rw_own {w : World} {base cap : Nat} {ao : Option Addr} {l : List No} (h : w.ownsRow base 24 9 (.slice ao l.length cap) l.length (l.map noCells).flatten) : Rw w 24 9 ao l.length cap (l.map noCells) :=
  Rw.of_own h (by simp) (no_each l)
theorem Ns.of_own {w : World} {base cap : Nat} {ao : Option Addr} {l : List No} (h : w.ownsRow base 24 9 (.slice ao l.length cap) l.length (l.map noCells).flatten) : Ns w ao cap l :=
  Ns.of_rw (Ns.rw_own h)
/-- a notice in memory -/
def NoAt (w : World) (b o : Nat) (n : No) : Prop :=
  w.cell? ⟨b, o, none⟩ = some (.int .u64 n.id) ∧ w.cell? ⟨b, o + 1, none⟩ = some (.int .u64 n.tk) ∧ w.cell? ⟨b, o + 2, none⟩ = some (.int .i64 n.lv) ∧ w.cell? ⟨b, o + 3, none⟩ = some (.int .i64 n.pt) ∧ w.cell? ⟨b, o + 4, none⟩ = some (.int .i64 n.st) ∧ w.cell? ⟨b, o + 5, none⟩ = some (.int .i64 n.tr) ∧ w.cell? ⟨b, o + 6, none⟩ = some (.int .i64 n.rt) ∧ w.cell? ⟨b, o + 7, none⟩ = some (.int .i64 n.wt) ∧ w.cell? ⟨b, o + 8, none⟩ = some (.int .i64 n.nx)
theorem Ns.get {w : World} {ao : Option Addr} {cap : Nat} {l : List No} (h : Ns w ao cap l) (i : Nat) (hi : i < l.length) :
    ∃ b off, ao = some ⟨b, off, none⟩ ∧ NoAt w b (off + i * 9) l[i] := by
  have key : ∀ j (hj : j < 9), (l.map noCells).flatten[i * 9 + j]? = some ((noCells l[i])[j]'hj) := by
    intro j hj
    have := flatten_get (rows := l.map noCells) (k := 9) (no_each l) i j (by simpa using hi) (by rw [List.getElem_map]; exact hj)
    rw [this]; simp only [List.getElem_map]; rfl
  obtain ⟨b, off, e, _⟩ := h.sl.cell _ _ (key 0 (by decide))
  have hc : ∀ j (hj : j < 9), w.cell? ⟨b, off + i * 9 + j, none⟩ = some ((noCells l[i])[j]'hj) := by
    intro j hj
    obtain ⟨b', off', e', hc⟩ := h.sl.cell _ _ (key j hj)
    rw [e] at e'
    simp only [Option.some.injEq, Addr.mk.injEq] at e'
    obtain ⟨rfl, rfl, -⟩ := e'
    rw [Nat.add_assoc]; exact hc
  exact ⟨b, off, e, hc 0 (by decide : 0 < 9), hc 1 (by decide : 1 < 9), hc 2 (by decide : 2 < 9), hc 3 (by decide : 3 < 9), hc 4 (by decide : 4 < 9), hc 5 (by decide : 5 < 9), hc 6 (by decide : 6 < 9), hc 7 (by decide : 7 < 9), hc 8 (by decide : 8 < 9)⟩
theorem infoNo : (Try.prog.info? 24).map (fun i => (i.zero, i.size, i.bytes)) = some (some (.agg #[.int .u64 0, .int .u64 0, .int .i64 0, .int .i64 0, .int .i64 0, .int .i64 0, .int .i64 0, .int .i64 0, .int .i64 0]), 9, 72) := by kernel_rfl

theorem inst_any (t : Int) (w : World) : Calls Try.prog 37 #[.int .i64 t] w fun e w' => e = .returned (.bool (instB t)) ∧ w = w' := by
  obtain ⟨c, hc⟩ : ∃ c, c = instB t := ⟨_, rfl⟩
  rw [← hc]
  have Hc := Lib.hid hc
  clear hc
  go_enter Try.func37, Try.ntmps37
  go_wp2
  all_goals
    go_ret
    exact ⟨ret_bool (by rw [Hc.out, Bool.eq_iff_iff]; unfold instB; simp only [Bool.and_eq_true, decide_eq_true_eq, Bool.false_eq_true, false_iff]; omega), rfl⟩
theorem waits_any (n : No) (w : World) : Calls Try.prog 41 #[noVal n] w fun e w' => e = .returned (.bool (waitsB n)) ∧ Below w.heap.size w w' := by
  obtain ⟨id, tk, lv, pt, st, tr, rt, wt, nx⟩ := n
  unfold noVal waitsB
  simp only
  go_enter Try.func41, Try.ntmps41
  go_wp2
  go_ret
  exact ⟨rfl, below_new _ _⟩
set_option maxHeartbeats 1000000 in
theorem fits_any (n : No) (w : World) : Calls Try.prog 38 #[noVal n] w fun e w' => e = .returned (.bool (fitsN n)) ∧ Below w.heap.size w w' := by
  obtain ⟨id, tk, lv, pt, st, tr, rt, wt, nx⟩ := n
  obtain ⟨c, hc⟩ : ∃ c, c = fitsN ⟨id, tk, lv, pt, st, tr, rt, wt, nx⟩ := ⟨_, rfl⟩
  rw [← hc]
  unfold noVal
  unfold fitsN at hc
  simp only at hc
  have Hc := Lib.hid hc
  clear hc
  simp only
  go_enter Try.func38, Try.ntmps38
  go_wp2
  all_goals
    go_ret
    exact ⟨ret_bool (by rw [Hc.out, Bool.eq_iff_iff]; simp only [Bool.and_eq_true, decide_eq_true_eq, Bool.false_eq_true, false_iff]; omega), below_new _ _⟩
theorem refInst_any (t : Int) (w : World) : Calls Try.prog 49 #[.int .i64 t] w fun e w' => e = .returned (.bool (instB t)) ∧ w = w' := by
  obtain ⟨c, hc⟩ : ∃ c, c = instB t := ⟨_, rfl⟩
  rw [← hc]
  have Hc := Lib.hid hc
  clear hc
  go_enter Try.func49, Try.ntmps49
  go_wp2
  all_goals
    go_ret
    exact ⟨ret_bool (by rw [Hc.out, Bool.eq_iff_iff]; unfold instB; simp only [Bool.and_eq_true, decide_eq_true_eq, Bool.false_eq_true, false_iff]; omega), rfl⟩
set_option maxHeartbeats 1000000 in
theorem refFits_any (n : No) (w : World) : Calls Try.prog 48 #[noVal n] w fun e w' => e = .returned (.bool (fitsN n)) ∧ Below w.heap.size w w' := by
  obtain ⟨id, tk, lv, pt, st, tr, rt, wt, nx⟩ := n
  obtain ⟨c, hc⟩ : ∃ c, c = fitsN ⟨id, tk, lv, pt, st, tr, rt, wt, nx⟩ := ⟨_, rfl⟩
  rw [← hc]
  unfold noVal
  unfold fitsN at hc
  simp only at hc
  have Hc := Lib.hid hc
  clear hc
  simp only
  go_enter Try.func48, Try.ntmps48
  go_wp2
  all_goals
    go_ret
    exact ⟨ret_bool (by rw [Hc.out, Bool.eq_iff_iff]; simp only [Bool.and_eq_true, decide_eq_true_eq, Bool.false_eq_true, false_iff]; omega), below_new _ _⟩
theorem id_any (n : No) (w : World) : Calls Try.prog 44 #[noVal n] w fun e w' => e = .returned (.int .u64 n.id) ∧ Below w.heap.size w w' := by
  obtain ⟨id, tk, lv, pt, st, tr, rt, wt, nx⟩ := n
  unfold noVal
  simp only
  go_enter Try.func44, Try.ntmps44
  go_wp2
  go_ret
  exact ⟨rfl, below_new _ _⟩
theorem same_any (n : No) (w : World) : Calls Try.prog 58 #[noVal n] w fun e w' => e = .returned (noVal n) ∧ Below w.heap.size w w' := by
  obtain ⟨id, tk, lv, pt, st, tr, rt, wt, nx⟩ := n
  unfold noVal
  simp only
  go_enter Try.func58, Try.ntmps58
  go_wp2
  refine bodyPost_ret (v := .agg #[.int .u64 id, .int .u64 tk, .int .i64 lv, .int .i64 pt, .int .i64 st, .int .i64 tr, .int .i64 rt, .int .i64 wt, .int .i64 nx]) (by simp [results, Try.results58, go_sem]) rfl ?_
  exact ⟨rfl, (below_new _ _).alloc (by simp) _⟩
theorem put1_any (n : No) (w : World) : Calls Try.prog 40 #[noVal n] w fun e w' => e = .returned (.bool (!waitsB n)) ∧ Below w.heap.size w w' := by
  have hw := waits_any n
  obtain ⟨c, hc⟩ : ∃ c, c = waitsB n := ⟨_, rfl⟩
  rw [← hc] at hw ⊢
  clear hc
  obtain ⟨id, tk, lv, pt, st, tr, rt, wt, nx⟩ := n
  unfold noVal at hw ⊢
  simp only at hw ⊢
  have Hw := Lib.hid hw
  clear hw
  go_enter Try.func40, Try.ntmps40
  go_wp2_with fail
  refine (Hw.out _).mono ?_
  rintro e w2 ⟨rfl, hb2⟩
  go_wp2_with fail
  go_ret
  exact ⟨rfl, below_on (below_new _ _) hb2 (Nat.le_refl _)⟩
theorem at1_any (n : No) (c : Nat) (id : Int) (w : World) (hc : w.cell? ⟨c, 0, none⟩ = some (.int .u64 id)) : Calls Try.prog 68 #[noVal n, .pointer (some ⟨c, 0, none⟩)] w fun e w' => e = .returned (.bool (n.id == id)) ∧ Below w.heap.size w w' := by
  obtain ⟨id', tk, lv, pt, st, tr, rt, wt, nx⟩ := n
  unfold noVal
  simp only
  have hlt := cell?_lt hc
  have hc2 : ∀ o, (w.alloc o).cell? ⟨c, 0, none⟩ = some (.int .u64 id) := fun o => ((below_new w o).cell hlt).trans hc
  go_enter Try.func68, Try.ntmps68
  go_wp2
  go_ret
  exact ⟨rfl, below_new _ _⟩
/-- given up? -/
def spentB (now : Int) (n : No) : Bool := waitsB n && decide (n.rt ≤ n.tr) && decide (n.nx ≤ now)
def dueB (now : Int) (n : No) : Bool := waitsB n && decide (n.tr < n.rt) && decide (n.nx ≤ now)
theorem tick1_any (n : No) (c : Nat) (now : Int) (w : World) (hc : w.cell? ⟨c, 0, none⟩ = some (.int .i64 now)) : Calls Try.prog 47 #[noVal n, .pointer (some ⟨c, 0, none⟩)] w fun e w' => e = .returned (.bool (spentB now n)) ∧ Below w.heap.size w w' := by
  have hw := waits_any n
  obtain ⟨r, hr⟩ : ∃ r, r = spentB now n := ⟨_, rfl⟩
  rw [← hr]
  unfold spentB at hr
  obtain ⟨q, hq⟩ : ∃ c, c = waitsB n := ⟨_, rfl⟩
  rw [← hq] at hw hr
  clear hq
  obtain ⟨id, tk, lv, pt, st, tr, rt, wt, nx⟩ := n
  unfold noVal at hw ⊢
  simp only at hw hr ⊢
  have Hw := Lib.hid hw
  have Hr := Lib.hid hr
  clear hw hr
  have hlt := cell?_lt hc
  cases q
  all_goals
    go_enter Try.func47, Try.ntmps47
    go_wp2_with fail
    refine (Hw.out _).mono ?_
    rintro e w2 ⟨rfl, hb2⟩
    have B2 := below_on (below_new w (.cells #[.int .u64 id, .int .u64 tk, .int .i64 lv, .int .i64 pt, .int .i64 st, .int .i64 tr, .int .i64 rt, .int .i64 wt, .int .i64 nx] 24)) hb2 (Nat.le_refl _)
    have d0 := (B2.cell (p := ⟨c, 0, none⟩) hlt).trans hc
    have k5 := (hb2.cell (p := ⟨w.heap.size, 5, none⟩) (by simp)).trans (cell?_new w #[.int .u64 id, .int .u64 tk, .int .i64 lv, .int .i64 pt, .int .i64 st, .int .i64 tr, .int .i64 rt, .int .i64 wt, .int .i64 nx] 24 (0, 0) 5)
    have k6 := (hb2.cell (p := ⟨w.heap.size, 6, none⟩) (by simp)).trans (cell?_new w #[.int .u64 id, .int .u64 tk, .int .i64 lv, .int .i64 pt, .int .i64 st, .int .i64 tr, .int .i64 rt, .int .i64 wt, .int .i64 nx] 24 (0, 0) 6)
    have k8 := (hb2.cell (p := ⟨w.heap.size, 8, none⟩) (by simp)).trans (cell?_new w #[.int .u64 id, .int .u64 tk, .int .i64 lv, .int .i64 pt, .int .i64 st, .int .i64 tr, .int .i64 rt, .int .i64 wt, .int .i64 nx] 24 (0, 0) 8)
    simp at k5 k6 k8
    go_wp2_with fail
    all_goals
      go_ret
      exact ⟨ret_bool (by rw [Hr.out, Bool.eq_iff_iff]; simp only [Bool.and_eq_true, decide_eq_true_eq, Bool.false_eq_true, true_and, false_and, false_iff, not_false_eq_true]; try omega), B2⟩
theorem due1_any (n : No) (c : Nat) (now : Int) (w : World) (hc : w.cell? ⟨c, 0, none⟩ = some (.int .i64 now)) : Calls Try.prog 57 #[noVal n, .pointer (some ⟨c, 0, none⟩)] w fun e w' => e = .returned (.bool (dueB now n)) ∧ Below w.heap.size w w' := by
  have hw := waits_any n
  obtain ⟨r, hr⟩ : ∃ r, r = dueB now n := ⟨_, rfl⟩
  rw [← hr]
  unfold dueB at hr
  obtain ⟨q, hq⟩ : ∃ c, c = waitsB n := ⟨_, rfl⟩
  rw [← hq] at hw hr
  clear hq
  obtain ⟨id, tk, lv, pt, st, tr, rt, wt, nx⟩ := n
  unfold noVal at hw ⊢
  simp only at hw hr ⊢
  have Hw := Lib.hid hw
  have Hr := Lib.hid hr
  clear hw hr
  have hlt := cell?_lt hc
  cases q
  all_goals
    go_enter Try.func57, Try.ntmps57
    go_wp2_with fail
    refine (Hw.out _).mono ?_
    rintro e w2 ⟨rfl, hb2⟩
    have B2 := below_on (below_new w (.cells #[.int .u64 id, .int .u64 tk, .int .i64 lv, .int .i64 pt, .int .i64 st, .int .i64 tr, .int .i64 rt, .int .i64 wt, .int .i64 nx] 24)) hb2 (Nat.le_refl _)
    have d0 := (B2.cell (p := ⟨c, 0, none⟩) hlt).trans hc
    have k5 := (hb2.cell (p := ⟨w.heap.size, 5, none⟩) (by simp)).trans (cell?_new w #[.int .u64 id, .int .u64 tk, .int .i64 lv, .int .i64 pt, .int .i64 st, .int .i64 tr, .int .i64 rt, .int .i64 wt, .int .i64 nx] 24 (0, 0) 5)
    have k6 := (hb2.cell (p := ⟨w.heap.size, 6, none⟩) (by simp)).trans (cell?_new w #[.int .u64 id, .int .u64 tk, .int .i64 lv, .int .i64 pt, .int .i64 st, .int .i64 tr, .int .i64 rt, .int .i64 wt, .int .i64 nx] 24 (0, 0) 6)
    have k8 := (hb2.cell (p := ⟨w.heap.size, 8, none⟩) (by simp)).trans (cell?_new w #[.int .u64 id, .int .u64 tk, .int .i64 lv, .int .i64 pt, .int .i64 st, .int .i64 tr, .int .i64 rt, .int .i64 wt, .int .i64 nx] 24 (0, 0) 8)
    simp at k5 k6 k8
    go_wp2_with fail
    all_goals
      go_ret
      exact ⟨ret_bool (by rw [Hr.out, Bool.eq_iff_iff]; simp only [Bool.and_eq_true, decide_eq_true_eq, Bool.false_eq_true, true_and, false_and, false_iff, not_false_eq_true]; try omega), B2⟩
end Go.Proofs.Ytdcinhnplcipoaa
