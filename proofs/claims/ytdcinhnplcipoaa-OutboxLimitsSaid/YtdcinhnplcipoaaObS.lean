/- Contracts of the box's State, Clone, Due; of outbox.stands, Sound, Load, Same. No statement of the seat is proved here. -/
import Derived.Test.YtdcinhnplcipoaaObQ
import Derived.Laws.StructEq
namespace Go.Proofs.Ytdcinhnplcipoaa
set_option linter.unusedVariables false
set_option linter.unusedSimpArgs false
set_option linter.unusedSectionVars false
open Go Go.RowKit Go.Shelf

/-- what State tells -/
def Told (last : Int) (l : List No) (W : World) (e : Ending) (W' : World) : Prop :=
  ∃ ao cap, e = .returned (.agg #[.int .u64 last, .slice ao l.length cap]) ∧ W'.ownsRow W.heap.size 24 9 (.slice ao l.length cap) l.length (l.map noCells).flatten ∧ Below W.heap.size W W'
set_option maxHeartbeats 2000000 in
theorem state_bx {W : World} {base b : Nat} {last : Int} {v : Value} {l : List No} (hn : l.length ≤ 1000000) (h : Bx W base b last v l) :
    Calls Try.prog 15 #[.pointer (some ⟨b, 0, none⟩)] W (Told last l W) := by
  obtain ⟨ao, cap, rfl, hs⟩ := h.ns
  have h1 := h.below (below_new W (.cells #[.int .u64 0, .slice none 0 0] 44))
  have hb1 := below_new W (.cells #[.int .u64 0, .slice none 0 0] 44)
  have hr1 : (W.alloc (.cells #[.int .u64 0, .slice none 0 0] 44)).heap[W.heap.size]? = _ := heap_alloc_new _ _
  have hz1 : (W.alloc (.cells #[.int .u64 0, .slice none 0 0] 44)).heap.size = W.heap.size + 1 := by simp
  obtain ⟨W1, hW1⟩ : ∃ W1, W1 = W.alloc (.cells #[.int .u64 0, .slice none 0 0] 44) := ⟨_, rfl⟩
  rw [← hW1] at h1 hb1 hr1 hz1
  have Hz1 := Lib.hid hz1
  have hlt1 : W.heap.size < W1.heap.size := by omega
  clear hz1
  go_enter Try.func15, Try.ntmps15
  go_wp2_with fail
  rw [← hW1]
  refine (none_bx h1).mono ?_
  rintro e W2 ⟨rfl, rfl⟩
  clear hW1
  obtain ⟨x0, x1, x2⟩ := h1.cells
  have z0 := block_free hr1 0
  have z1 := block_free hr1 1
  have c0 := block_cell hr1 0
  have c1 := block_cell hr1 1
  simp at c0 c1
  have hcl := clone_any ao cap l W1.drew hn ((Ns.of_own h1.own).below (Below.refl _ _).drew)
  have Hcl := Lib.hid hcl
  clear hcl
  go_wp2_with fail
  go_region_law ((go_simp; go_at_call 45; refine Hcl.out.mono ?_; rintro e W3 ⟨⟨ao3, cap3, rfl, how3⟩, hb3⟩; have h3 := (h1.below (Below.refl _ _).drew).below hb3; obtain ⟨y0, y1, y2⟩ := h3.cells; have hr3 := (hb3.block W.heap.size hlt1).trans hr1; have zz0 := block_free hr3 0; have zz1 := block_free hr3 1; have cc0 := block_cell hr3 0; have cc1 := block_cell hr3 1; simp at cc0 cc1))
  all_goals
    go_wp2_with fail
    refine bodyPost_ret (v := .agg #[.int .u64 last, .slice ao3 l.length cap3]) (by simp [results, Try.results15, go_sem, cc0, cc1, zz0, zz1]) rfl ?_
    have hB3 := below_on (below_on hb1 (Below.refl _ _).drew (Nat.le_refl _)) hb3 (Nat.le_refl _)
    have hg := grown_trans (grown_set W3 W.heap.size 0 (.int .u64 last)) (grown_set _ W.heap.size 1 (.slice ao3 l.length cap3))
    have hzd : W1.drew.heap.size = W1.heap.size := rfl
    refine ⟨ao3, cap3, rfl, ?_, below_grown hB3 hg (Nat.le_refl _) hB3.size⟩
    have h5 := own_base (base' := W.heap.size + 1) how3 (by omega)
    exact own_base (ownsRow_setCell_below (ownsRow_setCell_below h5 (a := ⟨W.heap.size, 0, none⟩) (by simp) _) (a := ⟨W.heap.size, 1, none⟩) (by simp) _) (by omega)
/-- a clone of a box -/
def Twin (last : Int) (l : List No) (W : World) (e : Ending) (W' : World) : Prop :=
  ∃ b v, e = .returned (.pointer (some ⟨b, 0, none⟩)) ∧ (∃ base, Bx W' base b last v l ∧ W.heap.size ≤ b) ∧ Below W.heap.size W W' ∧ (∀ k, v.ownBlock = some k → W.heap.size ≤ k)
set_option maxHeartbeats 2000000 in
theorem twin_bx {W : World} {base b : Nat} {last : Int} {v : Value} {l : List No} (hn : l.length ≤ 1000000) (h : Bx W base b last v l) :
    Calls Try.prog 25 #[.pointer (some ⟨b, 0, none⟩)] W (Twin last l W) := by
  obtain ⟨ao, cap, rfl, hs⟩ := h.ns
  obtain ⟨x0, x1, x2⟩ := h.cells
  have hcl := clone_any ao cap l W.drew hn ((Ns.of_own h.own).below (Below.refl _ _).drew)
  have Hcl := Lib.hid hcl
  clear hcl
  go_enter Try.func25, Try.ntmps25
  go_wp2_with fail
  refine (none_bx h).mono ?_
  rintro e W2 ⟨rfl, rfl⟩
  go_wp2_with fail
  go_region_law ((go_simp; go_at_call 45; refine Hcl.out.mono ?_; rintro e W3 ⟨⟨ao3, cap3, rfl, how3⟩, hb3⟩; have h3 := (h.below (Below.refl _ _).drew).below hb3; obtain ⟨y0, y1, y2⟩ := h3.cells))
  all_goals
    go_wp2_with fail
    go_ret
    have hB3 := below_on (Below.refl _ _).drew hb3 (Nat.le_refl _)
    have hzd : W.drew.heap.size = W.heap.size := rfl
    refine ⟨W3.heap.size, .slice ao3 l.length cap3, rfl, ⟨W.heap.size, ⟨heap_alloc_new _ _, (own_base how3 (by omega)).alloc _, hB3.size, fun e => ?_, ?_⟩, hB3.size⟩, hB3.alloc hB3.size _, fun k hk => (how3.lt k hk).1⟩
    · have := (how3.lt _ e).2
      omega
    · have := hB3.size
      simp; omega
/-- what Due tells -/
def DueOk (now : Int) (l : List No) (W : World) (e : Ending) (W' : World) : Prop :=
  ∃ so sc, e = .returned (.slice so (l.filter (dueB now)).length sc) ∧ W'.ownsRow W.heap.size 24 9 (.slice so (l.filter (dueB now)).length sc) (l.filter (dueB now)).length ((l.filter (dueB now)).map noCells).flatten ∧ Below W.heap.size W W'
theorem due_bx {W : World} {base b : Nat} {last : Int} {v : Value} {l : List No} (now : Int) (hn : l.length ≤ 1000000) (h : Bx W base b last v l) :
    Calls Try.prog 26 #[.pointer (some ⟨b, 0, none⟩), .int .i64 now] W (DueOk now l W) := by
  obtain ⟨ao, cap, rfl, hs⟩ := h.ns
  have hcell : (W.alloc (.cells #[.int .i64 now] 2)).cell? ⟨W.heap.size, 0, none⟩ = some (.int .i64 now) := by simp
  have h1 := h.below (below_new W (.cells #[.int .i64 now] 2))
  have hb1 := below_new W (.cells #[.int .i64 now] 2)
  have hz1 : W.heap.size ≤ (W.alloc (.cells #[.int .i64 now] 2)).heap.size := by simp
  obtain ⟨W1, hW1⟩ : ∃ W1, W1 = W.alloc (.cells #[.int .i64 now] 2) := ⟨_, rfl⟩
  rw [← hW1] at hcell h1 hb1 hz1
  have hpk := pickN_any 57 #[.pointer (some ⟨W.heap.size, 0, none⟩)] (dueB now) (enters_of Try.func57 (by kernel_rfl) rfl) ao cap l W1 (Ns.of_own h1.own) hn
    (fun W2 n hb => due1_any n W.heap.size now W2 ((hb.cell (p := ⟨W.heap.size, 0, none⟩) (cell?_lt hcell)).trans hcell))
  unfold DueOk
  obtain ⟨F, hF⟩ : ∃ F, F = l.filter (dueB now) := ⟨_, rfl⟩
  rw [← hF] at hpk ⊢
  have Hpk := Lib.hid hpk
  clear hpk hF
  go_enter Try.func26, Try.ntmps26
  go_wp2_with fail
  rw [← hW1]
  refine (none_bx h1).mono ?_
  rintro e W2 ⟨rfl, rfl⟩
  obtain ⟨x0, x1, x2⟩ := h1.cells
  clear hW1
  go_wp2_with fail
  refine Hpk.out.mono ?_
  rintro e W2 ⟨⟨so, sc, rfl, how⟩, hb2⟩
  go_wp2_with fail
  go_ret
  exact ⟨so, sc, rfl, own_base how hz1, below_on hb1 hb2 (Nat.le_refl _)⟩
/-- may its state be? -/
def standsN (n : No) : Bool := decide (0 ≤ n.tr) && decide (n.tr ≤ n.rt) && instB n.nx && (n.st == 1 || (n.st == 2 && decide (0 < n.tr)) || (n.st == 3 && n.tr == n.rt))
set_option maxHeartbeats 2000000 in
theorem stands_any (n : No) (w : World) : Calls Try.prog 59 #[noVal n] w fun e w' => e = .returned (.bool (standsN n)) ∧ Below w.heap.size w w' := by
  have hin := fun W => inst_any n.nx W
  obtain ⟨c, hc⟩ : ∃ c, c = standsN n := ⟨_, rfl⟩
  rw [← hc]
  unfold standsN at hc
  obtain ⟨q, hq⟩ : ∃ q, q = instB n.nx := ⟨_, rfl⟩
  rw [← hq] at hc
  simp only [← hq] at hin
  clear hq
  obtain ⟨id, tk, lv, pt, st, tr, rt, wt, nx⟩ := n
  unfold noVal
  simp only at hc hin ⊢
  have Hc := Lib.hid hc
  have Hin := Lib.hid hin
  clear hc hin
  by_cases h1 : tr < 0
  · have HcF : Hid (c = false) := by show c = false; rw [Hc.out]; have : ¬ 0 ≤ tr := by omega
                                     simp [this]
    clear Hc
    go_enter Try.func59, Try.ntmps59
    go_wp2_with fail
    go_ret
    exact ⟨ret_bool HcF.out.symm, below_new _ _⟩
  by_cases h2 : rt < tr
  · have HcF : Hid (c = false) := by show c = false; rw [Hc.out]; have : ¬ tr ≤ rt := by omega
                                     simp [this]
    clear Hc
    go_enter Try.func59, Try.ntmps59
    go_wp2_with fail
    go_ret
    exact ⟨ret_bool HcF.out.symm, below_new _ _⟩
  cases q with
  | false =>
    have HcF : Hid (c = false) := by show c = false; rw [Hc.out]; simp
    clear Hc
    go_enter Try.func59, Try.ntmps59
    go_wp2_with fail
    refine (Hin.out _).mono ?_
    rintro e W1 ⟨rfl, rfl⟩
    go_wp2_with fail
    go_ret
    exact ⟨ret_bool HcF.out.symm, below_new _ _⟩
  | true =>
    have Hc2 : Hid (c = (st == 1 || (st == 2 && decide (0 < tr)) || (st == 3 && tr == rt))) := by
      show c = _
      rw [Hc.out]
      have e1 : 0 ≤ tr := by omega
      have e2 : tr ≤ rt := by omega
      simp [e1, e2]
    clear Hc
    by_cases s1 : st = 1
    · subst s1
      go_enter Try.func59, Try.ntmps59
      go_wp2_with fail
      refine (Hin.out _).mono ?_
      rintro e W1 ⟨rfl, rfl⟩
      go_wp2_with fail
      go_ret
      exact ⟨ret_bool (by rw [Hc2.out]; rfl), below_new _ _⟩
    by_cases s2 : st = 2
    · subst s2
      go_enter Try.func59, Try.ntmps59
      go_wp2_with fail
      refine (Hin.out _).mono ?_
      rintro e W1 ⟨rfl, rfl⟩
      go_wp2_with fail
      go_ret
      exact ⟨ret_bool (by rw [Hc2.out]; simp), below_new _ _⟩
    by_cases s3 : st = 3
    · subst s3
      go_enter Try.func59, Try.ntmps59
      go_wp2_with fail
      refine (Hin.out _).mono ?_
      rintro e W1 ⟨rfl, rfl⟩
      go_wp2_with fail
      go_ret
      exact ⟨ret_bool (by rw [Hc2.out]; simp), below_new _ _⟩
    · have t1 : (st == 1) = false := by simpa using s1
      have t2 : (st == 2) = false := by simpa using s2
      have t3 : (st == 3) = false := by simpa using s3
      go_enter Try.func59, Try.ntmps59
      go_wp2_with fail
      refine (Hin.out _).mono ?_
      rintro e W1 ⟨rfl, rfl⟩
      go_wp2_with fail
      go_ret
      exact ⟨ret_bool (by rw [Hc2.out, t1, t2, t3]; rfl), below_new _ _⟩
end Go.Proofs.Ytdcinhnplcipoaa
