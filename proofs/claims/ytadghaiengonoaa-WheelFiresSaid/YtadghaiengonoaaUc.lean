/- slots: the reference's Find, Without, Plain; Same. No statement of the seat is proved here. -/
import Derived.Test.YtadghaiengonoaaUb
namespace Go.Proofs.Ytadghaiengonoaa
set_option linter.unusedVariables false
set_option linter.unusedSimpArgs false
set_option linter.unusedSectionVars false
open Go Go.RowKit Go.Maps

/-- the place of an id -/
def findI (l : RLs) (id : Int) : Option Nat := l.findIdx? (fun p => decide (p.1.id = id))
def findV (l : RLs) (id : Int) : Int := match findI l id with | some k => (k : Int) | none => -1
theorem findI_some {l : RLs} {id : Int} {k : Nat} (h : findI l id = some k) : ∃ hk : k < l.length, l[k].1.id = id ∧ ∀ j (hj : j < k), l[j].1.id ≠ id := by
  unfold findI at h
  obtain ⟨hk, h1, h2⟩ := List.findIdx?_eq_some_iff_getElem.1 h
  exact ⟨hk, by simpa using h1, fun j hj => by simpa using h2 j hj⟩
theorem findI_none {l : RLs} {id : Int} (h : findI l id = none) : ∀ p ∈ l, p.1.id ≠ id := by
  unfold findI at h
  intro p hp
  have := List.findIdx?_eq_none_iff.1 h p hp
  simpa using this
theorem findI_of {l : RLs} {id : Int} (k : Nat) (hk : k < l.length) (h1 : l[k].1.id = id) (h2 : ∀ j (hj : j < k), l[j].1.id ≠ id) : findI l id = some k := by
  unfold findI
  rw [List.findIdx?_eq_some_iff_getElem]
  exact ⟨hk, by simpa using h1, fun j hj => by simpa using h2 j hj⟩
theorem findI_no {l : RLs} {id : Int} (h : ∀ p ∈ l, p.1.id ≠ id) : findI l id = none := by
  unfold findI
  rw [List.findIdx?_eq_none_iff]
  intro p hp; simpa using h p hp
theorem meas_w (n i : Nat) (h : i < n) : n - (intOf (.int .i64 ((i : Int) + 1))).toNat < n - (intOf (.int .i64 (i : Nat))).toNat := by simp only [intOf]; omega
set_option maxRecDepth 100000 in
theorem find_any (W : World) (ao : Option Addr) (cap : Nat) (l : RLs) (id : Int) (h : Rt W ao cap l) (hl : l.length ≤ 10000) :
    Calls Try.prog 38 #[.slice ao l.length cap, .int .u64 id] W fun e W' => e = .returned (.int .i64 (findV l id)) ∧ Below W.heap.size W W' := by
  have Hh := Lib.hid h
  have HL := Lib.hid hl
  clear h hl
  go_enter Try.func38, Try.ntmps38
  go_wp2_with fail
  go_loopw [5] (fun u wr => ∃ i : Nat, u = .int .i64 (i : Nat) ∧ i ≤ l.length ∧ Hid (∀ j (hj : j < l.length), j < i → l[j].1.id ≠ id) ∧ Below W.heap.size W wr) (fun u _ => l.length - (intOf u).toNat)
  case atStart => exact ⟨0, rfl, Nat.zero_le _, fun j _ hj => by omega, Below.refl _ _⟩
  case round =>
    obtain ⟨i, rfl, hi, hno, hb⟩ := hrel
    by_cases hil : i < l.length
    · obtain ⟨x1, x2⟩ := i_nums i l.length hil
      have hlx := Hh.out.below hb
      obtain ⟨bx, fx, rfl, hbx, cc0, -⟩ := Rt.cells hlx i hil
      have w1 : wrap64 ((i : Int) + 1) = (i : Int) + 1 := IntWalk.wrap64_in _ (by have := HL.out; omega)
      have Hi := Lib.hid hil
      have Hb := Lib.hid hb
      obtain ⟨z, hz⟩ : ∃ z, z = l[i].1.id := ⟨_, rfl⟩
      have c0 : wr.cell? ⟨bx, fx + i * 4, none⟩ = some (.int .u64 z) := by rw [hz]; exact cc0
      clear cc0
      by_cases hid : z = id
      · have hf := findI_of i hil (hz.symm.trans hid) (fun j hj => hno.out j (Nat.lt_trans hj hil) hj)
        have hv : findV l id = (i : Int) := by unfold findV; rw [hf]
        subst hid
        have Hv := Lib.hid hv
        have Hz := Lib.hid hz
        clear hf hv hlx hb
        go_wp2_with fail
        go_ret
        exact ⟨ret_int (by rw [Hv.out]), Hb.out⟩
      · have Hz := Lib.hid hz
        have Hne := Lib.hid hid
        clear hlx hb hz
        go_wp2_with fail
        go_roundw
        case rel => exact ⟨i + 1, by first | rfl | rw [w1]; rfl, Hi.out, fun j hj hji => by
          by_cases e : j = i
          · subst e; exact fun e2 => Hne.out (Hz.out.trans e2)
          · exact hno.out j hj (Nat.lt_of_le_of_ne (Nat.le_of_lt_succ hji) e), Hb.out⟩
        case measure =>
          first | rw [w1] | skip
          exact meas_w l.length i Hi.out
    · obtain rfl : i = l.length := Nat.le_antisymm hi (Nat.le_of_not_lt hil)
      have x1 : ¬ (l.length : Int) < (l.length : Int) := by omega
      have hf : findI l id = none := findI_no fun p hp => by
        obtain ⟨j, hj, rfl⟩ := List.mem_iff_getElem.1 hp
        exact hno.out j hj hj
      have hv : findV l id = -1 := by unfold findV; rw [hf]
      have Hv := Lib.hid hv
      clear hf hv hil
      go_wp2_with fail
      go_ret
      exact ⟨ret_int (by rw [Hv.out]), hb⟩
set_option maxRecDepth 100000 in
set_option maxHeartbeats 2000000 in
/-- all but the one at a place -/
theorem without_any (W : World) (ao : Option Addr) (cap : Nat) (l : RLs) (k : Nat) (h : Rt W ao cap l) (hl : l.length ≤ 10000) (hk : k < l.length) :
    Calls Try.prog 54 #[.slice ao l.length cap, .int .i64 (k : Nat)] W fun e W' => ∃ ao' cap', e = .returned (.slice ao' (l.length - 1) cap') ∧ W'.ownsRow W.heap.size rtT 4 (.slice ao' (l.length - 1) cap') (l.length - 1) (rtFlat (l.take k ++ l.drop (k + 1))) ∧ Below W.heap.size W W' := by
  have hic := h.sl.le
  have P1 := h.piece 0 k (Nat.zero_le _) (Nat.le_of_lt hk)
  have P2 := h.piece (k + 1) l.length hk (Nat.le_refl _)
  have hs1 := fun W => run_slice_sl (P := Try.prog) (w := W) Try.underlying46 szRt ao l.length cap none (some (.int .i64 (k : Nat))) 0 k (.inr ⟨rfl, rfl⟩) (.inl rfl) (Nat.zero_le _) (Nat.le_trans (Nat.le_of_lt hk) hic)
  have hs2 := fun W => run_slice_sl (P := Try.prog) (w := W) Try.underlying46 szRt ao l.length cap (some (.int .i64 ((k + 1 : Nat) : Int))) none (k + 1) l.length (.inl rfl) (.inr ⟨rfl, rfl⟩) hk hic
  obtain ⟨a1, ha1⟩ : ∃ a1, a1 = (if cap = 0 then ao else ao.map (·.add (0 * 4))) := ⟨_, rfl⟩
  rw [← ha1] at P1 hs1
  obtain ⟨a2, ha2⟩ : ∃ a2, a2 = (if cap = k + 1 then ao else ao.map (·.add ((k + 1) * 4))) := ⟨_, rfl⟩
  rw [← ha2] at P2 hs2
  simp only [Nat.sub_zero, List.drop_zero] at P1 hs1
  rw [List.take_length] at P2
  obtain ⟨m, hm⟩ : ∃ m, m = l.length - (k + 1) := ⟨_, rfl⟩
  rw [← hm] at P2 hs2
  have hm2 : k + m = l.length - 1 := by omega
  have w1 : wrap64 ((k : Int) + 1) = ((k + 1 : Nat) : Int) := by rw [IntWalk.wrap64_in _ (by omega)]; simp
  have hs2' : ∀ W, (Instr.sliceAt 46 (.slice ao l.length cap) (some (.int .i64 ((k : Int) + 1))) none none).run Try.prog W = .ok (.slice a2 m (cap - (k + 1))) W := fun W => by have := hs2 W; simpa using this
  have P1 := Lib.hid P1
  have P2 := Lib.hid P2
  have Hm2 := Lib.hid hm2
  have hk6 : k + m ≤ 10000 := by omega
  clear hm ha1 ha2 hm2
  go_enter Try.func54, Try.ntmps54
  go_wp2_with (first
    | (at_builtin; refine wpl_append rfl (.tmp 6) (.tmp 9) rtsT rfl W.heap.size rtT infoRt Try.underlying46 rfl (by decide) _ 0 [] rfl (own_empty W W.heap.size _ 4 (Nat.le_refl _)) _ _ _ _ rfl (P1.out.below (below_new _ _)) (rts_one _) ?_ ?_ ?_ ?_; (unfold maxLen; omega); omega; exact (below_new _ _).size; intro ao1 cap1 w1 hown1 hg1; rw [Nat.zero_add, List.nil_append] at hown1; have hb1 := below_app (below_new _ _) hg1 (own_empty W W.heap.size _ 4 (Nat.le_refl _)) (Nat.le_refl _) (below_new _ _).size; have hz1 := hb1.size; have Hown1 := Lib.hid hown1; have Hb1 := Lib.hid hb1; clear hown1 hb1 hg1)
    | (at_builtin; refine wpl_append rfl (.tmp 11) (.tmp 15) rtsT rfl W.heap.size rtT infoRt Try.underlying46 rfl (by decide) _ k _ rfl Hown1.out _ _ _ _ rfl (P2.out.below Hb1.out) (rts_one _) ?_ ?_ ?_ ?_; (unfold maxLen; omega); omega; exact hz1; intro ao3 cap3 w3 hown3 hg3; have hb3 := below_app Hb1.out hg3 Hown1.out (Nat.le_refl _) hz1; have Hown3 := Lib.hid hown3; have Hb3 := Lib.hid hb3; clear hown3 hb3 hg3))
  go_ret
  have h3 := Hown3.out
  rw [Hm2.out, ← rt_two] at h3
  exact ⟨ao3, cap3, by rw [← Hm2.out]; rfl, h3, Hb3.out⟩
theorem zeroRt (w : World) : (zeroValue rtT).run Try.prog w = .ok (.agg #[.int .u64 0, .int .u64 0, .int .i64 0, .int .i64 0]) w := by kernel_rfl
/-- Plain -/
theorem plain_any (W : World) (t : Th) : Calls Try.prog 36 #[thVal t] W fun e W' => e = .returned (rtVal (t, 0)) ∧ Below W.heap.size W W' := by
  obtain ⟨ti, tg, td⟩ := t
  obtain ⟨W1, hW1⟩ : ∃ W1, W1 = (W.alloc (.cells #[.int .u64 ti, .int .u64 tg, .int .i64 td] thT)).alloc (.cells #[.int .u64 0, .int .u64 0, .int .i64 0, .int .i64 0] rtT) := ⟨_, rfl⟩
  have hB1 : Below W.heap.size W W1 := by rw [hW1]; exact below_on (below_new _ _) (below_new _ _) (Nat.le_refl _)
  have hzr := zeroRt
  unfold thVal
  have ht : ((W.alloc (.cells #[.int .u64 ti, .int .u64 tg, .int .i64 td] thT)).alloc (.cells #[.int .u64 ti, .int .u64 tg, .int .i64 td, .int .i64 0] rtT)).heap[W.heap.size + 1]? = some (.cells #[.int .u64 ti, .int .u64 tg, .int .i64 td, .int .i64 0] rtT (0, 0)) := by
    have := heap_alloc_new (W.alloc (.cells #[.int .u64 ti, .int .u64 tg, .int .i64 td] thT)) (.cells #[.int .u64 ti, .int .u64 tg, .int .i64 td, .int .i64 0] rtT)
    simpa using this
  have hb : Below W.heap.size W ((W.alloc (.cells #[.int .u64 ti, .int .u64 tg, .int .i64 td] thT)).alloc (.cells #[.int .u64 ti, .int .u64 tg, .int .i64 td, .int .i64 0] rtT)) := below_on (below_new _ _) (below_new _ _) (Nat.le_refl _)
  obtain ⟨W5, hW5⟩ : ∃ W5, W5 = (W.alloc (.cells #[.int .u64 ti, .int .u64 tg, .int .i64 td] thT)).alloc (.cells #[.int .u64 ti, .int .u64 tg, .int .i64 td, .int .i64 0] rtT) := ⟨_, rfl⟩
  rw [← hW5] at ht hb
  have c0 := block_cell ht 0
  have c1 := block_cell ht 1
  have c2 := block_cell ht 2
  have c3 := block_cell ht 3
  simp at c0 c1 c2 c3
  have Hc := Lib.hid (⟨c0, c1, c2, c3⟩ : _ ∧ _ ∧ _ ∧ _)
  clear c0 c1 c2 c3 hB1 hW1 ht
  go_enter Try.func36, Try.ntmps36
  go_wp2_with fail
  rw [← hW5]
  refine bodyPost_ret (v := rtVal (⟨ti, tg, td⟩, 0)) ?_ rfl ⟨rfl, hb⟩
  obtain ⟨c0, c1, c2, c3⟩ := Hc.out
  simp [results, Try.results36, go_sem, rtVal, c0, c1, c2, c3]
end Go.Proofs.Ytadghaiengonoaa
