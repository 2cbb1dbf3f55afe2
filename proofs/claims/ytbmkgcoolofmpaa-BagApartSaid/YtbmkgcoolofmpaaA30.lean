/- Lemmas for BagApart (Bk Bm). No statement of the seat is proved here. -/
import Derived.Laws.Externs
import Derived.Test.YtbmkgcoolofmpaaA20
import Derived.Test.YtbmkgcoolofmpaaA22
namespace Go.Proofs.Ytbmkgcoolofmpaa
set_option linter.unusedVariables false
set_option linter.unusedSimpArgs false
set_option linter.unusedSectionVars false
open Go Go.RowKit Go.Maps Go.Shelf
theorem ap_wpo {P : Program} {W W' : World} {o : Oper} {a : Act} {K : Act → World → Prop} {Q : Exit → Act → World → Prop} {d s : Operand} {t t' : TypeId} (ho : o.op = .call { callee := .builtin .append, args := #[d, s], argTypes := #[t, t'] }) {v u x : Value} (hd : a.eval d = v) (hs : a.eval s = u)
    (hr : (Builtin.append_ #[t, t'] o.type #[v, u]).run P W = .ok x W') (h : K (a.put o.dst x) W') : o.wp P a W K Q := by
  unfold Oper.wp execOp
  simp only [ho, resolve, invoke, builtin, Sem.run_bind, Sem.run_pure, Result.andThen_ok, List.map_toArray, List.map_cons, List.map_nil, hd, hs, hr]
  exact h
theorem ne_succ (k : Nat) : (((k : Nat) : Int) == (k : Int) + 1) = false := by simp; omega
set_option maxRecDepth 100000 in
theorem sdel_o (W : World) (base g cap N M k : Nat) (l : List Lt) (hN : N = l.length) (hM : N = M + 1) (hk : k ≤ M) (hN1 : N ≤ 512) (ho : W.ownsRow base ltT 3 (.slice (some ⟨g, 0, none⟩) N cap) N (ltFlat l)) :
    Calls Try.prog 35 #[.slice (some ⟨g, 0, none⟩) N cap, .int .i64 (k : Nat), .int .i64 ((k : Int) + 1)] W fun e W' => e = .returned (.slice (some ⟨g, 0, none⟩) M cap) ∧ W'.ownsRow base ltT 3 (.slice (some ⟨g, 0, none⟩) M cap) M (ltFlat (l.take k ++ l.drop (k + 1))) ∧ W.grownBy W' (some g) ∧ N ≤ cap := by
  obtain ⟨W2, W3, sp3, v1, m1, m2, m3, m4, m5, m6, ho3, hg3, hg2, hle⟩ := del_mem W base g cap N M k l hN hM hk hN1 ho
  have q1 := ne_succ k
  have Hm := Lib.hid (And.intro m2 (And.intro m3 m4))
  have HR := Lib.hid (And.intro ho3 (And.intro hg3 hle))
  clear ho3 hg3 hg2 hle m2 m3 m4 hN hM hk hN1 ho
  go_enter Try.func35, Try.ntmps35
  go_upto_region 5 with fail
  refine wp_region_held_drew (S := fun _ => True) (by kernel_rfl) trivial (fun hHeld => ?_)
  refine wpAnyH_take (i := 0) (v := ?_) rfl (by kernel_rfl) (by kernel_rfl) (by kernel_rfl) (fun _ _ _ h => h) (Or.inl ⟨by rfl, ?_⟩) (by assumption) ?_
  rotate_left
  · intro w8 hSw; clear hSw; go_simp; (try with_reducible rfl)
  simp only [Act.put, List.getElem_toArray, List.getElem_cons_zero, List.getElem_cons_succ, List.setIfInBounds_toArray, List.set_cons_zero, List.set_cons_succ]
  refine wpAnyH_take (i := 1) (v := ?_) rfl (by kernel_rfl) (by kernel_rfl) (by kernel_rfl) (fun _ _ _ h => h) (Or.inl ⟨by rfl, ?_⟩) (by assumption) ?_
  rotate_left
  · intro w8 hSw; clear hSw; go_simp; (try with_reducible rfl)
  simp only [Act.put, List.getElem_toArray, List.getElem_cons_zero, List.getElem_cons_succ, List.setIfInBounds_toArray, List.set_cons_zero, List.set_cons_succ]
  refine wpAnyH_take (i := 2) (v := .slice (some ⟨g, 0, none⟩) k cap) rfl (by kernel_rfl) (by kernel_rfl) (by kernel_rfl) (fun _ _ _ h => h) (Or.inl ⟨by rfl, ?_⟩) (by assumption) ?_
  · intro w8 hSw; exact sl_hi rfl (Hm.out.1 w8) rfl rfl
  simp only [Act.put, List.getElem_toArray, List.getElem_cons_zero, List.getElem_cons_succ, List.setIfInBounds_toArray, List.set_cons_zero, List.set_cons_succ]
  refine wpAnyH_take (i := 3) (v := ?_) rfl (by kernel_rfl) (by kernel_rfl) (by kernel_rfl) (fun _ _ _ h => h) (Or.inl ⟨by rfl, ?_⟩) (by assumption) ?_
  rotate_left
  · intro w8 hSw; clear hSw; go_simp; (try with_reducible rfl)
  simp only [Act.put, List.getElem_toArray, List.getElem_cons_zero, List.getElem_cons_succ, List.setIfInBounds_toArray, List.set_cons_zero, List.set_cons_succ]
  refine wpAnyH_take (i := 4) (v := ?_) rfl (by kernel_rfl) (by kernel_rfl) (by kernel_rfl) (fun _ _ _ h => h) (Or.inl ⟨by rfl, ?_⟩) (by assumption) ?_
  rotate_left
  · intro w8 hSw; clear hSw; go_simp; (try with_reducible rfl)
  simp only [Act.put, List.getElem_toArray, List.getElem_cons_zero, List.getElem_cons_succ, List.setIfInBounds_toArray, List.set_cons_zero, List.set_cons_succ]
  refine wpAnyH_take (i := 5) (v := .slice sp3 (N - (k + 1)) (cap - (k + 1))) rfl (by kernel_rfl) (by kernel_rfl) (by kernel_rfl) (fun _ _ _ h => h) (Or.inl ⟨by rfl, ?_⟩) (by assumption) ?_
  · intro w8 hSw; exact sl_lo rfl (Hm.out.2.1 w8) rfl rfl
  simp only [Act.put, List.getElem_toArray, List.getElem_cons_zero, List.getElem_cons_succ, List.setIfInBounds_toArray, List.set_cons_zero, List.set_cons_succ]
  refine wpAnyH_ready (rs := [6]) (by kernel_rfl) (by simp) ?_
  refine AllReadyH.cons rfl (fun K hK => ?_) AllReadyH.nil
  refine ap_wpo rfl rfl rfl (Hm.out.2.2 _) ?_
  refine hK.out _ _ trivial (fun hHeld => ?_)
  clear hK K
  try simp only [Act.put, List.getElem_toArray, List.getElem_cons_zero, List.getElem_cons_succ, List.setIfInBounds_toArray, List.set_cons_zero, List.set_cons_succ]
  refine wpAnyH_take (i := 7) (v := ?_) rfl (by kernel_rfl) (by kernel_rfl) (by kernel_rfl) (fun _ _ _ h => h) (Or.inl ⟨by rfl, ?_⟩) (by assumption) ?_
  rotate_left
  · intro w8 hSw; clear hSw; go_simp; (try with_reducible rfl)
  simp only [Act.put, List.getElem_toArray, List.getElem_cons_zero, List.getElem_cons_succ, List.setIfInBounds_toArray, List.set_cons_zero, List.set_cons_succ]
  refine wpAnyH_done (by kernel_rfl) ?_ _
  go_wp2_with fail
  go_ret
  exact ⟨rfl, HR.out⟩
set_option maxRecDepth 100000 in
theorem sins_mid (W : World) (base g cap M i : Nat) (l : List Lt) (x : Lt) (hM : M = l.length) (hi : i < M) (hcap : M + 1 ≤ cap) (hM5 : M ≤ 512) (ho : W.ownsRow base ltT 3 (.slice (some ⟨g, 0, none⟩) M cap) M (ltFlat l)) (vb : Nat)
    (hvb : W.heap[vb]? = some (.cells #[.int .i64 x.m.frm, .int .i64 x.m.dst, .slice x.ao (wireB x.m).length x.ac] ltT (0, 0))) (hne : vb ≠ g) :
    Calls Try.prog 36 #[.slice (some ⟨g, 0, none⟩) M cap, .int .i64 (i : Nat), .slice (some ⟨vb, 0, none⟩) 1 1] W fun e W' => e = .returned (.slice (some ⟨g, 0, none⟩) (M + 1) cap) ∧ W'.ownsRow base ltT 3 (.slice (some ⟨g, 0, none⟩) (M + 1) cap) (M + 1) (ltFlat (l.take i ++ [x] ++ l.drop i)) ∧ W.grownBy W' (some g) := by
  obtain ⟨W2, W3, v1, m1, m2, m3, m4, m5, m6, m7, ho3, hg3⟩ := ins_mem W base g cap M i l x hM hi hcap hM5 ho vb hvb hne
  obtain ⟨q1, q2, q3, q4⟩ : (((i : Nat) : Int) == (M : Int)) = false ∧ wrap64 ((M : Int) + 1) = (M : Int) + 1 ∧ wrap64 ((i : Int) + 1) = (i : Int) + 1 ∧ ¬ ((M : Int) + 1 > (cap : Nat)) := by
    refine ⟨by simp; omega, by rw [IntWalk.wrap64_in _ (by omega)], by rw [IntWalk.wrap64_in _ (by omega)], by omega⟩
  have Hadd := Lib.hid (add_one i (by omega))
  have Hm := Lib.hid (And.intro m3 (And.intro m5 m6))
  have HR := Lib.hid (And.intro ho3 hg3)
  have M4 := Lib.hid m4
  have M7 := Lib.hid m7
  clear ho3 hg3 hM hi hcap hM5 ho hvb hne m4 m6 m7
  go_enter Try.func36, Try.ntmps36
  go_wp2_with fail
  rw [run_callFunc_extern Try.func59 (by kernel_rfl) (by kernel_rfl) (by kernel_rfl) (e := Extern.SlicesOverlaps.overlaps #[ltsT, ltsT] #[4]) (by kernel_rfl), M4.out]
  simp only [Result.andThen]
  rw [Oper.upon_value]
  go_upto_region 15 with fail
  clear m1 m2 m3 m5
  refine wp_region_held_drew (S := fun _ => True) (by kernel_rfl) trivial (fun hHeld => ?_)
  refine wpAnyH_take (i := 0) (v := ?_) rfl (by kernel_rfl) (by kernel_rfl) (by kernel_rfl) (fun _ _ _ h => h) (Or.inl ⟨by rfl, ?_⟩) (by assumption) ?_
  rotate_left
  · intro w8 hSw; clear hSw; go_simp; (try with_reducible rfl)
  simp only [Act.put, List.getElem_toArray, List.getElem_cons_zero, List.getElem_cons_succ, List.setIfInBounds_toArray, List.set_cons_zero, List.set_cons_succ]
  refine wpAnyH_take (i := 1) (v := ?_) rfl (by kernel_rfl) (by kernel_rfl) (by kernel_rfl) (fun _ _ _ h => h) (Or.inl ⟨by rfl, ?_⟩) (by assumption) ?_
  rotate_left
  · intro w8 hSw; clear hSw; go_simp; (try with_reducible rfl)
  simp only [Act.put, List.getElem_toArray, List.getElem_cons_zero, List.getElem_cons_succ, List.setIfInBounds_toArray, List.set_cons_zero, List.set_cons_succ]
  refine wpAnyH_take (i := 2) (v := ?_) rfl (by kernel_rfl) (by kernel_rfl) (by kernel_rfl) (fun _ _ _ h => h) (Or.inl ⟨by rfl, ?_⟩) (by assumption) ?_
  rotate_left
  · intro w8 hSw; clear hSw; go_simp; (try with_reducible rfl)
  simp only [Act.put, List.getElem_toArray, List.getElem_cons_zero, List.getElem_cons_succ, List.setIfInBounds_toArray, List.set_cons_zero, List.set_cons_succ]
  refine wpAnyH_take (i := 3) (v := .int .i64 ((i : Int) + 1)) rfl (by kernel_rfl) (by kernel_rfl) (by kernel_rfl) (fun _ _ _ h => h) (Or.inl ⟨by rfl, ?_⟩) (by assumption) ?_
  · intro w8 hSw; exact bin_take rfl rfl (Hadd.out w8) rfl rfl
  simp only [Act.put, List.getElem_toArray, List.getElem_cons_zero, List.getElem_cons_succ, List.setIfInBounds_toArray, List.set_cons_zero, List.set_cons_succ]
  refine wpAnyH_take (i := 4) (v := .slice (some ⟨g, (i + 1) * 3, none⟩) (M - i) (cap - (i + 1))) rfl (by kernel_rfl) (by kernel_rfl) (by kernel_rfl) (fun _ _ _ h => h) (Or.inl ⟨by rfl, ?_⟩) (by assumption) ?_
  · intro w8 hSw; exact sl_lo rfl (Hm.out.1 w8) rfl rfl
  simp only [Act.put, List.getElem_toArray, List.getElem_cons_zero, List.getElem_cons_succ, List.setIfInBounds_toArray, List.set_cons_zero, List.set_cons_succ]
  refine wpAnyH_take (i := 5) (v := ?_) rfl (by kernel_rfl) (by kernel_rfl) (by kernel_rfl) (fun _ _ _ h => h) (Or.inl ⟨by rfl, ?_⟩) (by assumption) ?_
  rotate_left
  · intro w8 hSw; clear hSw; go_simp; (try with_reducible rfl)
  simp only [Act.put, List.getElem_toArray, List.getElem_cons_zero, List.getElem_cons_succ, List.setIfInBounds_toArray, List.set_cons_zero, List.set_cons_succ]
  refine wpAnyH_take (i := 6) (v := ?_) rfl (by kernel_rfl) (by kernel_rfl) (by kernel_rfl) (fun _ _ _ h => h) (Or.inl ⟨by rfl, ?_⟩) (by assumption) ?_
  rotate_left
  · intro w8 hSw; clear hSw; go_simp; (try with_reducible rfl)
  simp only [Act.put, List.getElem_toArray, List.getElem_cons_zero, List.getElem_cons_succ, List.setIfInBounds_toArray, List.set_cons_zero, List.set_cons_succ]
  refine wpAnyH_take (i := 7) (v := .slice (some ⟨g, i * 3, none⟩) (M + 1 - i) (cap - i)) rfl (by kernel_rfl) (by kernel_rfl) (by kernel_rfl) (fun _ _ _ h => h) (Or.inl ⟨by rfl, ?_⟩) (by assumption) ?_
  · intro w8 hSw; exact sl_lo rfl (Hm.out.2.1 w8) rfl rfl
  simp only [Act.put, List.getElem_toArray, List.getElem_cons_zero, List.getElem_cons_succ, List.setIfInBounds_toArray, List.set_cons_zero, List.set_cons_succ]
  refine wpAnyH_ready (rs := [8]) (by kernel_rfl) (by simp) ?_
  refine AllReadyH.cons rfl (fun K hK => ?_) AllReadyH.nil
  refine cp_wpo rfl rfl rfl (Hm.out.2.2 _) ?_
  refine hK.out _ _ trivial (fun hHeld => ?_)
  clear hK K
  try simp only [Act.put, List.getElem_toArray, List.getElem_cons_zero, List.getElem_cons_succ, List.setIfInBounds_toArray, List.set_cons_zero, List.set_cons_succ]
  refine wpAnyH_done (by kernel_rfl) ?_ _
  have m5 := Hm.out.2.1
  have m7 := M7.out
  go_wp2_with fail
  go_ret
  exact ⟨rfl, HR.out⟩
set_option maxRecDepth 100000 in
theorem sins_end (W : World) (base g cap M : Nat) (l : List Lt) (x : Lt) (hM : M = l.length) (hcap : M + 1 ≤ cap) (hM5 : M ≤ 512) (ho : W.ownsRow base ltT 3 (.slice (some ⟨g, 0, none⟩) M cap) M (ltFlat l)) (vb : Nat)
    (hvb : W.heap[vb]? = some (.cells #[.int .i64 x.m.frm, .int .i64 x.m.dst, .slice x.ao (wireB x.m).length x.ac] ltT (0, 0))) (hne : vb ≠ g) :
    Calls Try.prog 36 #[.slice (some ⟨g, 0, none⟩) M cap, .int .i64 (M : Nat), .slice (some ⟨vb, 0, none⟩) 1 1] W fun e W' => e = .returned (.slice (some ⟨g, 0, none⟩) (M + 1) cap) ∧ W'.ownsRow base ltT 3 (.slice (some ⟨g, 0, none⟩) (M + 1) cap) (M + 1) (ltFlat (l ++ [x])) ∧ W.grownBy W' (some g) := by
  obtain ⟨ii, hii1, hii2, hii3, hii4⟩ := info_parts infoLt
  have hsz3 : (Try.prog.info? ltT).map (·.size) = some 3 := by rw [hii1]; simp [hii3]
  have hle : M ≤ cap := by omega
  have m1 := fun W => run_slice_sl (P := Try.prog) (w := W) Try.underlying46 hsz3 (some ⟨g, 0, none⟩) M cap (some (.int .i64 (M : Nat))) none M M (.inl rfl) (.inr ⟨rfl, rfl⟩) (Nat.le_refl _) hle
  obtain ⟨v1, hv1⟩ : ∃ v1, v1 = Value.slice (if cap = M then (some ⟨g, 0, none⟩ : Option Addr) else (some ⟨g, 0, none⟩ : Option Addr).map (·.add (M * 3))) (M - M) (cap - M) := ⟨_, rfl⟩
  rw [← hv1] at m1
  obtain ⟨W2, m2, ho2, hg2⟩ : ∃ W2, (∀ ty, (Builtin.append_ #[ltsT, ltsT] ty #[.slice (some ⟨g, 0, none⟩) M cap, .slice (some ⟨vb, 0, none⟩) 1 1]).run Try.prog W = .ok (.slice (some ⟨g, 0, none⟩) (M + 1) cap) W2) ∧ W2.ownsRow base ltT 3 (.slice (some ⟨g, 0, none⟩) (M + 1) cap) (M + 1) (ltFlat l ++ ltCells x) ∧ W.grownBy W2 (some g) := by
    obtain ⟨W2, hr, ho2, hg2⟩ := run_append_fits (P := Try.prog) (w := W) base ltsT ltsT ltT ii 3 Try.underlying46 hii1 hii3 g M cap _ ho ⟨vb, 0, none⟩ 1 1 (ltCells x) rfl (fun j u hu => by
      rw [Addr.add_none, block_cell hvb, Nat.zero_add]
      simpa [ltCells] using hu) (lt_one x) hcap
    exact ⟨W2, fun ty => hr, ho2, hg2⟩
  have e9 : ltFlat l ++ ltCells x = ltFlat (l ++ [x]) := by simp [ltFlat]
  rw [e9] at ho2
  have q1 : (((M : Nat) : Int) == (M : Int)) = true := by simp
  have HR := Lib.hid (And.intro ho2 hg2)
  clear ho2 hg2 hM hcap hM5 ho hvb hne hv1 hle
  go_enter Try.func36, Try.ntmps36
  go_wp2_with (at_builtin; refine wpl_of rfl fun K hK => ap_wpo rfl rfl rfl (m2 _) (hK _ _ ?_))
  go_ret
  exact ⟨rfl, HR.out⟩
theorem sins_o (W : World) (base g cap M i : Nat) (l : List Lt) (x : Lt) (hM : M = l.length) (hi : i ≤ M) (hcap : M + 1 ≤ cap) (hM5 : M ≤ 512) (ho : W.ownsRow base ltT 3 (.slice (some ⟨g, 0, none⟩) M cap) M (ltFlat l)) (vb : Nat)
    (hvb : W.heap[vb]? = some (.cells #[.int .i64 x.m.frm, .int .i64 x.m.dst, .slice x.ao (wireB x.m).length x.ac] ltT (0, 0))) (hne : vb ≠ g) :
    Calls Try.prog 36 #[.slice (some ⟨g, 0, none⟩) M cap, .int .i64 (i : Nat), .slice (some ⟨vb, 0, none⟩) 1 1] W fun e W' => e = .returned (.slice (some ⟨g, 0, none⟩) (M + 1) cap) ∧ W'.ownsRow base ltT 3 (.slice (some ⟨g, 0, none⟩) (M + 1) cap) (M + 1) (ltFlat (l.take i ++ [x] ++ l.drop i)) ∧ W.grownBy W' (some g) := by
  by_cases h : i = M
  · subst h
    have e : l.take i ++ [x] ++ l.drop i = l ++ [x] := by
      rw [hM, List.take_length, List.drop_length, List.append_nil]
    rw [e]
    exact sins_end W base g cap i l x hM hcap hM5 ho vb hvb hne
  · exact sins_mid W base g cap M i l x hM (by omega) hcap hM5 ho vb hvb hne
end Go.Proofs.Ytbmkgcoolofmpaa
namespace Go.Proofs.Ytbmkgcoolofmpaa
set_option linter.unusedVariables false
set_option linter.unusedSimpArgs false
set_option linter.unusedSectionVars false
open Go Go.RowKit Go.Maps Go.Shelf
/-- the letter at k gets another place -/
def moveL {α : Type} (l : List α) (k t : Nat) (hk : k < l.length) : List α := (l.take k ++ l.drop (k + 1)).take t ++ [l[k]] ++ (l.take k ++ l.drop (k + 1)).drop t
theorem nums_move {k t N M r : Nat} (h1 : N = M + 1) (h2 : k < N) (h3 : t < N) (h4 : N ≤ r ∧ r ≤ 512) : k ≤ M ∧ t ≤ M ∧ N ≤ 512 ∧ M ≤ 512 ∧ wrap64 ((k : Int) + 1) = (k : Int) + 1 ∧ (0 : Int) ≤ (k : Int) ∧ (k : Int) < (N : Int) := by
  refine ⟨by omega, by omega, by omega, by omega, ?_, by omega, by omega⟩
  rw [IntWalk.wrap64_in _ (by omega)]
theorem len3 {a b : Nat} (h : a * 3 = b * 3) : a = b := by omega
theorem mem_move {l : List Lt} {k t : Nat} {x y : Lt} (hy : y ∈ (l.take k ++ l.drop (k + 1)).take t ++ [x] ++ (l.take k ++ l.drop (k + 1)).drop t) (hx : x ∈ l) : y ∈ l := by
  have h2 : ∀ z, z ∈ l.take k ++ l.drop (k + 1) → z ∈ l := fun z hz => by
    rcases List.mem_append.1 hz with h | h
    · exact List.mem_of_mem_take h
    · exact List.mem_of_mem_drop h
  rcases List.mem_append.1 hy with h | h
  · rcases List.mem_append.1 h with h | h
    · exact h2 y (List.mem_of_mem_take h)
    · simp only [List.mem_singleton] at h; subst h; exact hx
  · exact h2 y (List.mem_of_mem_drop h)
theorem own_some {W : World} {base n cap : Nat} {ao : Option Addr} {xs : List Value} (h : W.ownsRow base ltT 3 (.slice ao n cap) n xs) (hn : 0 < n) : ∃ g, ao = some ⟨g, 0, none⟩ := by
  rcases h.2 with ⟨h0, h1⟩ | ⟨g', cap', cur, hv, _⟩
  · omega
  · simp only [Value.slice.injEq] at hv; exact ⟨g', hv.1⟩
section
variable {base : Nat} {W W' : World} {F : Nat → Prop} {b room : Nat} {T : Int → Bool} {l : List Lt}
theorem bmove_no (h : Bg base W F b room T l) (k t : Int) (hk : ¬ ((0 ≤ k ∧ k < (l.length : Nat)) ∧ 0 ≤ t ∧ t < (l.length : Nat))) : Calls Try.prog 15 #[.pointer (some ⟨b, 0, none⟩), .int .i64 k, .int .i64 t] W fun e W' => e = .returned (.bool false) ∧ W' = W := by
  have Hk := Lib.hid (bhas_o h k)
  have Ht := Lib.hid (bhas_o h t)
  by_cases h1 : 0 ≤ k ∧ k < (l.length : Nat)
  · have h2 : ¬ (0 ≤ t ∧ t < (l.length : Nat)) := fun e => hk ⟨h1, e⟩
    rw [decide_eq_true h1] at Hk
    rw [decide_eq_false h2] at Ht
    clear h1 h2 hk h
    go_enter Try.func15, Try.ntmps15
    go_wp2_with fail
    refine Hk.out.mono ?_
    rintro e V1 ⟨rfl, hv⟩
    subst V1
    go_wp2_with fail
    refine Ht.out.mono ?_
    rintro e V1 ⟨rfl, hv⟩
    subst V1
    go_wp2_with fail
    go_ret
    exact ⟨rfl, rfl⟩
  · rw [decide_eq_false h1] at Hk
    clear h1 hk h Ht
    go_enter Try.func15, Try.ntmps15
    go_wp2_with fail
    refine Hk.out.mono ?_
    rintro e V1 ⟨rfl, hv⟩
    subst V1
    go_wp2_with fail
    go_ret
    exact ⟨rfl, rfl⟩
set_option maxRecDepth 100000 in
set_option maxHeartbeats 4000000 in
theorem bmove_yes (h : Bg base W F b room T l) (k t : Nat) (hk : k < l.length) (ht : t < l.length) : Calls Try.prog 15 #[.pointer (some ⟨b, 0, none⟩), .int .i64 (k : Nat), .int .i64 (t : Nat)] W fun e W' => e = .returned (.bool true) ∧ Bgx base W F b room T (moveL l k t hk) W' := by
  have Hk := Lib.hid (bhas_o h k)
  have Ht := Lib.hid (bhas_o h t)
  rw [decide_eq_true (⟨by omega, by omega⟩ : (0 : Int) ≤ (k : Nat) ∧ ((k : Nat) : Int) < (l.length : Nat))] at Hk
  rw [decide_eq_true (⟨by omega, by omega⟩ : (0 : Int) ≤ (t : Nat) ∧ ((t : Nat) : Int) < (l.length : Nat))] at Ht
  obtain ⟨L, hL⟩ : ∃ L, L = moveL l k t hk := ⟨_, rfl⟩
  obtain ⟨x, hx⟩ : ∃ x, x = l[k] := ⟨_, rfl⟩
  obtain ⟨l2, hl2⟩ : ∃ l2, l2 = l.take k ++ l.drop (k + 1) := ⟨_, rfl⟩
  have hL2 : L = l2.take t ++ [x] ++ l2.drop t := by rw [hL, hx, hl2]; rfl
  rw [← hL]
  obtain ⟨M, hM⟩ : ∃ M, l.length = M + 1 := ⟨l.length - 1, by omega⟩
  obtain ⟨N, hN⟩ : ∃ N, N = l.length := ⟨_, rfl⟩
  have hNM : N = M + 1 := hN.trans hM
  have HBG := Lib.hid h
  obtain ⟨m, n, ao, cap, h1, h2, h3, h4, h5, h6, h7, h8, h9⟩ := h
  obtain ⟨hkM, htM, hN5, hM5, w1, i0, i1⟩ := nums_move hNM (by rw [hN]; exact hk) (by rw [hN]; exact ht) (by rw [hN]; exact ⟨h8, h9⟩)
  have hxm : x ∈ l := by rw [hx]; exact List.getElem_mem hk
  have hcc := cut_cells l k M hM hkM
  have hl2len : l2.length = M := by rw [hl2]; exact hcc.len
  obtain ⟨g, fx, rfl, hgl, c0, c1, c2⟩ := lt_cells h2 k hk
  rw [← hx] at c0 c1 c2
  have e2 := block_cell h1 2
  have el := bx_lt h1
  simp at e2
  rw [← hN] at e2
  -- the box of the letter
  obtain ⟨V1, hV1⟩ : ∃ V, V = W.alloc (.cells #[.int .i64 x.m.frm, .int .i64 x.m.dst, .slice x.ao (wireB x.m).length x.ac] ltT) := ⟨_, rfl⟩
  obtain ⟨p1, hp1⟩ : ∃ p, p = W.heap.size := ⟨_, rfl⟩
  have hb1 : Below W.heap.size W V1 := by rw [hV1]; exact below_new _ _
  have hx1 : V1.heap[p1]? = some (.cells #[.int .i64 x.m.frm, .int .i64 x.m.dst, .slice x.ao (wireB x.m).length x.ac] ltT (0, 0)) := by rw [hV1, hp1]; exact heap_alloc_new _ _
  have Hcl := sclone_o V1 base cap _ l (own_below h2 hb1) (by rw [← hN]; exact hN5)
  rw [← hN] at Hcl
  have Hcl := Lib.hid Hcl
  have e2' := (hb1.cell (p := ⟨b, 2, none⟩) el).trans e2
  have el' := Nat.lt_of_lt_of_le el hb1.size
  have HB1 := Lib.hid hb1
  have HX1 := Lib.hid hx1
  have HE := Lib.hid (And.intro e2 el)
  have Hh := Lib.hid (And.intro h1 (And.intro h3 (And.intro h4 (And.intro h5 (And.intro h6 (And.intro h7 (And.intro h8 h9)))))))
  have HN := Lib.hid (And.intro hNM (And.intro hkM (And.intro htM (And.intro hN5 (And.intro hM5 (And.intro hN (And.intro hl2 hl2len)))))))
  have HL := Lib.hid hL2
  have Hxm := Lib.hid hxm
  clear h1 h2 h3 h4 h5 h6 h7 h8 h9 hb1 hx1 hNM hkM htM hN5 hM5 hN hM hl2 hl2len hcc hx hL hL2 hk ht hxm
  go_enter Try.func15, Try.ntmps15
  go_wp2_with fail
  refine (show Calls _ _ _ _ _ from Hk.out).mono ?_
  rintro e V0 ⟨rfl, hv⟩
  subst V0
  go_wp2_with fail
  refine (show Calls _ _ _ _ _ from Ht.out).mono ?_
  rintro e V0 ⟨rfl, hv⟩
  subst V0
  go_upto_region 4 with fail
  rw [← hV1, ← hp1]
  clear hV1 hp1 c0 c1 c2 e2 el hgl
  go_wp2_with fail
  refine (show Calls _ _ _ _ _ from Hcl.out).mono ?_
  rintro e V2 ⟨a2, cc2, rfl, ho2, hb2⟩
  obtain ⟨g2, rfl⟩ := own_some ho2 (by rw [HN.out.1]; exact Nat.succ_pos M)
  have hg2 := ho2.lt g2 rfl
  have hd := Lib.hid (sdel_o V2 V1.heap.size g2 cc2 N M k l HN.out.2.2.2.2.2.1 HN.out.1 HN.out.2.1 HN.out.2.2.2.1 ho2)
  have HB2 := Lib.hid hb2
  have HG2 := Lib.hid hg2
  clear ho2 hb2 hg2 e2' el'
  go_wp2_with fail
  refine (show Calls _ _ _ _ _ from hd.out).mono ?_
  rintro e V3 ⟨rfl, ho3, hg3, hcap⟩
  rw [← HN.out.2.2.2.2.2.2.1] at ho3
  have hbV3 : Below V1.heap.size V1 V3 := below_grown HB2.out hg3 HG2.out.1 HB2.out.size
  have hx3 := bx_below hbV3 HX1.out
  have q0 := block_cell hx3 0
  have q1 := block_cell hx3 1
  have q2 := block_cell hx3 2
  have ql := bx_lt hx3
  simp at q0 q1 q2
  obtain ⟨V4, hV4⟩ : ∃ V, V = V3.alloc (.cells #[.int .i64 x.m.frm, .int .i64 x.m.dst, .slice x.ao (wireB x.m).length x.ac] ltT) := ⟨_, rfl⟩
  obtain ⟨vb, hvb⟩ : ∃ p, p = V3.heap.size := ⟨_, rfl⟩
  have hb4 : Below V3.heap.size V3 V4 := by rw [hV4]; exact below_new _ _
  have hx4 : V4.heap[vb]? = some (.cells #[.int .i64 x.m.frm, .int .i64 x.m.dst, .slice x.ao (wireB x.m).length x.ac] ltT (0, 0)) := by rw [hV4, hvb]; exact heap_alloc_new _ _
  have hne : vb ≠ g2 := fun e => Nat.lt_irrefl vb (Nat.lt_of_lt_of_le (by rw [e]; exact HG2.out.2) (by rw [hvb]; exact hg3.size))
  have hd2 := Lib.hid (sins_o V4 V1.heap.size g2 cc2 M t l2 x HN.out.2.2.2.2.2.2.2.symm HN.out.2.2.1 (by rw [← HN.out.1]; exact hcap) HN.out.2.2.2.2.1 (own_below ho3 hb4) vb hx4 hne)
  have HB4 := Lib.hid (below_on hbV3 hb4 (Nat.le_refl _))
  clear ho3 hg3 hcap hbV3 hx3 hb4 hx4 hne hd
  go_wp2_with fail
  rw [← hV4, ← hvb]
  clear hV4 hvb q0 q1 q2 ql
  refine (show Calls _ _ _ _ _ from hd2.out).mono ?_
  rintro e V5 ⟨rfl, ho5, hg5⟩
  rw [← HL.out] at ho5
  have hB5 : Below W.heap.size W V5 := below_on HB1.out (below_grown HB4.out hg5 HG2.out.1 HB4.out.size) (Nat.le_refl _)
  obtain ⟨h1, h3, h4, h5, h6, h7, h8, h9⟩ := Hh.out
  have hx5 := bx_below hB5 h1
  have hLn : L.length = M + 1 := by
    have := ho5.1
    rw [ltFlat_len] at this
    exact len3 this
  have hbg := bg_setrow (base := base) (m := m) (n := n) (T := T) (l := L) (ao := some ⟨g2, 0, none⟩) (cap := cc2) hx5 (by rw [hLn]; exact own_base ho5 (Nat.le_trans (Nat.le_trans h6 (Nat.le_of_lt (bx_lt h1))) HB1.out.size)) (h3.1.below hB5) h3.2
    (fun y hy => by
      have hy2 : y ∈ l := by
        rw [HL.out, HN.out.2.2.2.2.2.2.1] at hy
        exact mem_move hy Hxm.out
      exact ⟨(h4 y hy2).dat.below hB5, (h4 y hy2).fit⟩) h6 h7 (by rw [hLn, ← HN.out.1, HN.out.2.2.2.2.2.1]; exact h8) h9
  rw [hLn] at hbg
  have hgr : Gr F W (V5.setCell ⟨b, 2, none⟩ (.slice (some ⟨g2, 0, none⟩) (M + 1) cc2)) := (Gr.below hB5).then (Gr.one (F := fun i => i = b) (grown_set V5 b 2 _) (fun i e => (Option.some.inj e).symm)) (fun i hi => .inl ((h5 i).2 (.inl hi)))
  have hF' : ∀ i, (i = b ∨ i = m ∨ (Value.slice (some ⟨g2, 0, none⟩) (M + 1) cc2).ownBlock = some i) → F i ∨ W.heap.size ≤ i := by
    intro i hi
    rcases hi with hi | hi | hi
    · exact .inl ((h5 i).2 (.inl hi))
    · exact .inl ((h5 i).2 (.inr (.inl hi)))
    · refine .inr ?_
      simp only [Value.ownBlock, Option.some.injEq] at hi
      rw [← hi]; exact Nat.le_trans HB1.out.size HG2.out.1
  have HR : Hid (Bgx base W F b room T L (V5.setCell ⟨b, 2, none⟩ (.slice (some ⟨g2, 0, none⟩) (M + 1) cc2))) := (⟨_, hbg, hgr, hF'⟩ : Bgx base W F b room T L (V5.setCell ⟨b, 2, none⟩ (.slice (some ⟨g2, 0, none⟩) (M + 1) cc2)))
  have y2 := block_cell hx5 2
  have f2 := block_free hx5 2
  have yl := bx_lt hx5
  simp at y2 f2
  clear hbg hgr hF' hx5 hB5 ho5 hg5 h1 h3 h4 h5 h6 h7 h8 h9 hLn hd2
  go_wp2_with fail
  go_ret
  exact ⟨rfl, HR.out⟩
end
end Go.Proofs.Ytbmkgcoolofmpaa
