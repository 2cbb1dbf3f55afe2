/- Lemmas for BagOnce (Bj Bn Be Bo Bp Bk Bm Bu). No statement of the seat is proved here. -/
import Derived.Lib.Overlaps
import Derived.Laws.OwnMore
import Derived.Laws.Externs
import Derived.Lib.SliceRun
import Derived.Carry
import Derived.Great.Walk
import Derived.Test.YtbmkgcoolofmpaaO4
import Derived.Test.YtbmkgcoolofmpaaO16
import Derived.Test.YtbmkgcoolofmpaaO18
import Derived.Test.YtbmkgcoolofmpaaO19
namespace Go.Proofs.Ytbmkgcoolofmpaa
set_option linter.unusedVariables false
set_option linter.unusedSimpArgs false
set_option linter.unusedSectionVars false
open Go Go.RowKit Go.Maps Go.Shelf
theorem run_slice_mx {P : Program} {w : World} {t e : TypeId} {size : Nat} (ht : P.underlying t = some (.slice e)) (hsz : (P.info? e).map (·.size) = some size)
    (ao : Option Addr) (n cap l r m : Nat) (hl : l ≤ r) (hr : r ≤ m) (hm : m ≤ cap) :
    (Instr.sliceAt t (.slice ao n cap) (some (.int .i64 (l : Int))) (some (.int .i64 (r : Int))) (some (.int .i64 (m : Int)))).run P w = .ok (.slice (if m = l then ao else ao.map (·.add (l * size))) (r - l) (m - l)) w := by
  obtain ⟨i, hi1, hi2⟩ := Option.map_eq_some_iff.1 hsz
  have b : ∀ (x y : Nat) (c : BoundsCode), x ≤ y → (Instr.sliceBound (.int .i64 (x : Int)) y c).run P w = .ok x w := by
    intro x y c h
    simp [Instr.sliceBound, asIntOf, h]
  simp [Instr.sliceAt, Instr.slice, Instr.sliceBounds, run_underlying ht, sizeOf, typeInfo, hi1, hi2, b, hl, hr, hm]
theorem own_take {w : World} {base g n cap : Nat} {l : List Lt} (h : w.ownsRow base ltT 3 (.slice (some ⟨g, 0, none⟩) n cap) n (ltFlat l)) (k : Nat) (hk : k ≤ l.length) (hn : l.length = n) : w.ownsRow base ltT 3 (.slice (some ⟨g, 0, none⟩) k cap) k (ltFlat (l.take k)) := by
  have e1 : ltFlat l = ltFlat (l.take k) ++ ltFlat (l.drop k) := by rw [← ltFlat_two, List.take_append_drop]
  have lk : (ltFlat (l.take k)).length = k * 3 := by rw [ltFlat_len, List.length_take]; omega
  have e : ltFlat (l.take k) = (ltFlat l).take (k * 3) := by
    conv => rhs; rw [e1]
    exact (List.take_left' lk).symm
  rcases h.2 with ⟨h0, _⟩ | ⟨g', cap', cur, hv, hb, hh, hle, hm, hs, ht⟩
  · cases h0
  · simp only [Value.slice.injEq, Option.some.injEq, Addr.mk.injEq, true_and, and_true] at hv
    obtain ⟨rfl, rfl⟩ := hv
    refine ⟨by rw [ltFlat_len, List.length_take]; omega, .inr ⟨g, cap, cur, rfl, hb, hh, by omega, hm, hs, ?_⟩⟩
    rw [e, ← ht, List.take_take]
    congr 1
    omega
theorem own_blk {w : World} {base e g n k cap : Nat} {xs : List Value} (h : w.ownsRow base e k (.slice (some ⟨g, 0, none⟩) n cap) n xs) : ∃ cur : Array Value, w.heap[g]? = some (.cells cur e (0, 0)) ∧ base ≤ g ∧ n ≤ cap ∧ cap ≤ maxLen ∧ cur.size = cap * k ∧ cur.toList.take (n * k) = xs := by
  rcases h.2 with ⟨h0, _⟩ | ⟨g', cap', cur, hv, hb, hh, hle, hm, hs, ht⟩
  · cases h0
  · simp only [Value.slice.injEq, Option.some.injEq, Addr.mk.injEq, true_and, and_true] at hv
    obtain ⟨rfl, rfl⟩ := hv
    exact ⟨cur, hh, hb, hle, hm, hs, ht⟩
theorem mul3 {a b : Nat} (h : a ≤ b) : a * 3 ≤ b * 3 := Nat.mul_le_mul_right 3 h
theorem zeroLt (w : World) : (zeroValue ltT).run Try.prog w = .ok (.agg #[.int .i64 0, .int .i64 0, .slice none 0 0]) w := by kernel_rfl
/-- clear of a piece behind the row -/
theorem clear_own (w : World) (base g cap o n c : Nat) (xs : List Value) (ho : w.ownsRow base ltT 3 (.slice (some ⟨g, 0, none⟩) o cap) o xs) (hfit : o + n ≤ cap) :
    ∃ w', (∀ ty, (Builtin.clear_ #[ltsT] ty #[.slice (some ⟨g, o * 3, none⟩) n c]).run Try.prog w = .ok (.tuple #[]) w') ∧ w'.ownsRow base ltT 3 (.slice (some ⟨g, 0, none⟩) o cap) o xs ∧ w.grownBy w' (some g) := by
  obtain ⟨cur, hh, hb, hle, hm, hs, ht⟩ := own_blk ho
  cases n with
  | zero => exact ⟨w, fun ty => by simp [Builtin.clear_, run_underlying Try.underlying46], ho, World.grownBy.refl _ _⟩
  | succ n =>
    obtain ⟨Z, hZ⟩ : ∃ Z, Z = (Builtin.zeroCells (#[.int .i64 0, .int .i64 0, .slice none 0 0] : Array Value) (n + 1)).toList := ⟨_, rfl⟩
    have lZ : Z.length = (n + 1) * 3 := by rw [hZ, Array.length_toList, size_zeroCells]; rfl
    have oZ : ∀ v ∈ Z, v.oneCell' = true := by
      intro v hv
      rw [hZ] at hv
      simp only [Builtin.zeroCells, Array.toList_map, List.mem_map] at hv
      obtain ⟨i, -, rfl⟩ := hv
      have h3 : i % 3 < 3 := Nat.mod_lt _ (by decide)
      show (#[Value.int .i64 0, .int .i64 0, .slice none 0 0][i % 3]!).oneCell' = true
      generalize i % 3 = r at h3
      match r, h3 with
      | 0, _ => rfl
      | 1, _ => rfl
      | 2, _ => rfl
    have hst := run_storeCells_at Try.prog g (o * 3) ltT Z 0 cur w hh (by rw [lZ, hs, Nat.add_zero, ← Nat.add_mul]; exact mul3 hfit) oZ
    simp only [Nat.add_zero] at hst
    obtain ⟨cu2, hcu⟩ : ∃ cu2 : Array Value, cu2 = (cur.toList.take (o * 3) ++ Z ++ cur.toList.drop (o * 3 + Z.length)).toArray := ⟨_, rfl⟩
    rw [← hcu] at hst
    refine ⟨w.setRow g cu2, fun ty => ?_, ⟨ho.1, .inr ⟨g, cap, cu2, rfl, hb, setRow_heap w g cur cu2 ltT _ hh, hle, hm, ?_, ?_⟩⟩, ⟨rfl, rfl, rfl, by simp, fun k _ hk => setRow_other w g k _ (fun e => hk (by simp [e]))⟩⟩
    · simp [Builtin.clear_, run_underlying Try.underlying46, zeroLt, ← hZ, Value.cells, hst]
    · have h1 := mul3 hfit
      have h2 : (o + (n + 1)) * 3 = o * 3 + (n + 1) * 3 := Nat.add_mul _ _ _
      rw [hcu]
      simp only [List.size_toArray, List.length_append, List.length_take, List.length_drop, Array.length_toList, lZ, hs]
      omega
    · have h1 := mul3 hle
      rw [hcu]
      simp only [List.append_assoc]
      rw [List.take_append_of_le_length (by rw [List.length_take, Array.length_toList, hs]; omega), List.take_take, Nat.min_self, ht]
theorem del_mem (W : World) (base g cap N M k : Nat) (l : List Lt) (hN : N = l.length) (hM : N = M + 1) (hk : k ≤ M) (hN1 : N ≤ 512) (ho : W.ownsRow base ltT 3 (.slice (some ⟨g, 0, none⟩) N cap) N (ltFlat l)) :
    ∃ W2 W3 sp3 v1, (∀ W, (Instr.sliceAt ltsT (.slice (some ⟨g, 0, none⟩) N cap) (some (.int .i64 (k : Nat))) (some (.int .i64 ((k : Int) + 1))) (some (.int .i64 (N : Nat)))).run Try.prog W = .ok v1 W) ∧
      (∀ W, (Instr.sliceAt ltsT (.slice (some ⟨g, 0, none⟩) N cap) none (some (.int .i64 (k : Nat))) none).run Try.prog W = .ok (.slice (some ⟨g, 0, none⟩) k cap) W) ∧
      (∀ W, (Instr.sliceAt ltsT (.slice (some ⟨g, 0, none⟩) N cap) (some (.int .i64 ((k : Int) + 1))) none none).run Try.prog W = .ok (.slice sp3 (N - (k + 1)) (cap - (k + 1))) W) ∧
      (∀ ty, (Builtin.append_ #[ltsT, ltsT] ty #[.slice (some ⟨g, 0, none⟩) k cap, .slice sp3 (N - (k + 1)) (cap - (k + 1))]).run Try.prog W.drew = .ok (.slice (some ⟨g, 0, none⟩) M cap) W2) ∧
      (∀ W, (Instr.sliceAt ltsT (.slice (some ⟨g, 0, none⟩) M cap) (some (.int .i64 (M : Nat))) (some (.int .i64 (N : Nat))) none).run Try.prog W = .ok (.slice (some ⟨g, M * 3, none⟩) 1 (cap - M)) W) ∧
      (∀ ty, (Builtin.clear_ #[ltsT] ty #[.slice (some ⟨g, M * 3, none⟩) 1 (cap - M)]).run Try.prog W2 = .ok (.tuple #[]) W3) ∧
      W3.ownsRow base ltT 3 (.slice (some ⟨g, 0, none⟩) M cap) M (ltFlat (l.take k ++ l.drop (k + 1))) ∧ W.grownBy W3 (some g) ∧ W.grownBy W2 (some g) ∧ N ≤ cap := by
  obtain ⟨cur, hh, hb, hle, hm, hs, ht⟩ := own_blk ho
  have hC := cut_cells l k M (by omega) hk
  obtain ⟨ii, hii1, hii2, hii3, hii4⟩ := info_parts infoLt
  have hsz3 : (Try.prog.info? ltT).map (·.size) = some 3 := by rw [hii1]; simp [hii3]
  obtain ⟨sp3, hsp3⟩ : ∃ sp3, sp3 = (if cap = k + 1 then (some ⟨g, 0, none⟩ : Option Addr) else (some ⟨g, 0, none⟩ : Option Addr).map (·.add ((k + 1) * 3))) := ⟨_, rfl⟩
  have hs2 := fun W => run_slice_sl (P := Try.prog) (w := W) Try.underlying46 hsz3 (some ⟨g, 0, none⟩) N cap none (some (.int .i64 (k : Nat))) 0 k (.inr ⟨rfl, rfl⟩) (.inl rfl) (Nat.zero_le _) (by omega)
  have hs3 := fun W => run_slice_sl (P := Try.prog) (w := W) Try.underlying46 hsz3 (some ⟨g, 0, none⟩) N cap (some (.int .i64 ((k + 1 : Nat) : Int))) none (k + 1) N (.inl rfl) (.inr ⟨rfl, rfl⟩) (by omega) hle
  have hs5 := fun W => run_slice_sl (P := Try.prog) (w := W) Try.underlying46 hsz3 (some ⟨g, 0, none⟩) M cap (some (.int .i64 (M : Nat))) (some (.int .i64 (N : Nat))) M N (.inl rfl) (.inl rfl) (by omega) hle
  rw [← hsp3] at hs3
  obtain ⟨a, ha, hca⟩ : ∃ a, sp3 = some a ∧ ∀ j v, (ltFlat (l.drop (k + 1)))[j]? = some v → W.drew.cell? (a.add j) = some v := by
    by_cases hc : cap = k + 1
    · refine ⟨⟨g, 0, none⟩, by rw [hsp3, if_pos hc], fun j v hv => ?_⟩
      have : (ltFlat (l.drop (k + 1))).length = 0 := by rw [ltFlat_len, List.length_drop]; omega
      rw [List.getElem?_eq_none (by omega)] at hv
      cases hv
    · refine ⟨⟨g, (k + 1) * 3, none⟩, by rw [hsp3, if_neg hc]; simp [Addr.add_none], fun j v hv => ?_⟩
      have := ho.cells rfl ((k + 1) * 3 + j) v (hC.inB j v hv)
      rw [Addr.add_none] at this ⊢
      simpa using this
  have ho0 : W.drew.ownsRow base ltT 3 (.slice (some ⟨g, 0, none⟩) k cap) k (ltFlat (l.take k)) := own_below (own_take ho k (by omega) hN.symm) (Below.refl _ W).drew
  obtain ⟨W2, hr, ho2, hg2⟩ : ∃ W2, (∀ ty, (Builtin.append_ #[ltsT, ltsT] ty #[.slice (some ⟨g, 0, none⟩) k cap, .slice (some a) (N - (k + 1)) (cap - (k + 1))]).run Try.prog W.drew = .ok (.slice (some ⟨g, 0, none⟩) M cap) W2) ∧ W2.ownsRow base ltT 3 (.slice (some ⟨g, 0, none⟩) M cap) M (ltFlat (l.take k) ++ ltFlat (l.drop (k + 1))) ∧ W.drew.grownBy W2 (some g) := by
    obtain ⟨W2, hr, ho2, hg2⟩ := run_append_fits (P := Try.prog) (w := W.drew) base ltsT ltsT ltT ii 3 Try.underlying46 hii1 hii3 g k cap _ ho0 a (N - (k + 1)) (cap - (k + 1)) (ltFlat (l.drop (k + 1))) (by rw [ltFlat_len, List.length_drop]; omega) hca (lts_one _) (by omega)
    have e1 : k + (N - (k + 1)) = M := by omega
    rw [e1] at hr ho2
    exact ⟨W2, fun ty => hr, ho2, hg2⟩
  rw [← ltFlat_two] at ho2
  obtain ⟨W3, hr3, ho3, hg3⟩ := clear_own W2 base g cap M 1 (cap - M) _ ho2 (by omega)
  have hs1 := fun W => run_slice_mx (P := Try.prog) (w := W) Try.underlying46 hsz3 (some ⟨g, 0, none⟩) N cap k (k + 1) N (by omega) (by omega) hle
  obtain ⟨v1, hv1⟩ : ∃ v1, v1 = Value.slice (if N = k then (some ⟨g, 0, none⟩ : Option Addr) else (some ⟨g, 0, none⟩ : Option Addr).map (·.add (k * 3))) (k + 1 - k) (N - k) := ⟨_, rfl⟩
  rw [← hv1] at hs1
  refine ⟨W2, W3, sp3, v1, fun W => (by have := hs1 W; simpa using this), fun W => by rw [hs2 W]; simp [Addr.add_none], fun W => by have := hs3 W; simpa using this, fun ty => by rw [ha]; exact hr ty, fun W => ?_, hr3, ho3, grown_trans (grown_trans (grown_below (Below.refl _ W).drew) hg2) hg3, grown_trans (grown_below (Below.refl _ W).drew) hg2, hle⟩
  · rw [hs5 W, if_neg (by omega)]
    have e1 : N - M = 1 := by omega
    simp [Addr.add_none, e1]
theorem ins_list {c A B X : List Value} {a : Nat} (hA : c.take a = A) (lA : A.length = a) (lX : X.length = 3) (hlen : a + 3 + B.length ≤ c.length) : (splice (splice c (a + 3) B) a X).take (a + 3 + B.length) = A ++ X ++ B := by
  unfold splice
  have h1 : (c.take (a + 3) ++ (B ++ c.drop (a + 3 + B.length))).take a = A := by
    rw [List.take_append_of_le_length (by rw [List.length_take]; omega), List.take_take, Nat.min_eq_left (by omega), hA]
  have h2 : (c.take (a + 3) ++ (B ++ c.drop (a + 3 + B.length))).drop (a + X.length) = B ++ c.drop (a + 3 + B.length) := by
    rw [lX]
    exact List.drop_left' (by rw [List.length_take]; omega)
  simp only [List.append_assoc] at h1 h2 ⊢
  rw [h1, h2, ← List.append_assoc, ← List.append_assoc, List.take_left' (by simp only [List.length_append]; omega), List.append_assoc]
theorem shape_of {w : World} {b : Nat} {cs : Array Value} {T : TypeId} (h : w.heap[b]? = some (.cells cs T (0, 0))) : w.shape? b = some (T, cs.size) := by unfold World.shape?; rw [h]
theorem ins_mem (W : World) (base g cap M i : Nat) (l : List Lt) (x : Lt) (hM : M = l.length) (hi : i < M) (hcap : M + 1 ≤ cap) (hM5 : M ≤ 512) (ho : W.ownsRow base ltT 3 (.slice (some ⟨g, 0, none⟩) M cap) M (ltFlat l)) (vb : Nat)
    (hvb : W.heap[vb]? = some (.cells #[.int .i64 x.m.frm, .int .i64 x.m.dst, .slice x.ao (wireB x.m).length x.ac] ltT (0, 0))) (hne : vb ≠ g) :
    ∃ W2 W3 v1, (∀ W, (Instr.sliceAt ltsT (.slice (some ⟨g, 0, none⟩) M cap) (some (.int .i64 (i : Nat))) none none).run Try.prog W = .ok v1 W) ∧
      (∀ W, (Instr.sliceAt ltsT (.slice (some ⟨g, 0, none⟩) M cap) none (some (.int .i64 ((M : Int) + 1))) none).run Try.prog W = .ok (.slice (some ⟨g, 0, none⟩) (M + 1) cap) W) ∧
      (∀ W, (Instr.sliceAt ltsT (.slice (some ⟨g, 0, none⟩) (M + 1) cap) (some (.int .i64 ((i : Int) + 1))) none none).run Try.prog W = .ok (.slice (some ⟨g, (i + 1) * 3, none⟩) (M - i) (cap - (i + 1))) W) ∧
      (Extern.SlicesOverlaps.overlaps #[ltsT, ltsT] #[4] #[.slice (some ⟨vb, 0, none⟩) 1 1, .slice (some ⟨g, (i + 1) * 3, none⟩) (M - i) (cap - (i + 1))]).run Try.prog W = .ok (.bool false) W ∧
      (∀ W, (Instr.sliceAt ltsT (.slice (some ⟨g, 0, none⟩) (M + 1) cap) (some (.int .i64 (i : Nat))) none none).run Try.prog W = .ok (.slice (some ⟨g, i * 3, none⟩) (M + 1 - i) (cap - i)) W) ∧
      (∀ ty, (Builtin.copy_ #[ltsT, ltsT] ty #[.slice (some ⟨g, (i + 1) * 3, none⟩) (M - i) (cap - (i + 1)), .slice (some ⟨g, i * 3, none⟩) (M + 1 - i) (cap - i)]).run Try.prog W.drew = .ok (.int .i64 ((M - i : Nat) : Int)) W2) ∧
      (∀ ty, (Builtin.copy_ #[ltsT, ltsT] ty #[.slice (some ⟨g, i * 3, none⟩) (M + 1 - i) (cap - i), .slice (some ⟨vb, 0, none⟩) 1 1]).run Try.prog W2 = .ok (.int .i64 ((1 : Nat) : Int)) W3) ∧
      W3.ownsRow base ltT 3 (.slice (some ⟨g, 0, none⟩) (M + 1) cap) (M + 1) (ltFlat (l.take i ++ [x] ++ l.drop i)) ∧ W.grownBy W3 (some g) := by
  obtain ⟨cur, hh, hb, hle, hm, hs, ht⟩ := own_blk ho
  obtain ⟨ii, hii1, hii2, hii3, hii4⟩ := info_parts infoLt
  have hsz3 : (Try.prog.info? ltT).map (·.size) = some 3 := by rw [hii1]; simp [hii3]
  have hz3 : ∀ w, (Go.sizeOf ltT).run Try.prog w = .ok 3 w := fun w => by kernel_rfl
  have hs1 := fun W => run_slice_sl (P := Try.prog) (w := W) Try.underlying46 hsz3 (some ⟨g, 0, none⟩) M cap (some (.int .i64 (i : Nat))) none i M (.inl rfl) (.inr ⟨rfl, rfl⟩) (by omega) hle
  have hs2 := fun W => run_slice_sl (P := Try.prog) (w := W) Try.underlying46 hsz3 (some ⟨g, 0, none⟩) M cap none (some (.int .i64 ((M + 1 : Nat) : Int))) 0 (M + 1) (.inr ⟨rfl, rfl⟩) (.inl rfl) (by omega) hcap
  have hs3 := fun W => run_slice_sl (P := Try.prog) (w := W) Try.underlying46 hsz3 (some ⟨g, 0, none⟩) (M + 1) cap (some (.int .i64 ((i + 1 : Nat) : Int))) none (i + 1) (M + 1) (.inl rfl) (.inr ⟨rfl, rfl⟩) (by omega) hcap
  have hs4 := fun W => run_slice_sl (P := Try.prog) (w := W) Try.underlying46 hsz3 (some ⟨g, 0, none⟩) (M + 1) cap (some (.int .i64 (i : Nat))) none i (M + 1) (.inl rfl) (.inr ⟨rfl, rfl⟩) (by omega) hcap
  have hov := Lib.run_overlaps_apart (P := Try.prog) W ltsT 4 ltT Try.underlying46 3 hz3 ⟨vb, 0, none⟩ ⟨g, (i + 1) * 3, none⟩ 1 1 (M - i) (cap - (i + 1)) hne ltT ltT _ _ (shape_of hvb) (shape_of hh) (by rw [hs]; omega) (block_free hvb 0) (block_free hvb _)
  obtain ⟨A, hA⟩ : ∃ A, A = ltFlat (l.take i) := ⟨_, rfl⟩
  obtain ⟨B, hB⟩ : ∃ B, B = ltFlat (l.drop i) := ⟨_, rfl⟩
  have lA : A.length = i * 3 := by rw [hA, ltFlat_len, List.length_take]; omega
  have lB : B.length = (M - i) * 3 := by rw [hB, ltFlat_len, List.length_drop]; omega
  have eAB : ltFlat l = A ++ B := by rw [hA, hB, ← ltFlat_two, List.take_append_drop]
  have hcur : W.drew.heap[g]? = some (.cells cur.toList.toArray ltT (0, 0)) := by
    have e : cur.toList.toArray = cur := by simp
    rw [e]; exact hh
  have lcur : cur.toList.length = cap * 3 := by rw [Array.length_toList, hs]
  obtain ⟨W2, hcp1, hb2, hg2⟩ := run_copyk (P := Try.prog) W.drew ltsT ltsT ltT 3 g ((i + 1) * 3) (M - i) (cap - (i + 1)) (some ⟨g, (i + 1) * 3, none⟩) (some ⟨g, i * 3, none⟩) (M + 1 - i) (cap - i) (M - i) cur.toList ltT B Try.underlying46 hsz3 hcur (Nat.min_eq_right (by omega)) lB
    (fun _ => ⟨rfl, _, rfl, fun j v hv => by
      have hin : (ltFlat l)[i * 3 + j]? = some v := by rw [eAB, List.getElem?_append_right (by omega), lA, Nat.add_sub_cancel_left]; exact hv
      have := ho.cells rfl (i * 3 + j) v hin
      rw [Addr.add_none] at this ⊢
      simpa using this⟩) (by rw [lB, lcur]; omega) (by rw [hB]; exact lts_one _)
  have hvb2 : W2.heap[vb]? = some (.cells #[.int .i64 x.m.frm, .int .i64 x.m.dst, .slice x.ao (wireB x.m).length x.ac] ltT (0, 0)) := (hg2.block vb (bx_lt hvb) (fun e => hne (Option.some.inj e))).trans hvb
  obtain ⟨W3, hcp2, hb3, hg3⟩ := run_copyk (P := Try.prog) W2 ltsT ltsT ltT 3 g (i * 3) (M + 1 - i) (cap - i) (some ⟨g, i * 3, none⟩) (some ⟨vb, 0, none⟩) 1 1 1 _ ltT (ltCells x) Try.underlying46 hsz3 hb2 (Nat.min_eq_left (by omega)) rfl
    (fun _ => ⟨rfl, _, rfl, fun j v hv => by
      rw [Addr.add_none, block_cell hvb2, Nat.zero_add]
      simpa [ltCells] using hv⟩) (by rw [length_splice _ _ _ (by rw [lB, lcur]; omega), lcur]; simp [ltCells]; omega) (lt_one x)
  have htA : cur.toList.take (i * 3) = A := by
    have h := congrArg (List.take (i * 3)) ht
    rw [List.take_take, Nat.min_eq_left (by omega), eAB] at h
    rw [h]
    exact List.take_left' lA
  have hfin := ins_list (c := cur.toList) (A := A) (B := B) (X := ltCells x) (a := i * 3) htA lA rfl (by rw [lB, lcur]; omega)
  have e3 : i * 3 + 3 = (i + 1) * 3 := by omega
  have eM : i * 3 + 3 + B.length = (M + 1) * 3 := by rw [lB]; omega
  rw [eM, e3] at hfin
  refine ⟨W2, W3, _, hs1, fun W => by have := hs2 W; simpa [Addr.add_none] using this, fun W => ?_, hov, fun W => ?_, hcp1, hcp2, ⟨?_, .inr ⟨g, cap, _, rfl, hb, hb3, hcap, hm, ?_, ?_⟩⟩, grown_trans (grown_trans (grown_below (Below.refl _ W).drew) hg2) hg3⟩
  · have := hs3 W
    rw [if_neg (by omega)] at this
    have e1 : M + 1 - (i + 1) = M - i := by omega
    simpa [Addr.add_none, e1] using this
  · have := hs4 W
    rw [if_neg (by omega)] at this
    simpa [Addr.add_none] using this
  · rw [ltFlat_len]
    simp only [List.length_append, List.length_take, List.length_drop, List.length_singleton]
    omega
  · have h1 : (splice cur.toList ((i + 1) * 3) B).length = cap * 3 := by rw [length_splice _ _ _ (by rw [lB, lcur]; omega), lcur]
    simp only [List.size_toArray]
    rw [length_splice _ _ _ (by rw [h1]; simp [ltCells]; omega), h1]
  · show (splice (splice cur.toList ((i + 1) * 3) B) (i * 3) (ltCells x)).take ((M + 1) * 3) = _
    rw [hfin, ltFlat_two, ltFlat_two, hA, hB]
    simp [ltFlat]
end Go.Proofs.Ytbmkgcoolofmpaa
namespace Go.Proofs.Ytbmkgcoolofmpaa
set_option linter.unusedVariables false
set_option linter.unusedSimpArgs false
set_option linter.unusedSectionVars false
open Go Go.RowKit Go.Maps Go.Shelf
theorem lt_len (t : Lt) : (ltCells t).length = 3 := rfl
theorem ltFlat_set (l : List Lt) (i : Nat) (hi : i < l.length) (t : Lt) : (((ltFlat l).set (i * 3) (.int .i64 t.m.frm)).set (i * 3 + 1) (.int .i64 t.m.dst)).set (i * 3 + 2) (.slice t.ao (wireB t.m).length t.ac) = ltFlat (l.set i t) := by
  induction l generalizing i with
  | nil => simp at hi
  | cons u l ih =>
    cases i with
    | zero => rfl
    | succ i =>
      have ih := ih i (by simpa using hi)
      simp only [ltFlat, List.map_cons, List.flatten_cons, List.set_cons_succ] at ih ⊢
      rw [← ih]
      have e : ∀ (a b : List Value) (k : Nat) (v : Value), a.length = 3 → (a ++ b).set (k + 3) v = a ++ b.set k v := fun a b k v h => by
        rw [List.set_append_right _ _ (by omega), h]; simp
      rw [show (i + 1) * 3 = i * 3 + 3 from by omega, show i * 3 + 3 + 1 = (i * 3 + 1) + 3 from by omega, show i * 3 + 3 + 2 = (i * 3 + 2) + 3 from by omega, e _ _ _ _ (lt_len u), e _ _ _ _ (lt_len u), e _ _ _ _ (lt_len u)]
theorem own_put {w : World} {base g n cap : Nat} {D : List Lt} (h : w.ownsRow base ltT 3 (.slice (some ⟨g, 0, none⟩) n cap) n (ltFlat D)) (i : Nat) (hi : i < D.length) (t : Lt) :
    (((w.setCell ⟨g, i * 3, none⟩ (.int .i64 t.m.frm)).setCell ⟨g, i * 3 + 1, none⟩ (.int .i64 t.m.dst)).setCell ⟨g, i * 3 + 2, none⟩ (.slice t.ao (wireB t.m).length t.ac)).ownsRow base ltT 3 (.slice (some ⟨g, 0, none⟩) n cap) n (ltFlat (D.set i t)) ∧
    w.grownBy (((w.setCell ⟨g, i * 3, none⟩ (.int .i64 t.m.frm)).setCell ⟨g, i * 3 + 1, none⟩ (.int .i64 t.m.dst)).setCell ⟨g, i * 3 + 2, none⟩ (.slice t.ao (wireB t.m).length t.ac)) (some g) := by
  refine ⟨?_, grown_trans (grown_set _ _ _ _) (grown_trans (grown_set _ _ _ _) (grown_set _ _ _ _))⟩
  have := (((h.stored (i * 3) (.int .i64 t.m.frm)).1.stored (i * 3 + 1) (.int .i64 t.m.dst)).1.stored (i * 3 + 2) (.slice t.ao (wireB t.m).length t.ac)).1
  rwa [ltFlat_set D i hi t] at this
theorem ltFlat_get (l : List Lt) (i : Nat) (hi : i < l.length) (j : Nat) (hj : j < 3) : (ltFlat l)[i * 3 + j]? = some ((ltCells l[i])[j]'hj) := by
  induction l generalizing i with
  | nil => simp at hi
  | cons t l ih =>
    simp only [ltFlat, List.map_cons, List.flatten_cons] at ih ⊢
    cases i with
    | zero => rw [List.getElem?_append_left (by rw [lt_len]; omega), Nat.zero_mul, Nat.zero_add, List.getElem?_eq_getElem (by rw [lt_len]; omega)]; rfl
    | succ i =>
      rw [List.getElem?_append_right (by rw [lt_len]; omega), lt_len, show (i + 1) * 3 + j - 3 = i * 3 + j from by omega, ih i (by simpa using hi)]
      rfl
theorem own_cells {W : World} {base g n cap : Nat} {D : List Lt} (h : W.ownsRow base ltT 3 (.slice (some ⟨g, 0, none⟩) n cap) n (ltFlat D)) (i : Nat) (hi : i < D.length) :
    W.cell? ⟨g, i * 3, none⟩ = some (.int .i64 D[i].m.frm) ∧ W.cell? ⟨g, i * 3 + 1, none⟩ = some (.int .i64 D[i].m.dst) ∧ W.cell? ⟨g, i * 3 + 2, none⟩ = some (.slice D[i].ao (wireB D[i].m).length D[i].ac) ∧ W.frozen? ⟨g, i * 3, none⟩ = false ∧ W.frozen? ⟨g, i * 3 + 1, none⟩ = false ∧ W.frozen? ⟨g, i * 3 + 2, none⟩ = false ∧ g < W.heap.size := by
  have hl : D.length * 3 = n * 3 := by have := h.1; rw [ltFlat_len] at this; exact this
  refine ⟨?_, ?_, ?_, h.frozenAt _, h.frozenAt _, h.frozenAt _, (h.lt g rfl).2⟩
  · rw [h.cellAt (i * 3) (by omega)]; exact ltFlat_get D i hi 0 (by decide)
  · rw [h.cellAt (i * 3 + 1) (by omega)]; exact ltFlat_get D i hi 1 (by decide)
  · rw [h.cellAt (i * 3 + 2) (by omega)]; exact ltFlat_get D i hi 2 (by decide)
/-- does a letter cross? -/
def crB (T : Int → Bool) (x : Lt) : Bool := T x.m.frm != T x.m.dst
abbrev cvB (b : Nat) : Value := .func (.func 34) #[.pointer (some ⟨b, 0, none⟩)] #[]
theorem idx_nums {i n : Nat} (h : i < n) (h2 : n ≤ 512) : (0 : Int) ≤ (i : Int) ∧ (i : Int) < (n : Int) ∧ wrap64 ((i : Int) + 1) = (i : Int) + 1 := by
  refine ⟨by omega, by omega, ?_⟩
  rw [IntWalk.wrap64_in _ (by omega)]
theorem meas_w {n i : Nat} (h : i < n) (w : wrap64 ((i : Int) + 1) = (i : Int) + 1) : n - (intOf (.int .i64 (wrap64 ((i : Int) + 1)))).toNat < n - (intOf (.int .i64 (i : Nat))).toNat := by
  rw [w]; simp [intOf]; omega
section
variable {base : Nat} {W W' : World} {F : Nat → Prop} {b room : Nat} {T : Int → Bool} {l : List Lt}
def IdxIs (T : Int → Bool) (D : List Lt) (e : Ending) : Prop := (∃ i, ∃ hi : i < D.length, e = .returned (.int .i64 (i : Nat)) ∧ (∀ x ∈ D.take i, crB T x = false) ∧ crB T D[i] = true) ∨ (e = .returned (.int .i64 (-1)) ∧ ∀ x ∈ D, crB T x = false)
set_option maxRecDepth 100000 in
theorem sidx_o (h : Bg base W F b room T l) (ao : Option Addr) (cap : Nat) (D : List Lt) (hR : Rw W ltT 3 ao D.length cap (D.map ltCells)) (hD : ∀ x ∈ D, MsFit x.m) (h5 : D.length ≤ 512) :
    Calls Try.prog 61 #[.slice ao D.length cap, cvB b] W fun e W' => IdxIs T D e ∧ Below W.heap.size W W' := by
  have Hh := Lib.hid h
  have HR := Lib.hid hR
  have HD := Lib.hid hD
  have H5 := Lib.hid h5
  clear h hR hD h5
  go_enter Try.func61, Try.ntmps61
  go_wp2_with fail
  go_loopw [8] (fun u wr => ∃ i : Nat, u = .int .i64 (i : Nat) ∧ i ≤ D.length ∧ Hid (∀ x ∈ D.take i, crB T x = false) ∧ Hid (Below W.heap.size W wr)) (fun u _ => D.length - (intOf u).toNat)
  case atStart => exact ⟨0, rfl, Nat.zero_le _, Lib.hid (by simp), Lib.hid (Below.refl _ _)⟩
  case round =>
    obtain ⟨i, rfl, hi, Hinv, HB⟩ := hrel
    by_cases hlt : i < D.length
    · obtain ⟨g, o, rfl, hc⟩ := (HR.out.below HB.out).get (by decide) i hlt
      have c0 := hc 0 (by simp [ltCells])
      have c1 := hc 1 (by simp [ltCells])
      have c2 := hc 2 (by simp [ltCells])
      simp [ltCells] at c0 c1 c2
      obtain ⟨i0, i1, w1⟩ := idx_nums hlt H5.out
      have hfit := HD.out _ (List.getElem_mem hlt)
      obtain ⟨x, hx⟩ : ∃ x, x = D[i] := ⟨_, rfl⟩
      rw [← hx] at c0 c1 c2 hfit
      have Hcr := Lib.hid (bcross_o (Hh.out.below HB.out) x.m.frm x.m.dst (.slice x.ao (wireB x.m).length x.ac) rfl hfit.keys.1 hfit.keys.2)
      have hyes : crB T x = true → IdxIs T D (.returned (.int .i64 (i : Nat))) := fun e => .inl ⟨i, hlt, rfl, Hinv.out, by rw [← hx]; exact e⟩
      have hno : crB T x = false → ∀ y ∈ D.take (i + 1), crB T y = false := fun e y hy => by
        rw [List.take_succ_eq_append_getElem hlt, List.mem_append, List.mem_singleton] at hy
        rcases hy with hy | rfl
        · exact Hinv.out y hy
        · rw [← hx]; exact e
      obtain ⟨cr, hcr⟩ : ∃ cr, cr = crB T x := ⟨_, rfl⟩
      rw [← hcr] at hyes hno
      rw [show (T x.m.frm != T x.m.dst) = cr from hcr.symm] at Hcr
      have Hyes := Lib.hid hyes
      have Hno := Lib.hid hno
      clear hc hfit hx hyes hno hcr
      go_wp2_with fail
      refine (show Calls _ _ _ _ _ from Hcr.out).mono ?_
      rintro e V1 ⟨rfl, hb1⟩
      have HB1 := Lib.hid (below_on HB.out hb1 (Nat.le_refl _))
      clear hb1 c0 c1 c2
      cases cr with
      | true =>
        go_wp2_with fail
        go_ret
        exact ⟨Hyes.out (by simp), HB1.out⟩
      | false =>
        have Hn2 := Lib.hid (Hno.out (by simp))
        go_wp2_with fail
        go_roundw
        case rel => exact ⟨i + 1, by rw [w1]; simp, hlt, Hn2, HB1⟩
        case measure => exact meas_w hlt w1
    · have hii : i = D.length := Nat.le_antisymm hi (Nat.not_lt.1 hlt)
      have hend : IdxIs T D (.returned (.int .i64 (-1))) := .inr ⟨rfl, by have h := Hinv.out; rw [hii, List.take_length] at h; exact h⟩
      subst hii
      have Hend := Lib.hid hend
      clear hlt hend
      go_wp2_with fail
      go_ret
      exact ⟨Hend.out, HB.out⟩
/-- what DeleteFunc leaves -/
def keepL (T : Int → Bool) (D : List Lt) : List Lt := D.filter (fun x => !crB T x)
theorem keepL_next (T : Int → Bool) (D : List Lt) (j : Nat) (hj : j < D.length) : keepL T (D.take (j + 1)) = if crB T D[j] = true then keepL T (D.take j) else keepL T (D.take j) ++ [D[j]] := by
  unfold keepL
  rw [List.take_succ_eq_append_getElem hj, List.filter_append]
  cases h : crB T D[j] <;> simp [h]
/-- while letters are shifted down -/
structure Dfm (T : Int → Bool) (D C : List Lt) (i j : Nat) : Prop where
  len : C.length = D.length
  lt : i < j
  le : j ≤ D.length
  kept : C.take i = keepL T (D.take j)
  rest : C.drop j = D.drop j
theorem Dfm.start {T : Int → Bool} {D : List Lt} {i : Nat} (hi : i < D.length) (h1 : ∀ x ∈ D.take i, crB T x = false) (h2 : crB T D[i] = true) : Dfm T D D i (i + 1) := by
  refine ⟨rfl, by omega, by omega, ?_, rfl⟩
  rw [keepL_next T D i hi, if_pos h2]
  unfold keepL
  exact (List.filter_eq_self.2 fun x hx => by simp [h1 x hx]).symm
theorem Dfm.at_ {T : Int → Bool} {D C : List Lt} {i j : Nat} (h : Dfm T D C i j) (hj : j < D.length) : ∃ hc : j < C.length, C[j] = D[j] := by
  have hc : j < C.length := by rw [h.len]; exact hj
  refine ⟨hc, ?_⟩
  have := h.rest
  rw [List.drop_eq_getElem_cons hc, List.drop_eq_getElem_cons hj] at this
  exact (List.cons.inj this).1
theorem Dfm.drop {T : Int → Bool} {D C : List Lt} {i j : Nat} (h : Dfm T D C i j) (hj : j < D.length) (hx : crB T D[j] = true) : Dfm T D C i (j + 1) := by
  refine ⟨h.len, by have := h.lt; omega, by omega, by rw [keepL_next T D j hj, if_pos hx]; exact h.kept, ?_⟩
  have hc : j < C.length := by rw [h.len]; exact hj
  have := h.rest
  rw [List.drop_eq_getElem_cons hc, List.drop_eq_getElem_cons hj] at this
  exact (List.cons.inj this).2
theorem Dfm.keep {T : Int → Bool} {D C : List Lt} {i j : Nat} (h : Dfm T D C i j) (hj : j < D.length) (hx : crB T D[j] = false) : Dfm T D (C.set i D[j]) (i + 1) (j + 1) := by
  have hlt := h.lt
  have hic : i < C.length := by rw [h.len]; omega
  have hc : j < C.length := by rw [h.len]; exact hj
  refine ⟨by simp [h.len], by omega, by omega, ?_, ?_⟩
  · rw [keepL_next T D j hj, if_neg (by rw [hx]; simp), ← h.kept, List.take_succ_eq_append_getElem (by simpa using hic), List.getElem_set_self, List.take_set_of_le (Nat.le_refl i)]
  · rw [List.drop_set_of_lt (by omega)]
    have := h.rest
    rw [List.drop_eq_getElem_cons hc, List.drop_eq_getElem_cons hj] at this
    exact (List.cons.inj this).2
theorem Dfm.done {T : Int → Bool} {D C : List Lt} {i : Nat} (h : Dfm T D C i D.length) : C.take i = keepL T D ∧ (keepL T D).length = i := by
  have hk := h.kept
  rw [List.take_length] at hk
  refine ⟨hk, ?_⟩
  rw [← hk, List.length_take, h.len]
  have := h.lt
  omega
theorem keepL_all {T : Int → Bool} {D : List Lt} (h : ∀ x ∈ D, crB T x = false) : keepL T D = D := List.filter_eq_self.2 fun x hx => by simp [h x hx]
theorem df_nums {i j n : Nat} (h : i < j) (h1 : j < n) (h2 : n ≤ 512) : (0 : Int) ≤ (i : Int) ∧ (i : Int) < (n : Int) ∧ (0 : Int) ≤ (j : Int) ∧ (j : Int) < (n : Int) ∧ wrap64 ((i : Int) + 1) = (i : Int) + 1 ∧ wrap64 ((j : Int) + 1) = (j : Int) + 1 := by
  refine ⟨by omega, by omega, by omega, by omega, ?_, ?_⟩ <;> rw [IntWalk.wrap64_in _ (by omega)]
theorem df_mem (W : World) (bs g cap N i : Nat) (C : List Lt) (hN : N = C.length) (hi : i ≤ N) (ho : W.ownsRow bs ltT 3 (.slice (some ⟨g, 0, none⟩) N cap) N (ltFlat C)) :
    ∃ W2 v1, (∀ W, (Instr.sliceAt ltsT (.slice (some ⟨g, 0, none⟩) N cap) (some (.int .i64 (i : Nat))) none none).run Try.prog W = .ok v1 W) ∧
      (∀ ty, (Builtin.clear_ #[ltsT] ty #[v1]).run Try.prog W = .ok (.tuple #[]) W2) ∧
      (∀ W, (Instr.sliceAt ltsT (.slice (some ⟨g, 0, none⟩) N cap) none (some (.int .i64 (i : Nat))) none).run Try.prog W = .ok (.slice (some ⟨g, 0, none⟩) i cap) W) ∧
      W2.ownsRow bs ltT 3 (.slice (some ⟨g, 0, none⟩) i cap) i (ltFlat (C.take i)) ∧ W.grownBy W2 (some g) := by
  obtain ⟨cur, hh, hb, hle, hm, hs, ht⟩ := own_blk ho
  obtain ⟨ii, hii1, hii2, hii3, hii4⟩ := info_parts infoLt
  have hsz3 : (Try.prog.info? ltT).map (·.size) = some 3 := by rw [hii1]; simp [hii3]
  have hs1 := fun W => run_slice_sl (P := Try.prog) (w := W) Try.underlying46 hsz3 (some ⟨g, 0, none⟩) N cap (some (.int .i64 (i : Nat))) none i N (.inl rfl) (.inr ⟨rfl, rfl⟩) hi hle
  have hs2 := fun W => run_slice_sl (P := Try.prog) (w := W) Try.underlying46 hsz3 (some ⟨g, 0, none⟩) N cap none (some (.int .i64 (i : Nat))) 0 i (.inr ⟨rfl, rfl⟩) (.inl rfl) (Nat.zero_le _) (by omega)
  have ho1 := own_take ho i (by omega) hN.symm
  obtain ⟨W2, hr, ho2, hg2⟩ := clear_own W bs g cap i (N - i) (cap - i) _ ho1 (by omega)
  by_cases hc : cap = i
  · refine ⟨W, _, hs1, fun ty => ?_, fun W => by rw [hs2 W]; simp [Addr.add_none], ho1, World.grownBy.refl _ _⟩
    have e : N - i = 0 := by omega
    rw [e, if_pos hc]
    simp [Builtin.clear_, run_underlying Try.underlying46]
  · refine ⟨W2, _, hs1, fun ty => ?_, fun W => by rw [hs2 W]; simp [Addr.add_none], ho2, hg2⟩
    rw [if_neg hc]
    have := hr ty
    simpa [Addr.add_none] using this
set_option maxRecDepth 100000 in
set_option maxHeartbeats 4000000 in
theorem sdelf_o (h : Bg base W F b room T l) (bs g cap N : Nat) (D : List Lt) (hN : N = D.length) (h5 : N ≤ 512) (ho : W.ownsRow bs ltT 3 (.slice (some ⟨g, 0, none⟩) N cap) N (ltFlat D)) (hgF : ¬ F g) (hD : ∀ x ∈ D, MsFit x.m) :
    Calls Try.prog 37 #[.slice (some ⟨g, 0, none⟩) N cap, cvB b] W fun e W' => ∃ n, e = .returned (.slice (some ⟨g, 0, none⟩) n cap) ∧ n = (keepL T D).length ∧ W'.ownsRow bs ltT 3 (.slice (some ⟨g, 0, none⟩) n cap) n (ltFlat (keepL T D)) ∧ W.grownBy W' (some g) := by
  have hR : Rw W ltT 3 (some ⟨g, 0, none⟩) D.length cap (D.map ltCells) := by
    rw [hN] at ho
    exact lt_rows ho
  have Hix := sidx_o h (some ⟨g, 0, none⟩) cap D hR hD (hN ▸ h5)
  rw [← hN] at Hix
  have Hix := Lib.hid Hix
  have Hh := Lib.hid h
  have HN := Lib.hid (And.intro hN (And.intro h5 hgF))
  have HO := Lib.hid ho
  have HD := Lib.hid hD
  clear h hN h5 ho hgF hD hR
  go_enter Try.func37, Try.ntmps37
  go_wp2_with fail
  refine (show Calls _ _ _ _ _ from Hix.out).mono ?_
  rintro e V1 ⟨hidx, hb1⟩
  rcases hidx with ⟨i, hi, rfl, hk1, hk2⟩ | ⟨rfl, hall⟩
  · have Hst := Lib.hid (Dfm.start hi hk1 hk2)
    have Ho1 := Lib.hid (own_below HO.out hb1)
    have Hb1 := Lib.hid hb1
    obtain ⟨q1, q2⟩ : ((i : Int) == -1) = false ∧ wrap64 ((i : Int) + 1) = (i : Int) + 1 := by
      have h := idx_nums hi (by have := HN.out.2.1; have := HN.out.1; omega)
      exact ⟨by simp, h.2.2⟩
    have Q2 := Lib.hid q2
    clear hi hk1 hk2 hb1 q2
    go_wp2_with fail
    go_loopw [5, 6] (fun u v wr => ∃ (i j : Nat) (C : List Lt), u = .int .i64 (i : Nat) ∧ v = .int .i64 (j : Nat) ∧ Hid (Dfm T D C i j) ∧ Hid (wr.ownsRow bs ltT 3 (.slice (some ⟨g, 0, none⟩) N cap) N (ltFlat C)) ∧ Hid (W.grownBy wr (some g))) (fun _ v _ => D.length - (intOf v).toNat)
    case atStart => exact ⟨i, i + 1, D, rfl, by rw [Q2.out]; simp, Hst, Ho1, Lib.hid (grown_below Hb1.out)⟩
    case round =>
      obtain ⟨i, j, C, rfl, rfl, Hd, Ho, Hg⟩ := hrel
      have hjN := Hd.out.le
      by_cases hlt : j < D.length
      · obtain ⟨hc, hCD⟩ := Hd.out.at_ hlt
        obtain ⟨x, hx⟩ : ∃ x, x = C[j] := ⟨_, rfl⟩
        have hxD := hx.trans hCD
        have hfit : MsFit x.m := by rw [hxD]; exact HD.out _ (List.getElem_mem hlt)
        have hCl : C.length = N := by rw [Hd.out.len]; exact HN.out.1.symm
        have ho' := Ho.out
        rw [← hCl] at ho'
        obtain ⟨g', fx, hg', hgl, c0, c1, c2⟩ := lt_cells ho' j hc
        rw [← hx] at c0 c1 c2
        simp only [Option.some.injEq, Addr.mk.injEq, and_true] at hg'
        obtain ⟨rfl, rfl⟩ := hg'
        simp only [Nat.zero_add] at c0 c1 c2
        have hbg : Bg base wr F b room T l := Hh.out.beside (H := fun i => i = g) (Gr.one Hg.out (fun i e => (Option.some.inj e).symm)) (fun i hi e => HN.out.2.2 (by rw [← e]; exact hi)) (fun i hi e => by
          subst hi
          have := own_elemL HO.out i rfl
          rw [e] at this
          exact absurd this (by decide))
        have Hcr := Lib.hid (fun V (hb : Below wr.heap.size wr V) => bcross_o (hbg.below hb) x.m.frm x.m.dst (.slice x.ao (wireB x.m).length x.ac) rfl hfit.keys.1 hfit.keys.2)
        have hdrop : crB T x = true → Dfm T D C i (j + 1) := fun e => Hd.out.drop hlt (by rw [← hxD]; exact e)
        have hkeep : crB T x = false → Dfm T D (C.set i x) (i + 1) (j + 1) := fun e => by
          rw [hxD]
          exact Hd.out.keep hlt (by rw [← hxD]; exact e)
        obtain ⟨cr, hcr⟩ : ∃ cr, cr = crB T x := ⟨_, rfl⟩
        rw [← hcr] at hdrop hkeep
        simp only [show (T x.m.frm != T x.m.dst) = cr from hcr.symm] at Hcr
        obtain ⟨i0, i1, j0, j1, w1, w2⟩ := df_nums Hd.out.lt (HN.out.1 ▸ hlt) HN.out.2.1
        have hiC : i < C.length := Nat.lt_trans Hd.out.lt hc
        obtain ⟨V2, hV2⟩ : ∃ V, V = wr.alloc (.cells #[.int .i64 x.m.frm, .int .i64 x.m.dst, .slice x.ao (wireB x.m).length x.ac] ltT) := ⟨_, rfl⟩
        obtain ⟨p2, hp2⟩ : ∃ p, p = wr.heap.size := ⟨_, rfl⟩
        have hb2 : Below wr.heap.size wr V2 := by rw [hV2]; exact below_new _ _
        have hx2 : V2.heap[p2]? = some (.cells #[.int .i64 x.m.frm, .int .i64 x.m.dst, .slice x.ao (wireB x.m).length x.ac] ltT (0, 0)) := by rw [hV2, hp2]; exact heap_alloc_new _ _
        have Hb2 := Lib.hid hb2
        have Hx2 := Lib.hid hx2
        have Hdrop := Lib.hid hdrop
        have Hkeep := Lib.hid hkeep
        have HiC := Lib.hid hiC
        have Hlt := Lib.hid hlt
        have Hgl := Lib.hid hgl
        have e0 := block_cell hx2 0
        have e1 := block_cell hx2 1
        have e2 := block_cell hx2 2
        have el := bx_lt hx2
        simp at e0 e1 e2
        clear hx hxD hfit hCl ho' hbg hdrop hkeep hcr hiC hb2 hx2 hlt hCD hc hjN
        go_upto_region 8 with fail
        rw [← hV2, ← hp2]
        clear hV2 hp2 c0 c1 c2 hgl
        go_wp2_with fail
        refine (show Calls _ _ _ _ _ from Hcr.out _ Hb2.out).mono ?_
        rintro e V3 ⟨rfl, hb3⟩
        have HB3 := Lib.hid (below_on Hb2.out hb3 (Nat.le_refl _))
        have Ho3 := Lib.hid (own_below Ho.out (below_on Hb2.out hb3 (Nat.le_refl _)))
        have hx3 := bx_below hb3 Hx2.out
        clear e0 e1 e2 el hb3 Hcr
        cases cr with
        | true =>
          have Hd2 := Lib.hid (Hdrop.out (by simp))
          go_wp2_with fail
          go_roundw
          case rel => exact ⟨i, j + 1, C, rfl, by rw [w2]; simp, Hd2, Ho3, Lib.hid (grown_trans Hg.out (grown_below HB3.out))⟩
          case measure => exact meas_w Hlt.out w2
        | false =>
          have Hd2 := Lib.hid (Hkeep.out (by simp))
          have e0 := block_cell hx3 0
          have e1 := block_cell hx3 1
          have e2 := block_cell hx3 2
          have el := bx_lt hx3
          simp at e0 e1 e2
          obtain ⟨y0, y1, y2, f0, f1, f2, gl3⟩ := own_cells Ho3.out i HiC.out
          obtain ⟨ho4, hg4⟩ := own_put Ho3.out i HiC.out x
          obtain ⟨V4, hV4⟩ : ∃ V, V = ((V3.setCell ⟨g, i * 3, none⟩ (.int .i64 x.m.frm)).setCell ⟨g, i * 3 + 1, none⟩ (.int .i64 x.m.dst)).setCell ⟨g, i * 3 + 2, none⟩ (.slice x.ao (wireB x.m).length x.ac) := ⟨_, rfl⟩
          rw [← hV4] at ho4 hg4
          have Ho4 := Lib.hid ho4
          have Hg4 := Lib.hid (grown_trans (grown_trans Hg.out (grown_below HB3.out)) hg4)
          clear ho4 hg4 hx3
          go_upto_region 10 with fail
          rw [← hV4]
          clear hV4 y0 y1 y2 f0 f1 f2 gl3 e0 e1 e2 el
          go_wp2_with fail
          go_roundw
          case rel => exact ⟨i + 1, j + 1, C.set i x, by rw [w1]; simp, by rw [w2]; simp, Hd2, Ho4, Hg4⟩
          case measure => exact meas_w Hlt.out w2
      · have hjj : j = D.length := Nat.le_antisymm hjN (Nat.not_lt.1 hlt)
        subst hjj
        obtain ⟨hk1, hk2⟩ := Hd.out.done
        obtain ⟨V5, v5, m1, m2, m3, ho5, hg5⟩ := df_mem wr bs g cap N i C (HN.out.1.trans Hd.out.len.symm) (by rw [HN.out.1]; exact Nat.le_of_lt Hd.out.lt) Ho.out
        rw [hk1] at ho5
        have HR := Lib.hid (And.intro hk2.symm (And.intro ho5 (grown_trans Hg.out hg5)))
        have j1 : ¬ (D.length : Int) < (N : Nat) := by rw [HN.out.1]; exact Int.lt_irrefl _
        clear hk1 hk2 ho5 hg5 hlt hjN
        go_wp2_with fail
        go_ret
        exact ⟨i, rfl, HR.out⟩
  · have hfin : Hid (N = (keepL T D).length ∧ V1.ownsRow bs ltT 3 (.slice (some ⟨g, 0, none⟩) N cap) N (ltFlat (keepL T D)) ∧ W.grownBy V1 (some g)) := (by rw [keepL_all hall]; exact ⟨HN.out.1, own_below HO.out hb1, grown_below hb1⟩ : N = (keepL T D).length ∧ V1.ownsRow bs ltT 3 (.slice (some ⟨g, 0, none⟩) N cap) N (ltFlat (keepL T D)) ∧ W.grownBy V1 (some g))
    clear hall hb1
    go_wp2_with fail
    go_ret
    exact ⟨N, rfl, hfin.out⟩
end
end Go.Proofs.Ytbmkgcoolofmpaa
namespace Go.Proofs.Ytbmkgcoolofmpaa
set_option linter.unusedVariables false
set_option linter.unusedSimpArgs false
set_option linter.unusedSectionVars false
open Go Go.RowKit Go.Maps Go.Shelf
set_option maxRecDepth 100000 in
theorem sclone_o (W : World) (base cap : Nat) (ao : Option Addr) (l : List Lt) (h : W.ownsRow base ltT 3 (.slice ao l.length cap) l.length (ltFlat l)) (hl : l.length ≤ 512) :
    Calls Try.prog 30 #[.slice ao l.length cap] W fun e W' => ∃ ao' cap', e = .returned (.slice ao' l.length cap') ∧ W'.ownsRow W.heap.size ltT 3 (.slice ao' l.length cap') l.length (ltFlat l) ∧ Below W.heap.size W W' := by
  have hsl := Sl.of_own h
  have q22 : ∀ (w : World) (a : Option Addr) (n c n' c' : Nat), (binOp .eql ltsT (.slice a n c) (.slice none n' c')).run Try.prog w = .ok (.bool a.isNone) w := fun w a n c n' c' => Lib.run_eql_slice_nil w _ _ a n c n' c' Try.underlying46
  cases ao with
  | none =>
    have hc := hsl.none rfl
    have hle := hsl.le
    obtain rfl : cap = 0 := hc
    have hn : l.length = 0 := by omega
    have hnil : l = [] := List.eq_nil_of_length_eq_zero hn
    subst hnil
    clear hsl h hle
    go_enter Try.func30, Try.ntmps30
    go_wp2_with fail
    go_ret
    exact ⟨none, 0, rfl, World.ownsRow_nil _ _ _ _, Below.refl _ _⟩
  | some ad =>
    have Hsl := Lib.hid (hsl.below (below_new W (.cells #[] ltT)))
    have Hl := Lib.hid hl
    clear hsl h hl
    go_enter Try.func30, Try.ntmps30
    go_wp2_with (at_builtin; refine wpl_append rfl (.tmp 5) (.tmp 6) ltsT rfl W.heap.size ltT infoLt Try.underlying46 rfl (by decide) _ 0 [] rfl (own_empty W W.heap.size _ 3 (Nat.le_refl _)) _ _ _ _ rfl Hsl.out (lts_one _) ?_ ?_ ?_ ?_; (unfold maxLen; have := Hl.out; omega); (have := Hl.out; omega); exact (below_new _ _).size; intro ao1 cap1 w1 hown1 hg1; rw [Nat.zero_add, List.nil_append] at hown1; have hb1 := below_app (below_new _ _) hg1 (own_empty W W.heap.size _ 3 (Nat.le_refl _)) (Nat.le_refl _) (below_new _ _).size; rw [Nat.zero_add])
    go_ret
    exact ⟨ao1, cap1, rfl, hown1, hb1⟩
theorem bnew_o (base : Nat) (W : World) (room : Nat) (h : room ≤ 512) (hb : base ≤ W.heap.size) : Calls Try.prog 8 #[.int .i64 (room : Nat)] W fun e W' => ∃ b F, e = .returned (.pointer (some ⟨b, 0, none⟩)) ∧ Bg base W' F b room (fun _ => false) [] ∧ Below W.heap.size W W' ∧ ∀ i, F i → W.heap.size ≤ i := by
  have h0 : ¬ ((room : Nat) : Int) < 0 := by omega
  have h1 : ¬ ((room : Nat) : Int) > 512 := by omega
  obtain ⟨W1, hW1⟩ : ∃ W1, W1 = W.alloc (.map #[] 0) := ⟨_, rfl⟩
  obtain ⟨W2, hW2⟩ : ∃ W2, W2 = W1.alloc (.cells #[.int .i64 (room : Nat), .map (some W.heap.size), .slice none 0 0] bgT) := ⟨_, rfl⟩
  have z1 : W1.heap.size = W.heap.size + 1 := by rw [hW1]; simp
  have B1 : Below W.heap.size W W1 := by rw [hW1]; exact below_new _ _
  have B2 : Below W1.heap.size W1 W2 := by rw [hW2]; exact below_new _ _
  have ha1 : Ap W1 W.heap.size 0 (fun _ => false) := ⟨.map [], by rw [hW1]; exact World.ownsMap_made W _ _ _, ASet.start⟩
  have x2 : W2.heap[W.heap.size + 1]? = some (.cells #[.int .i64 (room : Nat), .map (some W.heap.size), .slice none 0 0] bgT (0, 0)) := by
    rw [hW2, ← z1]; exact heap_alloc_new _ _
  have HR : Hid (Bg base W2 (fun i => i = W.heap.size + 1 ∨ i = W.heap.size ∨ (Value.slice none 0 0).ownBlock = some i) (W.heap.size + 1) room (fun _ => false) []) := (⟨W.heap.size, 0, none, 0, x2, World.ownsRow_nil _ _ _ _, ⟨ha1.below B2, by omega⟩, (fun x hx => by cases hx), fun i => Iff.rfl, by omega, hb, Nat.zero_le _, h⟩ : Bg base W2 (fun i => i = W.heap.size + 1 ∨ i = W.heap.size ∨ (Value.slice none 0 0).ownBlock = some i) (W.heap.size + 1) room (fun _ => false) [])
  have HB := Lib.hid (below_on B1 B2 (Nat.le_refl _))
  clear z1 B1 B2 ha1 x2
  have hmk := @run_makeMap Try.prog
  go_enter Try.func8, Try.ntmps8
  go_wp2_with fail
  rw [← hW1, ← hW2]
  go_ret
  exact ⟨_, rfl, _, HR.out, HB.out, fun i hi => by rcases hi with rfl | rfl | hi; omega; exact Nat.le_refl _; cases hi⟩
section
variable {base : Nat} {W W' : World} {F : Nat → Prop} {b room : Nat} {T : Int → Bool} {l : List Lt}
theorem Bg.emptied (h : Bg base W F b room T l) : Bgx base W F b room T [] (W.setCell ⟨b, 2, none⟩ (.slice none 0 0)) := by
  have hel := h.elem
  obtain ⟨m, n, ao, cap, h1, h2, h3, h4, h5, h6, h7, h8, h9⟩ := h
  have hg := grown_set W b 2 (.slice none 0 0)
  have hx := block_set h1 2 (.slice none 0 0)
  simp only [List.setIfInBounds_toArray, List.set_cons_zero, List.set_cons_succ] at hx
  have hne : m ≠ b := fun e => h3.1.elem bgT (by rw [e]; exact elem?_of h1)
  refine ⟨fun i => i = b ∨ i = m ∨ (Value.slice none 0 0).ownBlock = some i, ⟨m, n, none, 0, hx, World.ownsRow_nil _ _ _ _, ⟨h3.1.kept (hg.block m h3.1.lt (fun e => hne (Option.some.inj e))), h3.2⟩, fun x hx => (by cases hx), fun i => Iff.rfl, h6, h7, Nat.zero_le _, h9⟩, Gr.one hg (fun i e => (h5 i).2 (.inl (Option.some.inj e).symm)), fun i hi => .inl ((h5 i).2 (by rcases hi with hi | hi | hi; exact .inl hi; exact .inr (.inl hi); cases hi))⟩
theorem bempty_o (h : Bg base W F b room T l) : Calls Try.prog 17 #[.pointer (some ⟨b, 0, none⟩)] W fun e W' => e = .returned (.int .i64 (l.length : Nat)) ∧ Bgx base W F b room T [] W' := by
  have Hem := Lib.hid h.emptied
  have Hln := Lib.hid (blen_o h)
  have Hbg := Lib.hid h
  obtain ⟨m, n, ao, cap, h1, h2, h3, h4, h5, h6, h7, h8, h9⟩ := h
  have e2 := block_cell h1 2
  have f2 := block_free h1 2
  have el := bx_lt h1
  simp at e2 f2
  clear h1 h2 h3 h4 h5 h6 h7 h8 h9
  by_cases h0 : l = []
  · subst h0
    go_enter Try.func17, Try.ntmps17
    go_wp2_with fail
    refine (show Calls _ _ _ _ _ from Hln.out).mono ?_
    rintro e V1 ⟨rfl, hv⟩
    subst V1
    go_wp2_with fail
    go_ret
    exact ⟨rfl, Bgx.same Hbg.out (Below.refl _ _)⟩
  · have hp : (l.length : Int) > 0 := by have := List.length_pos_iff.2 h0; omega
    go_enter Try.func17, Try.ntmps17
    go_wp2_with fail
    refine (show Calls _ _ _ _ _ from Hln.out).mono ?_
    rintro e V1 ⟨rfl, hv⟩
    subst V1
    go_wp2_with fail
    go_ret
    exact ⟨rfl, Hem.out⟩
end
end Go.Proofs.Ytbmkgcoolofmpaa
namespace Go.Proofs.Ytbmkgcoolofmpaa
set_option linter.unusedVariables false
set_option linter.unusedSimpArgs false
set_option linter.unusedSectionVars false
open Go Go.RowKit Go.Maps Go.Shelf
theorem ownsMap_bare {W : World} {R : Value → Option (DataW Unit × List MemPlace)} {b n : Nat} {D : DataW Unit} (h : W.ownsMap Try.prog 3 R b n D) (hz : ∀ kl, Maps.has D kl = false) : W.ownsMap Try.prog 3 R b 0 D := by
  obtain ⟨es, clock, hb, F, hs, rfl⟩ := h
  refine ⟨es, clock, hb, F, ?_, rfl⟩
  cases hes : es.toList with
  | nil => rw [← Array.length_toList, hes]; exact Nat.le_refl _
  | cons x r =>
    have hx : x ∈ es.toList := by rw [hes]; simp
    obtain ⟨y, hy⟩ := F.reads x hx
    have : Maps.has (DataW.map ((es.toList.map (Go.WideElems.rg Try.prog 3 R)).foldr DataW.insert [])) (Go.WideElems.rg Try.prog 3 R x).1 = true :=
      List.any_eq_true.2 ⟨_, mem_sorted.2 (List.mem_map.2 ⟨x, hx, rfl⟩), WideAt.sameKey_self (by rw [Go.WideElems.rg_of hy]; exact i64law.key (Go.WideElems.rd_key hy))⟩
    rw [hz] at this
    cases this
theorem Ap.range {W : World} {m n : Nat} {T : Int → Bool} (h : Ap W m n T) : ∃ w' cnt, (Instr.range amT (.map (some m))).run Try.prog W = .ok (.pointer (some ⟨W.heap.size, 0, none⟩)) w' ∧ Rga w' m W.heap.size n T cnt ∧ W.grownBy w' none ∧ w'.heap.size = W.heap.size + 1 := by
  obtain ⟨D, h1, h2⟩ := h
  obtain ⟨w', hrun, r1, r2, r3⟩ := h1.range i64law Try.underlying45
  exact ⟨w', _, hrun, ⟨D, _, r1, h2, fun kl => rfl⟩, r2, r3⟩
theorem Rga.left_eq {W : World} {m r n cnt : Nat} {T : Int → Bool} (h : Rga W m r n T cnt) : W.rangeLeft m r = cnt := by
  obtain ⟨D, left, h1, -⟩ := h
  exact h1.left_eq
theorem Rgm.left_eq {W : World} {m r n cnt : Nat} {x : Int} {T : Int → Bool} (h : Rgm W m r n T x cnt) : W.rangeLeft m r = cnt := by
  obtain ⟨D, left, h1, -⟩ := h
  exact h1.left_eq
theorem Rgm.drop {W : World} {m r n cnt : Nat} {x : Int} {T : Int → Bool} (h : Rgm W m r n T x cnt) (ty : TypeId) : ∃ w' cnt', (Builtin.delete_ #[amT, 3] ty #[.map (some m), .int .i64 x]).run Try.prog W = .ok (.tuple #[]) w' ∧ Rga w' m r n (fun j => T j && !decide (j = x)) cnt' ∧ cnt' ≤ cnt ∧ W.grownBy w' (some m) := by
  obtain ⟨D, left, h1, h2, hx, h3⟩ := h
  obtain ⟨w', cnt', hrun, r1, r2, r3⟩ := h1.drop i64law Try.underlying45 (keyOf_int_mk Try.underlying3 hx) ty
  refine ⟨w', cnt', hrun, ⟨_, _, r1, h2.del x, fun kl => ?_⟩, r2, r3.grown⟩
  simp only [h3 kl]
  by_cases e : kl = .int .i64 x
  · subst e
    rw [has_del_same]; simp [Lit.sameKey]
  · rw [has_del_other e]
    have : kl.sameKey (.int .i64 x) = false := by
      cases hs : kl.sameKey (.int .i64 x) with
      | false => rfl
      | true => exact absurd (WideAt.sameKey_eq hs) e
    simp [this]
section
variable {ops : Array Oper} {rest : List Oper} {o : Oper} {a : Act} {Q : Exit → Act → World → Prop}
theorem wpl_next_a (W : World) (hg : o.guard = none) (it : Operand) (hop : o.op = Op.next it false) (m r n : Nat) (T : Int → Bool) (cnt : Nat) (hit : a.eval it = .pointer (some ⟨r, 0, none⟩)) (h : Rga W m r n T cnt)
    (hDone : (∀ k, T k = false) → Ap W m 0 T → wpList Try.prog ops Q rest (a.put o.dst (.tuple #[.bool false])) W)
    (hMore : ∀ (x c : Int) (w' : World) (cnt' : Nat), Rgm w' m r n T x cnt' → cnt' < cnt → W.grownBy w' (some r) → w'.heap.size = W.heap.size → (Instr.entry (.pointer (some ⟨r, 0, none⟩))).run Try.prog w' = .ok (.tuple #[.int .i64 x, .int .i64 c]) w' → wpList Try.prog ops Q rest (a.put o.dst (.tuple #[.bool true, .int .i64 x, .int .i64 c])) w') :
    wpList Try.prog ops Q (o :: rest) a W := by
  obtain ⟨D, left, h1, h2, h3⟩ := h
  refine wpList_next_ranges_ii W hg it hop 3 3 .i64 .i64 i64law Try.underlying3 Try.underlying3 m r n D left cnt hit h1 (fun h0 hl => ?_) (fun x c w' cnt' hx hc hlx hat hrg hlt hgr hsz hen => ?_)
  · have hz : ∀ kl, Maps.has D kl = false := fun kl => by rw [← h3 kl]; exact hl kl
    exact hDone (fun k => by rw [← h2.2.1 k]; exact hz _) ⟨D, ownsMap_bare h1.owns hz, h2⟩
  · exact hMore x c w' cnt' ⟨D, _, hrg, h2, hx, fun kl => by rw [h3 kl]⟩ hlt hgr hsz hen
end
theorem Ap.ext {W : World} {m n : Nat} {T T' : Int → Bool} (h : Ap W m n T) (e : ∀ k, T k = T' k) : Ap W m n T' := by
  have : T = T' := funext e
  subst this; exact h
/-- who of a row is apart -/
def inL (ns : List Int) : Int → Bool := fun j => decide (j ∈ ns)
theorem inL_next (ns : List Int) (i : Nat) (hi : i < ns.length) : (fun j => inL (ns.take i) j || ns[i] == j) = inL (ns.take (i + 1)) := by
  funext j
  unfold inL
  rw [List.take_succ_eq_append_getElem hi]
  simp only [List.mem_append, List.mem_singleton]
  by_cases h1 : j ∈ ns.take i
  · simp [h1]
  · by_cases h2 : ns[i] = j
    · simp [h1, h2]
    · have h3 : ¬ j = ns[i] := fun e => h2 e.symm
      simp [h1, h2, h3]
theorem wall_nums {i n : Nat} (h : i < n) (h2 : n ≤ 500) : (0 : Int) ≤ (i : Int) ∧ (i : Int) < (n : Int) ∧ wrap64 ((i : Int) + 1) = (i : Int) + 1 ∧ i < 1000000 := by
  refine ⟨by omega, by omega, ?_, by omega⟩
  rw [IntWalk.wrap64_in _ (by omega)]
theorem meas_p {n i : Nat} (h : i < n) : n - (intOf (.int .i64 ((i : Int) + 1))).toNat < n - (intOf (.int .i64 (i : Nat))).toNat := by
  simp [intOf]; omega
theorem sub_nums {a b : Nat} (h : a ≤ 512) (h2 : b ≤ 512) : wrap64 ((a : Int) - (b : Int)) = (a : Int) - (b : Int) := by
  rw [IntWalk.wrap64_in _ (by omega)]
section
variable {base : Nat} {W W' : World} {F : Nat → Prop} {b room : Nat} {T : Int → Bool} {l : List Lt}
set_option maxRecDepth 100000 in
theorem sdelf_none (h : Bg base W F b room T l) :
    Calls Try.prog 37 #[.slice none 0 0, cvB b] W fun e W' => e = .returned (.slice none 0 0) ∧ Below W.heap.size W W' := by
  have Hix := Lib.hid (sidx_o h none 0 [] (Rw.nil W ltT 3) (fun x hx => by cases hx) (by decide))
  clear h
  go_enter Try.func37, Try.ntmps37
  go_wp2_with fail
  refine (show Calls _ _ _ _ _ from Hix.out).mono ?_
  rintro e V1 ⟨hidx, hb1⟩
  rcases hidx with ⟨i, hi, -⟩ | ⟨rfl, -⟩
  · exact absurd hi (Nat.not_lt_zero _)
  · go_wp2_with fail
    go_ret
    exact ⟨rfl, hb1⟩
theorem sdelf_any (h : Bg base W F b room T l) (bs cap : Nat) (ao : Option Addr) (D : List Lt) (h5 : D.length ≤ 512) (ho : W.ownsRow bs ltT 3 (.slice ao D.length cap) D.length (ltFlat D)) (hF : ∀ g, (Value.slice ao D.length cap).ownBlock = some g → ¬ F g) (hD : ∀ x ∈ D, MsFit x.m) :
    Calls Try.prog 37 #[.slice ao D.length cap, cvB b] W fun e W' => ∃ a' c', e = .returned (.slice a' (keepL T D).length c') ∧ W'.ownsRow bs ltT 3 (.slice a' (keepL T D).length c') (keepL T D).length (ltFlat (keepL T D)) ∧ W.grownBy W' (Value.slice ao D.length cap).ownBlock ∧ (∀ g, (Value.slice a' (keepL T D).length c').ownBlock = some g → (Value.slice ao D.length cap).ownBlock = some g) := by
  rcases ho.2 with ⟨hv, h0⟩ | ⟨g, cap', cur, hv, _⟩
  · have hnil : D = [] := List.eq_nil_of_length_eq_zero h0
    subst hnil
    rw [hv]
    refine (sdelf_none h).mono fun e W' hp => ?_
    exact ⟨none, 0, hp.1, World.ownsRow_nil _ _ _ _, grown_below hp.2, fun g hg => by cases hg⟩
  · simp only [Value.slice.injEq, true_and] at hv
    obtain ⟨rfl, rfl⟩ := hv
    refine (sdelf_o h bs g cap D.length D rfl h5 ho (hF g rfl) hD).mono fun e W' hp => ?_
    obtain ⟨n, he, rfl, ho2, hg2⟩ := hp
    exact ⟨_, cap, he, ho2, hg2, fun g' hg' => hg'⟩
theorem keepL_le2 (T : Int → Bool) (D : List Lt) : (keepL T D).length ≤ D.length := List.length_filter_le _ _
set_option maxRecDepth 100000 in
set_option maxHeartbeats 4000000 in
theorem bwall_o (h : Bg base W F b room T l) (hbw : base ≤ W.heap.size) (ns : List Int) (ao : Option Addr) (cap : Nat) (hI : ∀ V, Gr F W V → Iz V .i64 ao cap ns) (hk : ∀ n ∈ ns, KeyOk n) (h5 : ns.length ≤ 500) :
    Calls Try.prog 16 #[.pointer (some ⟨b, 0, none⟩), .slice ao ns.length cap] W fun e W' => e = .returned (.int .i64 ((l.length : Int) - (keepL (inL ns) l).length)) ∧ Bgx base W F b room (inL ns) (keepL (inL ns) l) W' := by
  have Hbg := Lib.hid h
  obtain ⟨m, n, a1, c1, h1, h2, h3, h4, h5b, h6, h7, h8, h9⟩ := h
  have e1 := block_cell h1 1
  have el := bx_lt h1
  simp at e1
  have Hno := Lib.hid (bnone_no W b m e1 el)
  have HI := Lib.hid hI
  have Hk := Lib.hid hk
  have H5 := Lib.hid h5
  have hmF : F m := (h5b m).2 (.inr (.inl rfl))
  have hmb : m ≠ b := fun e => h3.1.elem bgT (by rw [e]; exact elem?_of h1)
  have Hh := Lib.hid (And.intro h1 (And.intro h2 (And.intro h3 (And.intro h4 (And.intro h5b (And.intro h6 (And.intro h7 (And.intro h8 h9))))))))
  have Hm := Lib.hid (And.intro hmF hmb)
  obtain ⟨W1, cnt, hrg, hra, hgr, hsz⟩ := h3.1.range
  have hb1 : Below W.heap.size W W1 := ⟨hgr.os, hgr.tape, hgr.output, hgr.size, fun i hi => hgr.block i hi (by simp)⟩
  obtain ⟨r, hr⟩ : ∃ r, r = W.heap.size := ⟨_, rfl⟩
  rw [← hr] at hrg hra
  have Hr := Lib.hid hr
  have Hra := Lib.hid hra
  have Hb1 := Lib.hid hb1
  clear h1 h2 h3 h4 h5b h6 h7 h8 h9 hI hk h5 hmF hmb hra hgr hsz hb1 hr
  go_enter Try.func16, Try.ntmps16
  go_wp2_with fail
  refine Hno.out.mono ?_
  rintro e V1 ⟨rfl, hv⟩
  subst V1
  go_wp2_with fail
  go_loopw [5] (fun u wr => ∃ (T' : Int → Bool) (cnt' : Nat), Hid (Rga wr m r n T' cnt') ∧ Hid (Gr (fun i => i = m) W wr)) (fun _ w => w.rangeLeft m r)
  case atStart => exact ⟨T, cnt, Hra, Lib.hid (Gr.below Hb1.out)⟩
  case round =>
    obtain ⟨T', cnt', Hrg, Hgr⟩ := hrel
    have hrb : r ≠ b := fun e => by have h := bx_lt Hh.out.1; rw [← e, Hr.out] at h; exact Nat.lt_irrefl _ h
    go_wp2_with (first
      | (at_next; refine wpl_next_a _ rfl _ rfl m r n T' cnt' rfl Hrg.out ?_ ?_)
      | go_in)
    · intro hz ha
      have Hap := Lib.hid (ha.ext (T' := inL (ns.take 0)) (fun k => by rw [hz k]; simp [inL]))
      clear hz ha
      go_wp2_with fail
      go_loopw [7, 27] (fun v u ws => ∃ i : Nat, u = .int .i64 (i : Nat) ∧ i ≤ ns.length ∧ Hid (Ap ws m i (inL (ns.take i))) ∧ Hid (Gr (fun i => i = m) W ws)) (fun _ u _ => ns.length - (intOf u).toNat)
      case atStart => exact ⟨0, rfl, Nat.zero_le _, Hap, Hgr⟩
      case round =>
        obtain ⟨i, rfl, hi, Hai, Hgi⟩ := hrel
        by_cases hlt : i < ns.length
        · obtain ⟨gi, oi, rfl, c0⟩ := (HI.out _ (Hgi.out.mono (fun j hj => by rw [hj]; exact Hm.out.1))).get i hlt
          obtain ⟨i0, i1, w1, in6⟩ := wall_nums hlt H5.out
          have hkx := Hk.out _ (List.getElem_mem hlt)
          have hnx := inL_next ns i hlt
          obtain ⟨x, hx⟩ : ∃ x, x = ns[i] := ⟨_, rfl⟩
          rw [← hx] at c0 hkx hnx
          obtain ⟨W3, hset, ha3, hg3⟩ := Hai.out.set in6 x hkx
          rw [hnx] at ha3
          have hxb := (Hgi.out.block b (bx_lt Hh.out.1) (fun e => Hm.out.2 e.symm)).trans Hh.out.1
          have y1 := block_cell hxb 1
          have yl := bx_lt hxb
          simp at y1
          have Ha3 := Lib.hid ha3
          have Hg3 := Lib.hid (Hgi.out.trans (Gr.one hg3 (fun j e => (Option.some.inj e).symm)))
          clear hx hkx hnx ha3 hg3 hxb
          go_wp2_with fail
          go_roundw
          case rel => exact ⟨i + 1, by simp, hlt, Ha3, Hg3⟩
          case measure => exact meas_p hlt
        · have hii : i = ns.length := Nat.le_antisymm hi (Nat.not_lt.1 hlt)
          have hap := Hai.out
          rw [hii, List.take_length] at hap
          subst hii
          obtain ⟨h1, h2, h3, h4, h5b, h6, h7, h8, h9⟩ := Hh.out
          have hxb := (Hgi.out.block b (bx_lt h1) (fun e => Hm.out.2 e.symm)).trans h1
          have hW : Below base W wr := Hgi.out.above hbw (fun j hj => by rw [hj]; exact h7)
          have how := own_gr h2 Hgi.out (fun g hg e => by
            have := own_elemL h2 g hg
            rw [e] at this
            exact h3.1.elem ltT this)
          have hokw : ∀ x ∈ l, LtOk wr x := fun x hx => ⟨(h4 x hx).dat.kept (fun j hj => Hgi.out.block j (elem?_lt hj) (fun e => by rw [e] at hj; exact h3.1.elem _ hj)), (h4 x hx).fit⟩
          have hbgw : Bg base wr F b room (inL ns) l := ⟨m, ns.length, a1, c1, hxb, how, ⟨hap, Nat.le_trans H5.out (by decide)⟩, hokw, h5b, h6, h7, h8, h9⟩
          have hl5 : l.length ≤ 512 := Nat.le_trans h8 h9
          have Hcl := Lib.hid (sclone_o wr base c1 a1 l how hl5)
          have y2 := block_cell hxb 2
          have yl := bx_lt hxb
          simp at y2
          have Hbw := Lib.hid hbgw
          have Hxb := Lib.hid hxb
          have Hap := Lib.hid hap
          have Hl5 := Lib.hid hl5
          clear h1 h2 h3 h4 h5b h6 h7 h8 h9 hxb hW how hokw hbgw hap hlt hi hl5
          go_wp2_with fail
          refine (show Calls _ _ _ _ _ from Hcl.out).mono ?_
          rintro e V2 ⟨a2, c2, rfl, ho2, hb2⟩
          have hsz := Hgi.out.size
          have Hdf := Lib.hid (sdelf_any (Hbw.out.below hb2) wr.heap.size c2 a2 l Hl5.out ho2 (fun g hg hf => by
            have h1 := (ho2.lt g hg).1
            have h2 := (Hbg.out.elem g hf).1
            exact Nat.lt_irrefl _ (Nat.lt_of_lt_of_le h2 (Nat.le_trans hsz h1))) (fun x hx => (Hbw.out.ok x hx).fit))
          have Hup2 := Lib.hid (fun g (hg : (Value.slice a2 l.length c2).ownBlock = some g) => (And.intro (ho2.lt g hg).1 (own_elemL ho2 g hg)))
          have Hb2 := Lib.hid hb2
          clear y2 yl ho2 hb2 hsz
          go_wp2_with fail
          refine (show Calls _ _ _ _ _ from Hdf.out).mono ?_
          rintro e V3 ⟨a3, c3, rfl, ho3, hg3, hlie⟩
          obtain ⟨h1, h2, h3, h4, h5b, h6, h7, h8, h9⟩ := Hh.out
          have hrow : ∀ i, some i = (Value.slice a2 l.length c2).ownBlock → wr.heap.size ≤ i := fun i e => (Hup2.out i e.symm).1
          have hx2 := bx_below Hb2.out Hxb.out
          have hx3 := (hg3.block b (bx_lt hx2) (fun e => Nat.lt_irrefl _ (Nat.lt_of_lt_of_le (bx_lt Hxb.out) (hrow b e)))).trans hx2
          have hap3 : Ap V3 m ns.length (inL ns) := (Hap.out.below Hb2.out).kept (hg3.block m (Nat.lt_of_lt_of_le Hap.out.lt Hb2.out.size) (fun e => Nat.lt_irrefl _ (Nat.lt_of_lt_of_le Hap.out.lt (hrow m e))))
          have hok3 : ∀ x ∈ keepL (inL ns) l, LtOk V3 x := fun x hx => by
            have hx1 := (Hbw.out.below Hb2.out).ok x (List.mem_filter.1 hx).1
            exact ⟨hx1.dat.kept (fun j hj => hg3.block j (elem?_lt hj) (fun e => by
              have := (Hup2.out j e.symm).2
              rw [hj] at this
              exact absurd this (by decide))), hx1.fit⟩
          have hkl := keepL_le2 (inL ns) l
          have hbwr : base ≤ wr.heap.size := Nat.le_trans hbw Hgi.out.size
          have hbg := bg_setrow (base := base) (m := m) (n := ns.length) (T := inL ns) (l := keepL (inL ns) l) (ao := a3) (cap := c3) hx3 (own_base ho3 hbwr) hap3 (Nat.le_trans H5.out (by decide)) hok3 h6 h7 (Nat.le_trans hkl h8) h9
          have hgr : Gr F W (V3.setCell ⟨b, 2, none⟩ (.slice a3 (keepL (inL ns) l).length c3)) :=
            ((((Hgi.out.mono (fun j hj => by rw [hj]; exact Hm.out.1) : Gr F W wr).trans (Gr.below Hb2.out)).then (Gr.one (F := fun i => wr.heap.size ≤ i) hg3 (fun i e => hrow i e.symm)) (fun i hi => .inr (Nat.le_trans Hgi.out.size hi))).trans (Gr.one (grown_set V3 b 2 _) (fun i e => (h5b i).2 (.inl (Option.some.inj e).symm))))
          have hF' : ∀ i, (i = b ∨ i = m ∨ (Value.slice a3 (keepL (inL ns) l).length c3).ownBlock = some i) → F i ∨ W.heap.size ≤ i := by
            intro i hi
            rcases hi with hi | hi | hi
            · exact .inl ((h5b i).2 (.inl hi))
            · exact .inl ((h5b i).2 (.inr (.inl hi)))
            · exact .inr (Nat.le_trans Hgi.out.size (ho3.lt i hi).1)
          have HR : Hid (Bgx base W F b room (inL ns) (keepL (inL ns) l) (V3.setCell ⟨b, 2, none⟩ (.slice a3 (keepL (inL ns) l).length c3))) := (⟨_, hbg, hgr, hF'⟩ : Bgx base W F b room (inL ns) (keepL (inL ns) l) (V3.setCell ⟨b, 2, none⟩ (.slice a3 (keepL (inL ns) l).length c3)))
          have ws := sub_nums Hl5.out (Nat.le_trans hkl Hl5.out)
          have y2 := block_cell hx3 2
          have f2 := block_free hx3 2
          have yl := bx_lt hx3
          simp at y2 f2
          clear hbg hgr hF' hx3 hx2 hap3 hok3 hkl ho3 hg3 hlie h1 h2 h3 h4 h5b h6 h7 h8 h9 hrow hbwr Hcl Hdf
          go_wp2_with fail
          go_ret
          exact ⟨by rw [ws]; rfl, HR.out⟩
    · intro x c w1 cnt1 hrgm hlt hg1 hs1 hen
      obtain ⟨W2, cnt2, hdel, hra2, hle2, hg2⟩ := hrgm.drop 0
      have hxb0 := (Hgr.out.block b (bx_lt Hh.out.1) (fun e => Hm.out.2 e.symm)).trans Hh.out.1
      have hxb := (hg1.block b (bx_lt hxb0) (fun e => hrb (Option.some.inj e).symm)).trans hxb0
      have y1 := block_cell hxb 1
      have yl := bx_lt hxb
      simp at y1
      have Hra2 := Lib.hid hra2
      have Hgr2 : Hid (Gr (fun i => i = m) W W2) := ((Hgr.out.then (Gr.one (F := fun j => j = r) hg1 (fun j e => (Option.some.inj e).symm)) (fun j hj => .inr (by rw [hj, Hr.out]; exact Nat.le_refl _))).trans (Gr.one hg2 (fun j e => (Option.some.inj e).symm)) : Gr (fun i => i = m) W W2)
      have Hms := Lib.hid (And.intro hle2 (And.intro hlt hrgm.left_eq))
      clear hra2 hle2 hg2 hxb0 hxb hrgm hlt hg1 hs1
      go_wp2_with fail
      go_roundw
      case rel => exact ⟨_, _, Hra2, Hgr2⟩
      case measure => rw [Hra2.out.left_eq, Hrg.out.left_eq]; exact Nat.lt_of_le_of_lt Hms.out.1 Hms.out.2.1
end
end Go.Proofs.Ytbmkgcoolofmpaa
namespace Go.Proofs.Ytbmkgcoolofmpaa
set_option linter.unusedVariables false
set_option linter.unusedSimpArgs false
set_option linter.unusedSectionVars false
open Go Go.RowKit Go.Maps Go.Shelf
abbrev mFlat (X : List Mp) : List Value := (X.map mRow).flatten
theorem mFlat_len (X : List Mp) : (mFlat X).length = X.length * 15 := by
  induction X with
  | nil => rfl
  | cons x X ih => simp only [mFlat, List.map_cons, List.flatten_cons, List.length_append, List.length_cons] at ih ⊢; rw [ih, mRow_len]; omega
theorem mFlat_two (a b : List Mp) : mFlat (a ++ b) = mFlat a ++ mFlat b := by simp [mFlat]
end Go.Proofs.Ytbmkgcoolofmpaa
namespace Go.Proofs.Ytbmkgcoolofmpaa
set_option linter.unusedVariables false
set_option linter.unusedSimpArgs false
set_option linter.unusedSectionVars false
open Go Go.RowKit Go.Maps Go.Shelf
theorem ap_wpo {P : Program} {W W' : World} {o : Oper} {a : Act} {K : Act → World → Prop} {Q : Exit → Act → World → Prop} {d s : Operand} {t t' : TypeId} (ho : o.op = .call { callee := .builtin .append, args := #[d, s], argTypes := #[t, t'] }) {v u x : Value} (hd : a.eval d = v) (hs : a.eval s = u)
    (hr : (Builtin.append_ #[t, t'] o.type #[v, u]).run P W = .ok x W') (h : K (a.put o.dst x) W') : o.wp P a W K Q := by
  unfold Oper.wp execOp
  simp only [ho, resolve, invoke, builtin, Sem.run_bind, Sem.run_pure, Result.andThen_ok, List.map_toArray, List.map_cons, List.map_nil, hd, hs, hr]
  exact h
theorem ne_succ (k : Nat) : (((k : Nat) : Int) == (k : Int) + 1) = false := by simp; omega
set_option maxRecDepth 100000 in
theorem sdel_o (W : World) (base g cap N M k : Nat) (l : List Lt) (hN : N = l.length) (hM : N = M + 1) (hk : k ≤ M) (hN1 : N ≤ 512) (ho : W.ownsRow base ltT 3 (.slice (some ⟨g, 0, none⟩) N cap) N (ltFlat l)) :
    Calls Try.prog 35 #[.slice (some ⟨g, 0, none⟩) N cap, .int .i64 (k : Nat), .int .i64 ((k : Int) + 1)] W fun e W' => e = .returned (.slice (some ⟨g, 0, none⟩) M cap) ∧ W'.ownsRow base ltT 3 (.slice (some ⟨g, 0, none⟩) M cap) M (ltFlat (l.take k ++ l.drop (k + 1))) ∧ W.grownBy W' (some g) ∧ N ≤ cap := by
  obtain ⟨W2, W3, sp3, v1, m1, m2, m3, m4, m5, m6, ho3, hg3, hg2, hle⟩ := del_mem W base g cap N M k l hN hM hk hN1 ho
  have q1 := ne_succ k
  have Hm := Lib.hid (And.intro m2 (And.intro m3 m4))
  have HR := Lib.hid (And.intro ho3 (And.intro hg3 hle))
  clear ho3 hg3 hg2 hle m2 m3 m4 hN hM hk hN1 ho
  go_enter Try.func35, Try.ntmps35
  go_upto_region 5 with fail
  refine wp_region_held_drew (S := fun _ => True) (by kernel_rfl) trivial (fun hHeld => ?_)
  refine wpAnyH_take (i := 0) (v := ?_) rfl (by kernel_rfl) (by kernel_rfl) (by kernel_rfl) (fun _ _ _ h => h) (Or.inl ⟨by rfl, ?_⟩) (by assumption) ?_
  rotate_left
  · intro w8 hSw; clear hSw; go_simp; (try with_reducible rfl)
  simp only [Act.put, List.getElem_toArray, List.getElem_cons_zero, List.getElem_cons_succ, List.setIfInBounds_toArray, List.set_cons_zero, List.set_cons_succ]
  refine wpAnyH_take (i := 1) (v := ?_) rfl (by kernel_rfl) (by kernel_rfl) (by kernel_rfl) (fun _ _ _ h => h) (Or.inl ⟨by rfl, ?_⟩) (by assumption) ?_
  rotate_left
  · intro w8 hSw; clear hSw; go_simp; (try with_reducible rfl)
  simp only [Act.put, List.getElem_toArray, List.getElem_cons_zero, List.getElem_cons_succ, List.setIfInBounds_toArray, List.set_cons_zero, List.set_cons_succ]
  refine wpAnyH_take (i := 2) (v := .slice (some ⟨g, 0, none⟩) k cap) rfl (by kernel_rfl) (by kernel_rfl) (by kernel_rfl) (fun _ _ _ h => h) (Or.inl ⟨by rfl, ?_⟩) (by assumption) ?_
  · intro w8 hSw; exact sl_hi rfl (Hm.out.1 w8) rfl rfl
  simp only [Act.put, List.getElem_toArray, List.getElem_cons_zero, List.getElem_cons_succ, List.setIfInBounds_toArray, List.set_cons_zero, List.set_cons_succ]
  refine wpAnyH_take (i := 3) (v := ?_) rfl (by kernel_rfl) (by kernel_rfl) (by kernel_rfl) (fun _ _ _ h => h) (Or.inl ⟨by rfl, ?_⟩) (by assumption) ?_
  rotate_left
  · intro w8 hSw; clear hSw; go_simp; (try with_reducible rfl)
  simp only [Act.put, List.getElem_toArray, List.getElem_cons_zero, List.getElem_cons_succ, List.setIfInBounds_toArray, List.set_cons_zero, List.set_cons_succ]
  refine wpAnyH_take (i := 4) (v := ?_) rfl (by kernel_rfl) (by kernel_rfl) (by kernel_rfl) (fun _ _ _ h => h) (Or.inl ⟨by rfl, ?_⟩) (by assumption) ?_
  rotate_left
  · intro w8 hSw; clear hSw; go_simp; (try with_reducible rfl)
  simp only [Act.put, List.getElem_toArray, List.getElem_cons_zero, List.getElem_cons_succ, List.setIfInBounds_toArray, List.set_cons_zero, List.set_cons_succ]
  refine wpAnyH_take (i := 5) (v := .slice sp3 (N - (k + 1)) (cap - (k + 1))) rfl (by kernel_rfl) (by kernel_rfl) (by kernel_rfl) (fun _ _ _ h => h) (Or.inl ⟨by rfl, ?_⟩) (by assumption) ?_
  · intro w8 hSw; exact sl_lo rfl (Hm.out.2.1 w8) rfl rfl
  simp only [Act.put, List.getElem_toArray, List.getElem_cons_zero, List.getElem_cons_succ, List.setIfInBounds_toArray, List.set_cons_zero, List.set_cons_succ]
  refine wpAnyH_ready (rs := [6]) (by kernel_rfl) (by simp) ?_
  refine AllReadyH.cons rfl (fun K hK => ?_) AllReadyH.nil
  refine ap_wpo rfl rfl rfl (Hm.out.2.2 _) ?_
  refine hK.out _ _ trivial (fun hHeld => ?_)
  clear hK K
  try simp only [Act.put, List.getElem_toArray, List.getElem_cons_zero, List.getElem_cons_succ, List.setIfInBounds_toArray, List.set_cons_zero, List.set_cons_succ]
  refine wpAnyH_take (i := 7) (v := ?_) rfl (by kernel_rfl) (by kernel_rfl) (by kernel_rfl) (fun _ _ _ h => h) (Or.inl ⟨by rfl, ?_⟩) (by assumption) ?_
  rotate_left
  · intro w8 hSw; clear hSw; go_simp; (try with_reducible rfl)
  simp only [Act.put, List.getElem_toArray, List.getElem_cons_zero, List.getElem_cons_succ, List.setIfInBounds_toArray, List.set_cons_zero, List.set_cons_succ]
  refine wpAnyH_done (by kernel_rfl) ?_ _
  go_wp2_with fail
  go_ret
  exact ⟨rfl, HR.out⟩
set_option maxRecDepth 100000 in
theorem sins_mid (W : World) (base g cap M i : Nat) (l : List Lt) (x : Lt) (hM : M = l.length) (hi : i < M) (hcap : M + 1 ≤ cap) (hM5 : M ≤ 512) (ho : W.ownsRow base ltT 3 (.slice (some ⟨g, 0, none⟩) M cap) M (ltFlat l)) (vb : Nat)
    (hvb : W.heap[vb]? = some (.cells #[.int .i64 x.m.frm, .int .i64 x.m.dst, .slice x.ao (wireB x.m).length x.ac] ltT (0, 0))) (hne : vb ≠ g) :
    Calls Try.prog 36 #[.slice (some ⟨g, 0, none⟩) M cap, .int .i64 (i : Nat), .slice (some ⟨vb, 0, none⟩) 1 1] W fun e W' => e = .returned (.slice (some ⟨g, 0, none⟩) (M + 1) cap) ∧ W'.ownsRow base ltT 3 (.slice (some ⟨g, 0, none⟩) (M + 1) cap) (M + 1) (ltFlat (l.take i ++ [x] ++ l.drop i)) ∧ W.grownBy W' (some g) := by
  obtain ⟨W2, W3, v1, m1, m2, m3, m4, m5, m6, m7, ho3, hg3⟩ := ins_mem W base g cap M i l x hM hi hcap hM5 ho vb hvb hne
  obtain ⟨q1, q2, q3, q4⟩ : (((i : Nat) : Int) == (M : Int)) = false ∧ wrap64 ((M : Int) + 1) = (M : Int) + 1 ∧ wrap64 ((i : Int) + 1) = (i : Int) + 1 ∧ ¬ ((M : Int) + 1 > (cap : Nat)) := by
    refine ⟨by simp; omega, by rw [IntWalk.wrap64_in _ (by omega)], by rw [IntWalk.wrap64_in _ (by omega)], by omega⟩
  have Hadd := Lib.hid (add_one i (by omega))
  have Hm := Lib.hid (And.intro m3 (And.intro m5 m6))
  have HR := Lib.hid (And.intro ho3 hg3)
  have M4 := Lib.hid m4
  have M7 := Lib.hid m7
  clear ho3 hg3 hM hi hcap hM5 ho hvb hne m4 m6 m7
  go_enter Try.func36, Try.ntmps36
  go_wp2_with fail
  rw [run_callFunc_extern Try.func59 (by kernel_rfl) (by kernel_rfl) (by kernel_rfl) (e := Extern.SlicesOverlaps.overlaps #[ltsT, ltsT] #[4]) (by kernel_rfl), M4.out]
  simp only [Result.andThen]
  rw [Oper.upon_value]
  go_upto_region 15 with fail
  clear m1 m2 m3 m5
  refine wp_region_held_drew (S := fun _ => True) (by kernel_rfl) trivial (fun hHeld => ?_)
  refine wpAnyH_take (i := 0) (v := ?_) rfl (by kernel_rfl) (by kernel_rfl) (by kernel_rfl) (fun _ _ _ h => h) (Or.inl ⟨by rfl, ?_⟩) (by assumption) ?_
  rotate_left
  · intro w8 hSw; clear hSw; go_simp; (try with_reducible rfl)
  simp only [Act.put, List.getElem_toArray, List.getElem_cons_zero, List.getElem_cons_succ, List.setIfInBounds_toArray, List.set_cons_zero, List.set_cons_succ]
  refine wpAnyH_take (i := 1) (v := ?_) rfl (by kernel_rfl) (by kernel_rfl) (by kernel_rfl) (fun _ _ _ h => h) (Or.inl ⟨by rfl, ?_⟩) (by assumption) ?_
  rotate_left
  · intro w8 hSw; clear hSw; go_simp; (try with_reducible rfl)
  simp only [Act.put, List.getElem_toArray, List.getElem_cons_zero, List.getElem_cons_succ, List.setIfInBounds_toArray, List.set_cons_zero, List.set_cons_succ]
  refine wpAnyH_take (i := 2) (v := ?_) rfl (by kernel_rfl) (by kernel_rfl) (by kernel_rfl) (fun _ _ _ h => h) (Or.inl ⟨by rfl, ?_⟩) (by assumption) ?_
  rotate_left
  · intro w8 hSw; clear hSw; go_simp; (try with_reducible rfl)
  simp only [Act.put, List.getElem_toArray, List.getElem_cons_zero, List.getElem_cons_succ, List.setIfInBounds_toArray, List.set_cons_zero, List.set_cons_succ]
  refine wpAnyH_take (i := 3) (v := .int .i64 ((i : Int) + 1)) rfl (by kernel_rfl) (by kernel_rfl) (by kernel_rfl) (fun _ _ _ h => h) (Or.inl ⟨by rfl, ?_⟩) (by assumption) ?_
  · intro w8 hSw; exact bin_take rfl rfl (Hadd.out w8) rfl rfl
  simp only [Act.put, List.getElem_toArray, List.getElem_cons_zero, List.getElem_cons_succ, List.setIfInBounds_toArray, List.set_cons_zero, List.set_cons_succ]
  refine wpAnyH_take (i := 4) (v := .slice (some ⟨g, (i + 1) * 3, none⟩) (M - i) (cap - (i + 1))) rfl (by kernel_rfl) (by kernel_rfl) (by kernel_rfl) (fun _ _ _ h => h) (Or.inl ⟨by rfl, ?_⟩) (by assumption) ?_
  · intro w8 hSw; exact sl_lo rfl (Hm.out.1 w8) rfl rfl
  simp only [Act.put, List.getElem_toArray, List.getElem_cons_zero, List.getElem_cons_succ, List.setIfInBounds_toArray, List.set_cons_zero, List.set_cons_succ]
  refine wpAnyH_take (i := 5) (v := ?_) rfl (by kernel_rfl) (by kernel_rfl) (by kernel_rfl) (fun _ _ _ h => h) (Or.inl ⟨by rfl, ?_⟩) (by assumption) ?_
  rotate_left
  · intro w8 hSw; clear hSw; go_simp; (try with_reducible rfl)
  simp only [Act.put, List.getElem_toArray, List.getElem_cons_zero, List.getElem_cons_succ, List.setIfInBounds_toArray, List.set_cons_zero, List.set_cons_succ]
  refine wpAnyH_take (i := 6) (v := ?_) rfl (by kernel_rfl) (by kernel_rfl) (by kernel_rfl) (fun _ _ _ h => h) (Or.inl ⟨by rfl, ?_⟩) (by assumption) ?_
  rotate_left
  · intro w8 hSw; clear hSw; go_simp; (try with_reducible rfl)
  simp only [Act.put, List.getElem_toArray, List.getElem_cons_zero, List.getElem_cons_succ, List.setIfInBounds_toArray, List.set_cons_zero, List.set_cons_succ]
  refine wpAnyH_take (i := 7) (v := .slice (some ⟨g, i * 3, none⟩) (M + 1 - i) (cap - i)) rfl (by kernel_rfl) (by kernel_rfl) (by kernel_rfl) (fun _ _ _ h => h) (Or.inl ⟨by rfl, ?_⟩) (by assumption) ?_
  · intro w8 hSw; exact sl_lo rfl (Hm.out.2.1 w8) rfl rfl
  simp only [Act.put, List.getElem_toArray, List.getElem_cons_zero, List.getElem_cons_succ, List.setIfInBounds_toArray, List.set_cons_zero, List.set_cons_succ]
  refine wpAnyH_ready (rs := [8]) (by kernel_rfl) (by simp) ?_
  refine AllReadyH.cons rfl (fun K hK => ?_) AllReadyH.nil
  refine cp_wpo rfl rfl rfl (Hm.out.2.2 _) ?_
  refine hK.out _ _ trivial (fun hHeld => ?_)
  clear hK K
  try simp only [Act.put, List.getElem_toArray, List.getElem_cons_zero, List.getElem_cons_succ, List.setIfInBounds_toArray, List.set_cons_zero, List.set_cons_succ]
  refine wpAnyH_done (by kernel_rfl) ?_ _
  have m5 := Hm.out.2.1
  have m7 := M7.out
  go_wp2_with fail
  go_ret
  exact ⟨rfl, HR.out⟩
set_option maxRecDepth 100000 in
theorem sins_end (W : World) (base g cap M : Nat) (l : List Lt) (x : Lt) (hM : M = l.length) (hcap : M + 1 ≤ cap) (hM5 : M ≤ 512) (ho : W.ownsRow base ltT 3 (.slice (some ⟨g, 0, none⟩) M cap) M (ltFlat l)) (vb : Nat)
    (hvb : W.heap[vb]? = some (.cells #[.int .i64 x.m.frm, .int .i64 x.m.dst, .slice x.ao (wireB x.m).length x.ac] ltT (0, 0))) (hne : vb ≠ g) :
    Calls Try.prog 36 #[.slice (some ⟨g, 0, none⟩) M cap, .int .i64 (M : Nat), .slice (some ⟨vb, 0, none⟩) 1 1] W fun e W' => e = .returned (.slice (some ⟨g, 0, none⟩) (M + 1) cap) ∧ W'.ownsRow base ltT 3 (.slice (some ⟨g, 0, none⟩) (M + 1) cap) (M + 1) (ltFlat (l ++ [x])) ∧ W.grownBy W' (some g) := by
  obtain ⟨ii, hii1, hii2, hii3, hii4⟩ := info_parts infoLt
  have hsz3 : (Try.prog.info? ltT).map (·.size) = some 3 := by rw [hii1]; simp [hii3]
  have hle : M ≤ cap := by omega
  have m1 := fun W => run_slice_sl (P := Try.prog) (w := W) Try.underlying46 hsz3 (some ⟨g, 0, none⟩) M cap (some (.int .i64 (M : Nat))) none M M (.inl rfl) (.inr ⟨rfl, rfl⟩) (Nat.le_refl _) hle
  obtain ⟨v1, hv1⟩ : ∃ v1, v1 = Value.slice (if cap = M then (some ⟨g, 0, none⟩ : Option Addr) else (some ⟨g, 0, none⟩ : Option Addr).map (·.add (M * 3))) (M - M) (cap - M) := ⟨_, rfl⟩
  rw [← hv1] at m1
  obtain ⟨W2, m2, ho2, hg2⟩ : ∃ W2, (∀ ty, (Builtin.append_ #[ltsT, ltsT] ty #[.slice (some ⟨g, 0, none⟩) M cap, .slice (some ⟨vb, 0, none⟩) 1 1]).run Try.prog W = .ok (.slice (some ⟨g, 0, none⟩) (M + 1) cap) W2) ∧ W2.ownsRow base ltT 3 (.slice (some ⟨g, 0, none⟩) (M + 1) cap) (M + 1) (ltFlat l ++ ltCells x) ∧ W.grownBy W2 (some g) := by
    obtain ⟨W2, hr, ho2, hg2⟩ := run_append_fits (P := Try.prog) (w := W) base ltsT ltsT ltT ii 3 Try.underlying46 hii1 hii3 g M cap _ ho ⟨vb, 0, none⟩ 1 1 (ltCells x) rfl (fun j u hu => by
      rw [Addr.add_none, block_cell hvb, Nat.zero_add]
      simpa [ltCells] using hu) (lt_one x) hcap
    exact ⟨W2, fun ty => hr, ho2, hg2⟩
  have e9 : ltFlat l ++ ltCells x = ltFlat (l ++ [x]) := by simp [ltFlat]
  rw [e9] at ho2
  have q1 : (((M : Nat) : Int) == (M : Int)) = true := by simp
  have HR := Lib.hid (And.intro ho2 hg2)
  clear ho2 hg2 hM hcap hM5 ho hvb hne hv1 hle
  go_enter Try.func36, Try.ntmps36
  go_wp2_with (at_builtin; refine wpl_of rfl fun K hK => ap_wpo rfl rfl rfl (m2 _) (hK _ _ ?_))
  go_ret
  exact ⟨rfl, HR.out⟩
theorem sins_o (W : World) (base g cap M i : Nat) (l : List Lt) (x : Lt) (hM : M = l.length) (hi : i ≤ M) (hcap : M + 1 ≤ cap) (hM5 : M ≤ 512) (ho : W.ownsRow base ltT 3 (.slice (some ⟨g, 0, none⟩) M cap) M (ltFlat l)) (vb : Nat)
    (hvb : W.heap[vb]? = some (.cells #[.int .i64 x.m.frm, .int .i64 x.m.dst, .slice x.ao (wireB x.m).length x.ac] ltT (0, 0))) (hne : vb ≠ g) :
    Calls Try.prog 36 #[.slice (some ⟨g, 0, none⟩) M cap, .int .i64 (i : Nat), .slice (some ⟨vb, 0, none⟩) 1 1] W fun e W' => e = .returned (.slice (some ⟨g, 0, none⟩) (M + 1) cap) ∧ W'.ownsRow base ltT 3 (.slice (some ⟨g, 0, none⟩) (M + 1) cap) (M + 1) (ltFlat (l.take i ++ [x] ++ l.drop i)) ∧ W.grownBy W' (some g) := by
  by_cases h : i = M
  · subst h
    have e : l.take i ++ [x] ++ l.drop i = l ++ [x] := by
      rw [hM, List.take_length, List.drop_length, List.append_nil]
    rw [e]
    exact sins_end W base g cap i l x hM hcap hM5 ho vb hvb hne
  · exact sins_mid W base g cap M i l x hM (by omega) hcap hM5 ho vb hvb hne
end Go.Proofs.Ytbmkgcoolofmpaa
namespace Go.Proofs.Ytbmkgcoolofmpaa
set_option linter.unusedVariables false
set_option linter.unusedSimpArgs false
set_option linter.unusedSectionVars false
open Go Go.RowKit Go.Maps Go.Shelf
/-- the letter at k gets another place -/
def moveL {α : Type} (l : List α) (k t : Nat) (hk : k < l.length) : List α := (l.take k ++ l.drop (k + 1)).take t ++ [l[k]] ++ (l.take k ++ l.drop (k + 1)).drop t
theorem nums_move {k t N M r : Nat} (h1 : N = M + 1) (h2 : k < N) (h3 : t < N) (h4 : N ≤ r ∧ r ≤ 512) : k ≤ M ∧ t ≤ M ∧ N ≤ 512 ∧ M ≤ 512 ∧ wrap64 ((k : Int) + 1) = (k : Int) + 1 ∧ (0 : Int) ≤ (k : Int) ∧ (k : Int) < (N : Int) := by
  refine ⟨by omega, by omega, by omega, by omega, ?_, by omega, by omega⟩
  rw [IntWalk.wrap64_in _ (by omega)]
theorem len3 {a b : Nat} (h : a * 3 = b * 3) : a = b := by omega
theorem mem_move {l : List Lt} {k t : Nat} {x y : Lt} (hy : y ∈ (l.take k ++ l.drop (k + 1)).take t ++ [x] ++ (l.take k ++ l.drop (k + 1)).drop t) (hx : x ∈ l) : y ∈ l := by
  have h2 : ∀ z, z ∈ l.take k ++ l.drop (k + 1) → z ∈ l := fun z hz => by
    rcases List.mem_append.1 hz with h | h
    · exact List.mem_of_mem_take h
    · exact List.mem_of_mem_drop h
  rcases List.mem_append.1 hy with h | h
  · rcases List.mem_append.1 h with h | h
    · exact h2 y (List.mem_of_mem_take h)
    · simp only [List.mem_singleton] at h; subst h; exact hx
  · exact h2 y (List.mem_of_mem_drop h)
theorem own_some {W : World} {base n cap : Nat} {ao : Option Addr} {xs : List Value} (h : W.ownsRow base ltT 3 (.slice ao n cap) n xs) (hn : 0 < n) : ∃ g, ao = some ⟨g, 0, none⟩ := by
  rcases h.2 with ⟨h0, h1⟩ | ⟨g', cap', cur, hv, _⟩
  · omega
  · simp only [Value.slice.injEq] at hv; exact ⟨g', hv.1⟩
section
variable {base : Nat} {W W' : World} {F : Nat → Prop} {b room : Nat} {T : Int → Bool} {l : List Lt}
theorem bmove_no (h : Bg base W F b room T l) (k t : Int) (hk : ¬ ((0 ≤ k ∧ k < (l.length : Nat)) ∧ 0 ≤ t ∧ t < (l.length : Nat))) : Calls Try.prog 15 #[.pointer (some ⟨b, 0, none⟩), .int .i64 k, .int .i64 t] W fun e W' => e = .returned (.bool false) ∧ W' = W := by
  have Hk := Lib.hid (bhas_o h k)
  have Ht := Lib.hid (bhas_o h t)
  by_cases h1 : 0 ≤ k ∧ k < (l.length : Nat)
  · have h2 : ¬ (0 ≤ t ∧ t < (l.length : Nat)) := fun e => hk ⟨h1, e⟩
    rw [decide_eq_true h1] at Hk
    rw [decide_eq_false h2] at Ht
    clear h1 h2 hk h
    go_enter Try.func15, Try.ntmps15
    go_wp2_with fail
    refine Hk.out.mono ?_
    rintro e V1 ⟨rfl, hv⟩
    subst V1
    go_wp2_with fail
    refine Ht.out.mono ?_
    rintro e V1 ⟨rfl, hv⟩
    subst V1
    go_wp2_with fail
    go_ret
    exact ⟨rfl, rfl⟩
  · rw [decide_eq_false h1] at Hk
    clear h1 hk h Ht
    go_enter Try.func15, Try.ntmps15
    go_wp2_with fail
    refine Hk.out.mono ?_
    rintro e V1 ⟨rfl, hv⟩
    subst V1
    go_wp2_with fail
    go_ret
    exact ⟨rfl, rfl⟩
set_option maxRecDepth 100000 in
set_option maxHeartbeats 4000000 in
theorem bmove_yes (h : Bg base W F b room T l) (k t : Nat) (hk : k < l.length) (ht : t < l.length) : Calls Try.prog 15 #[.pointer (some ⟨b, 0, none⟩), .int .i64 (k : Nat), .int .i64 (t : Nat)] W fun e W' => e = .returned (.bool true) ∧ Bgx base W F b room T (moveL l k t hk) W' := by
  have Hk := Lib.hid (bhas_o h k)
  have Ht := Lib.hid (bhas_o h t)
  rw [decide_eq_true (⟨by omega, by omega⟩ : (0 : Int) ≤ (k : Nat) ∧ ((k : Nat) : Int) < (l.length : Nat))] at Hk
  rw [decide_eq_true (⟨by omega, by omega⟩ : (0 : Int) ≤ (t : Nat) ∧ ((t : Nat) : Int) < (l.length : Nat))] at Ht
  obtain ⟨L, hL⟩ : ∃ L, L = moveL l k t hk := ⟨_, rfl⟩
  obtain ⟨x, hx⟩ : ∃ x, x = l[k] := ⟨_, rfl⟩
  obtain ⟨l2, hl2⟩ : ∃ l2, l2 = l.take k ++ l.drop (k + 1) := ⟨_, rfl⟩
  have hL2 : L = l2.take t ++ [x] ++ l2.drop t := by rw [hL, hx, hl2]; rfl
  rw [← hL]
  obtain ⟨M, hM⟩ : ∃ M, l.length = M + 1 := ⟨l.length - 1, by omega⟩
  obtain ⟨N, hN⟩ : ∃ N, N = l.length := ⟨_, rfl⟩
  have hNM : N = M + 1 := hN.trans hM
  have HBG := Lib.hid h
  obtain ⟨m, n, ao, cap, h1, h2, h3, h4, h5, h6, h7, h8, h9⟩ := h
  obtain ⟨hkM, htM, hN5, hM5, w1, i0, i1⟩ := nums_move hNM (by rw [hN]; exact hk) (by rw [hN]; exact ht) (by rw [hN]; exact ⟨h8, h9⟩)
  have hxm : x ∈ l := by rw [hx]; exact List.getElem_mem hk
  have hcc := cut_cells l k M hM hkM
  have hl2len : l2.length = M := by rw [hl2]; exact hcc.len
  obtain ⟨g, fx, rfl, hgl, c0, c1, c2⟩ := lt_cells h2 k hk
  rw [← hx] at c0 c1 c2
  have e2 := block_cell h1 2
  have el := bx_lt h1
  simp at e2
  rw [← hN] at e2
  -- the box of the letter
  obtain ⟨V1, hV1⟩ : ∃ V, V = W.alloc (.cells #[.int .i64 x.m.frm, .int .i64 x.m.dst, .slice x.ao (wireB x.m).length x.ac] ltT) := ⟨_, rfl⟩
  obtain ⟨p1, hp1⟩ : ∃ p, p = W.heap.size := ⟨_, rfl⟩
  have hb1 : Below W.heap.size W V1 := by rw [hV1]; exact below_new _ _
  have hx1 : V1.heap[p1]? = some (.cells #[.int .i64 x.m.frm, .int .i64 x.m.dst, .slice x.ao (wireB x.m).length x.ac] ltT (0, 0)) := by rw [hV1, hp1]; exact heap_alloc_new _ _
  have Hcl := sclone_o V1 base cap _ l (own_below h2 hb1) (by rw [← hN]; exact hN5)
  rw [← hN] at Hcl
  have Hcl := Lib.hid Hcl
  have e2' := (hb1.cell (p := ⟨b, 2, none⟩) el).trans e2
  have el' := Nat.lt_of_lt_of_le el hb1.size
  have HB1 := Lib.hid hb1
  have HX1 := Lib.hid hx1
  have HE := Lib.hid (And.intro e2 el)
  have Hh := Lib.hid (And.intro h1 (And.intro h3 (And.intro h4 (And.intro h5 (And.intro h6 (And.intro h7 (And.intro h8 h9)))))))
  have HN := Lib.hid (And.intro hNM (And.intro hkM (And.intro htM (And.intro hN5 (And.intro hM5 (And.intro hN (And.intro hl2 hl2len)))))))
  have HL := Lib.hid hL2
  have Hxm := Lib.hid hxm
  clear h1 h2 h3 h4 h5 h6 h7 h8 h9 hb1 hx1 hNM hkM htM hN5 hM5 hN hM hl2 hl2len hcc hx hL hL2 hk ht hxm
  go_enter Try.func15, Try.ntmps15
  go_wp2_with fail
  refine (show Calls _ _ _ _ _ from Hk.out).mono ?_
  rintro e V0 ⟨rfl, hv⟩
  subst V0
  go_wp2_with fail
  refine (show Calls _ _ _ _ _ from Ht.out).mono ?_
  rintro e V0 ⟨rfl, hv⟩
  subst V0
  go_upto_region 4 with fail
  rw [← hV1, ← hp1]
  clear hV1 hp1 c0 c1 c2 e2 el hgl
  go_wp2_with fail
  refine (show Calls _ _ _ _ _ from Hcl.out).mono ?_
  rintro e V2 ⟨a2, cc2, rfl, ho2, hb2⟩
  obtain ⟨g2, rfl⟩ := own_some ho2 (by rw [HN.out.1]; exact Nat.succ_pos M)
  have hg2 := ho2.lt g2 rfl
  have hd := Lib.hid (sdel_o V2 V1.heap.size g2 cc2 N M k l HN.out.2.2.2.2.2.1 HN.out.1 HN.out.2.1 HN.out.2.2.2.1 ho2)
  have HB2 := Lib.hid hb2
  have HG2 := Lib.hid hg2
  clear ho2 hb2 hg2 e2' el'
  go_wp2_with fail
  refine (show Calls _ _ _ _ _ from hd.out).mono ?_
  rintro e V3 ⟨rfl, ho3, hg3, hcap⟩
  rw [← HN.out.2.2.2.2.2.2.1] at ho3
  have hbV3 : Below V1.heap.size V1 V3 := below_grown HB2.out hg3 HG2.out.1 HB2.out.size
  have hx3 := bx_below hbV3 HX1.out
  have q0 := block_cell hx3 0
  have q1 := block_cell hx3 1
  have q2 := block_cell hx3 2
  have ql := bx_lt hx3
  simp at q0 q1 q2
  obtain ⟨V4, hV4⟩ : ∃ V, V = V3.alloc (.cells #[.int .i64 x.m.frm, .int .i64 x.m.dst, .slice x.ao (wireB x.m).length x.ac] ltT) := ⟨_, rfl⟩
  obtain ⟨vb, hvb⟩ : ∃ p, p = V3.heap.size := ⟨_, rfl⟩
  have hb4 : Below V3.heap.size V3 V4 := by rw [hV4]; exact below_new _ _
  have hx4 : V4.heap[vb]? = some (.cells #[.int .i64 x.m.frm, .int .i64 x.m.dst, .slice x.ao (wireB x.m).length x.ac] ltT (0, 0)) := by rw [hV4, hvb]; exact heap_alloc_new _ _
  have hne : vb ≠ g2 := fun e => Nat.lt_irrefl vb (Nat.lt_of_lt_of_le (by rw [e]; exact HG2.out.2) (by rw [hvb]; exact hg3.size))
  have hd2 := Lib.hid (sins_o V4 V1.heap.size g2 cc2 M t l2 x HN.out.2.2.2.2.2.2.2.symm HN.out.2.2.1 (by rw [← HN.out.1]; exact hcap) HN.out.2.2.2.2.1 (own_below ho3 hb4) vb hx4 hne)
  have HB4 := Lib.hid (below_on hbV3 hb4 (Nat.le_refl _))
  clear ho3 hg3 hcap hbV3 hx3 hb4 hx4 hne hd
  go_wp2_with fail
  rw [← hV4, ← hvb]
  clear hV4 hvb q0 q1 q2 ql
  refine (show Calls _ _ _ _ _ from hd2.out).mono ?_
  rintro e V5 ⟨rfl, ho5, hg5⟩
  rw [← HL.out] at ho5
  have hB5 : Below W.heap.size W V5 := below_on HB1.out (below_grown HB4.out hg5 HG2.out.1 HB4.out.size) (Nat.le_refl _)
  obtain ⟨h1, h3, h4, h5, h6, h7, h8, h9⟩ := Hh.out
  have hx5 := bx_below hB5 h1
  have hLn : L.length = M + 1 := by
    have := ho5.1
    rw [ltFlat_len] at this
    exact len3 this
  have hbg := bg_setrow (base := base) (m := m) (n := n) (T := T) (l := L) (ao := some ⟨g2, 0, none⟩) (cap := cc2) hx5 (by rw [hLn]; exact own_base ho5 (Nat.le_trans (Nat.le_trans h6 (Nat.le_of_lt (bx_lt h1))) HB1.out.size)) (h3.1.below hB5) h3.2
    (fun y hy => by
      have hy2 : y ∈ l := by
        rw [HL.out, HN.out.2.2.2.2.2.2.1] at hy
        exact mem_move hy Hxm.out
      exact ⟨(h4 y hy2).dat.below hB5, (h4 y hy2).fit⟩) h6 h7 (by rw [hLn, ← HN.out.1, HN.out.2.2.2.2.2.1]; exact h8) h9
  rw [hLn] at hbg
  have hgr : Gr F W (V5.setCell ⟨b, 2, none⟩ (.slice (some ⟨g2, 0, none⟩) (M + 1) cc2)) := (Gr.below hB5).then (Gr.one (F := fun i => i = b) (grown_set V5 b 2 _) (fun i e => (Option.some.inj e).symm)) (fun i hi => .inl ((h5 i).2 (.inl hi)))
  have hF' : ∀ i, (i = b ∨ i = m ∨ (Value.slice (some ⟨g2, 0, none⟩) (M + 1) cc2).ownBlock = some i) → F i ∨ W.heap.size ≤ i := by
    intro i hi
    rcases hi with hi | hi | hi
    · exact .inl ((h5 i).2 (.inl hi))
    · exact .inl ((h5 i).2 (.inr (.inl hi)))
    · refine .inr ?_
      simp only [Value.ownBlock, Option.some.injEq] at hi
      rw [← hi]; exact Nat.le_trans HB1.out.size HG2.out.1
  have HR : Hid (Bgx base W F b room T L (V5.setCell ⟨b, 2, none⟩ (.slice (some ⟨g2, 0, none⟩) (M + 1) cc2))) := (⟨_, hbg, hgr, hF'⟩ : Bgx base W F b room T L (V5.setCell ⟨b, 2, none⟩ (.slice (some ⟨g2, 0, none⟩) (M + 1) cc2)))
  have y2 := block_cell hx5 2
  have f2 := block_free hx5 2
  have yl := bx_lt hx5
  simp at y2 f2
  clear hbg hgr hF' hx5 hB5 ho5 hg5 h1 h3 h4 h5 h6 h7 h8 h9 hLn hd2
  go_wp2_with fail
  go_ret
  exact ⟨rfl, HR.out⟩
end
end Go.Proofs.Ytbmkgcoolofmpaa
namespace Go.Proofs.Ytbmkgcoolofmpaa
set_option linter.unusedVariables false
set_option linter.unusedSimpArgs false
set_option linter.unusedSectionVars false
open Go Go.RowKit Go.Maps Go.Shelf
theorem rw_nums {i n : Nat} (h : i < n) (h2 : n ≤ 512) : (0 : Int) ≤ (i : Int) ∧ (i : Int) < (n : Int) ∧ wrap64 ((i : Int) + 1) = (i : Int) + 1 := by
  refine ⟨by omega, by omega, ?_⟩
  rw [IntWalk.wrap64_in _ (by omega)]
end Go.Proofs.Ytbmkgcoolofmpaa
