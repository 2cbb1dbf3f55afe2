/- slices.SortFunc at spans: the library's contract, laid at this program's numbers. No statement of the seat is proved here. -/
import Derived.Shelf.SlSortCmp.WholeK
import Derived.Shelf.SlSortCmp.NoneTotal
import Derived.Test.YtdiahfebiafodaaAlmX
namespace Go.Proofs.Ytdiahfebiafodaa
set_option linter.unusedVariables false
set_option linter.unusedSimpArgs false
set_option linter.unusedSectionVars false
open Go Go.Shelf Go.RowKit Go.Lib Go.Sort

def sortSp_ren : Go.Shelf.Ren := ⟨fun | 6 => 52 | 15 => 62 | 14 => 61 | 28 => 71 | 29 => 72 | 20 => 63 | 21 => 64 | 22 => 65 | 23 => 66 | 24 => 67 | 25 => 68 | 26 => 69 | 27 => 70 | 46 => 73 | 47 => 74 | 48 => 75 | 49 => 76 | 50 => 77 | 57 => 78 | n => n, fun | 22 => 22 | 24 => 30 | 25 => 71 | 3 => 3 | 39 => 78 | 0 => 0 | 53 => 88 | 55 => 90 | 4 => 4 | 46 => 81 | 45 => 80 | 50 => 85 | 5 => 5 | 9 => 9 | 66 => 91 | 70 => 95 | 76 => 97 | 77 => 98 | n => n, fun | n => n⟩
theorem sortSp : Go.Proofs.SlLaysF0.n6 Try.prog sortSp_ren := {
  mixed := by kernel_rfl
  f6 := ⟨Try.f52.name, by decide, Try.func52.trans (congrArg some (by kernel_rfl))⟩
  f14 := ⟨Try.f61.name, by decide, Try.func61.trans (congrArg some (by kernel_rfl))⟩
  f15 := Try.func62.trans (congrArg some (by kernel_rfl))
  f20 := ⟨Try.f63.name, by decide, Try.func63.trans (congrArg some (by kernel_rfl))⟩
  f21 := ⟨Try.f64.name, by decide, Try.func64.trans (congrArg some (by kernel_rfl))⟩
  f22 := ⟨Try.f65.name, by decide, Try.func65.trans (congrArg some (by kernel_rfl))⟩
  f23 := ⟨Try.f66.name, by decide, Try.func66.trans (congrArg some (by kernel_rfl))⟩
  f24 := ⟨Try.f67.name, by decide, Try.func67.trans (congrArg some (by kernel_rfl))⟩
  f25 := ⟨Try.f68.name, by decide, Try.func68.trans (congrArg some (by kernel_rfl))⟩
  f26 := ⟨Try.f69.name, by decide, Try.func69.trans (congrArg some (by kernel_rfl))⟩
  f27 := ⟨Try.f70.name, by decide, Try.func70.trans (congrArg some (by kernel_rfl))⟩
  f28 := Try.func71.trans (congrArg some (by kernel_rfl))
  f29 := Try.func72.trans (congrArg some (by kernel_rfl))
  f46 := ⟨Try.f73.name, by decide, Try.func73.trans (congrArg some (by kernel_rfl))⟩
  f47 := Try.func74.trans (congrArg some (by kernel_rfl))
  f48 := Try.func75.trans (congrArg some (by kernel_rfl))
  f49 := ⟨Try.f76.name, by decide, Try.func76.trans (congrArg some (by kernel_rfl))⟩
  f50 := ⟨Try.f77.name, by decide, Try.func77.trans (congrArg some (by kernel_rfl))⟩
  f57 := ⟨Try.f78.name, by decide, Try.func78.trans (congrArg some (by kernel_rfl))⟩
  t0 := Try.underlying0
  a0 := Try.isAgg0
  z0 := Try.sizeOf0
  v0 := Try.zeroValue0
  t3 := Try.underlying3
  a3 := Try.isAgg3
  z3 := Try.sizeOf3
  v3 := Try.zeroValue3
  t4 := Try.underlying4
  a4 := Try.isAgg4
  z4 := Try.sizeOf4
  v4 := Try.zeroValue4
  t5 := Try.underlying5
  a5 := Try.isAgg5
  z5 := Try.sizeOf5
  v5 := Try.zeroValue5
  t9 := Try.underlying9
  a9 := Try.isAgg9
  z9 := Try.sizeOf9
  v9 := Try.zeroValue9
  t22 := Try.underlying22
  a22 := Try.isAgg22
  z22 := Try.sizeOf22
  v22 := Try.zeroValue22
  t25 := Try.underlying71
  a25 := Try.isAgg71
  z25 := Try.sizeOf71
  v25 := Try.zeroValue71
  t39 := Try.underlying78
  a39 := Try.isAgg78
  z39 := Try.sizeOf78
  v39 := Try.zeroValue78
  t45 := Try.underlying80
  a45 := Try.isAgg80
  z45 := Try.sizeOf80
  v45 := Try.zeroValue80
  t46 := Try.underlying81
  a46 := Try.isAgg81
  z46 := Try.sizeOf81
  v46 := Try.zeroValue81
  t50 := Try.underlying85
  a50 := Try.isAgg85
  z50 := Try.sizeOf85
  v50 := Try.zeroValue85
  t53 := Try.underlying88
  a53 := Try.isAgg88
  z53 := Try.sizeOf88
  v53 := Try.zeroValue88
  t55 := Try.underlying90
  a55 := Try.isAgg90
  z55 := Try.sizeOf90
  v55 := Try.zeroValue90
  t66 := Try.underlying91
  a66 := Try.isAgg91
  z66 := Try.sizeOf91
  v66 := Try.zeroValue91
  t70 := Try.underlying95
  a70 := Try.isAgg95
  z70 := Try.sizeOf95
  v70 := Try.zeroValue95
  t76 := Try.underlying97
  a76 := Try.isAgg97
  z76 := Try.sizeOf97
  v76 := Try.zeroValue97
  t77 := Try.underlying98
  a77 := Try.isAgg98
  z77 := Try.sizeOf98
  v77 := Try.zeroValue98 }

theorem isAggSp : ∀ w, (isAgg 30).run Try.prog w = .ok true w := fun _ => by kernel_rfl
theorem sizeOfSp : ∀ w, (Go.sizeOf 30).run Try.prog w = .ok 2 w := fun _ => by kernel_rfl

/-- which begins first? -/
def cmpA (x y : Sp) : Int := if x.a < y.a then -1 else if y.a < x.a then 1 else 0
theorem ltA (x y : Sp) : ltOf cmpA x y = decide (x.a < y.a) := by
  unfold ltOf cmpA
  by_cases h1 : x.a < y.a
  · simp [h1]
  · by_cases h2 : y.a < x.a <;> simp [h1, h2]
theorem swoA : SWO (ltOf cmpA) where
  irrefl x := by rw [ltA]; simp
  trans x y z h1 h2 := by rw [ltA] at *; simp at *; omega
  ntrans x y z h1 h2 := by rw [ltA] at *; simp at *; omega

theorem cmpA_any (x y : Sp) (W : World) : Calls Try.prog 53 #[.agg #[.int .i64 x.a, .int .i64 x.b], .agg #[.int .i64 y.a, .int .i64 y.b]] W fun e w' => e = .returned (.int .i64 (cmpA x y)) ∧ ∃ q os', w' = grow (W.drewN q) os' := by
  obtain ⟨x0, x1⟩ := x
  obtain ⟨y0, y1⟩ := y
  simp only
  have key : ∃ q os', (W.alloc (.cells #[.int .i64 x0, .int .i64 x1] 30)).alloc (.cells #[.int .i64 y0, .int .i64 y1] 30) = grow (W.drewN q) os' := ⟨0, _, by rw [alloc_eq_grow, alloc_eq_grow, grow_grow]; rfl⟩
  by_cases h1 : x0 < y0
  · have e : cmpA ⟨x0, x1⟩ ⟨y0, y1⟩ = -1 := by unfold cmpA; rw [if_pos h1]
    rw [e]
    go_enter Try.func53, Try.ntmps53
    go_wp2
    go_ret
    exact ⟨rfl, key⟩
  · by_cases h2 : y0 < x0
    · have e : cmpA ⟨x0, x1⟩ ⟨y0, y1⟩ = 1 := by unfold cmpA; rw [if_neg h1, if_pos h2]
      rw [e]
      go_enter Try.func53, Try.ntmps53
      go_wp2
      go_ret
      exact ⟨rfl, key⟩
    · have e : cmpA ⟨x0, x1⟩ ⟨y0, y1⟩ = 0 := by unfold cmpA; rw [if_neg h1, if_neg h2]
      rw [e]
      go_enter Try.func53, Try.ntmps53
      go_wp2
      go_ret
      exact ⟨rfl, key⟩

theorem cmpLaysA (blk off size : Nat) (w : World) : CmpLays Try.prog 53 #[] spCells 2 cmpA blk off size w :=
  fun _ _ _ _ x y => cmpA_any x y _

theorem sps_flat (l : List Sp) (i c : Nat) (hi : i < l.length) (hc : c < 2) : (l.map spCells).flatten[i * 2 + c]? = (spCells l[i])[c]? := by
  have := flatten_get (sps_each l) i c (by simpa using hi) (by simp only [List.getElem_map, sp_len]; exact hc)
  rw [this]
  simp only [List.getElem_map]
  rw [List.getElem?_eq_getElem (by rw [sp_len]; exact hc)]

theorem holds_own {w : World} {base g cap : Nat} {l : List Sp} (h : w.ownsRow base 30 2 (.slice (some ⟨g, 0, none⟩) l.length cap) l.length (l.map spCells).flatten) : HoldsK spCells 2 w g 0 l.toArray := by
  intro j hj
  have hj2 : j < l.length * 2 := by simpa using hj
  have hi : j / 2 < l.length := by omega
  have hc : j % 2 < 2 := by omega
  have h1 := h.cellAt j hj2
  have h2 := sps_flat l (j / 2) (j % 2) hi hc
  rw [show j / 2 * 2 + j % 2 = j by omega] at h2
  refine ⟨?_, by rw [Nat.zero_add]; exact h.frozenAt j⟩
  rw [Nat.zero_add, h1, h2, get_flatK spCells 2 l.toArray j (by simpa using hj2)]
  have e : l.toArray[j / 2]! = l[j / 2] := by simp [hi]
  rw [e, List.getElem?_eq_getElem (by rw [sp_len]; exact hc)]
  exact congrArg some (getElem!_pos _ _ (by rw [sp_len]; exact hc)).symm

theorem sps_holds {w : World} {g cap : Nat} {d : Array Sp} (h : HoldsK spCells 2 w g 0 d) (hle : d.size ≤ cap) (hmax : cap ≤ maxLen) : Sps w (some ⟨g, 0, none⟩) cap d.toList := by
  refine ⟨?_, by simpa using hle, hmax, fun h => (by cases h), fun j u hu => ⟨g, 0, rfl, ?_⟩⟩
  · have := sps_each d.toList
    clear h hle
    generalize d.toList = l at *
    induction l with
    | nil => rfl
    | cons s l ih => simp only [List.map_cons, List.flatten_cons, List.length_append, List.length_cons, sp_len]; rw [ih (sps_each l)]; omega
  · have hj : j < d.toList.length * 2 := by
      have h2 := (List.getElem?_eq_some_iff.1 hu).1
      have h3 : (d.toList.map spCells).flatten.length = d.toList.length * 2 := by
        generalize d.toList = l
        induction l with
        | nil => rfl
        | cons s l ih => simp only [List.map_cons, List.flatten_cons, List.length_append, List.length_cons, sp_len]; omega
      omega
    have hi : j / 2 < d.toList.length := by omega
    have hc : j % 2 < 2 := by omega
    have h2 := sps_flat d.toList (j / 2) (j % 2) hi hc
    rw [show j / 2 * 2 + j % 2 = j by omega] at h2
    rw [h2, List.getElem?_eq_getElem (by rw [sp_len]; exact hc)] at hu
    have h3 := (h.cell (i := j / 2) (c := j % 2) (by simpa using hi) hc).1
    rw [show 0 + j / 2 * 2 + j % 2 = 0 + j by omega] at h3
    rw [h3, ← hu]
    have e : d[j / 2]! = d.toList[j / 2] := by
      have hi2 : j / 2 < d.size := by simpa using hi
      simp [getElem!_pos, hi2]
    rw [e]
    exact congrArg some (getElem!_pos _ _ (by rw [sp_len]; exact hc))

theorem sort_below {w : World} {base g n : Nat} {d : Array Sp} {os : Array Obj} (hg : base ≤ g) (hb : base ≤ w.heap.size) : Below base w (sortWorldK spCells 2 w g 0 n d os) := by
  refine ⟨rfl, rfl, rfl, ?_, fun k hk => ?_⟩
  · unfold sortWorldK
    simp [grow, putRowK, Sort.ahead]
  · unfold sortWorldK
    have h1 : (putRowK spCells 2 (Sort.ahead w n) g 0 d).heap[k]? = w.heap[k]? := by
      unfold putRowK putRow mapBlock
      simp only [Sort.ahead]
      rw [Array.getElem?_modify, if_neg (by omega)]
    have hs : k < (putRowK spCells 2 (Sort.ahead w n) g 0 d).heap.size := by
      simp [putRowK, Sort.ahead]; omega
    show ((putRowK spCells 2 (Sort.ahead w n) g 0 d).heap ++ os)[k]? = _
    rw [Array.getElem?_append_left hs, h1]

set_option maxHeartbeats 1000000 in
theorem sort_some (base g cap : Nat) (l : List Sp) (w : World) (h : w.ownsRow base 30 2 (.slice (some ⟨g, 0, none⟩) l.length cap) l.length (l.map spCells).flatten) (hg : base ≤ g) (hb : base ≤ w.heap.size) (hgw : g < w.heap.size) (hl : l.length ≤ 1000000) (hle : l.length ≤ cap) (hmax : cap ≤ maxLen) :
    Calls Try.prog 52 #[.slice (some ⟨g, 0, none⟩) l.length cap, .func (.func 53) #[] #[]] w fun e w' =>
      e = .returned (.tuple #[]) ∧ (∃ l' : List Sp, l'.Perm l ∧ l'.Pairwise (fun x y => x.a ≤ y.a) ∧ l'.length = l.length ∧ Sps w' (some ⟨g, 0, none⟩) cap l') ∧ Below base w w' := by
  have hH := holds_own h
  have hcon := AnyQ.slices_SortFunc sortSp 2 isAggSp sizeOfSp spCells (fun _ => rfl) (fun x v hv => sp_one x v hv) cmpA swoA 53 #[] g 0 cap l.toArray w (enters_of Try.func53 (by kernel_rfl) rfl) (cmpLaysA g 0 _ w) hH hgw (by simp; omega)
  change Calls Try.prog 52 _ _ _ at hcon
  have e : l.toArray.size = l.length := by simp
  rw [e] at hcon
  refine hcon.mono ?_
  rintro e w' ⟨rfl, d', n, os, hp, hs, rfl⟩
  obtain ⟨p1, -, p3⟩ := hp
  have hd : d'.size = l.length := by simpa using p1
  have hperm : d'.toList.Perm l := by
    have e1 : (d'.extract 0 l.length).toList = d'.toList := by rw [← hd]; simp
    have e2 : (l.toArray.extract 0 l.length).toList = l := by simp
    rw [e1, e2] at p3
    exact p3
  refine ⟨rfl, ⟨d'.toList, hperm, ?_, by simpa using hd, ?_⟩, sort_below hg hb⟩
  · rw [List.pairwise_iff_getElem]
    intro i j hi hj hij
    have hj2 : j < d'.size := by simpa using hj
    have hi2 : i < d'.size := by omega
    have := hs i j (Nat.zero_le _) hij (by omega)
    rw [ltA] at this
    simp only [getElem!_pos, hi2, hj2, decide_eq_false_iff_not] at this
    simp only [Array.getElem_toList]
    omega
  · refine sps_holds ?_ (by omega) hmax
    unfold sortWorldK
    exact holdsK_grow _ _ _ _ _ _ _ (by simp [putRowK, Sort.ahead]; exact hgw) (holdsK_putRowK _ _ _ _ _ _ _ (holdsK_ahead _ _ _ _ _ _ _ hH) (by simpa using hd))

theorem sort_none (ao : Option Addr) (cap : Nat) (w : World) : Calls Try.prog 52 #[.slice ao 0 cap, .func (.func 53) #[] #[]] w fun e w' => e = .returned (.tuple #[]) ∧ w' = w :=
  AnyF.slices_SortFunc_none sortSp ao cap _ w

/-- the sort of a row of the call's own -/
theorem sort_any (base : Nat) (v : Value) (l : List Sp) (w : World) (h : w.ownsRow base 30 2 v l.length (l.map spCells).flatten) (hb : base ≤ w.heap.size) (hl : l.length ≤ 1000000) :
    Calls Try.prog 52 #[v, .func (.func 53) #[] #[]] w fun e w' =>
      e = .returned (.tuple #[]) ∧ (∃ l' : List Sp, l'.Perm l ∧ l'.Pairwise (fun x y => x.a ≤ y.a) ∧ l'.length = l.length ∧ ∃ ao cap, v = .slice ao l.length cap ∧ Sps w' ao cap l') ∧ Below base w w' := by
  rcases h.2 with ⟨rfl, h0⟩ | ⟨g, cap, cur, rfl, hg, hh, hle, hmax, -, -⟩
  · have : l = [] := List.eq_nil_of_length_eq_zero h0
    subst this
    refine (sort_none none 0 w).mono ?_
    rintro e w' ⟨rfl, rfl⟩
    exact ⟨rfl, ⟨[], List.Perm.refl _, List.Pairwise.nil, rfl, none, 0, rfl, Sps.nil _⟩, Below.refl _ _⟩
  · refine (sort_some base g cap l w h hg hb (Array.getElem?_eq_some_iff.1 hh).1 hl hle hmax).mono ?_
    rintro e w' ⟨rfl, ⟨l', h1, h2, h3, h4⟩, h5⟩
    exact ⟨rfl, ⟨l', h1, h2, h3, some ⟨g, 0, none⟩, cap, rfl, h4⟩, h5⟩
end Go.Proofs.Ytdiahfebiafodaa
