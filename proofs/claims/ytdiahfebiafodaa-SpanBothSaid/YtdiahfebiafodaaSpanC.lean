/- Contracts of slices.Clone, span.common, curfewref07.part, span.Cut and curfewref07.Cut. No statement of the seat is proved here. -/
import Derived.Test.YtdiahfebiafodaaSpanR
import Derived.Lib.SliceRun
namespace Go.Proofs.Ytdiahfebiafodaa
set_option linter.unusedVariables false
set_option linter.unusedSimpArgs false
set_option linter.unusedSectionVars false
open Go Go.RowKit

theorem infoSp : (Try.prog.info? 30).map (fun i => (i.zero, i.size, i.bytes)) = some (some (.agg #[.int .i64 0, .int .i64 0]), 2, 16) := by kernel_rfl
theorem sp_one (s : Sp) : ∀ u ∈ spCells s, u.oneCell' = true := by
  intro u hu
  simp [spCells] at hu
  rcases hu with rfl | rfl <;> rfl
theorem sps_one (l : List Sp) : ∀ u ∈ (l.map spCells).flatten, u.oneCell' = true := by
  intro u hu
  obtain ⟨r, hr, hu⟩ := List.mem_flatten.1 hu
  obtain ⟨s, _, rfl⟩ := List.mem_map.1 hr
  exact sp_one s u hu

/-- the copy -/
theorem clone_any (ao : Option Addr) (cap : Nat) (l : List Sp) (w : World) (hl : l.length ≤ 1000000) (hs : Sps w ao cap l) :
    Calls Try.prog 43 #[.slice ao l.length cap] w fun e w' => (∃ ao' cap', e = .returned (.slice ao' l.length cap') ∧ Sps w' ao' cap' l) ∧ Below w.heap.size w w' := by
  have q22 : ∀ (w : World) (a : Option Addr) (n c n' c' : Nat), (binOp .eql 22 (.slice a n c) (.slice none n' c')).run Try.prog w = .ok (.bool a.isNone) w := fun w a n c n' c' => Lib.run_eql_slice_nil w _ _ a n c n' c' Try.underlying22
  cases ao with
  | none =>
    have hc := hs.none rfl
    have hle := hs.le
    have h0 : l = [] := List.eq_nil_of_length_eq_zero (by omega)
    subst h0
    subst hc
    go_enter Try.func43, Try.ntmps43
    go_wp2
    go_ret
    exact ⟨⟨none, 0, rfl, Sps.nil w⟩, Below.refl _ _⟩
  | some ad =>
    go_enter Try.func43, Try.ntmps43
    go_wp2_with (at_builtin; refine wpl_append rfl (.tmp 5) (.tmp 6) 22 rfl w.heap.size 30 infoSp Try.underlying22 rfl (by decide) _ 0 [] rfl (own_empty w w.heap.size _ 2 (Nat.le_refl _)) _ _ _ _ rfl (hs.below (below_new _ _)) (sps_one l) ?_ ?_ ?_ ?_; (unfold maxLen; omega); omega; exact (below_new _ _).size; intro ao' cap' w' hown' hg')
    go_ret
    refine ⟨⟨ao', cap', by simp, ?_⟩, below_app (below_new _ _) hg' (own_empty w w.heap.size _ 2 (Nat.le_refl _)) (Nat.le_refl _) (below_new _ _).size⟩
    rw [Nat.zero_add] at hown'
    exact Sps.of_own hown'

/-- what a span has between two instants -/
def Sp.part (s : Sp) (f t : Int) : Sp := ⟨if s.a < f then f else s.a, if t < s.b then t else s.b⟩
def Sp.full (s : Sp) : Bool := decide (s.a < s.b)
/-- the parts that are not empty -/
def parts (l : List Sp) (f t : Int) : List Sp := (l.map fun s => s.part f t).filter Sp.full
/-- the row between two instants -/
def cutL (l : List Sp) (f t : Int) : List Sp := if rowErr l = 0 then parts l f t else []

theorem below_drew {B : Nat} {w w' : World} (h : Below B w w') : Below B w w'.drew := ⟨h.os, h.tape, h.output, h.size, h.block⟩
theorem common_any (s : Sp) (f t : Int) (w : World) : Calls Try.prog 58 #[spVal s, .int .i64 f, .int .i64 t] w fun e w' => e = .returned (spVal (s.part f t)) ∧ Below w.heap.size w w' := by
  obtain ⟨a, b⟩ := s
  unfold spVal
  by_cases h1 : a < f
  · by_cases h2 : t < b
    · have hp : Sp.part ⟨a, b⟩ f t = ⟨f, t⟩ := by unfold Sp.part; simp only [if_pos h1, if_pos h2]
      rw [hp]
      go_enter Try.func58, Try.ntmps58
      go_wp2
      refine bodyPost_ret (v := .agg #[.int .i64 f, .int .i64 t]) (by simp [results, Try.results58, go_sem]) rfl ?_
      exact ⟨rfl, (below_new _ _).alloc (by simp) _⟩
    · have hp : Sp.part ⟨a, b⟩ f t = ⟨f, b⟩ := by unfold Sp.part; simp only [if_pos h1, if_neg h2]
      rw [hp]
      go_enter Try.func58, Try.ntmps58
      go_wp2
      refine bodyPost_ret (v := .agg #[.int .i64 f, .int .i64 b]) (by simp [results, Try.results58, go_sem]) rfl ?_
      exact ⟨rfl, (below_new _ _).alloc (by simp) _⟩
  · by_cases h2 : t < b
    · have hp : Sp.part ⟨a, b⟩ f t = ⟨a, t⟩ := by unfold Sp.part; simp only [if_neg h1, if_pos h2]
      rw [hp]
      go_enter Try.func58, Try.ntmps58
      go_wp2
      refine bodyPost_ret (v := .agg #[.int .i64 a, .int .i64 t]) (by simp [results, Try.results58, go_sem]) rfl ?_
      exact ⟨rfl, (below_new _ _).alloc (by simp) _⟩
    · have hp : Sp.part ⟨a, b⟩ f t = ⟨a, b⟩ := by unfold Sp.part; simp only [if_neg h1, if_neg h2]
      rw [hp]
      go_enter Try.func58, Try.ntmps58
      go_wp2
      refine bodyPost_ret (v := .agg #[.int .i64 a, .int .i64 b]) (by simp [results, Try.results58, go_sem]) rfl ?_
      exact ⟨rfl, (below_new _ _).alloc (by simp) _⟩

theorem part_any (s : Sp) (f t : Int) (w : World) : Calls Try.prog 59 #[spVal s, .int .i64 f, .int .i64 t] w fun e w' => e = .returned (.tuple #[spVal (s.part f t), .bool (s.part f t).full]) ∧ Below w.heap.size w w' := by
  obtain ⟨a, b⟩ := s
  unfold spVal
  by_cases h1 : a < f
  · by_cases h2 : t < b
    · have hp : Sp.part ⟨a, b⟩ f t = ⟨f, t⟩ := by unfold Sp.part; simp only [if_pos h1, if_pos h2]
      rw [hp]
      go_enter Try.func59, Try.ntmps59
      go_wp2
      go_region
      go_wp2
      refine bodyPost_ret (v := .tuple #[.agg #[.int .i64 f, .int .i64 t], .bool (decide (f < t))]) (by simp [results, Try.results59, go_sem]) rfl ?_
      exact ⟨rfl, below_drew ((below_new _ _).alloc (by simp) _)⟩
    · have hp : Sp.part ⟨a, b⟩ f t = ⟨f, b⟩ := by unfold Sp.part; simp only [if_pos h1, if_neg h2]
      rw [hp]
      go_enter Try.func59, Try.ntmps59
      go_wp2
      go_region
      go_wp2
      refine bodyPost_ret (v := .tuple #[.agg #[.int .i64 f, .int .i64 b], .bool (decide (f < b))]) (by simp [results, Try.results59, go_sem]) rfl ?_
      exact ⟨rfl, below_drew ((below_new _ _).alloc (by simp) _)⟩
  · by_cases h2 : t < b
    · have hp : Sp.part ⟨a, b⟩ f t = ⟨a, t⟩ := by unfold Sp.part; simp only [if_neg h1, if_pos h2]
      rw [hp]
      go_enter Try.func59, Try.ntmps59
      go_wp2
      go_region
      go_wp2
      refine bodyPost_ret (v := .tuple #[.agg #[.int .i64 a, .int .i64 t], .bool (decide (a < t))]) (by simp [results, Try.results59, go_sem]) rfl ?_
      exact ⟨rfl, below_drew ((below_new _ _).alloc (by simp) _)⟩
    · have hp : Sp.part ⟨a, b⟩ f t = ⟨a, b⟩ := by unfold Sp.part; simp only [if_neg h1, if_neg h2]
      rw [hp]
      go_enter Try.func59, Try.ntmps59
      go_wp2
      go_region
      go_wp2
      refine bodyPost_ret (v := .tuple #[.agg #[.int .i64 a, .int .i64 b], .bool (decide (a < b))]) (by simp [results, Try.results59, go_sem]) rfl ?_
      exact ⟨rfl, below_drew ((below_new _ _).alloc (by simp) _)⟩

/-- a literal's cells, one block behind -/
theorem news_at2 {w : World} {o : Obj} {cs : Array Value} {T : TypeId} (row : List Value) (h : cs.toList = row) : ∀ j u, row[j]? = some u → ((w.alloc o).alloc (.cells cs T)).cell? ((⟨w.heap.size + 1, 0, .none⟩ : Addr).add j) = some u := by
  have := news_at (w := w.alloc o) (cs := cs) (T := T) row h
  have e : (w.alloc o).heap.size = w.heap.size + 1 := by simp
  rw [e] at this
  exact this
/-- the list under way -/
theorem own_nil (w : World) (base e size : Nat) : w.ownsRow base e size (.slice none 0 0) 0 [] := by
  exact ⟨by simp, .inl ⟨rfl, rfl⟩⟩

set_option maxHeartbeats 1000000 in
theorem cut_any (ao : Option Addr) (cap : Nat) (l : List Sp) (f t : Int) (w : World) (hs : Sps w ao cap l) :
    Calls Try.prog 48 #[.slice ao l.length cap, .int .i64 f, .int .i64 t] w fun e w' => (∃ ao' cap', e = .returned (.slice ao' (cutL l f t).length cap') ∧ Sps w' ao' cap' (cutL l f t)) ∧ Below w.heap.size w w' := by
  obtain ⟨L, hL⟩ : ∃ L, L = cutL l f t := ⟨_, rfl⟩
  rw [← hL]
  have HL := Lib.hid hL
  clear hL
  go_enter Try.func48, Try.ntmps48
  go_wp2_with fail
  refine (row_any ao cap l w hs).mono ?_
  rintro e w1 ⟨rfl, hb1⟩
  have hs1 := hs.below hb1
  by_cases h0 : rowErr l = 0
  · have hlen : l.length ≤ 32 := by
      apply Classical.byContradiction
      intro h
      unfold rowErr at h0
      rw [if_pos (by omega)] at h0
      cases h0
    have hL2 : L = parts l f t := by rw [HL.out]; unfold cutL; rw [if_pos h0]
    have HL2 := Lib.hid hL2
    clear HL hL2
    rw [h0]
    go_wp2_with fail
    go_loopw [6, 15] (fun v u wr => ∃ (i : Nat) (out : List Sp), u = .int .i64 i ∧ i ≤ l.length ∧ out.length ≤ i ∧ Hid (L = out ++ parts (l.drop i) f t) ∧ wr.ownsRow w.heap.size 30 2 v out.length (out.map spCells).flatten ∧ Below w.heap.size w wr)
      (fun v u _ => l.length - (intOf u).toNat)
    case atStart => exact ⟨0, [], rfl, Nat.zero_le _, Nat.le_refl _, (by show L = [] ++ parts (l.drop 0) f t; rw [HL2.out]; rfl), own_nil _ _ _ _, hb1⟩
    case round =>
      obtain ⟨i, out, rfl, hi, ho, hLo, hown, hb⟩ := hrel
      obtain ⟨oa, oc, rfl⟩ := own_slice hown
      by_cases hlt : i < l.length
      · have hs2 := hs.below hb
        obtain ⟨b, off, rfl, c0, c1⟩ := hs2.get i hlt
        have hcat : parts (l.drop i) f t = (if (l[i].part f t).full then [l[i].part f t] else []) ++ parts (l.drop (i + 1)) f t := by
          rw [List.drop_eq_getElem_cons hlt]
          unfold parts
          simp only [List.map_cons, List.filter_cons]
          split <;> simp
        have Hcat := Lib.hid hcat
        clear hcat
        obtain ⟨s, hsd⟩ : ∃ s, s = l[i] := ⟨_, rfl⟩
        rw [← hsd] at c0 c1 Hcat
        have hcm := common_any s f t
        obtain ⟨p, hp⟩ : ∃ p, p = s.part f t := ⟨_, rfl⟩
        rw [← hp] at hcm Hcat
        clear hp hsd
        obtain ⟨x, y⟩ := s
        obtain ⟨px, py⟩ := p
        unfold spVal at hcm
        simp only at c0 c1 hcm
        go_wp2_with fail
        refine (hcm _).mono ?_
        rintro e w2 ⟨rfl, hb2⟩
        have hbX : Below wr.heap.size wr w2 := below_on (below_new wr _) hb2 (Nat.le_refl _)
        have hown2 := own_below hown hbX
        have hB := below_on hb hbX (Nat.le_refl _)
        by_cases hxy : px < py
        · have hfu : Sp.full ⟨px, py⟩ = true := by simpa [Sp.full] using hxy
          rw [hfu] at Hcat
          have hz2 := hB.size
          go_wp2_with (at_builtin; refine wpl_append_one rfl (.tmp 28) (.tmp 30) 22 rfl w.heap.size 30 infoSp Try.underlying22 rfl (by decide) _ out.length (out.map spCells) rfl ((hown2.alloc _).alloc _) _ 1 (spCells ⟨px, py⟩) rfl rfl (news_at2 _ rfl) (sp_one _) ?_ ?_ ?_ ?_; omega; (unfold maxLen; omega); (simp; omega); intro g c3 w3 hown3 hg3 hlie)
          go_roundw
          case rel =>
            refine ⟨i + 1, out ++ [⟨px, py⟩], by simp, by omega, by simp; omega, ?_, by simpa using hown3, ?_⟩
            · show L = _
              rw [hLo.out, Hcat.out]; simp
            · exact below_app ((hB.alloc hB.size _).alloc (by simp; omega) _) hg3 ((hown2.alloc _).alloc _) (Nat.le_refl _) (by simp; omega)
          case measure => simp [intOf]; omega
        · have hfu : Sp.full ⟨px, py⟩ = false := by simpa [Sp.full] using hxy
          rw [hfu] at Hcat
          go_wp2_with fail
          go_roundw
          case rel =>
            refine ⟨i + 1, out, by simp, by omega, by omega, ?_, hown2.alloc _, hB.alloc hB.size _⟩
            show L = _
            rw [hLo.out, Hcat.out]; simp
          case measure => simp [intOf]; omega
      · have hi' : i = l.length := by omega
        subst hi'
        have he : L = out := by rw [hLo.out, List.drop_length]; simp [parts]
        go_wp2_with fail
        go_ret
        exact ⟨⟨oa, oc, by rw [he]; rfl, by rw [he]; exact Sps.of_own hown⟩, hb⟩
  · have he : L = [] := by rw [HL.out]; unfold cutL; rw [if_neg h0]
    have h1 : ((rowErr l : Nat) : Int) ≠ 0 := by omega
    go_wp2_with fail
    go_ret
    exact ⟨⟨none, 0, by rw [he]; rfl, by rw [he]; exact Sps.nil _⟩, hb1⟩
set_option maxHeartbeats 1000000 in
theorem refCut_any (ao : Option Addr) (cap : Nat) (l : List Sp) (f t : Int) (w : World) (hs : Sps w ao cap l) :
    Calls Try.prog 49 #[.slice ao l.length cap, .int .i64 f, .int .i64 t] w fun e w' => (∃ ao' cap', e = .returned (.slice ao' (cutL l f t).length cap') ∧ Sps w' ao' cap' (cutL l f t)) ∧ Below w.heap.size w w' := by
  obtain ⟨L, hL⟩ : ∃ L, L = cutL l f t := ⟨_, rfl⟩
  rw [← hL]
  have HL := Lib.hid hL
  clear hL
  go_enter Try.func49, Try.ntmps49
  go_wp2_with fail
  refine (refRow_any ao cap l w hs).mono ?_
  rintro e w1 ⟨rfl, hb1⟩
  have hs1 := hs.below hb1
  by_cases h0 : rowErr l = 0
  · have hlen : l.length ≤ 32 := by
      apply Classical.byContradiction
      intro h
      unfold rowErr at h0
      rw [if_pos (by omega)] at h0
      cases h0
    have hL2 : L = parts l f t := by rw [HL.out]; unfold cutL; rw [if_pos h0]
    have HL2 := Lib.hid hL2
    clear HL hL2
    rw [h0]
    go_wp2_with fail
    go_loopw [7, 8] (fun v u wr => ∃ (i : Nat) (out : List Sp), u = .int .i64 i ∧ i ≤ l.length ∧ out.length ≤ i ∧ Hid (L = out ++ parts (l.drop i) f t) ∧ wr.ownsRow w.heap.size 30 2 v out.length (out.map spCells).flatten ∧ Below w.heap.size w wr)
      (fun v u _ => l.length - (intOf u).toNat)
    case atStart => exact ⟨0, [], rfl, Nat.zero_le _, Nat.le_refl _, (by show L = [] ++ parts (l.drop 0) f t; rw [HL2.out]; rfl), own_nil _ _ _ _, hb1⟩
    case round =>
      obtain ⟨i, out, rfl, hi, ho, hLo, hown, hb⟩ := hrel
      obtain ⟨oa, oc, rfl⟩ := own_slice hown
      by_cases hlt : i < l.length
      · have hs2 := hs.below hb
        obtain ⟨b, off, rfl, c0, c1⟩ := hs2.get i hlt
        have hcat : parts (l.drop i) f t = (if (l[i].part f t).full then [l[i].part f t] else []) ++ parts (l.drop (i + 1)) f t := by
          rw [List.drop_eq_getElem_cons hlt]
          unfold parts
          simp only [List.map_cons, List.filter_cons]
          split <;> simp
        have Hcat := Lib.hid hcat
        clear hcat
        obtain ⟨s, hsd⟩ : ∃ s, s = l[i] := ⟨_, rfl⟩
        rw [← hsd] at c0 c1 Hcat
        have hcm := part_any s f t
        obtain ⟨p, hp⟩ : ∃ p, p = s.part f t := ⟨_, rfl⟩
        rw [← hp] at hcm Hcat
        clear hp hsd
        obtain ⟨x, y⟩ := s
        obtain ⟨px, py⟩ := p
        obtain ⟨fu, hfu⟩ : ∃ fu, fu = Sp.full ⟨px, py⟩ := ⟨_, rfl⟩
        rw [← hfu] at hcm Hcat
        unfold spVal at hcm
        simp only at c0 c1 hcm
        go_wp2_with fail
        refine (hcm _).mono ?_
        rintro e w2 ⟨rfl, hb2⟩
        have hbX : Below wr.heap.size wr w2 := hb2
        have hown2 := own_below hown hbX
        have hB := below_on hb hbX (Nat.le_refl _)
        cases fu with
        | true =>
          clear hfu
          have hz2 := hB.size
          go_wp2_with (at_builtin; refine wpl_append_one rfl (.tmp 31) (.tmp 33) 22 rfl w.heap.size 30 infoSp Try.underlying22 rfl (by decide) _ out.length (out.map spCells) rfl ((hown2.alloc _).alloc _) _ 1 (spCells ⟨px, py⟩) rfl rfl (news_at2 _ rfl) (sp_one _) ?_ ?_ ?_ ?_; omega; (unfold maxLen; omega); (simp; omega); intro g c3 w3 hown3 hg3 hlie)
          go_roundw
          case rel =>
            refine ⟨i + 1, out ++ [⟨px, py⟩], by simp, by omega, by simp; omega, ?_, by simpa using hown3, ?_⟩
            · show L = _
              rw [hLo.out, Hcat.out]; simp
            · exact below_app ((hB.alloc hB.size _).alloc (by simp; omega) _) hg3 ((hown2.alloc _).alloc _) (Nat.le_refl _) (by simp; omega)
          case measure => simp [intOf]; omega
        | false =>
          clear hfu
          go_wp2_with fail
          go_roundw
          case rel =>
            refine ⟨i + 1, out, by simp, by omega, by omega, ?_, hown2.alloc _, hB.alloc hB.size _⟩
            show L = _
            rw [hLo.out, Hcat.out]; simp
          case measure => simp [intOf]; omega
      · have hi' : i = l.length := by omega
        subst hi'
        have he : L = out := by rw [hLo.out, List.drop_length]; simp [parts]
        go_wp2_with fail
        go_ret
        exact ⟨⟨oa, oc, by rw [he]; rfl, by rw [he]; exact Sps.of_own hown⟩, hb⟩
  · have he : L = [] := by rw [HL.out]; unfold cutL; rw [if_neg h0]
    have h1 : ((rowErr l : Nat) : Int) ≠ 0 := by omega
    go_wp2_with fail
    go_ret
    exact ⟨⟨none, 0, by rw [he]; rfl, by rw [he]; exact Sps.nil _⟩, hb1⟩
end Go.Proofs.Ytdiahfebiafodaa
