/- segment.Copy. No statement of the seat is proved here. -/
import Derived.Test.YtlphpjgiaflfkaaSs
import Derived.Test.YtlphpjgiaflfkaaSd
namespace Go.Proofs.Ytlphpjgiaflfkaa
set_option linter.unusedVariables false
set_option linter.unusedSimpArgs false
set_option linter.unusedSectionVars false
open Go Go.RowKit Go.Shelf

set_option maxRecDepth 100000 in
set_option maxHeartbeats 1000000 in
theorem clones_any (ao : Option Addr) (cap : Nat) (l : List Ep) (w : World) (h : Ens w ao cap l) (hl : l.length ≤ 1000000) :
    Calls Try.prog 61 #[.slice ao l.length cap] w fun e w' => ∃ ao' cap', e = .returned (.slice ao' l.length cap') ∧ w'.ownsRow w.heap.size 38 3 (.slice ao' l.length cap') l.length (l.map epCells).flatten ∧ Below w.heap.size w w' := by
  cases ao with
  | none =>
    have h1 := h.sl.none rfl
    have h2 := h.sl.le
    obtain rfl : l = [] := List.eq_nil_of_length_eq_zero (by omega)
    subst h1
    have hn := fun wx : World => run_eql_nil_slice (P := Try.prog) wx 25 38 none 0 0 0 0 Try.underlying25
    go_enter Try.func61, Try.ntmps61
    go_wp2
    go_ret
    exact ⟨_, _, rfl, World.ownsRow_nil _ _ _ _, Below.refl _ _⟩
  | some a =>
    have hn := fun wx : World => Lib.run_eql_slice_nil (P := Try.prog) wx 25 38 (some a) l.length cap 0 0 Try.underlying25
    have how0 := own_empty w w.heap.size 38 3 (Nat.le_refl _)
    have hone : ∀ u ∈ (l.map epCells).flatten, u.oneCell' = true := by
      intro u hu
      obtain ⟨r, hr, hur⟩ := List.mem_flatten.1 hu
      obtain ⟨x, -, rfl⟩ := List.mem_map.1 hr
      simp [epCells] at hur
      rcases hur with rfl | rfl | rfl <;> rfl
    have hsl := h.sl.below (below_new w (.cells #[] 38))
    go_enter Try.func61, Try.ntmps61
    go_wp2_with (at_builtin; refine wpl_append rfl (.tmp 5) (.tmp 6) 25 rfl w.heap.size 38 infoEn Try.underlying25 rfl (by decide) _ 0 [] rfl how0 _ l.length _ _ rfl hsl hone ?_ ?_ ?_ ?_; (unfold maxLen; omega); omega; (simp); intro ao' cap' w' how' hg')
    go_ret
    rw [Nat.zero_add] at how'
    exact ⟨_, _, rfl, how', below_app (below_new _ _) hg' how0 (Nat.le_refl _) (by simp)⟩
theorem flat3_set (a : Option Addr) (c : Nat) (l : List Ep) : ∀ (i : Nat) (hi : i < l.length), ((l.map epCells).flatten).set (i * 3 + 2) (.slice a l[i].e.data.length c) = ((l.set i ⟨l[i].e, a, c⟩).map epCells).flatten := by
  induction l with
  | nil => intro i hi; simp at hi
  | cons x l ih =>
    intro i hi
    cases i with
    | zero => rfl
    | succ i =>
      have h1 := ih i (by simpa using hi)
      simp only [List.map_cons, List.flatten_cons, List.set_cons_succ, List.getElem_cons_succ]
      rw [← h1, show (i + 1) * 3 + 2 = (i * 3 + 2) + 3 from by omega]
      rfl
/-- an entry of which the data are one's own -/
def OwnD (w : World) (base : Nat) (x : Ep) : Prop := w.ownsRow base 5 1 (.slice x.ao x.e.data.length x.cap) x.e.data.length (x.e.data.map u8)
theorem OwnD.below {w w' : World} {base : Nat} {x : Ep} (h : OwnD w base x) (hb : Below w.heap.size w w') : OwnD w' base x := own_below h hb
theorem OwnD.set {w : World} {base g j : Nat} {x : Ep} (h : OwnD w base x) (hg : elem? w g = some 38) (v : Value) : OwnD (w.setCell ⟨g, j, none⟩ v) base x := by
  refine ownsRow_setCell_other h (a := ⟨g, j, none⟩) ?_ v
  intro e
  have h1 := own_elemE h g e
  rw [hg] at h1
  exact absurd h1 (by decide)
set_option maxRecDepth 100000 in
set_option maxHeartbeats 4000000 in
theorem segCopy_any (ao : Option Addr) (cap : Nat) (l : List Ep) (w : World) (h : Ens w ao cap l) (hl : l.length ≤ 1000000) (hd : ∀ x ∈ l, x.e.data.length ≤ 1000000) :
    Calls Try.prog 29 #[.slice ao l.length cap] w fun e w' => ∃ (ao' : Option Addr) (cap' : Nat) (el : List Ep), e = .returned (.slice ao' el.length cap') ∧ w'.ownsRow w.heap.size 38 3 (.slice ao' el.length cap') el.length (el.map epCells).flatten ∧ el.map Ep.e = l.map Ep.e ∧ (∀ x ∈ el, OwnD w' w.heap.size x) ∧ Below w.heap.size w w' := by
  have Hcl := Lib.hid (clones_any ao cap l w h hl)
  have Hd := Lib.hid hd
  clear hd
  go_enter Try.func29, Try.ntmps29
  go_wp2_with fail
  refine Hcl.out.mono ?_
  rintro e w1 ⟨a1, c1, rfl, how1, hB1⟩
  go_wp2_with fail
  go_loopw [9] (fun u wr => ∃ (i : Nat) (el : List Ep), u = .int .i64 (i : Nat) ∧ i ≤ l.length ∧ Hid (el.length = l.length) ∧ Hid (el.map Ep.e = l.map Ep.e) ∧ Hid (el.drop i = l.drop i) ∧ Hid (∀ x ∈ el.take i, OwnD wr w.heap.size x) ∧ wr.ownsRow w.heap.size 38 3 (.slice a1 l.length c1) l.length (el.map epCells).flatten ∧ Below w.heap.size w wr) (fun u _ => l.length - (intOf u).toNat)
  case atStart => exact ⟨0, l, rfl, Nat.zero_le _, Lib.hid rfl, Lib.hid rfl, Lib.hid rfl, Lib.hid (by simp), how1, hB1⟩
  case round =>
    obtain ⟨i, el, rfl, hi, Hel, Hee, Hdr, Hown, how, hB⟩ := hrel
    by_cases hlt : i < l.length
    · obtain ⟨g, rfl⟩ : ∃ g, a1 = some ⟨g, 0, none⟩ := by
        rcases how.2 with ⟨_, hn⟩ | ⟨g, cap', cur, hv, _⟩
        · omega
        · simp only [Value.slice.injEq] at hv
          exact ⟨g, hv.1⟩
      have hle : i < el.length := by rw [Hel.out]; exact hlt
      have heli : el[i] = l[i] := by
        have h1 := congrArg (fun z => z[0]?) Hdr.out
        simpa [List.getElem?_drop, hle, hlt] using h1
      have i0 : (0 : Int) ≤ (i : Int) := by omega
      have i1 : (i : Int) < (l.length : Int) := by omega
      have hdi := (h.data l[i] (List.getElem_mem hlt)).below hB
      have hdl := Hd.out l[i] (List.getElem_mem hlt)
      have q2 : wr.cell? ⟨g, i * 3 + 2, none⟩ = some (.slice l[i].ao l[i].e.data.length l[i].cap) := by
        have hc := how.cellAt (i * 3 + 2) (by omega)
        rw [flat3_get el i hle 2 (by decide)] at hc
        rw [hc, heli]; rfl
      have hcln := clone_any l[i].ao l[i].cap l[i].e.data wr (by omega) hdi
      have Hcln := Lib.hid hcln
      clear hcln hdi
      go_wp2_with fail
      refine Hcln.out.mono ?_
      rintro e w2 ⟨a2, c2, rfl, hf2⟩
      have hB2 := below_on hB hf2.bel (Nat.le_refl _)
      have how2 := own_below how hf2.bel
      have hfr := how2.frozenAt (i * 3 + 2)
      have q3 : w2.cell? ⟨g, i * 3 + 2, none⟩ = some (.slice l[i].ao l[i].e.data.length l[i].cap) := (hf2.bel.cell (p := ⟨g, i * 3 + 2, none⟩) (cell?_lt q2)).trans q2
      have hgB : w.heap.size ≤ g := (how.lt g rfl).1
      have hnx : ∃ el' : List Ep, el'.length = l.length ∧ el'.map Ep.e = l.map Ep.e ∧ el'.drop (i + 1) = l.drop (i + 1) ∧ (∀ x ∈ el'.take (i + 1), OwnD (w2.setCell ⟨g, i * 3 + 2, none⟩ (.slice a2 l[i].e.data.length c2)) w.heap.size x) ∧
          (w2.setCell ⟨g, i * 3 + 2, none⟩ (.slice a2 l[i].e.data.length c2)).ownsRow w.heap.size 38 3 (.slice (some ⟨g, 0, none⟩) l.length c1) l.length (el'.map epCells).flatten := by
        refine ⟨el.set i ⟨el[i].e, a2, c2⟩, by rw [List.length_set]; exact Hel.out, ?_, ?_, ?_, ?_⟩
        · rw [List.map_set, ← Hee.out]
          have h1 : (el.map Ep.e)[i]'(by simpa using hle) = el[i].e := by simp
          simp only
          rw [← h1]
          exact List.set_getElem_self _
        · rw [List.drop_set_of_lt (by omega)]
          have h1 := congrArg (List.drop 1) Hdr.out
          rw [List.drop_drop, List.drop_drop] at h1
          exact h1
        · have hel := own_elemE how2 g rfl
          rw [List.take_succ_eq_append_getElem (by rw [List.length_set]; exact hle), List.take_set_of_le (Nat.le_refl _), List.getElem_set_self]
          intro x hx
          rcases List.mem_append.1 hx with hx | hx
          · exact ((Hown.out x hx).below hf2.bel).set hel _
          · simp only [List.mem_singleton] at hx
            subst hx
            refine OwnD.set ?_ hel _
            unfold OwnD
            simp only [heli]
            exact own_base hf2.own hB.size
        · rw [← flat3_set a2 c2 el i hle]
          simp only [heli]
          exact (how2.stored (i * 3 + 2) _).1
      obtain ⟨el', n1, n2, n3, n4, n5⟩ := hnx
      have N1 := Lib.hid n1
      have N2 := Lib.hid n2
      have N3 := Lib.hid n3
      have N4 := Lib.hid n4
      have N6 : Below w.heap.size w (w2.setCell ⟨g, i * 3 + 2, none⟩ (.slice a2 l[i].e.data.length c2)) := hB2.setCell hgB _
      clear n1 n2 n3 n4 q2 Hcln heli
      go_wp2_with fail
      go_roundw
      case rel => exact ⟨i + 1, el', by simp, by omega, N1, N2, N3, N4, n5, N6⟩
      case measure => simp [intOf]; omega
    · have hii : i = l.length := by omega
      subst hii
      go_wp2_with fail
      have ho := Hown.out
      rw [List.take_of_length_le (by rw [Hel.out]; exact Nat.le_refl _)] at ho
      go_ret
      exact ⟨a1, c1, el, by rw [Hel.out]; rfl, by rw [Hel.out]; exact how, Hee.out, ho, hB⟩
end Go.Proofs.Ytlphpjgiaflfkaa
