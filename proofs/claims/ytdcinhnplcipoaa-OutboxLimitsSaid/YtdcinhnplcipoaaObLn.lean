/- The law's two maps as functions: looked up, written. No statement of the seat is proved here. -/
import Derived.Test.YtdcinhnplcipoaaObLm
import Derived.Maps.OwnSet
import Derived.Maps.OwnOps
namespace Go.Proofs.Ytdcinhnplcipoaa
set_option linter.unusedVariables false
set_option linter.unusedSimpArgs false
set_option linter.unusedSectionVars false
open Go Go.RowKit Go.Maps Go.Shelf

abbrev MT := 39
theorem u64law : Keyed Try.prog 22 := int_keyed Try.underlying22
theorem zeroI (w : World) : (zeroValue 3).run Try.prog w = .ok (.int .i64 0) w := by kernel_rfl
/-- the map D as a function -/
def MapF (D : DataW Unit) (T : Int → Int) : Prop := Maps.Tidy D ∧ ∀ k : Int, D.atKey (.int .u64 k) (.lit (.int .i64 0)) = .lit (.int .i64 (T k))
theorem MapF.start : MapF (.map []) (fun _ => 0) := ⟨tidy_empty, fun _ => rfl⟩
theorem keyU_ne {a b : Int} (h : a ≠ b) : (Lit.int .u64 a) ≠ Lit.int .u64 b := fun e => by cases e; exact h rfl
theorem MapF.put {D : DataW Unit} {T : Int → Int} (h : MapF D T) (k x : Int) : MapF (D.put (.int .u64 k) (.lit (.int .i64 x))) (upd T k x) := by
  obtain ⟨h1, h2⟩ := h
  have hk : WideAt.IsKeyLit (.int .u64 k) := by trivial
  refine ⟨h1.put hk _, fun j => ?_⟩
  by_cases e : j = k
  · subst e
    rw [upd_same]; exact atKey_put_same h1.isMap hk _ _
  · rw [upd_other _ _ e, atKey_put_other (keyU_ne e)]; exact h2 j
/-- the law's map in block b, written n times -/
def Mp (w : World) (b n : Nat) (T : Int → Int) : Prop := ∃ D : DataW Unit, w.ownsMap Try.prog 22 (plainElem Try.prog 3) b n D ∧ MapF D T
theorem Mp.elem {w : World} {b n : Nat} {T : Int → Int} (h : Mp w b n T) (E : TypeId) : elem? w b ≠ some E := by
  obtain ⟨D, ⟨es, clock, hb, _⟩, _⟩ := h
  unfold elem?; rw [hb]; simp
theorem Mp.kept {w w' : World} {b n : Nat} {T : Int → Int} (h : Mp w b n T) (hb : w'.heap[b]? = w.heap[b]?) : Mp w' b n T := by
  obtain ⟨D, ⟨es, clock, h1, h2⟩, h3⟩ := h
  exact ⟨D, ⟨es, clock, hb.trans h1, h2⟩, h3⟩
theorem Mp.lt {w : World} {b n : Nat} {T : Int → Int} (h : Mp w b n T) : b < w.heap.size := by
  obtain ⟨D, ⟨es, clock, h1, h2⟩, h3⟩ := h
  exact (Array.getElem?_eq_some_iff.1 h1).1
theorem Mp.below {w w' : World} {b n : Nat} {T : Int → Int} (h : Mp w b n T) (hB : Below w.heap.size w w') : Mp w' b n T := h.kept (hB.block b h.lt)
/-- 'm[k]' as a fact for the walk -/
theorem Mp.look {w : World} {b n : Nat} {T : Int → Int} (h : Mp w b n T) (k : Int) (hk : (Lit.int .u64 k).wf = true) : (Instr.lookup MT (.map (some b)) (.int .u64 k) false).run Try.prog w = .ok (.int .i64 (T k)) w := by
  obtain ⟨D, h1, h2⟩ := h
  obtain ⟨c, hrun, hat, -⟩ := h1.lookup_int u64law Try.underlying39 Try.underlying3 (zeroI w) (keyOf_int_mk Try.underlying22 hk)
  rw [h2.2 k] at hat
  simp at hat
  rw [hat]; exact hrun
/-- 'm[k] = x' -/
theorem wpl_mapset {w : World} {ops : Array Oper} {rest : List Oper} {o : Oper} {a : Act} {Q : Exit → Act → World → Prop} (hg : o.guard = none) (m x v : Operand) (hop : o.op = Op.mapUpdate MT m x v)
    (b n : Nat) (T : Int → Int) (k y : Int) (hm : a.eval m = .map (some b)) (hown : Mp w b n T) (hn : n < 100000000) (hx : a.eval x = .int .u64 k) (hv : a.eval v = .int .i64 y) (hk : (Lit.int .u64 k).wf = true) (hy : (Lit.int .i64 y).wf = true)
    (hK : ∀ w', Mp w' b (n + 1) (upd T k y) → w.grownBy w' (some b) → wpList Try.prog ops Q rest (a.put o.dst undef) w') : wpList Try.prog ops Q (o :: rest) a w := by
  obtain ⟨D, h1, h2⟩ := hown
  refine wpList_mapUpdate_own w hg m x v MT hop 22 3 u64law Try.underlying39 _ b n D hm h1 (by unfold maxLen; omega) _ _ _ hx hv (keyOf_int_mk Try.underlying22 hk) _ [] (plainElem_int Try.underlying3 hy) fun w' h3 h4 => ?_
  exact hK w' ⟨_, h3, h2.put k y⟩ h4
end Go.Proofs.Ytdcinhnplcipoaa
