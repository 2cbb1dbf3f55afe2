/- Helper lemmas of our own, more: an append inside a region that draws its order; pieces. No statement of the seat is proved here. -/
import Derived.Test.YtadghaiengonoaaAux
namespace Go.Proofs.Ytadghaiengonoaa
set_option linter.unusedVariables false
set_option linter.unusedSimpArgs false
set_option linter.unusedSectionVars false
open Go Go.RowKit

/-- append(out, src...) as one operation: out nil or the call's own, src whatever reads as a list -/
theorem wpo_append {P : Program} {w : World} {o : Oper} {a : Act} {K : Act → World → Prop} {Q : Exit → Act → World → Prop} (s x : Operand) (t : TypeId)
    (ho : o.op = .call { callee := .builtin .append, args := #[s, x], argTypes := #[t, t] })
    (base : Nat) (e : TypeId) {z : Value} {size bytes : Nat} (hi : (P.info? e).map (fun i => (i.zero, i.size, i.bytes)) = some (some z, size, bytes)) (ht : P.underlying t = some (.slice e))
    (hzs : z.cells.size = size) (hsz : 0 < size)
    (v : Value) (n : Nat) (xs : List Value) (hs : a.eval s = v) (hown : w.ownsRow base e size v n xs)
    (ao : Option Addr) (m c : Nat) (news : List Value) (hx : a.eval x = .slice ao m c) (hsl : Sl w size ao m c news) (h1 : ∀ u ∈ news, u.oneCell' = true)
    (h63 : n + m ≤ maxLen) (hbytes : (n + m) * bytes ≤ 140737488355328) (hbase : base ≤ w.heap.size)
    (h : ∀ ao' cap' w', w'.ownsRow base e size (.slice ao' (n + m) cap') (n + m) (xs ++ news) → w.grownBy w' v.ownBlock → K (a.put o.dst (.slice ao' (n + m) cap')) w') : o.wp P a w K Q := by
  obtain ⟨i, hi1, hi2, hi3, hi4⟩ := info_parts hi
  have key : ∀ v' w', w'.ownsRow base e size v' (n + m) (xs ++ news) → w.grownBy w' v.ownBlock → K (a.put o.dst v') w' := by
    intro v' w' h1 h2
    obtain ⟨ao', cap', rfl⟩ := own_slice h1
    exact h _ _ _ h1 h2
  cases ao with
  | none =>
    have hc := hsl.none rfl
    have hle := hsl.le
    obtain rfl : c = 0 := hc
    obtain rfl : m = 0 := by omega
    have hnews : news = [] := List.eq_nil_of_length_eq_zero (by simpa using hsl.len)
    subst hnews
    have hrun := run_append_owned_none (P := P) (w := w) base t o.type e i size ht hi1 v n xs hown
    unfold Oper.wp
    simp [execOp, ho, resolve, invoke, builtin, hs, hx, hrun, Result.andThen]
    exact key _ _ (by simpa using hown) (World.grownBy.refl _ _)
  | some ad =>
    refine wp_append_own w s x t ho base e i z size bytes ht hi1 hi2 hi3 hi4 hzs hsz v n xs hs hown ad m c news hx hsl.len ?_ h1 h63 hbytes hbase ?_
    · intro j u hu
      obtain ⟨b, off, e, hc⟩ := hsl.cell j u hu
      simp only [Option.some.injEq] at e
      subst e
      rw [← hc]; congr 1
      unfold Addr.add; split <;> simp_all
    · exact fun v' w' h1 h2 _ => key v' w' h1 h2

/-- the same for go_region_law -/
theorem step_append_bs {P : Program} {ops : Array Oper} {w : World} {o : Oper} {a : Act} {K : Act → World → Prop} {Q : Exit → Act → World → Prop} {E : Prop} (hw : Region.wanted o (yielded ops a.tmps) = true) (s x : Operand) (t : TypeId)
    (ho : o.op = .call { callee := .builtin .append, args := #[s, x], argTypes := #[t, t] })
    (base : Nat) (e : TypeId) (hi : (P.info? e).map (fun i => (i.zero, i.size, i.bytes)) = some (some (.int .u8 0), 1, 1)) (ht : P.underlying t = some (.slice e))
    (ao0 : Option Addr) (c0 : Nat) (l0 : List UInt8) (hs : a.eval s = .slice ao0 l0.length c0) (hown : w.ownsRow base e 1 (.slice ao0 l0.length c0) l0.length (l0.map u8))
    (ao : Option Addr) (c : Nat) (l : List UInt8) (hx : a.eval x = .slice ao l.length c) (hsl : Bs w ao c l)
    (hbytes : l0.length + l.length ≤ 140737488355328) (hbase : base ≤ w.heap.size)
    (h : ∀ ao' cap' l' w', Hid (l' = l0 ++ l) → w'.ownsRow base e 1 (.slice ao' l'.length cap') l'.length (l'.map u8) → w.grownBy w' (Value.slice ao0 l0.length c0).ownBlock → K (a.put o.dst (.slice ao' l'.length cap')) w') :
    if Region.wanted o (yielded ops a.tmps) = true then Oper.wp P o a w K Q else E := by
  rw [if_pos hw]
  refine wpo_append s x t ho base e hi ht rfl (by decide) _ _ _ hs hown ao _ c _ hx hsl (u8_one l) (by unfold maxLen; omega) (by omega) hbase fun ao' cap' w' h1 h2 => ?_
  have e1 : l0.length + l.length = (l0 ++ l).length := by simp
  rw [← List.map_append, e1] at h1
  rw [e1]
  exact h ao' cap' (l0 ++ l) w' rfl h1 h2

theorem Bs.take {w : World} {ao : Option Addr} {cap : Nat} {l : List UInt8} (h : Bs w ao cap l) (q : Nat) (hq : q ≤ l.length) : Bs w ao cap (l.take q) := by
  have hle := h.le
  refine ⟨by simp, by rw [List.length_take]; omega, h.max, h.none, fun j u hu => ?_⟩
  rw [List.map_take, List.getElem?_take] at hu
  split at hu
  · exact h.cell j u hu
  · cases hu
end Go.Proofs.Ytadghaiengonoaa
