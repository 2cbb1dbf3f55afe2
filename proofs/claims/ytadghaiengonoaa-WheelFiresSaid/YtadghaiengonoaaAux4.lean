/- append, and where the new row lies. No statement of the seat is proved here. -/
import Derived.Test.YtadghaiengonoaaAux3
import Derived.Maps.AppendAt
namespace Go.Proofs.Ytadghaiengonoaa
set_option linter.unusedVariables false
set_option linter.unusedSimpArgs false
set_option linter.unusedSectionVars false
open Go Go.RowKit Go.Maps
/-- append as one operation; where the new row lies -/
theorem wpo_append_lie {P : Program} {w : World} {o : Oper} {a : Act} {K : Act → World → Prop} {Q : Exit → Act → World → Prop} (s x : Operand) (t : TypeId)
    (ho : o.op = .call { callee := .builtin .append, args := #[s, x], argTypes := #[t, t] })
    (base : Nat) (e : TypeId) {z : Value} {size bytes : Nat} (hi : (P.info? e).map (fun i => (i.zero, i.size, i.bytes)) = some (some z, size, bytes)) (ht : P.underlying t = some (.slice e))
    (hzs : z.cells.size = size) (hsz : 0 < size)
    (v : Value) (n : Nat) (xs : List Value) (hs : a.eval s = v) (hown : w.ownsRow base e size v n xs)
    (ao : Option Addr) (m c : Nat) (news : List Value) (hx : a.eval x = .slice ao m c) (hsl : Sl w size ao m c news) (h1 : ∀ u ∈ news, u.oneCell' = true)
    (h63 : n + m ≤ maxLen) (hbytes : (n + m) * bytes ≤ 140737488355328) (hbase : base ≤ w.heap.size)
    (h : ∀ ao' cap' w', w'.ownsRow base e size (.slice ao' (n + m) cap') (n + m) (xs ++ news) → w.grownBy w' v.ownBlock → (∀ g, (Value.slice ao' (n + m) cap').ownBlock = some g → v.ownBlock = some g ∨ g = w.heap.size) → K (a.put o.dst (.slice ao' (n + m) cap')) w') : o.wp P a w K Q := by
  obtain ⟨i, hi1, hi2, hi3, hi4⟩ := info_parts hi
  cases ao with
  | none =>
    have hc := hsl.none rfl
    have hle := hsl.le
    obtain rfl : c = 0 := hc
    obtain rfl : m = 0 := by omega
    have hnews : news = [] := List.eq_nil_of_length_eq_zero (by simpa using hsl.len)
    subst hnews
    have hrun := run_append_owned_none (P := P) (w := w) base t o.type e i size ht hi1 v n xs hown
    obtain ⟨ao', cap', rfl⟩ := own_slice hown
    unfold Oper.wp
    simp [execOp, ho, resolve, invoke, builtin, hs, hx, hrun, Result.andThen]
    exact h ao' cap' _ (by simpa using hown) (World.grownBy.refl _ _) (fun g hg => .inl hg)
  | some ad =>
    have hnews : ∀ j u, news[j]? = some u → w.cell? (ad.add j) = some u := by
      intro j u hu
      obtain ⟨b, off, e, hc⟩ := hsl.cell j u hu
      simp only [Option.some.injEq] at e
      subst e
      rw [← hc]; congr 1
      unfold Addr.add; split <;> simp_all
    obtain ⟨v', w', hr, h2, h3, _, h5⟩ := run_append_own_at (P := P) w base t o.type e i z size bytes ht hi1 hi2 hi3 hi4 hzs hsz v n xs hown ad m c news hsl.len hnews h1 h63 hbytes hbase
    obtain ⟨ao', cap', rfl⟩ := own_slice h2
    unfold Oper.wp execOp
    simp only [ho, resolve, invoke, builtin, Sem.run_bind, Sem.run_pure, Result.andThen_ok, List.map_toArray, List.map_cons, List.map_nil, hs, hx, hr]
    refine h ao' cap' w' h2 h3 fun g hg => ?_
    rcases h5 with h5 | h5
    · exact .inl (by rw [← h5]; exact hg)
    · right
      exact Option.some.inj (hg.symm.trans h5)
theorem wpl_append_lie {P : Program} {w : World} {ops : Array Oper} {rest : List Oper} {o : Oper} {a : Act} {Q : Exit → Act → World → Prop} (hw : Region.wanted o (yielded ops a.tmps) = true) (s x : Operand) (t : TypeId)
    (ho : o.op = .call { callee := .builtin .append, args := #[s, x], argTypes := #[t, t] })
    (base : Nat) (e : TypeId) {z : Value} {size bytes : Nat} (hi : (P.info? e).map (fun i => (i.zero, i.size, i.bytes)) = some (some z, size, bytes)) (ht : P.underlying t = some (.slice e))
    (hzs : z.cells.size = size) (hsz : 0 < size)
    (v : Value) (n : Nat) (xs : List Value) (hs : a.eval s = v) (hown : w.ownsRow base e size v n xs)
    (ao : Option Addr) (m c : Nat) (news : List Value) (hx : a.eval x = .slice ao m c) (hsl : Sl w size ao m c news) (h1 : ∀ u ∈ news, u.oneCell' = true)
    (h63 : n + m ≤ maxLen) (hbytes : (n + m) * bytes ≤ 140737488355328) (hbase : base ≤ w.heap.size)
    (h : ∀ ao' cap' w', w'.ownsRow base e size (.slice ao' (n + m) cap') (n + m) (xs ++ news) → w.grownBy w' v.ownBlock → (∀ g, (Value.slice ao' (n + m) cap').ownBlock = some g → v.ownBlock = some g ∨ g = w.heap.size) → wpList P ops Q rest (a.put o.dst (.slice ao' (n + m) cap')) w') : wpList P ops Q (o :: rest) a w :=
  wpl_of hw fun K hK => wpo_append_lie s x t ho base e hi ht hzs hsz v n xs hs hown ao m c news hx hsl h1 h63 hbytes hbase fun ao' cap' w' a1 a2 a3 => hK _ _ (h ao' cap' w' a1 a2 a3)
end Go.Proofs.Ytadghaiengonoaa
