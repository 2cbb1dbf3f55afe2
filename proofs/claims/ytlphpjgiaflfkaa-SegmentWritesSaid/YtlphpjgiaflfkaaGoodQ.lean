/- A region that draws, in a round of a range over a function: one walk of the written order serves every order, where the operations leave the world alone. No statement of the seat is proved here. -/
import Derived.Test.YtlphpjgiaflfkaaGood
import Derived.Sort.QuietIn
namespace Go.Proofs.Ytlphpjgiaflfkaa
set_option linter.unusedVariables false
set_option linter.unusedSimpArgs false
set_option linter.unusedSectionVars false
open Go Go.RowKit Go.Shelf

/-- an operation that is no defer is carried out in a round as anywhere -/
theorem oper_in_round {n l : Nat} {o : Oper} {a : Act} {w : World} {next : Act → World → Prop} {Q : Exit → Act → World → Prop} (hnd : ∀ c, o.op ≠ .defer c) (h : o.wpIn Fence.wide n Try.prog a w next Q) : o.wpIn (Fence.wide.inRound l) n Try.prog a w next Q := by
  obtain ⟨h1, h2⟩ := h
  refine ⟨h1, ?_⟩
  show o.uponIn (Fence.wide.inRound l) n Try.prog a next Q ((o.semAt (some l) a.eval).run Try.prog w)
  rw [Oper.semAt_some l _ o hnd]
  exact h2
theorem any_in_round {n l : Nat} {md : Region.Mode} {ops : Array Oper} {Q : Exit → Act → World → Prop} (hnd : ∀ (i : Nat) (o : Oper), ops[i]? = some o → ∀ c, o.op ≠ .defer c) :
    ∀ (fuel : Nat) (listed : Array Bool) (a : Act) (w : World), wpAnyIn Fence.wide n Try.prog md ops Q fuel listed a w → wpAnyIn (Fence.wide.inRound l) n Try.prog md ops Q fuel listed a w
  | 0, listed, a, w, h => h
  | fuel + 1, listed, a, w, h => by
    refine ⟨h.1, fun i hi => ?_⟩
    have h2 := h.2 i hi
    unfold wpOpIn at h2 ⊢
    cases ho : ops[i]? with
    | none => rw [ho] at h2; exact any_in_round hnd fuel _ a w h2
    | some o =>
      rw [ho] at h2
      simp only at h2 ⊢
      split
      · rename_i hw
        rw [if_pos hw] at h2
        refine oper_in_round (hnd i o ho) ?_
        exact Oper.wpIn_mono (fun a w => any_in_round hnd fuel _ a w) h2
      · rename_i hw
        rw [if_neg hw] at h2
        exact ⟨h2.1, any_in_round hnd fuel _ _ w h2.2⟩
/-- no operation is a defer statement -/
def noDefer (l : List Oper) : Bool := l.all fun o => match o.op with | .defer _ => false | _ => true
theorem noDefer_at {l : List Oper} (h : noDefer l = true) (i : Nat) (o : Oper) (ho : l.toArray[i]? = some o) (c : Call) : o.op ≠ .defer c := by
  intro e
  have hm : o ∈ l := List.mem_of_getElem? (by simpa using ho)
  have := List.all_eq_true.1 h o hm
  rw [e] at this
  cases this
theorem wpIn_quiet_round {n id l0 : Nat} {Q : Exit → Act → World → Prop} {a : Act} {w : World} {l : List Oper} (hnd : noDefer l = true) (hm : Try.prog.follows .mixedOrders = true) (hB : Region.lexB .any l.toArray = true)
    (h : wpQuietIn Fence.wide n Try.prog l.toArray (fun w' => ∃ m, w' = w.drewN m) (fun a' => ∀ w', (∃ m, w' = w.drewN m) → Q .normal a' w') l a) : (Code.region id l.toArray true).wpIn (Fence.wide.inRound l0) n Try.prog Q a w := by
  simp only [Region.lexB, Bool.and_eq_true] at hB
  refine wpIn_region_any hm (any_in_round (noDefer_at hnd) _ _ _ _ (wpAnyIn_of_quiet (C := fun w' => ∃ m, w' = w.drewN m) (Q := fun a' => ∀ w', (∃ m, w' = w.drewN m) → Q .normal a' w') rfl (fun _ w' hw' h => h w' hw') _ _ _ _ ⟨1, rfl⟩ ?_))
  have := wpAnyQIn_lex (F := Fence.wide) (n := n) (C := fun w' => ∃ m, w' = w.drewN m) (md := .any) hB.1 l 0 (Array.replicate l.toArray.size false) a (by simp) (by simpa using hB.2) h
  simpa using this
end Go.Proofs.Ytlphpjgiaflfkaa
