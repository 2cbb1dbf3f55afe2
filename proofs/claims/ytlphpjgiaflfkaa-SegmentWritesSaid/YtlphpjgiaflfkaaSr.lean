/- segment.Read: what it computes, and what it holds in memory. No statement of the seat is proved here. -/
import Derived.Test.YtlphpjgiaflfkaaSl
import Derived.Test.YtlphpjgiaflfkaaFrameR
import Derived.Test.YtlphpjgiaflfkaaGoodQ
namespace Go.Proofs.Ytlphpjgiaflfkaa
set_option linter.unusedVariables false
set_option linter.unusedSimpArgs false
set_option linter.unusedSectionVars false
open Go Go.RowKit Go.Shelf

/-- what is read so far: the first index, the entries, how many bytes are good -/
structure SegS where
  first : Nat
  l : List En
  good : Nat
/-- one frame more; none: it ends here -/
def segStep (s : SegS) (r : UInt8 × List UInt8) : Option SegS :=
  if s.first = 0 then (if headV r.1 r.2 = 0 then none else some ⟨headV r.1 r.2, s.l, s.good + (r.2.length + 8)⟩)
  else if lineOk r.1 r.2 (s.first + s.l.length) = true then some ⟨s.first, s.l ++ [lineE r.2], s.good + (r.2.length + 8)⟩ else none
def segRun (s : SegS) : List (UInt8 × List UInt8) → SegS
  | [] => s
  | r :: rs => match segStep s r with
    | none => s
    | some s' => segRun s' rs
/-- all frames so far were taken -/
def segAll (s : SegS) : List (UInt8 × List UInt8) → Option SegS
  | [] => some s
  | r :: rs => match segStep s r with
    | none => none
    | some s' => segAll s' rs
def seg0 : SegS := ⟨0, [], 0⟩
def segRead (b : List UInt8) : SegS := segRun seg0 (Fr.all b)
theorem segAll_run (rs : List (UInt8 × List UInt8)) : ∀ (s s' : SegS), segAll s rs = some s' → segRun s rs = s' := by
  induction rs with
  | nil => intro s s' h; simpa [segAll, segRun] using h
  | cons r rs ih =>
    intro s s' h
    unfold segAll at h
    unfold segRun
    cases hs : segStep s r with
    | none => rw [hs] at h; cases h
    | some t => rw [hs] at h; exact ih t s' h
theorem segAll_snoc (rs : List (UInt8 × List UInt8)) (r : UInt8 × List UInt8) : ∀ (s s' : SegS), segAll s rs = some s' → segAll s (rs ++ [r]) = segStep s' r := by
  induction rs with
  | nil =>
    intro s s' h
    simp only [segAll, Option.some.injEq] at h
    subst h
    simp only [List.nil_append, segAll]
    cases segStep s r <;> rfl
  | cons x rs ih =>
    intro s s' h
    unfold segAll at h
    rw [List.cons_append]
    unfold segAll
    cases hs : segStep s x with
    | none => rw [hs] at h; cases h
    | some t => rw [hs] at h; exact ih t s' h
theorem segRun_stop (rs : List (UInt8 × List UInt8)) (r : UInt8 × List UInt8) (more : List (UInt8 × List UInt8)) : ∀ (s s' : SegS), segAll s rs = some s' → segStep s' r = none → segRun s (rs ++ r :: more) = s' := by
  induction rs with
  | nil =>
    intro s s' h h2
    simp only [segAll, Option.some.injEq] at h
    subst h
    simp only [List.nil_append, segRun, h2]
  | cons x rs ih =>
    intro s s' h h2
    unfold segAll at h
    rw [List.cons_append]
    unfold segRun
    cases hs : segStep s x with
    | none => rw [hs] at h; cases h
    | some t => rw [hs] at h; exact ih t s' h h2
theorem segStep_len {s s' : SegS} {r : UInt8 × List UInt8} (h : segStep s r = some s') : s'.l.length ≤ s.l.length + 1 ∧ s'.good = s.good + (r.2.length + 8) ∧ (s.first ≤ 1152921504606846976 → s'.first ≤ 1152921504606846976) := by
  unfold segStep at h
  split at h
  · split at h
    · cases h
    · simp only [Option.some.injEq] at h
      subst h
      refine ⟨by simp, rfl, fun _ => ?_⟩
      show headV r.1 r.2 ≤ _
      unfold headV
      split
      · exact readN_le _ _ _
      · omega
  · split at h
    · simp only [Option.some.injEq] at h
      subst h
      exact ⟨by simp, rfl, id⟩
    · cases h
theorem segAll_len (rs : List (UInt8 × List UInt8)) : ∀ (s s' : SegS), segAll s rs = some s' → s'.l.length ≤ s.l.length + rs.length ∧ s'.good = s.good + sum8 (rs.map (·.2.length)) ∧ (s.first ≤ 1152921504606846976 → s'.first ≤ 1152921504606846976) := by
  induction rs with
  | nil =>
    intro s s' h
    simp only [segAll, Option.some.injEq] at h
    subst h
    simp [sum8]
  | cons r rs ih =>
    intro s s' h
    unfold segAll at h
    cases hs : segStep s r with
    | none => rw [hs] at h; cases h
    | some t =>
      rw [hs] at h
      obtain ⟨h1, h2, h3⟩ := ih t s' h
      obtain ⟨g1, g2, g3⟩ := segStep_len hs
      refine ⟨by simp; omega, ?_, fun h0 => h3 (g3 h0)⟩
      rw [h2, g2, List.map_cons, sum8]
      omega
/-- entries in memory: each with the place of its data -/
structure Ep where
  e : En
  ao : Option Addr
  cap : Nat
def epCells (x : Ep) : List Value := [.int .u64 x.e.term, .int .i64 x.e.kind, .slice x.ao x.e.data.length x.cap]
theorem ep_each (l : List Ep) : ∀ r ∈ l.map epCells, r.length = 3 := by
  intro r hr; obtain ⟨x, _, rfl⟩ := List.mem_map.1 hr; rfl
theorem infoEn : (Try.prog.info? 38).map (fun i => (i.zero, i.size, i.bytes)) = some (some (.agg #[.int .u64 0, .int .i64 0, .slice none 0 0]), 3, 40) := by kernel_rfl
/-- a row of entries of one's own -/
structure EnsO (W : World) (base : Nat) (v : Value) (l : List Ep) : Prop where
  own : W.ownsRow base 38 3 v l.length (l.map epCells).flatten
  data : ∀ x ∈ l, BsT W x.ao x.cap x.e.data
theorem own_elemE {w : World} {base e k n : Nat} {v : Value} {xs : List Value} (h : w.ownsRow base e k v n xs) (g : Nat) (hg : v.ownBlock = some g) : elem? w g = some e := by
  rcases h.2 with ⟨h2, _⟩ | ⟨g', cap', cur, hv, _, hh, _⟩
  · subst h2; cases hg
  · subst hv
    simp [Value.ownBlock] at hg
    subst hg
    exact elem?_of hh
theorem EnsO.below {W W' : World} {base : Nat} {v : Value} {l : List Ep} (h : EnsO W base v l) (hb : Below W.heap.size W W') : EnsO W' base v l :=
  ⟨own_below h.own hb, fun x hx => (h.data x hx).below hb⟩
theorem EnsO.nil (W : World) (base : Nat) : EnsO W base (.slice none 0 0) [] := ⟨World.ownsRow_nil _ _ _ _, fun x hx => by cases hx⟩
theorem EnsO.grown {W W' : World} {base g : Nat} {T : TypeId} {v : Value} {l : List Ep} (h : EnsO W base v l) (hg : W.grownBy W' (some g)) (hT : elem? W g = some T) (h1 : T ≠ 5) (h2 : T ≠ 38) : EnsO W' base v l :=
  ⟨h.own.kept hg (.inr fun e => by have := own_elemE h.own g e; rw [hT] at this; exact h2 (by simpa using this)), fun x hx => (h.data x hx).grown hg hT h1⟩
/-- behind an append -/
theorem EnsO.push {W W' : World} {base : Nat} {v v' : Value} {l : List Ep} {x : Ep} (h : EnsO W base v l) (ho : W'.ownsRow base 38 3 v' (l.length + 1) (l.map epCells ++ [epCells x]).flatten) (hg : W.grownBy W' v.ownBlock) (hx : BsT W x.ao x.cap x.e.data) : EnsO W' base v' (l ++ [x]) := by
  have key : ∀ {ao : Option Addr} {cap : Nat} {d : List UInt8}, BsT W ao cap d → BsT W' ao cap d := fun hd => by
    cases hv : v.ownBlock with
    | none => rw [hv] at hg; exact hd.kept fun b hb => hg.block b (elem?_lt hb) (by simp)
    | some g => rw [hv] at hg; exact hd.grown hg (own_elemE h.own g hv) (by decide)
  refine ⟨by simpa using ho, fun y hy => ?_⟩
  rcases List.mem_append.1 hy with hy | hy
  · exact key (h.data y hy)
  · simp at hy; subst hy; exact key hx
end Go.Proofs.Ytlphpjgiaflfkaa
