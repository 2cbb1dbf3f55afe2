/- slots: a ring in memory. No statement of the seat is proved here. -/
import Derived.Test.YtadghaiengonoaaTa
namespace Go.Proofs.Ytadghaiengonoaa
set_option linter.unusedVariables false
set_option linter.unusedSimpArgs false
set_option linter.unusedSectionVars false
open Go Go.RowKit Go.Maps

abbrev rgT : TypeId := 97
abbrev mwT : TypeId := 94
theorem u64law : Keyed Try.prog 28 := int_keyed Try.underlying28
theorem zeroI (w : World) : (zeroValue 3).run Try.prog w = .ok (.int .i64 0) w := by kernel_rfl
theorem infoTh : (Try.prog.info? 30).map (fun i => (i.zero, i.size, i.bytes)) = some (some (.agg #[.int .u64 0, .int .u64 0, .int .i64 0]), 3, 24) := by kernel_rfl
theorem th_one (t : Th) : ∀ u ∈ thCells t, u.oneCell' = true := by
  intro u hu; simp [thCells] at hu; rcases hu with rfl | rfl | rfl <;> rfl
theorem ths_one (l : List Th) : ∀ u ∈ thFlat l, u.oneCell' = true := by
  intro u hu
  obtain ⟨r, hr, hu⟩ := List.mem_flatten.1 hu
  obtain ⟨x, _, rfl⟩ := List.mem_map.1 hr
  exact th_one x u hu
theorem thFlat_app (l : List Th) (t : Th) : (l.map thCells ++ [thCells t]).flatten = thFlat (l ++ [t]) := by simp [thFlat]

/-- only what lies in F has changed, or is new -/
structure Gr (F : Nat → Prop) (W W' : World) : Prop where
  os : W'.os = W.os
  tape : W'.tape = W.tape
  output : W'.output = W.output
  size : W.heap.size ≤ W'.heap.size
  block : ∀ i, i < W.heap.size → ¬ F i → W'.heap[i]? = W.heap[i]?
theorem Gr.refl (F : Nat → Prop) (W : World) : Gr F W W := ⟨rfl, rfl, rfl, Nat.le_refl _, fun _ _ _ => rfl⟩
theorem Gr.below {F : Nat → Prop} {W W' : World} (h : Below W.heap.size W W') : Gr F W W' := ⟨h.os, h.tape, h.output, h.size, fun i hi _ => h.block i hi⟩
theorem Gr.one {F : Nat → Prop} {W W' : World} {row : Option Nat} (h : W.grownBy W' row) (hF : ∀ b, row = some b → F b) : Gr F W W' := ⟨h.os, h.tape, h.output, h.size, fun i hi hn => h.block i hi (fun e => hn (hF i e.symm))⟩
theorem Gr.then {F G : Nat → Prop} {W W1 W2 : World} (h : Gr F W W1) (h2 : Gr G W1 W2) (hG : ∀ i, G i → F i ∨ W.heap.size ≤ i) : Gr F W W2 :=
  ⟨h2.os.trans h.os, h2.tape.trans h.tape, h2.output.trans h.output, Nat.le_trans h.size h2.size, fun i hi hn => (h2.block i (Nat.lt_of_lt_of_le hi h.size) (fun e => by rcases hG i e with h3 | h3; exact hn h3; omega)).trans (h.block i hi hn)⟩
theorem Gr.trans {F : Nat → Prop} {W W1 W2 : World} (h : Gr F W W1) (h2 : Gr F W1 W2) : Gr F W W2 := h.then h2 (fun i hi => .inl hi)
theorem Gr.mono {F G : Nat → Prop} {W W' : World} (h : Gr F W W') (hG : ∀ i, F i → G i) : Gr G W W' := ⟨h.os, h.tape, h.output, h.size, fun i hi hn => h.block i hi (fun e => hn (hG i e))⟩
theorem Gr.drew {F : Nat → Prop} {W W' : World} (h : Gr F W W') : Gr F W W'.drew := ⟨h.os, h.tape, h.output, h.size, h.block⟩
theorem Gr.above {F : Nat → Prop} {W W' : World} {B : Nat} (h : Gr F W W') (hB : B ≤ W.heap.size) (hF : ∀ i, F i → B ≤ i) : Below B W W' := ⟨h.os, h.tape, h.output, h.size, fun i hi => h.block i (Nat.lt_of_lt_of_le hi hB) (fun e => by have := hF i e; omega)⟩
/-- what lies in F, and what is new -/
def More (F : Nat → Prop) (W W' : World) (i : Nat) : Prop := F i ∨ (W.heap.size ≤ i ∧ i < W'.heap.size)

/-- a row of things of one's own, nil or not -/
structure TR (W : World) (F : Nat → Prop) (v : Value) (l : List Th) : Prop where
  own : W.ownsRow 0 thT 3 v l.length (thFlat l)
  foot : ∀ g, v.ownBlock = some g → F g
theorem TR.kept {W W' : World} {F : Nat → Prop} {v : Value} {l : List Th} (h : TR W F v l) (hk : ∀ g, v.ownBlock = some g → W'.heap[g]? = W.heap[g]?) : TR W' F v l := by
  refine ⟨⟨h.own.1, ?_⟩, h.foot⟩
  rcases h.own.2 with hn | ⟨g, cap, cur, rfl, hb, hg, rest⟩
  · exact .inl hn
  · exact .inr ⟨g, cap, cur, rfl, hb, (hk g rfl).trans hg, rest⟩
theorem TR.nil (W : World) (F : Nat → Prop) : TR W F (.slice none 0 0) [] := ⟨World.ownsRow_nil _ _ _ _, fun g h => by cases h⟩
theorem TR.refoot {W : World} {F G : Nat → Prop} {v : Value} {l : List Th} (h : TR W F v l) (hG : ∀ i, F i → i < W.heap.size → G i) : TR W G v l := ⟨h.own, fun g hg => hG g (h.foot g hg) (h.own.lt g hg).2⟩
theorem TR.elem {W : World} {F : Nat → Prop} {v : Value} {l : List Th} (h : TR W F v l) {g : Nat} (hg : v.ownBlock = some g) : ∃ cs, W.heap[g]? = some (.cells cs thT (0, 0)) := by
  rcases h.own.2 with ⟨hn, _⟩ | ⟨g', cap, cur, rfl, hb, hh, rest⟩
  · subst hn; cases hg
  · simp only [Value.ownBlock, Option.some.injEq] at hg; subst hg; exact ⟨_, hh⟩

/-- a ring's memory -/
structure Rm (W : World) (F : Nat → Prop) (r n mb : Nat) (sv : List Value) (u : Nat) (ρ : Nat → List Th) (E : List (Int × DataW Unit)) : Prop where
  blk : W.heap[r]? = some (.cells (sv ++ [Value.int .u64 (u : Nat), Value.map (some mb)]).toArray rgT (0, 0))
  len : sv.length = 64
  rows : ∀ k (hk : k < sv.length), TR W F sv[k] (ρ k)
  apart : ∀ i j (hi : i < sv.length) (hj : j < sv.length), i ≠ j → ∀ g, sv[i].ownBlock = some g → sv[j].ownBlock ≠ some g
  map : ∃ D, W.ownsMap Try.prog 28 (plainElem Try.prog 3) mb n D ∧ MapL D E
  footR : F r
  footM : F mb
theorem Rm.lt {W : World} {F : Nat → Prop} {r n mb : Nat} {sv : List Value} {u : Nat} {ρ : Nat → List Th} {E : List (Int × DataW Unit)} (h : Rm W F r n mb sv u ρ E) : r < W.heap.size ∧ mb < W.heap.size := by
  obtain ⟨D, h1, h2⟩ := h.map
  exact ⟨(Array.getElem?_eq_some_iff.1 h.blk).1, h1.lt⟩
theorem Rm.ne {W : World} {F : Nat → Prop} {r n mb : Nat} {sv : List Value} {u : Nat} {ρ : Nat → List Th} {E : List (Int × DataW Unit)} (h : Rm W F r n mb sv u ρ E) : r ≠ mb := by
  obtain ⟨D, ⟨es, clock, h1, _⟩, h2⟩ := h.map
  intro e; have := h.blk; rw [e, h1] at this; cases this
theorem Rm.row_ne {W : World} {F : Nat → Prop} {r n mb : Nat} {sv : List Value} {u : Nat} {ρ : Nat → List Th} {E : List (Int × DataW Unit)} (h : Rm W F r n mb sv u ρ E) {k g : Nat} (hk : k < sv.length) (hg : sv[k].ownBlock = some g) : g ≠ r ∧ g ≠ mb := by
  obtain ⟨cs, h1⟩ := (h.rows k hk).elem hg
  obtain ⟨D, ⟨es, clock, h2, _⟩, _⟩ := h.map
  refine ⟨fun e => ?_, fun e => ?_⟩
  · have := h.blk; rw [← e, h1] at this
    simp only [Option.some.injEq, Obj.cells.injEq] at this
    exact absurd this.2.1 (by decide)
  · rw [e, h2] at h1; cases h1
theorem Rm.kept {W W' : World} {F : Nat → Prop} {r n mb : Nat} {sv : List Value} {u : Nat} {ρ : Nat → List Th} {E : List (Int × DataW Unit)} (h : Rm W F r n mb sv u ρ E) (hk : ∀ i, F i → i < W.heap.size → W'.heap[i]? = W.heap[i]?) : Rm W' F r n mb sv u ρ E := by
  have hl := h.lt
  refine ⟨(hk r h.footR hl.1).trans h.blk, h.len, fun k hkl => (h.rows k hkl).kept fun g hg => hk g ((h.rows k hkl).foot g hg) ((h.rows k hkl).own.lt g hg).2, h.apart, ?_, h.footR, h.footM⟩
  obtain ⟨D, ⟨es, clock, h1, h2⟩, h3⟩ := h.map
  exact ⟨D, ⟨es, clock, (hk mb h.footM hl.2).trans h1, h2⟩, h3⟩
theorem Rm.below {W W' : World} {F : Nat → Prop} {r n mb : Nat} {sv : List Value} {u : Nat} {ρ : Nat → List Th} {E : List (Int × DataW Unit)} (h : Rm W F r n mb sv u ρ E) (hb : Below W.heap.size W W') : Rm W' F r n mb sv u ρ E := h.kept fun i _ hi => hb.block i hi
theorem Rm.refoot {W : World} {F G : Nat → Prop} {r n mb : Nat} {sv : List Value} {u : Nat} {ρ : Nat → List Th} {E : List (Int × DataW Unit)} (h : Rm W F r n mb sv u ρ E) (hG : ∀ i, F i → i < W.heap.size → G i) : Rm W G r n mb sv u ρ E :=
  ⟨h.blk, h.len, fun k hk => (h.rows k hk).refoot hG, h.apart, h.map, hG r h.footR h.lt.1, hG mb h.footM h.lt.2⟩
theorem Rm.cell {W : World} {F : Nat → Prop} {r n mb : Nat} {sv : List Value} {u : Nat} {ρ : Nat → List Th} {E : List (Int × DataW Unit)} (h : Rm W F r n mb sv u ρ E) (k : Nat) (hk : k < sv.length) : W.cell? ⟨r, k, none⟩ = some sv[k] := by
  rw [block_cell h.blk k, List.getElem?_toArray, List.getElem?_append_left hk, List.getElem?_eq_getElem hk]
theorem Rm.cellU {W : World} {F : Nat → Prop} {r n mb : Nat} {sv : List Value} {u : Nat} {ρ : Nat → List Th} {E : List (Int × DataW Unit)} (h : Rm W F r n mb sv u ρ E) : W.cell? ⟨r, 64, none⟩ = some (.int .u64 (u : Nat)) := by
  rw [block_cell h.blk 64, List.getElem?_toArray, List.getElem?_append_right (by rw [h.len]; exact Nat.le_refl _), h.len]; rfl
theorem Rm.cellM {W : World} {F : Nat → Prop} {r n mb : Nat} {sv : List Value} {u : Nat} {ρ : Nat → List Th} {E : List (Int × DataW Unit)} (h : Rm W F r n mb sv u ρ E) : W.cell? ⟨r, 65, none⟩ = some (.map (some mb)) := by
  rw [block_cell h.blk 65, List.getElem?_toArray, List.getElem?_append_right (by rw [h.len]; decide), h.len]; rfl
theorem Rm.free {W : World} {F : Nat → Prop} {r n mb : Nat} {sv : List Value} {u : Nat} {ρ : Nat → List Th} {E : List (Int × DataW Unit)} (h : Rm W F r n mb sv u ρ E) (k : Nat) : W.frozen? ⟨r, k, none⟩ = false := block_free h.blk k
def updR (ρ : Nat → List Th) (k : Nat) (l : List Th) : Nat → List Th := fun j => if j = k then l else ρ j
/-- a slot's row is another one now -/
theorem Rm.setRow {W W1 : World} {F G : Nat → Prop} {r n mb : Nat} {sv : List Value} {u : Nat} {ρ : Nat → List Th} {E : List (Int × DataW Unit)} (h : Rm W F r n mb sv u ρ E) (k : Nat) (hk : k < sv.length) (v : Value) (l : List Th)
    (hg : W.grownBy W1 sv[k].ownBlock) (ho : W1.ownsRow 0 thT 3 v l.length (thFlat l)) (hv : ∀ g, v.ownBlock = some g → sv[k].ownBlock = some g ∨ W.heap.size ≤ g) (hG : ∀ i, F i → G i) (hvG : ∀ g, v.ownBlock = some g → G g) :
    Rm (W1.setCell ⟨r, k, none⟩ v) G r n mb (sv.set k v) u (updR ρ k l) E ∧ Gr F W (W1.setCell ⟨r, k, none⟩ v) := by
  have hl := h.lt
  have hr1 : W1.heap[r]? = some (.cells (sv ++ [Value.int .u64 (u : Nat), Value.map (some mb)]).toArray rgT (0, 0)) := (hg.block r hl.1 (fun e => (h.row_ne hk e.symm).1 rfl)).trans h.blk
  have hs := block_set hr1 k v
  have oth : ∀ i, i ≠ r → (W1.setCell ⟨r, k, none⟩ v).heap[i]? = W1.heap[i]? := fun i hi => heap_setCell_other W1 ⟨r, k, none⟩ i v hi
  refine ⟨⟨?_, by simp [h.len], fun j hj => ?_, fun i j hi hj hij g he => ?_, ?_, hG r h.footR, hG mb h.footM⟩, ?_⟩
  · rw [hs]
    simp only [List.setIfInBounds_toArray, List.set_append_left _ _ hk]
  · simp only [List.length_set] at hj
    by_cases e : k = j
    · subst e
      rw [List.getElem_set_self]
      have h2 : TR W1 G v l := ⟨ho, hvG⟩
      unfold updR
      rw [if_pos rfl]
      exact h2.kept fun g hg2 => oth g (fun e => by
        rcases hv g hg2 with h3 | h3
        · exact (h.row_ne hk h3).1 e
        · omega)
    · rw [List.getElem_set_ne e]
      unfold updR
      rw [if_neg (Ne.symm e)]
      have h2 := h.rows j hj
      refine ⟨(h2.kept fun g hg2 => (oth g (h.row_ne hj hg2).1).trans (hg.block g (h2.own.lt g hg2).2 (fun e2 => h.apart k j hk hj e g e2.symm hg2))).own, fun g hg2 => hG g (h2.foot g hg2)⟩
  · simp only [List.length_set] at hi hj
    by_cases e : k = i
    · subst e
      rw [List.getElem_set_self] at he
      rw [List.getElem_set_ne hij]
      intro e2
      rcases hv g he with h3 | h3
      · exact h.apart k j hk hj hij g h3 e2
      · have := ((h.rows j hj).own.lt g e2).2; omega
    · rw [List.getElem_set_ne e] at he
      by_cases e3 : k = j
      · subst e3
        rw [List.getElem_set_self]
        intro e2
        rcases hv g e2 with h3 | h3
        · exact h.apart i k hi hk hij g he h3
        · have := ((h.rows i hi).own.lt g he).2; omega
      · rw [List.getElem_set_ne e3]; exact h.apart i j hi hj hij g he
  · obtain ⟨D, ⟨es, clock, h1, h2⟩, h3⟩ := h.map
    exact ⟨D, ⟨es, clock, (oth mb (Ne.symm h.ne)).trans ((hg.block mb hl.2 (fun e => (h.row_ne hk e.symm).2 rfl)).trans h1), h2⟩, h3⟩
  · exact (Gr.one hg fun b hb => (h.rows k hk).foot b hb).trans (Gr.one (grown_set W1 r k v) fun b hb => by simp only [Option.some.injEq] at hb; subst hb; exact h.footR)
/-- the bits are other ones now -/
theorem Rm.setU {W : World} {F : Nat → Prop} {r n mb : Nat} {sv : List Value} {u : Nat} {ρ : Nat → List Th} {E : List (Int × DataW Unit)} (h : Rm W F r n mb sv u ρ E) (u2 : Nat) :
    Rm (W.setCell ⟨r, 64, none⟩ (.int .u64 (u2 : Nat))) F r n mb sv u2 ρ E ∧ Gr F W (W.setCell ⟨r, 64, none⟩ (.int .u64 (u2 : Nat))) := by
  have hs := block_set h.blk 64 (.int .u64 (u2 : Nat))
  have oth : ∀ i, i ≠ r → (W.setCell ⟨r, 64, none⟩ (.int .u64 (u2 : Nat))).heap[i]? = W.heap[i]? := fun i hi => heap_setCell_other W ⟨r, 64, none⟩ i _ hi
  refine ⟨⟨?_, h.len, fun k hk => (h.rows k hk).kept fun g hg => oth g (h.row_ne hk hg).1, h.apart, ?_, h.footR, h.footM⟩, Gr.one (grown_set W r 64 _) fun b hb => by simp only [Option.some.injEq] at hb; subst hb; exact h.footR⟩
  · rw [hs]
    simp only [List.setIfInBounds_toArray]
    rw [List.set_append_right _ _ (by rw [h.len]; exact Nat.le_refl _), h.len]; rfl
  · obtain ⟨D, ⟨es, clock, h1, h2⟩, h3⟩ := h.map
    exact ⟨D, ⟨es, clock, (oth mb (Ne.symm h.ne)).trans h1, h2⟩, h3⟩
/-- the map has turned -/
theorem Rm.turn {W W' : World} {F : Nat → Prop} {r n n' mb : Nat} {sv : List Value} {u : Nat} {ρ : Nat → List Th} {E E' : List (Int × DataW Unit)} {D' : DataW Unit} (h : Rm W F r n mb sv u ρ E) (hg : W.grownBy W' (some mb))
    (ho : W'.ownsMap Try.prog 28 (plainElem Try.prog 3) mb n' D') (hD : MapL D' E') : Rm W' F r n' mb sv u ρ E' ∧ Gr F W W' := by
  have hl := h.lt
  refine ⟨⟨(hg.block r hl.1 (fun e => h.ne (by simpa using e))).trans h.blk, h.len, fun k hk => (h.rows k hk).kept fun g hg2 => hg.block g ((h.rows k hk).own.lt g hg2).2 (fun e => (h.row_ne hk hg2).2 (by simpa using e)), h.apart, ⟨D', ho, hD⟩, h.footR, h.footM⟩, Gr.one hg fun b hb => by simp only [Option.some.injEq] at hb; subst hb; exact h.footM⟩
/-- the same rows, said otherwise -/
theorem Rm.same {W : World} {F : Nat → Prop} {r n mb : Nat} {sv : List Value} {u : Nat} {ρ ρ' : Nat → List Th} {E E' : List (Int × DataW Unit)} (h : Rm W F r n mb sv u ρ E) (hρ : ∀ k, k < 64 → ρ k = ρ' k) (hE : E = E') : Rm W F r n mb sv u ρ' E' :=
  ⟨h.blk, h.len, fun k hk => by rw [← hρ k (by rw [← h.len]; exact hk)]; exact h.rows k hk, h.apart, hE ▸ h.map, h.footR, h.footM⟩

/-- a ring in which the things of L wait; its map was written at most n times -/
structure Rng (W : World) (F : Nat → Prop) (r n : Nat) (L : RLs) : Prop where
  ok : RLok L
  few : L.length ≤ n
  bd : ∀ i, F i → i < W.heap.size
  mem : ∃ mb sv u, Rm W F r n mb sv u (rowOf L) (pairs L) ∧ UsedIs u L
theorem Rng.kept {W W' : World} {F : Nat → Prop} {r n : Nat} {L : RLs} (h : Rng W F r n L) (hs : W.heap.size ≤ W'.heap.size) (hk : ∀ i, F i → W'.heap[i]? = W.heap[i]?) : Rng W' F r n L := by
  obtain ⟨mb, sv, u, h1, h2⟩ := h.mem
  exact ⟨h.ok, h.few, fun i hi => Nat.lt_of_lt_of_le (h.bd i hi) hs, mb, sv, u, h1.kept (fun i hi _ => hk i hi), h2⟩
theorem Rng.below {W W' : World} {F : Nat → Prop} {r n : Nat} {L : RLs} (h : Rng W F r n L) (hb : Below W.heap.size W W') : Rng W' F r n L := h.kept hb.size fun i hi => hb.block i (h.bd i hi)
/-- what another one's call has changed -/
theorem Rng.beside {W W' : World} {F G : Nat → Prop} {r n : Nat} {L : RLs} (h : Rng W F r n L) (hg : Gr G W W') (hd : ∀ i, F i → ¬ G i) : Rng W' F r n L := h.kept hg.size fun i hi => hg.block i (h.bd i hi) (hd i hi)
theorem More.bd {F : Nat → Prop} {W W' : World} (h : ∀ i, F i → i < W.heap.size) (hs : W.heap.size ≤ W'.heap.size) : ∀ i, More F W W' i → i < W'.heap.size := fun i hi => hi.elim (fun h1 => Nat.lt_of_lt_of_le (h i h1) hs) (fun h1 => h1.2)
theorem Rng.lt {W : World} {F : Nat → Prop} {r n : Nat} {L : RLs} (h : Rng W F r n L) : r < W.heap.size := by
  obtain ⟨mb, sv, u, h1, h2⟩ := h.mem
  exact h1.lt.1
theorem Rng.mono {W : World} {F : Nat → Prop} {r n n' : Nat} {L : RLs} (h : Rng W F r n L) (hn : n ≤ n') : Rng W F r n' L := by
  obtain ⟨mb, sv, u, h1, h2⟩ := h.mem
  obtain ⟨D, h3, h4⟩ := h1.map
  exact ⟨h.ok, Nat.le_trans h.few hn, h.bd, mb, sv, u, ⟨h1.blk, h1.len, h1.rows, h1.apart, ⟨D, h3.mono hn, h4⟩, h1.footR, h1.footM⟩, h2⟩
end Go.Proofs.Ytadghaiengonoaa
