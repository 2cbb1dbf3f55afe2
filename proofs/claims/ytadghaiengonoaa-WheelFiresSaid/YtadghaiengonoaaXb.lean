/- wheel: a wheel in memory. No statement of the seat is proved here. -/
import Derived.Test.YtadghaiengonoaaXa
import Derived.Maps.RangeWalk
namespace Go.Proofs.Ytadghaiengonoaa
set_option linter.unusedVariables false
set_option linter.unusedSimpArgs false
set_option linter.unusedSectionVars false
open Go Go.RowKit Go.Maps

abbrev whT : TypeId := 65
abbrev faT : TypeId := 71
abbrev mfT : TypeId := 69
def thD (t : Th) : DataW Unit := .agg [.lit (.int .u64 t.id), .lit (.int .u64 t.gen), .lit (.int .i64 t.due)]
/-- how a thing in the map reads -/
def thElem : Value → Option (DataW Unit × List MemPlace)
  | .agg cs => match cs.toList with
    | [.int .u64 i, .int .u64 g, .int .i64 d] => some (thD ⟨i, g, d⟩, [])
    | _ => none
  | _ => none
theorem thElem_mk (t : Th) : thElem (thVal t) = some (thD t, []) := rfl
theorem thElem_inv {v : Value} {z : DataW Unit × List MemPlace} (h : thElem v = some z) : ∃ t, v = thVal t ∧ z = (thD t, []) := by
  unfold thElem at h
  split at h
  · rename_i cs
    split at h
    · rename_i i g d he
      simp only [Option.some.injEq] at h
      refine ⟨⟨i, g, d⟩, ?_, h.symm⟩
      unfold thVal
      congr 1
      exact Array.toList_inj.1 he
    · cases h
  · cases h
theorem thD_inj {a b : Th} (h : thD a = thD b) : a = b := by
  obtain ⟨a1, a2, a3⟩ := a
  obtain ⟨b1, b2, b3⟩ := b
  simp only [thD, DataW.agg.injEq, List.cons.injEq, DataW.lit.injEq, Lit.int.injEq, true_and, and_true] at h
  obtain ⟨rfl, rfl, rfl⟩ := h
  rfl
def fpairs (l : List Th) : List (Int × DataW Unit) := l.map (fun t => (t.id, thD t))
theorem zeroTh (w : World) : (zeroValue thT).run Try.prog w = .ok (thVal ⟨0, 0, 0⟩) w := by kernel_rfl
theorem Rng.widen {W : World} {F G : Nat → Prop} {r n : Nat} {L : RLs} (h : Rng W F r n L) (hG : ∀ i, F i → G i) (hb : ∀ i, G i → i < W.heap.size) : Rng W G r n L := by
  obtain ⟨mb, sv, u, h1, h2⟩ := h.mem
  exact ⟨h.ok, h.few, hb, mb, sv, u, h1.refoot fun i hi _ => hG i hi, h2⟩

/-- a wheel's memory: at 'now', its rings, what lies beyond them -/
structure Whm (W : World) (F : Nat → Prop) (G : Nat → Nat → Prop) (w : Nat) (now : Int) (rs : Nat → Nat) (pf mf n : Nat) (R : Nat → RLs) (far : List Th) : Prop where
  blk : W.heap[w]? = some (.cells #[.int .i64 now, .pointer (some ⟨rs 0, 0, none⟩), .pointer (some ⟨rs 1, 0, none⟩), .pointer (some ⟨rs 2, 0, none⟩), .pointer (some ⟨rs 3, 0, none⟩), .pointer (some ⟨pf, 0, none⟩)] whT (0, 0))
  fblk : W.heap[pf]? = some (.cells #[.map (some mf)] faT (0, 0))
  ring : ∀ k, k < 4 → Rng W (G k) (rs k) n (R k)
  apart : ∀ j k, j < 4 → k < 4 → j ≠ k → ∀ i, G j i → ¬ G k i
  sub : ∀ k, k < 4 → ∀ i, G k i → F i
  out : ∀ k, k < 4 → ¬ G k w ∧ ¬ G k pf ∧ ¬ G k mf
  fw : F w
  ff : F pf
  fm : F mf
  bd : ∀ i, F i → i < W.heap.size
  map : ∃ D, W.ownsMap Try.prog 28 thElem mf n D ∧ MapL D (fpairs far)
theorem Whm.ne {W : World} {F : Nat → Prop} {G : Nat → Nat → Prop} {w : Nat} {now : Int} {rs : Nat → Nat} {pf mf n : Nat} {R : Nat → RLs} {far : List Th} (h : Whm W F G w now rs pf mf n R far) : w ≠ pf ∧ w ≠ mf ∧ pf ≠ mf := by
  obtain ⟨D, ⟨es, clock, h1, _⟩, _⟩ := h.map
  refine ⟨fun e => ?_, fun e => ?_, fun e => ?_⟩
  · have a := h.blk; rw [e, h.fblk] at a
    simp only [Option.some.injEq, Obj.cells.injEq] at a
    exact absurd a.2.1 (by decide)
  · have a := h.blk; rw [e, h1] at a; cases a
  · have a := h.fblk; rw [e, h1] at a; cases a
theorem Whm.kept {W W' : World} {F : Nat → Prop} {G : Nat → Nat → Prop} {w : Nat} {now : Int} {rs : Nat → Nat} {pf mf n : Nat} {R : Nat → RLs} {far : List Th} (h : Whm W F G w now rs pf mf n R far) (hs : W.heap.size ≤ W'.heap.size) (hk : ∀ i, F i → W'.heap[i]? = W.heap[i]?) : Whm W' F G w now rs pf mf n R far := by
  refine ⟨(hk w h.fw).trans h.blk, (hk pf h.ff).trans h.fblk, fun k hk4 => (h.ring k hk4).kept hs fun i hi => hk i (h.sub k hk4 i hi), h.apart, h.sub, h.out, h.fw, h.ff, h.fm, fun i hi => Nat.lt_of_lt_of_le (h.bd i hi) hs, ?_⟩
  obtain ⟨D, ⟨es, clock, h1, h2⟩, h3⟩ := h.map
  exact ⟨D, ⟨es, clock, (hk mf h.fm).trans h1, h2⟩, h3⟩
theorem Whm.below {W W' : World} {F : Nat → Prop} {G : Nat → Nat → Prop} {w : Nat} {now : Int} {rs : Nat → Nat} {pf mf n : Nat} {R : Nat → RLs} {far : List Th} (h : Whm W F G w now rs pf mf n R far) (hb : Below W.heap.size W W') : Whm W' F G w now rs pf mf n R far := h.kept hb.size fun i hi => hb.block i (h.bd i hi)
theorem Whm.beside {W W' : World} {F H : Nat → Prop} {G : Nat → Nat → Prop} {w : Nat} {now : Int} {rs : Nat → Nat} {pf mf n : Nat} {R : Nat → RLs} {far : List Th} (h : Whm W F G w now rs pf mf n R far) (hg : Gr H W W') (hd : ∀ i, F i → ¬ H i) : Whm W' F G w now rs pf mf n R far := h.kept hg.size fun i hi => hg.block i (h.bd i hi) (hd i hi)
theorem Whm.mono {W : World} {F : Nat → Prop} {G : Nat → Nat → Prop} {w : Nat} {now : Int} {rs : Nat → Nat} {pf mf n n' : Nat} {R : Nat → RLs} {far : List Th} (h : Whm W F G w now rs pf mf n R far) (hn : n ≤ n') : Whm W F G w now rs pf mf n' R far := by
  obtain ⟨D, h1, h2⟩ := h.map
  exact ⟨h.blk, h.fblk, fun k hk => (h.ring k hk).mono hn, h.apart, h.sub, h.out, h.fw, h.ff, h.fm, h.bd, D, h1.mono hn, h2⟩
def updF {α : Type} (R : Nat → α) (k : Nat) (x : α) : Nat → α := fun j => if j = k then x else R j
/-- a ring's call -/
theorem Whm.step {W W' : World} {F : Nat → Prop} {G : Nat → Nat → Prop} {w : Nat} {now : Int} {rs : Nat → Nat} {pf mf n n' : Nat} {R : Nat → RLs} {far : List Th} (h : Whm W F G w now rs pf mf n R far) (k : Nat) (hk : k < 4) (L' : RLs)
    (hr : Rng W' (More (G k) W W') (rs k) n' L') (hn : n ≤ n') (hg : Gr (G k) W W') : Whm W' (More F W W') (updF G k (More (G k) W W')) w now rs pf mf n' (updF R k L') far ∧ Gr F W W' := by
  have hgF : Gr F W W' := hg.mono (h.sub k hk)
  have hkw := h.out k hk
  refine ⟨⟨(hg.block w (h.bd w h.fw) hkw.1).trans h.blk, (hg.block pf (h.bd pf h.ff) hkw.2.1).trans h.fblk, fun j hj => ?_, fun i j hi hj hij q hq => ?_, fun j hj q hq => ?_, fun j hj => ?_, .inl h.fw, .inl h.ff, .inl h.fm, More.bd h.bd hg.size, ?_⟩, hgF⟩
  · unfold updF
    by_cases e : j = k
    · subst e; simp only [if_true]; exact hr
    · simp only [if_neg e]
      exact ((h.ring j hj).beside hg fun i hi => h.apart j k hj hk e i hi).mono hn
  · unfold updF at hq ⊢
    have hb : ∀ m, m < 4 → ∀ q, G m q → q < W.heap.size := fun m hm q hq => h.bd q (h.sub m hm q hq)
    by_cases e : i = k
    · subst e
      rw [if_neg (Ne.symm hij)]
      rw [if_pos rfl] at hq
      intro hjq
      rcases hq with h1 | h1
      · exact h.apart i j hi hj hij q h1 hjq
      · have := hb j hj q hjq; omega
    · rw [if_neg e] at hq
      by_cases e2 : j = k
      · subst e2
        rw [if_pos rfl]
        rintro (h1 | h1)
        · exact h.apart i j hi hj hij q hq h1
        · have := hb i hi q hq; omega
      · rw [if_neg e2]; exact h.apart i j hi hj hij q hq
  · unfold updF at hq
    by_cases e : j = k
    · subst e
      rw [if_pos rfl] at hq
      exact hq.imp (h.sub j hj q) id
    · rw [if_neg e] at hq; exact .inl (h.sub j hj q hq)
  · unfold updF
    by_cases e : j = k
    · subst e
      rw [if_pos rfl]
      have b1 := h.bd w h.fw
      have b2 := h.bd pf h.ff
      have b3 := h.bd mf h.fm
      exact ⟨fun q => q.elim hkw.1 (fun x => by omega), fun q => q.elim hkw.2.1 (fun x => by omega), fun q => q.elim hkw.2.2 (fun x => by omega)⟩
    · rw [if_neg e]; exact h.out j hj
  · obtain ⟨D, ⟨es, clock, h1, h2⟩, h3⟩ := h.map
    exact ⟨D, World.ownsMap.mono ⟨es, clock, (hg.block mf (h.bd mf h.fm) hkw.2.2).trans h1, h2⟩ hn, h3⟩
/-- the map beyond has turned -/
theorem Whm.turn {W W' : World} {F : Nat → Prop} {G : Nat → Nat → Prop} {w : Nat} {now : Int} {rs : Nat → Nat} {pf mf n n' : Nat} {R : Nat → RLs} {far far' : List Th} {D' : DataW Unit} (h : Whm W F G w now rs pf mf n R far)
    (hg : W.grownBy W' (some mf)) (ho : W'.ownsMap Try.prog 28 thElem mf n' D') (hD : MapL D' (fpairs far')) (hn : n ≤ n') : Whm W' F G w now rs pf mf n' R far' ∧ Gr F W W' := by
  have hne := h.ne
  have hG : Gr (fun i => i = mf) W W' := Gr.one hg fun b hb => by simpa using hb.symm
  refine ⟨⟨(hG.block w (h.bd w h.fw) hne.2.1).trans h.blk, (hG.block pf (h.bd pf h.ff) hne.2.2).trans h.fblk, fun k hk => ((h.ring k hk).beside hG fun i hi e => (h.out k hk).2.2 (e ▸ hi)).mono hn, h.apart, h.sub, h.out, h.fw, h.ff, h.fm, fun i hi => Nat.lt_of_lt_of_le (h.bd i hi) hG.size, D', ho, hD⟩, hG.mono fun i e => e ▸ h.fm⟩
/-- time has gone on -/
theorem Whm.setNow {W : World} {F : Nat → Prop} {G : Nat → Nat → Prop} {w : Nat} {now : Int} {rs : Nat → Nat} {pf mf n : Nat} {R : Nat → RLs} {far : List Th} (h : Whm W F G w now rs pf mf n R far) (b : Int) :
    Whm (W.setCell ⟨w, 0, none⟩ (.int .i64 b)) F G w b rs pf mf n R far ∧ Gr F W (W.setCell ⟨w, 0, none⟩ (.int .i64 b)) := by
  have hne := h.ne
  have hG : Gr (fun i => i = w) W (W.setCell ⟨w, 0, none⟩ (.int .i64 b)) := Gr.one (grown_set W w 0 _) fun b hb => by simpa using hb.symm
  have hs := block_set h.blk 0 (.int .i64 b)
  simp only [List.setIfInBounds_toArray, List.set_cons_zero] at hs
  refine ⟨⟨hs, (hG.block pf (h.bd pf h.ff) (Ne.symm hne.1)).trans h.fblk, fun k hk => (h.ring k hk).beside hG fun i hi e => (h.out k hk).1 (e ▸ hi), h.apart, h.sub, h.out, h.fw, h.ff, h.fm, fun i hi => Nat.lt_of_lt_of_le (h.bd i hi) hG.size, ?_⟩, hG.mono fun i e => e ▸ h.fw⟩
  obtain ⟨D, ⟨es, clock, h1, h2⟩, h3⟩ := h.map
  exact ⟨D, ⟨es, clock, (hG.block mf (h.bd mf h.fm) (Ne.symm hne.2.1)).trans h1, h2⟩, h3⟩
end Go.Proofs.Ytadghaiengonoaa
