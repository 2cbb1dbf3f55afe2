/- segment.line. No statement of the seat is proved here. -/
import Derived.Test.YtlphpjgiaflfkaaSg
import Derived.Deep.RegionHeld3
namespace Go.Proofs.Ytlphpjgiaflfkaa
set_option linter.unusedVariables false
set_option linter.unusedSimpArgs false
set_option linter.unusedSectionVars false
open Go Go.RowKit Go.Shelf

def ln0 (bd : List UInt8) := readN 18446744073709551615 bd false
def ln1 (bd : List UInt8) := readN 1152921504606846976 (ln0 bd).2.1 (ln0 bd).2.2
def ln2 (bd : List UInt8) := readN 3 (ln1 bd).2.1 (ln1 bd).2.2
def ln3 (bd : List UInt8) := readT 4096 (ln2 bd).2.1 (ln2 bd).2.2
/-- the entry of a line -/
def lineE (bd : List UInt8) : En := ⟨(ln1 bd).1, (ln2 bd).1, (ln3 bd).1⟩
def lineOk (k : UInt8) (bd : List UInt8) (index : Nat) : Bool := decide (k = 2) && decide (endR (ln3 bd).2.1 (ln3 bd).2.2 = 0) && decide ((ln0 bd).1 = index) && soundE (lineE bd)
/-- bytes in a block of bytes -/
def BsT (w : World) (ao : Option Addr) (cap : Nat) (l : List UInt8) : Prop := Bs w ao cap l ∧ ∀ b off s, ao = some ⟨b, off, s⟩ → elem? w b = some 5
theorem BsT.below {w w' : World} {ao : Option Addr} {cap : Nat} {l : List UInt8} (h : BsT w ao cap l) (hb : Below w.heap.size w w') : BsT w' ao cap l :=
  ⟨h.1.below hb, fun b off s e => by rw [elem?_same (hb.block b (elem?_lt (h.2 b off s e)))]; exact h.2 b off s e⟩
theorem BsT.kept {w w' : World} {ao : Option Addr} {cap : Nat} {l : List UInt8} (h : BsT w ao cap l) (hk : ∀ b, elem? w b = some 5 → w'.heap[b]? = w.heap[b]?) : BsT w' ao cap l :=
  ⟨⟨h.1.len, h.1.le, h.1.max, h.1.none, fun j u hu => by
    obtain ⟨b, off, e, hc⟩ := h.1.cell j u hu
    exact ⟨b, off, e, by rw [World.cell?_of_block (w := w) (hk b (h.2 _ _ _ e))]; exact hc⟩⟩, fun b off s e => by rw [elem?_same (hk b (h.2 b off s e))]; exact h.2 b off s e⟩
theorem BsT.grown {w w' : World} {T : TypeId} {g : Nat} {ao : Option Addr} {cap : Nat} {l : List UInt8} (h : BsT w ao cap l) (hg : w.grownBy w' (some g)) (hT : elem? w g = some T) (hne : T ≠ 5) : BsT w' ao cap l :=
  h.kept fun b hb => hg.block b (elem?_lt hb) fun e => by
    simp only [Option.some.injEq] at e
    subst e
    rw [hb] at hT
    exact hne (by simpa using hT.symm)
def LineIs (k : UInt8) (bd : List UInt8) (index : Nat) (w : World) (e : Ending) (w' : World) : Prop :=
  ∃ ad cd, e = .returned (.tuple #[.agg #[.int .u64 (lineE bd).term, .int .i64 (lineE bd).kind, .slice ad (lineE bd).data.length cd], .bool (lineOk k bd index)]) ∧ BsT w' ad cd (lineE bd).data ∧ Below w.heap.size w w'
/-- a reader, where another block is written that holds no bytes -/
theorem Rd.apart {T T' : TypeId} {w w' : World} {p N : Nat} {ao : Option Addr} {cap : Nat} {l : List UInt8} {bad : Bool} {cs : Array Value} (h : Rd T w p ao cap l bad) (hN : w.heap[N]? = some (.cells cs T' (0, 0))) (hcs : ∀ (i : Nat) (n : Int), cs[i]? ≠ some (Value.int .u8 n)) (hne : N ≠ p) (hg : w.grownBy w' (some N)) : Rd T w' p ao cap l bad :=
  ⟨(hg.block p (Array.getElem?_eq_some_iff.1 h.blk).1 (by simpa using hne.symm)).trans h.blk, ⟨h.bs.len, h.bs.le, h.bs.max, h.bs.none, fun j u hu => by
    obtain ⟨b, off, e, hc⟩ := h.bs.cell j u hu
    refine ⟨b, off, e, ?_⟩
    have hb : b ≠ N := by
      rintro rfl
      rw [block_cell hN] at hc
      rw [List.getElem?_map] at hu
      cases hl : l[j]? with
      | none => rw [hl] at hu; cases hu
      | some z =>
        rw [hl] at hu
        simp only [Option.map_some, Option.some.injEq] at hu
        subst hu
        exact hcs _ _ hc
    rw [World.cell?_of_block (w := w) (hg.block b (cell?_lt hc) (by simpa using hb))]; exact hc⟩⟩
theorem ent_u8 (x1 x2 : Int) (s : Value) (hs : ∀ n : Int, s ≠ .int .u8 n) : ∀ (i : Nat) (n : Int), (#[Value.int .u64 x1, .int .i64 x2, s] : Array Value)[i]? ≠ some (Value.int .u8 n) := by
  intro i n
  match i with
  | 0 => simp
  | 1 => simp
  | 2 => simpa using hs n
  | i + 3 => simp
set_option maxRecDepth 100000 in
set_option maxHeartbeats 8000000 in
theorem line_any (k : UInt8) (ao : Option Addr) (cap : Nat) (bd : List UInt8) (index : Nat) (w : World) (hb : Bs w ao cap bd) (hl : bd.length ≤ 1000000) :
    Calls Try.prog 41 #[.int .u8 (k.toNat : Nat), .slice ao bd.length cap, .int .u64 (index : Nat)] w (LineIs k bd index w) := by
  obtain ⟨ok, hok⟩ : ∃ ok, ok = lineOk k bd index := ⟨_, rfl⟩
  obtain ⟨en, hen⟩ : ∃ en, en = lineE bd := ⟨_, rfl⟩
  unfold LineIs
  rw [← hok, ← hen]
  unfold lineOk at hok
  rw [← hen] at hok
  unfold lineE at hen
  have n0 := fun (W : World) (p : Nat) (h : Rd 131 W p ao cap bd false) => rnum_any 18446744073709551615 (by decide) h
  have q0 := readN_len 18446744073709551615 bd false
  have e0 : readN 18446744073709551615 bd false = ln0 bd := rfl
  rw [e0] at q0
  simp only [e0] at n0
  have n1 := fun (W : World) (p : Nat) (ao : Option Addr) (cap : Nat) (h : Rd 131 W p ao cap (ln0 bd).2.1 (ln0 bd).2.2) => rnum_any 1152921504606846976 (by decide) h
  have q1 := readN_len 1152921504606846976 (ln0 bd).2.1 (ln0 bd).2.2
  have e1 : readN 1152921504606846976 (ln0 bd).2.1 (ln0 bd).2.2 = ln1 bd := rfl
  rw [e1] at q1
  simp only [e1] at n1
  have n2 := fun (W : World) (p : Nat) (ao : Option Addr) (cap : Nat) (h : Rd 131 W p ao cap (ln1 bd).2.1 (ln1 bd).2.2) => rnum_any 3 (by decide) h
  have q2 := readN_len 3 (ln1 bd).2.1 (ln1 bd).2.2
  have m2 := readN_le 3 (ln1 bd).2.1 (ln1 bd).2.2
  have e2 : readN 3 (ln1 bd).2.1 (ln1 bd).2.2 = ln2 bd := rfl
  rw [e2] at q2 m2
  simp only [e2] at n2
  have n3 := fun (W : World) (p : Nat) (ao : Option Addr) (cap : Nat) (h : Rd 131 W p ao cap (ln2 bd).2.1 (ln2 bd).2.2) => text_rd 4096 (by decide) h (by omega)
  have m3 := readT_le 4096 (ln2 bd).2.1 (ln2 bd).2.2
  have e3 : readT 4096 (ln2 bd).2.1 (ln2 bd).2.2 = ln3 bd := rfl
  rw [e3] at m3
  simp only [e3] at n3
  clear e0 e1 e2 e3 q0 q1 q2
  generalize ln0 bd = r0 at hok n0 n1
  obtain ⟨x0, l0, b0⟩ := r0
  generalize ln1 bd = r1 at hen n1 n2
  obtain ⟨x1, l1, b1⟩ := r1
  generalize ln2 bd = r2 at hen n2 n3 m2
  obtain ⟨x2, l2, b2⟩ := r2
  generalize ln3 bd = r3 at hok hen n3 m3
  obtain ⟨dl, l3, b3⟩ := r3
  subst hen
  simp only at hok n0 n1 n2 n3 m2 m3 ⊢
  have N0 := Lib.hid n0
  have N1 := Lib.hid n1
  have N2 := Lib.hid n2
  have N3 := Lib.hid n3
  have Hok := Lib.hid hok
  clear n0 n1 n2 n3 hok
  have w2 : IntKind.i64.wrap (x2 : Int) = (x2 : Int) := IntWalk.i64_in _ (by omega)
  go_enter Try.func41, Try.ntmps41
  go_wp2_with fail
  obtain ⟨W0, hW0⟩ : ∃ W0, W0 = w.alloc (.cells #[.int .u64 0, .int .i64 0, .slice none 0 0] 38) := ⟨_, rfl⟩
  have hB0 : Below w.heap.size w W0 := by rw [hW0]; exact below_new _ _
  have k0 : W0.heap[w.heap.size]? = some (.cells #[.int .u64 0, .int .i64 0, .slice none 0 0] 38) := by rw [hW0]; exact heap_alloc_new _ _
  have z0 : W0.heap.size = w.heap.size + 1 := by rw [hW0]; exact World.size_alloc _ _
  have hb0 := hb.below hB0
  rw [← hW0]
  clear hW0
  refine (open_rd ao cap bd W0 hb0).mono ?_
  rintro e w1 ⟨rfl, h1, hB1⟩
  rw [z0] at h1
  have k1 := (hB1.block _ (by omega)).trans k0
  have hBw1 := below_on hB0 hB1 (by omega)
  have z1 := hB1.size
  go_wp2_with fail
  refine (N0.out w1 _ h1).mono ?_
  rintro e W2 ⟨a2, c2, rfl, h2, hg2, -⟩
  simp only at h2
  have k2 := (hg2.block _ (by omega) (by simp <;> omega)).trans k1
  have hBw2 := below_grown hBw1 hg2 (by omega) hBw1.size
  have z2 := hg2.size
  go_wp2_with fail
  refine (N1.out W2 _ a2 c2 h2).mono ?_
  rintro e W3 ⟨a3, c3, rfl, h3, hg3, -⟩
  simp only at h3
  have k3 := (hg3.block _ (by omega) (by simp <;> omega)).trans k2
  have hBw3 := below_grown hBw2 hg3 (by omega) hBw2.size
  have z3 := hg3.size
  go_wp2_with fail
  refine (N2.out W3 _ a3 c3 h3).mono ?_
  rintro e W4 ⟨a4, c4, rfl, h4, hg4, -⟩
  simp only at h4
  have k4 := (hg4.block _ (by omega) (by simp <;> omega)).trans k3
  have hBw4 := below_grown hBw3 hg4 (by omega) hBw3.size
  have z4 := hg4.size
  have f4 := fun i => block_free k4 i
  have d0 : W4.cell? ⟨w.heap.size, 0, none⟩ = some (.int .u64 0) := block_cell k4 0
  have d1 : W4.cell? ⟨w.heap.size, 1, none⟩ = some (.int .i64 0) := block_cell k4 1
  clear k0 k1 k2 k3 h1 h2 h3 hB1 hg2 hg3 hg4 hB0 hb0
  go_wp2_with fail
  obtain ⟨W5, hW5⟩ : ∃ W5, W5 = (W4.setCell ⟨w.heap.size, 0, none⟩ (.int .u64 (x1 : Int))).setCell ⟨w.heap.size, 1, none⟩ (.int .i64 (x2 : Int)) := ⟨_, rfl⟩
  have k5 : W5.heap[w.heap.size]? = some (.cells #[.int .u64 (x1 : Int), .int .i64 (x2 : Int), .slice none 0 0] 38) := by
    have := block_set (block_set k4 0 (.int .u64 (x1 : Int))) 1 (.int .i64 (x2 : Int))
    simp only [List.setIfInBounds_toArray, List.set_cons_zero, List.set_cons_succ] at this
    rw [hW5]; exact this
  have hg5 : W4.grownBy W5 (some w.heap.size) := by rw [hW5]; exact grown_trans (grown_set _ _ _ _) (grown_set _ _ _ _)
  rw [← hW5]
  clear hW5 f4 d0 d1
  have h5 := h4.apart k4 (ent_u8 0 0 _ (fun n e => by cases e)) (by omega) hg5
  have hBw5 := below_grown hBw4 hg5 (Nat.le_refl _) hBw4.size
  have z5 := hg5.size
  refine (N3.out W5 _ a4 c4 h5).mono ?_
  rintro e W6 ⟨a6, c6, rfl, h6, hg6, -⟩
  simp only at h6
  have k6 := (hg6.block _ (by omega) (by simp <;> omega)).trans k5
  have hBw6 := below_grown hBw5 hg6 (by omega) hBw5.size
  have z6 := hg6.size
  obtain ⟨cd, W7, hcv, hb7, hB7, ht7⟩ := bytes_of dl (by unfold maxLen; omega) W6
  have k7 := (hB7.block _ (by omega)).trans k6
  have h7 := h6.below hB7
  have hBw7 := below_on hBw6 hB7 (Nat.le_refl _)
  have z7 := hB7.size
  have f7 := block_free k7 2
  have d2 : W7.cell? ⟨w.heap.size, 2, none⟩ = some (.slice none 0 0) := block_cell k7 2
  clear k5 k6 k4 h4 h5 h6 hg5 hg6 hB7
  go_wp2_with fail
  obtain ⟨W9, hW9⟩ : ∃ W9, W9 = W7.setCell ⟨w.heap.size, 2, none⟩ (.slice (some ⟨W6.heap.size, 0, none⟩) dl.length cd) := ⟨_, rfl⟩
  have k9 : W9.heap[w.heap.size]? = some (.cells #[.int .u64 (x1 : Int), .int .i64 (x2 : Int), .slice (some ⟨W6.heap.size, 0, none⟩) dl.length cd] 38) := by
    have := block_set k7 2 (.slice (some ⟨W6.heap.size, 0, none⟩) dl.length cd)
    simp only [List.setIfInBounds_toArray, List.set_cons_zero, List.set_cons_succ] at this
    rw [hW9]; exact this
  have hg9 : W7.grownBy W9 (some w.heap.size) := by rw [hW9]; exact grown_set _ _ _ _
  rw [← hW9]
  clear hW9 f7 d2 hcv
  have h9 := h7.apart k7 (ent_u8 _ _ _ (fun n e => by cases e)) (by omega) hg9
  have hBw9 := below_grown hBw7 hg9 (Nat.le_refl _) hBw7.size
  have hb9 : Bs W9 (some ⟨W6.heap.size, 0, none⟩) cd dl := by
    refine ⟨hb7.len, hb7.le, hb7.max, hb7.none, fun j u hu => ?_⟩
    obtain ⟨b, off, e, hc⟩ := hb7.cell j u hu
    refine ⟨b, off, e, ?_⟩
    simp only [Option.some.injEq, Addr.mk.injEq] at e
    rw [World.cell?_of_block (w := W7) (hg9.block b (cell?_lt hc) (by simp; omega))]; exact hc
  have ht9 : elem? W9 W6.heap.size = some 5 := by rw [elem?_same (hg9.block _ (elem?_lt ht7) (by simp; omega))]; exact ht7
  have hz9 : w.heap.size < W9.heap.size := (Array.getElem?_eq_some_iff.1 k9).1
  obtain ⟨ad, had⟩ : ∃ ad, ad = (some ⟨W6.heap.size, 0, none⟩ : Option Addr) := ⟨_, rfl⟩
  rw [← had] at k9 hb9
  have hcw : ∀ W' : World, Below W9.heap.size W9 W' → (W'.cell? ⟨w.heap.size, 0, none⟩ = some (.int .u64 x1) ∧ W'.cell? ⟨w.heap.size, 1, none⟩ = some (.int .i64 x2) ∧ W'.cell? ⟨w.heap.size, 2, none⟩ = some (.slice ad dl.length cd)) := by
    intro W' hw
    have e1 := (hw.block _ hz9).trans k9
    exact ⟨block_cell e1 0, block_cell e1 1, block_cell e1 2⟩
  have hfz : ∀ W' : World, Below W9.heap.size W9 W' → ∀ i, W'.frozen? ⟨w.heap.size, i, none⟩ = false := by
    intro W' hw i
    exact block_free ((hw.block _ hz9).trans k9) i
  have hd9 : Below W9.heap.size W9 W9.drew := (Below.refl _ _).drew
  have hfin : ∀ W' X : World, Below W9.heap.size W9 W' → W'.grownBy X (some w.heap.size) → BsT X ad cd dl := by
    intro W' X hw hg
    refine ⟨?_, fun b off s e => ?_⟩
    rotate_left
    · rw [had] at e
      simp only [Option.some.injEq, Addr.mk.injEq] at e
      obtain ⟨rfl, -, -⟩ := e
      have hw2 : elem? W' W6.heap.size = some 5 := by rw [elem?_same (hw.block _ (elem?_lt ht9))]; exact ht9
      rw [elem?_same (hg.block _ (elem?_lt hw2) (by simp; omega))]; exact hw2
    refine ⟨hb9.len, hb9.le, hb9.max, hb9.none, fun j u hu => ?_⟩
    obtain ⟨b, off, e, hc⟩ := hb9.cell j u hu
    refine ⟨b, off, e, ?_⟩
    have hne : b ≠ w.heap.size := by
      rw [had] at e
      simp only [Option.some.injEq, Addr.mk.injEq] at e
      omega
    have hc2 := (hw.cell (p := ⟨b, off + j, none⟩) (cell?_lt hc)).trans hc
    rw [World.cell?_of_block (w := W') (hg.block b (cell?_lt hc2) (by simpa using hne))]; exact hc2
  have hE := end_rd (h9.below hd9)
  have Hsnd := Lib.hid (fun W => sound_e (x1 : Int) (x2 : Int) ad dl.length cd dl rfl W)
  obtain ⟨en, hen⟩ : ∃ en, en = endR l3 b3 := ⟨_, rfl⟩
  rw [← hen] at hE
  have f9 := hfz _ hd9
  have f0 := f9 0
  have f1 := f9 1
  have f2 := f9 2
  have hzd : w.heap.size < W9.drew.heap.size := hz9
  obtain ⟨s0, s1, s2⟩ := hcw W9 (Below.refl _ _)
  have t0 := hfz W9 (Below.refl _ _) 0
  have t1 := hfz W9 (Below.refl _ _) 1
  have t2 := hfz W9 (Below.refl _ _) 2
  clear h9 hb7 k7 h7 hg9 had hb9
  by_cases hk : k = 2
  · have hk1 : ((k.toNat : Int) == 2) = true := by subst hk; rfl
    by_cases he : en = 0
    · have hen0 : endR l3 b3 = 0 := by rw [← hen, he]
      subst he
      have Hend := Lib.hid hE
      clear hE hen
      by_cases hi : x0 = index
      · have hi1 : ((x0 : Int) == (index : Int)) = true := by simp [hi]
        obtain ⟨s, hs⟩ : ∃ s, s = soundE ⟨(x1 : Int), (x2 : Int), dl⟩ := ⟨_, rfl⟩
        rw [← hs] at Hsnd Hok
        have Hs := Lib.hid hs
        clear hs
        refine wp_region_held_drew (S := fun W' => (W'.cell? ⟨w.heap.size, 0, none⟩ = some (.int .u64 x1) ∧ W'.cell? ⟨w.heap.size, 1, none⟩ = some (.int .i64 x2) ∧ W'.cell? ⟨w.heap.size, 2, none⟩ = some (.slice ad dl.length cd))) (by kernel_rfl) (hcw _ hd9) (fun hHeld => ?_)
        refine wpAnyH_take (i := 0) (v := ?_) rfl (by kernel_rfl) (by kernel_rfl) (by kernel_rfl) (fun _ _ _ h => h) (Or.inl ⟨by rfl, ?_⟩) (by assumption) ?_
        rotate_left
        · intro w hSw; (try dsimp only at hSw); go_simp; (try with_reducible rfl)
        try simp only [Act.put, List.getElem_toArray, List.getElem_cons_zero, List.getElem_cons_succ, List.setIfInBounds_toArray, List.set_cons_zero, List.set_cons_succ]
        refine wpAnyH_take (i := 1) (v := ?_) rfl (by kernel_rfl) (by kernel_rfl) (by kernel_rfl) (fun _ _ _ h => h) (Or.inl ⟨by rfl, ?_⟩) (by assumption) ?_
        rotate_left
        · intro w hSw; (try dsimp only at hSw); go_simp; (try with_reducible rfl)
        try simp only [Act.put, List.getElem_toArray, List.getElem_cons_zero, List.getElem_cons_succ, List.setIfInBounds_toArray, List.set_cons_zero, List.set_cons_succ]
        refine wpAnyH_take (i := 2) (v := ?_) rfl (by kernel_rfl) (by kernel_rfl) (by kernel_rfl) (fun _ _ _ h => h) (Or.inl ⟨by rfl, ?_⟩) (by assumption) ?_
        rotate_left
        · intro w hSw; (try dsimp only at hSw); go_simp; (try with_reducible rfl)
        try simp only [Act.put, List.getElem_toArray, List.getElem_cons_zero, List.getElem_cons_succ, List.setIfInBounds_toArray, List.set_cons_zero, List.set_cons_succ]
        refine wpAnyH_take (i := 3) (v := ?_) rfl (by kernel_rfl) (by kernel_rfl) (by kernel_rfl) (fun _ _ _ h => h) (Or.inl ⟨by rfl, ?_⟩) (by assumption) ?_
        rotate_left
        · intro w hSw; (try dsimp only at hSw); go_simp; (try with_reducible rfl)
        try simp only [Act.put, List.getElem_toArray, List.getElem_cons_zero, List.getElem_cons_succ, List.setIfInBounds_toArray, List.set_cons_zero, List.set_cons_succ]
        refine wpAnyH_take (i := 4) (v := ?_) rfl (by kernel_rfl) (by kernel_rfl) (by kernel_rfl) (fun _ _ _ h => h) (Or.inl ⟨by rfl, ?_⟩) (by assumption) ?_
        rotate_left
        · intro w hSw; (try dsimp only at hSw); go_simp; (try with_reducible rfl)
        try simp only [Act.put, List.getElem_toArray, List.getElem_cons_zero, List.getElem_cons_succ, List.setIfInBounds_toArray, List.set_cons_zero, List.set_cons_succ]
        refine wpAnyH_ready (rs := [5]) (by kernel_rfl) (by simp) ?_
        refine AllReadyH.cons rfl (fun K hK => ?_) AllReadyH.nil
        go_simp
        go_at_call 77
        refine Hend.out.mono ?_
        rintro e w9 ⟨rfl, rfl⟩
        refine hK.out _ _ hHeld (fun hHeld => ?_)
        clear hK K
        try simp only [Act.put, List.getElem_toArray, List.getElem_cons_zero, List.getElem_cons_succ, List.setIfInBounds_toArray, List.set_cons_zero, List.set_cons_succ]
        refine wpAnyH_take (i := 6) (v := ?_) rfl (by kernel_rfl) (by kernel_rfl) (by kernel_rfl) (fun _ _ _ h => h) (Or.inl ⟨by rfl, ?_⟩) (by assumption) ?_
        rotate_left
        · intro w hSw; (try dsimp only at hSw); go_simp; (try with_reducible rfl)
        try simp only [Act.put, List.getElem_toArray, List.getElem_cons_zero, List.getElem_cons_succ, List.setIfInBounds_toArray, List.set_cons_zero, List.set_cons_succ]
        refine wpAnyH_take (i := 7) (v := ?_) rfl (by kernel_rfl) (by kernel_rfl) (by kernel_rfl) (fun _ _ _ h => h) (Or.inl ⟨by rfl, ?_⟩) (by assumption) ?_
        rotate_left
        · intro w hSw; (try dsimp only at hSw); go_simp; (try with_reducible rfl)
        try simp only [Act.put, List.getElem_toArray, List.getElem_cons_zero, List.getElem_cons_succ, List.setIfInBounds_toArray, List.set_cons_zero, List.set_cons_succ]
        refine wpAnyH_take (i := 8) (v := ?_) rfl (by kernel_rfl) (by kernel_rfl) (by kernel_rfl) (fun _ _ _ h => h) (Or.inl ⟨by rfl, ?_⟩) (by assumption) ?_
        rotate_left
        · intro w hSw; (try dsimp only at hSw); go_simp; (try with_reducible rfl)
        try simp only [Act.put, List.getElem_toArray, List.getElem_cons_zero, List.getElem_cons_succ, List.setIfInBounds_toArray, List.set_cons_zero, List.set_cons_succ]
        refine wpAnyH_take (i := 9) (v := ?_) rfl (by kernel_rfl) (by kernel_rfl) (by kernel_rfl) (fun _ _ _ h => h) (Or.inl ⟨by rfl, ?_⟩) (by assumption) ?_
        rotate_left
        · intro w hSw; (try dsimp only at hSw); go_simp; (try with_reducible rfl)
        try simp only [Act.put, List.getElem_toArray, List.getElem_cons_zero, List.getElem_cons_succ, List.setIfInBounds_toArray, List.set_cons_zero, List.set_cons_succ]
        refine wpAnyH_take (i := 10) (v := ?_) rfl (by kernel_rfl) (by kernel_rfl) (by kernel_rfl) (fun _ _ _ h => h) (Or.inl ⟨by rfl, ?_⟩) (by assumption) ?_
        rotate_left
        · intro w hSw; (try dsimp only at hSw); go_simp; (try with_reducible rfl)
        try simp only [Act.put, List.getElem_toArray, List.getElem_cons_zero, List.getElem_cons_succ, List.setIfInBounds_toArray, List.set_cons_zero, List.set_cons_succ]
        refine wpAnyH_take (i := 11) (v := ?_) rfl (by kernel_rfl) (by kernel_rfl) (by kernel_rfl) (fun _ _ _ h => h) (Or.inl ⟨by rfl, ?_⟩) (by assumption) ?_
        rotate_left
        · intro w hSw; (try dsimp only at hSw); go_simp; (try with_reducible rfl)
        try simp only [Act.put, List.getElem_toArray, List.getElem_cons_zero, List.getElem_cons_succ, List.setIfInBounds_toArray, List.set_cons_zero, List.set_cons_succ]
        refine wpAnyH_take (i := 12) (v := ?_) rfl (by kernel_rfl) (by kernel_rfl) (by kernel_rfl) (fun _ _ _ h => h) (Or.inl ⟨by rfl, ?_⟩) (by assumption) ?_
        rotate_left
        · intro w hSw; (try dsimp only at hSw); go_simp; (try with_reducible rfl)
        try simp only [Act.put, List.getElem_toArray, List.getElem_cons_zero, List.getElem_cons_succ, List.setIfInBounds_toArray, List.set_cons_zero, List.set_cons_succ]
        refine wpAnyH_take (i := 13) (v := ?_) rfl (by kernel_rfl) (by kernel_rfl) (by kernel_rfl) (fun _ _ _ h => h) (Or.inl ⟨by rfl, ?_⟩) (by assumption) ?_
        rotate_left
        · intro w hSw; (try dsimp only at hSw); go_simp; (try with_reducible rfl)
        try simp only [Act.put, List.getElem_toArray, List.getElem_cons_zero, List.getElem_cons_succ, List.setIfInBounds_toArray, List.set_cons_zero, List.set_cons_succ]
        refine wpAnyH_take (i := 14) (v := ?_) rfl (by kernel_rfl) (by kernel_rfl) (by kernel_rfl) (fun _ _ _ h => h) (Or.inl ⟨by rfl, ?_⟩) (by assumption) ?_
        rotate_left
        · intro w hSw; (try dsimp only at hSw); go_simp; (try with_reducible rfl)
        try simp only [Act.put, List.getElem_toArray, List.getElem_cons_zero, List.getElem_cons_succ, List.setIfInBounds_toArray, List.set_cons_zero, List.set_cons_succ]
        refine wpAnyH_ready (rs := [15]) (by kernel_rfl) (by simp) ?_
        refine AllReadyH.cons rfl (fun K hK => ?_) AllReadyH.nil
        go_simp
        go_at_call 33
        refine (Hsnd.out W9.drew).mono ?_
        rintro e w10 ⟨rfl, hb10⟩
        refine hK.out _ _ (hcw w10 (below_on hd9 hb10 (Nat.le_refl _))) (fun hHeld => ?_)
        clear hK K
        try simp only [Act.put, List.getElem_toArray, List.getElem_cons_zero, List.getElem_cons_succ, List.setIfInBounds_toArray, List.set_cons_zero, List.set_cons_succ]
        refine wpAnyH_take (i := 16) (v := ?_) rfl (by kernel_rfl) (by kernel_rfl) (by kernel_rfl) (fun _ _ _ h => h) (Or.inl ⟨by rfl, ?_⟩) (by assumption) ?_
        rotate_left
        · intro w hSw; (try dsimp only at hSw); go_simp; (try with_reducible rfl)
        try simp only [Act.put, List.getElem_toArray, List.getElem_cons_zero, List.getElem_cons_succ, List.setIfInBounds_toArray, List.set_cons_zero, List.set_cons_succ]
        have f9' := hfz _ (below_on hd9 hb10 (Nat.le_refl _))
        have g0 := f9' 0
        have g1 := f9' 1
        have g2 := f9' 2
        have hz10 : w.heap.size < w10.heap.size := Nat.lt_of_lt_of_le hzd hb10.size
        obtain ⟨p0, p1, p2⟩ := hcw _ (below_on hd9 hb10 (Nat.le_refl _))
        have kl := ((below_on hd9 hb10 (Nat.le_refl _)).block _ hz9).trans k9
        have kT := block_set (block_set (block_set kl 0 (.int .u64 (x1 : Int))) 1 (.int .i64 (x2 : Int))) 2 (.slice ad dl.length cd)
        simp only [List.setIfInBounds_toArray, List.set_cons_zero, List.set_cons_succ] at kT
        refine wpAnyH_ready (rs := [17]) (by kernel_rfl) (by simp) ?_
        refine AllReadyH.cons rfl (fun K hK => ?_) AllReadyH.nil
        go_simp
        refine hK.out _ _ ⟨block_cell kT 0, block_cell kT 1, block_cell kT 2⟩ (fun hHeld => ?_)
        clear hK K
        try simp only [Act.put, List.getElem_toArray, List.getElem_cons_zero, List.getElem_cons_succ, List.setIfInBounds_toArray, List.set_cons_zero, List.set_cons_succ]
        refine wpAnyH_take (i := 18) (v := ?_) rfl (by kernel_rfl) (by kernel_rfl) (by kernel_rfl) (fun _ _ _ h => h) (Or.inl ⟨by rfl, ?_⟩) (by assumption) ?_
        rotate_left
        · intro w hSw; (try dsimp only at hSw); go_simp; (try with_reducible rfl)
        try simp only [Act.put, List.getElem_toArray, List.getElem_cons_zero, List.getElem_cons_succ, List.setIfInBounds_toArray, List.set_cons_zero, List.set_cons_succ]
        refine wpAnyH_done (by kernel_rfl) ?_ _
        go_wp2_with fail
        obtain ⟨X, hX⟩ : ∃ X, X = ((w10.setCell ⟨w.heap.size, 0, none⟩ (.int .u64 (x1 : Int))).setCell ⟨w.heap.size, 1, none⟩ (.int .i64 (x2 : Int))).setCell ⟨w.heap.size, 2, none⟩ (.slice ad dl.length cd) := ⟨_, rfl⟩
        have kX : X.heap[w.heap.size]? = some (.cells #[.int .u64 (x1 : Int), .int .i64 (x2 : Int), .slice ad dl.length cd] 38) := by rw [hX]; exact kT
        have hgX : World.grownBy w10 X (some w.heap.size) := by rw [hX]; exact grown_trans (grown_trans (grown_set _ _ _ _) (grown_set _ _ _ _)) (grown_set _ _ _ _)
        rw [← hX]
        clear hX
        have y0 : X.cell? ⟨w.heap.size, 0, none⟩ = some (.int .u64 (x1 : Int)) := block_cell kX 0
        have y1 : X.cell? ⟨w.heap.size, 1, none⟩ = some (.int .i64 (x2 : Int)) := block_cell kX 1
        have y2 : X.cell? ⟨w.heap.size, 2, none⟩ = some (.slice ad dl.length cd) := block_cell kX 2
        refine bodyPost_ret (v := .tuple #[.agg #[.int .u64 (x1 : Int), .int .i64 (x2 : Int), .slice ad dl.length cd], .bool s]) (by simp [results, Try.results41, go_sem, y0, y1, y2]) rfl ?_
        exact ⟨ad, cd, by rw [Hok.out]; simp [hk, hen0, hi], hfin w10 X (below_on hd9 hb10 (Nat.le_refl _)) hgX, below_grown (below_on hBw9 (below_on hd9 hb10 (Nat.le_refl _)) (Nat.le_refl _)) hgX (Nat.le_refl _) (by have := (below_on hd9 hb10 (Nat.le_refl _)).size; omega)⟩
      · have hi1 : ((x0 : Int) == (index : Int)) = false := by simp; omega
        refine wp_region_held_drew (S := fun W' => (W'.cell? ⟨w.heap.size, 0, none⟩ = some (.int .u64 x1) ∧ W'.cell? ⟨w.heap.size, 1, none⟩ = some (.int .i64 x2) ∧ W'.cell? ⟨w.heap.size, 2, none⟩ = some (.slice ad dl.length cd))) (by kernel_rfl) (hcw _ hd9) (fun hHeld => ?_)
        refine wpAnyH_take (i := 0) (v := ?_) rfl (by kernel_rfl) (by kernel_rfl) (by kernel_rfl) (fun _ _ _ h => h) (Or.inl ⟨by rfl, ?_⟩) (by assumption) ?_
        rotate_left
        · intro w hSw; (try dsimp only at hSw); go_simp; (try with_reducible rfl)
        try simp only [Act.put, List.getElem_toArray, List.getElem_cons_zero, List.getElem_cons_succ, List.setIfInBounds_toArray, List.set_cons_zero, List.set_cons_succ]
        refine wpAnyH_take (i := 1) (v := ?_) rfl (by kernel_rfl) (by kernel_rfl) (by kernel_rfl) (fun _ _ _ h => h) (Or.inl ⟨by rfl, ?_⟩) (by assumption) ?_
        rotate_left
        · intro w hSw; (try dsimp only at hSw); go_simp; (try with_reducible rfl)
        try simp only [Act.put, List.getElem_toArray, List.getElem_cons_zero, List.getElem_cons_succ, List.setIfInBounds_toArray, List.set_cons_zero, List.set_cons_succ]
        refine wpAnyH_take (i := 2) (v := ?_) rfl (by kernel_rfl) (by kernel_rfl) (by kernel_rfl) (fun _ _ _ h => h) (Or.inl ⟨by rfl, ?_⟩) (by assumption) ?_
        rotate_left
        · intro w hSw; (try dsimp only at hSw); go_simp; (try with_reducible rfl)
        try simp only [Act.put, List.getElem_toArray, List.getElem_cons_zero, List.getElem_cons_succ, List.setIfInBounds_toArray, List.set_cons_zero, List.set_cons_succ]
        refine wpAnyH_take (i := 3) (v := ?_) rfl (by kernel_rfl) (by kernel_rfl) (by kernel_rfl) (fun _ _ _ h => h) (Or.inl ⟨by rfl, ?_⟩) (by assumption) ?_
        rotate_left
        · intro w hSw; (try dsimp only at hSw); go_simp; (try with_reducible rfl)
        try simp only [Act.put, List.getElem_toArray, List.getElem_cons_zero, List.getElem_cons_succ, List.setIfInBounds_toArray, List.set_cons_zero, List.set_cons_succ]
        refine wpAnyH_take (i := 4) (v := ?_) rfl (by kernel_rfl) (by kernel_rfl) (by kernel_rfl) (fun _ _ _ h => h) (Or.inl ⟨by rfl, ?_⟩) (by assumption) ?_
        rotate_left
        · intro w hSw; (try dsimp only at hSw); go_simp; (try with_reducible rfl)
        try simp only [Act.put, List.getElem_toArray, List.getElem_cons_zero, List.getElem_cons_succ, List.setIfInBounds_toArray, List.set_cons_zero, List.set_cons_succ]
        refine wpAnyH_ready (rs := [5]) (by kernel_rfl) (by simp) ?_
        refine AllReadyH.cons rfl (fun K hK => ?_) AllReadyH.nil
        go_simp
        go_at_call 77
        refine Hend.out.mono ?_
        rintro e w9 ⟨rfl, rfl⟩
        refine hK.out _ _ hHeld (fun hHeld => ?_)
        clear hK K
        try simp only [Act.put, List.getElem_toArray, List.getElem_cons_zero, List.getElem_cons_succ, List.setIfInBounds_toArray, List.set_cons_zero, List.set_cons_succ]
        refine wpAnyH_take (i := 6) (v := ?_) rfl (by kernel_rfl) (by kernel_rfl) (by kernel_rfl) (fun _ _ _ h => h) (Or.inl ⟨by rfl, ?_⟩) (by assumption) ?_
        rotate_left
        · intro w hSw; (try dsimp only at hSw); go_simp; (try with_reducible rfl)
        try simp only [Act.put, List.getElem_toArray, List.getElem_cons_zero, List.getElem_cons_succ, List.setIfInBounds_toArray, List.set_cons_zero, List.set_cons_succ]
        refine wpAnyH_take (i := 7) (v := ?_) rfl (by kernel_rfl) (by kernel_rfl) (by kernel_rfl) (fun _ _ _ h => h) (Or.inl ⟨by rfl, ?_⟩) (by assumption) ?_
        rotate_left
        · intro w hSw; (try dsimp only at hSw); go_simp; (try with_reducible rfl)
        try simp only [Act.put, List.getElem_toArray, List.getElem_cons_zero, List.getElem_cons_succ, List.setIfInBounds_toArray, List.set_cons_zero, List.set_cons_succ]
        refine wpAnyH_take (i := 8) (v := ?_) rfl (by kernel_rfl) (by kernel_rfl) (by kernel_rfl) (fun _ _ _ h => h) (Or.inl ⟨by rfl, ?_⟩) (by assumption) ?_
        rotate_left
        · intro w hSw; (try dsimp only at hSw); go_simp; (try with_reducible rfl)
        try simp only [Act.put, List.getElem_toArray, List.getElem_cons_zero, List.getElem_cons_succ, List.setIfInBounds_toArray, List.set_cons_zero, List.set_cons_succ]
        refine wpAnyH_take (i := 9) (v := ?_) rfl (by kernel_rfl) (by kernel_rfl) (by kernel_rfl) (fun _ _ _ h => h) (Or.inl ⟨by rfl, ?_⟩) (by assumption) ?_
        rotate_left
        · intro w hSw; (try dsimp only at hSw); go_simp; (try with_reducible rfl)
        try simp only [Act.put, List.getElem_toArray, List.getElem_cons_zero, List.getElem_cons_succ, List.setIfInBounds_toArray, List.set_cons_zero, List.set_cons_succ]
        refine wpAnyH_take (i := 10) (v := ?_) rfl (by kernel_rfl) (by kernel_rfl) (by kernel_rfl) (fun _ _ _ h => h) (Or.inl ⟨by rfl, ?_⟩) (by assumption) ?_
        rotate_left
        · intro w hSw; (try dsimp only at hSw); go_simp; (try with_reducible rfl)
        try simp only [Act.put, List.getElem_toArray, List.getElem_cons_zero, List.getElem_cons_succ, List.setIfInBounds_toArray, List.set_cons_zero, List.set_cons_succ]
        refine wpAnyH_take (i := 11) (v := ?_) rfl (by kernel_rfl) (by kernel_rfl) (by kernel_rfl) (fun _ _ _ h => h) (Or.inl ⟨by rfl, ?_⟩) (by assumption) ?_
        rotate_left
        · intro w hSw; (try dsimp only at hSw); go_simp; (try with_reducible rfl)
        try simp only [Act.put, List.getElem_toArray, List.getElem_cons_zero, List.getElem_cons_succ, List.setIfInBounds_toArray, List.set_cons_zero, List.set_cons_succ]
        refine wpAnyH_take (i := 12) (v := ?_) rfl (by kernel_rfl) (by kernel_rfl) (by kernel_rfl) (fun _ _ _ h => h) (Or.inl ⟨by rfl, ?_⟩) (by assumption) ?_
        rotate_left
        · intro w hSw; (try dsimp only at hSw); go_simp; (try with_reducible rfl)
        try simp only [Act.put, List.getElem_toArray, List.getElem_cons_zero, List.getElem_cons_succ, List.setIfInBounds_toArray, List.set_cons_zero, List.set_cons_succ]
        refine wpAnyH_take (i := 13) (v := ?_) rfl (by kernel_rfl) (by kernel_rfl) (by kernel_rfl) (fun _ _ _ h => h) (Or.inl ⟨by rfl, ?_⟩) (by assumption) ?_
        rotate_left
        · intro w hSw; (try dsimp only at hSw); go_simp; (try with_reducible rfl)
        try simp only [Act.put, List.getElem_toArray, List.getElem_cons_zero, List.getElem_cons_succ, List.setIfInBounds_toArray, List.set_cons_zero, List.set_cons_succ]
        refine wpAnyH_take (i := 14) rfl (by kernel_rfl) (by kernel_rfl) (by kernel_rfl) (fun _ _ _ h => h) (Or.inr ⟨by rfl, rfl⟩) (by assumption) ?_
        try simp only [Act.put, List.getElem_toArray, List.getElem_cons_zero, List.getElem_cons_succ, List.setIfInBounds_toArray, List.set_cons_zero, List.set_cons_succ]
        refine wpAnyH_take (i := 15) rfl (by kernel_rfl) (by kernel_rfl) (by kernel_rfl) (fun _ _ _ h => h) (Or.inr ⟨by rfl, rfl⟩) (by assumption) ?_
        try simp only [Act.put, List.getElem_toArray, List.getElem_cons_zero, List.getElem_cons_succ, List.setIfInBounds_toArray, List.set_cons_zero, List.set_cons_succ]
        refine wpAnyH_take (i := 16) (v := ?_) rfl (by kernel_rfl) (by kernel_rfl) (by kernel_rfl) (fun _ _ _ h => h) (Or.inl ⟨by rfl, ?_⟩) (by assumption) ?_
        rotate_left
        · intro w hSw; (try dsimp only at hSw); go_simp; (try with_reducible rfl)
        try simp only [Act.put, List.getElem_toArray, List.getElem_cons_zero, List.getElem_cons_succ, List.setIfInBounds_toArray, List.set_cons_zero, List.set_cons_succ]
        obtain ⟨p0, p1, p2⟩ := hcw _ hd9
        have kl := (hd9.block _ hz9).trans k9
        have kT := block_set (block_set (block_set kl 0 (.int .u64 (x1 : Int))) 1 (.int .i64 (x2 : Int))) 2 (.slice ad dl.length cd)
        simp only [List.setIfInBounds_toArray, List.set_cons_zero, List.set_cons_succ] at kT
        refine wpAnyH_ready (rs := [17]) (by kernel_rfl) (by simp) ?_
        refine AllReadyH.cons rfl (fun K hK => ?_) AllReadyH.nil
        go_simp
        refine hK.out _ _ ⟨block_cell kT 0, block_cell kT 1, block_cell kT 2⟩ (fun hHeld => ?_)
        clear hK K
        try simp only [Act.put, List.getElem_toArray, List.getElem_cons_zero, List.getElem_cons_succ, List.setIfInBounds_toArray, List.set_cons_zero, List.set_cons_succ]
        refine wpAnyH_take (i := 18) (v := ?_) rfl (by kernel_rfl) (by kernel_rfl) (by kernel_rfl) (fun _ _ _ h => h) (Or.inl ⟨by rfl, ?_⟩) (by assumption) ?_
        rotate_left
        · intro w hSw; (try dsimp only at hSw); go_simp; (try with_reducible rfl)
        try simp only [Act.put, List.getElem_toArray, List.getElem_cons_zero, List.getElem_cons_succ, List.setIfInBounds_toArray, List.set_cons_zero, List.set_cons_succ]
        refine wpAnyH_done (by kernel_rfl) ?_ _
        go_wp2_with fail
        obtain ⟨X, hX⟩ : ∃ X, X = (((W9.setCell ⟨w.heap.size, 0, none⟩ (.int .u64 (x1 : Int))).setCell ⟨w.heap.size, 1, none⟩ (.int .i64 (x2 : Int))).setCell ⟨w.heap.size, 2, none⟩ (.slice ad dl.length cd)).drew := ⟨_, rfl⟩
        have kX : X.heap[w.heap.size]? = some (.cells #[.int .u64 (x1 : Int), .int .i64 (x2 : Int), .slice ad dl.length cd] 38) := by rw [hX]; exact kT
        have hgX : World.grownBy W9 X (some w.heap.size) := by rw [hX]; exact grown_trans (grown_trans (grown_trans (grown_set _ _ _ _) (grown_set _ _ _ _)) (grown_set _ _ _ _)) (grown_below (Below.refl _ _).drew)
        rw [← hX]
        clear hX
        have y0 : X.cell? ⟨w.heap.size, 0, none⟩ = some (.int .u64 (x1 : Int)) := block_cell kX 0
        have y1 : X.cell? ⟨w.heap.size, 1, none⟩ = some (.int .i64 (x2 : Int)) := block_cell kX 1
        have y2 : X.cell? ⟨w.heap.size, 2, none⟩ = some (.slice ad dl.length cd) := block_cell kX 2
        refine bodyPost_ret (v := .tuple #[.agg #[.int .u64 (x1 : Int), .int .i64 (x2 : Int), .slice ad dl.length cd], .bool false]) (by simp [results, Try.results41, go_sem, y0, y1, y2]) rfl ?_
        exact ⟨ad, cd, by rw [Hok.out]; simp [hi], hfin W9 X (Below.refl _ _) hgX, below_grown hBw9 hgX (Nat.le_refl _) hBw9.size⟩
    · have hen0 : ¬ endR l3 b3 = 0 := by rw [← hen]; exact he
      have he1 : (en == 0) = false := by simpa using he
      have Hend := Lib.hid hE
      clear hE hen he
      refine wp_region_held_drew (S := fun W' => (W'.cell? ⟨w.heap.size, 0, none⟩ = some (.int .u64 x1) ∧ W'.cell? ⟨w.heap.size, 1, none⟩ = some (.int .i64 x2) ∧ W'.cell? ⟨w.heap.size, 2, none⟩ = some (.slice ad dl.length cd))) (by kernel_rfl) (hcw _ hd9) (fun hHeld => ?_)
      refine wpAnyH_take (i := 0) (v := ?_) rfl (by kernel_rfl) (by kernel_rfl) (by kernel_rfl) (fun _ _ _ h => h) (Or.inl ⟨by rfl, ?_⟩) (by assumption) ?_
      rotate_left
      · intro w hSw; (try dsimp only at hSw); go_simp; (try with_reducible rfl)
      try simp only [Act.put, List.getElem_toArray, List.getElem_cons_zero, List.getElem_cons_succ, List.setIfInBounds_toArray, List.set_cons_zero, List.set_cons_succ]
      refine wpAnyH_take (i := 1) (v := ?_) rfl (by kernel_rfl) (by kernel_rfl) (by kernel_rfl) (fun _ _ _ h => h) (Or.inl ⟨by rfl, ?_⟩) (by assumption) ?_
      rotate_left
      · intro w hSw; (try dsimp only at hSw); go_simp; (try with_reducible rfl)
      try simp only [Act.put, List.getElem_toArray, List.getElem_cons_zero, List.getElem_cons_succ, List.setIfInBounds_toArray, List.set_cons_zero, List.set_cons_succ]
      refine wpAnyH_take (i := 2) (v := ?_) rfl (by kernel_rfl) (by kernel_rfl) (by kernel_rfl) (fun _ _ _ h => h) (Or.inl ⟨by rfl, ?_⟩) (by assumption) ?_
      rotate_left
      · intro w hSw; (try dsimp only at hSw); go_simp; (try with_reducible rfl)
      try simp only [Act.put, List.getElem_toArray, List.getElem_cons_zero, List.getElem_cons_succ, List.setIfInBounds_toArray, List.set_cons_zero, List.set_cons_succ]
      refine wpAnyH_take (i := 3) (v := ?_) rfl (by kernel_rfl) (by kernel_rfl) (by kernel_rfl) (fun _ _ _ h => h) (Or.inl ⟨by rfl, ?_⟩) (by assumption) ?_
      rotate_left
      · intro w hSw; (try dsimp only at hSw); go_simp; (try with_reducible rfl)
      try simp only [Act.put, List.getElem_toArray, List.getElem_cons_zero, List.getElem_cons_succ, List.setIfInBounds_toArray, List.set_cons_zero, List.set_cons_succ]
      refine wpAnyH_take (i := 4) (v := ?_) rfl (by kernel_rfl) (by kernel_rfl) (by kernel_rfl) (fun _ _ _ h => h) (Or.inl ⟨by rfl, ?_⟩) (by assumption) ?_
      rotate_left
      · intro w hSw; (try dsimp only at hSw); go_simp; (try with_reducible rfl)
      try simp only [Act.put, List.getElem_toArray, List.getElem_cons_zero, List.getElem_cons_succ, List.setIfInBounds_toArray, List.set_cons_zero, List.set_cons_succ]
      refine wpAnyH_ready (rs := [5]) (by kernel_rfl) (by simp) ?_
      refine AllReadyH.cons rfl (fun K hK => ?_) AllReadyH.nil
      go_simp
      go_at_call 77
      refine Hend.out.mono ?_
      rintro e w9 ⟨rfl, rfl⟩
      refine hK.out _ _ hHeld (fun hHeld => ?_)
      clear hK K
      try simp only [Act.put, List.getElem_toArray, List.getElem_cons_zero, List.getElem_cons_succ, List.setIfInBounds_toArray, List.set_cons_zero, List.set_cons_succ]
      refine wpAnyH_take (i := 6) (v := ?_) rfl (by kernel_rfl) (by kernel_rfl) (by kernel_rfl) (fun _ _ _ h => h) (Or.inl ⟨by rfl, ?_⟩) (by assumption) ?_
      rotate_left
      · intro w hSw; (try dsimp only at hSw); go_simp; (try with_reducible rfl)
      try simp only [Act.put, List.getElem_toArray, List.getElem_cons_zero, List.getElem_cons_succ, List.setIfInBounds_toArray, List.set_cons_zero, List.set_cons_succ]
      refine wpAnyH_take (i := 7) (v := ?_) rfl (by kernel_rfl) (by kernel_rfl) (by kernel_rfl) (fun _ _ _ h => h) (Or.inl ⟨by rfl, ?_⟩) (by assumption) ?_
      rotate_left
      · intro w hSw; (try dsimp only at hSw); go_simp; (try with_reducible rfl)
      try simp only [Act.put, List.getElem_toArray, List.getElem_cons_zero, List.getElem_cons_succ, List.setIfInBounds_toArray, List.set_cons_zero, List.set_cons_succ]
      refine wpAnyH_take (i := 8) (v := ?_) rfl (by kernel_rfl) (by kernel_rfl) (by kernel_rfl) (fun _ _ _ h => h) (Or.inl ⟨by rfl, ?_⟩) (by assumption) ?_
      rotate_left
      · intro w hSw; (try dsimp only at hSw); go_simp; (try with_reducible rfl)
      try simp only [Act.put, List.getElem_toArray, List.getElem_cons_zero, List.getElem_cons_succ, List.setIfInBounds_toArray, List.set_cons_zero, List.set_cons_succ]
      refine wpAnyH_take (i := 9) rfl (by kernel_rfl) (by kernel_rfl) (by kernel_rfl) (fun _ _ _ h => h) (Or.inr ⟨by rfl, rfl⟩) (by assumption) ?_
      try simp only [Act.put, List.getElem_toArray, List.getElem_cons_zero, List.getElem_cons_succ, List.setIfInBounds_toArray, List.set_cons_zero, List.set_cons_succ]
      refine wpAnyH_take (i := 10) rfl (by kernel_rfl) (by kernel_rfl) (by kernel_rfl) (fun _ _ _ h => h) (Or.inr ⟨by rfl, rfl⟩) (by assumption) ?_
      try simp only [Act.put, List.getElem_toArray, List.getElem_cons_zero, List.getElem_cons_succ, List.setIfInBounds_toArray, List.set_cons_zero, List.set_cons_succ]
      refine wpAnyH_take (i := 11) rfl (by kernel_rfl) (by kernel_rfl) (by kernel_rfl) (fun _ _ _ h => h) (Or.inr ⟨by rfl, rfl⟩) (by assumption) ?_
      try simp only [Act.put, List.getElem_toArray, List.getElem_cons_zero, List.getElem_cons_succ, List.setIfInBounds_toArray, List.set_cons_zero, List.set_cons_succ]
      refine wpAnyH_take (i := 12) (v := ?_) rfl (by kernel_rfl) (by kernel_rfl) (by kernel_rfl) (fun _ _ _ h => h) (Or.inl ⟨by rfl, ?_⟩) (by assumption) ?_
      rotate_left
      · intro w hSw; (try dsimp only at hSw); go_simp; (try with_reducible rfl)
      try simp only [Act.put, List.getElem_toArray, List.getElem_cons_zero, List.getElem_cons_succ, List.setIfInBounds_toArray, List.set_cons_zero, List.set_cons_succ]
      refine wpAnyH_take (i := 13) (v := ?_) rfl (by kernel_rfl) (by kernel_rfl) (by kernel_rfl) (fun _ _ _ h => h) (Or.inl ⟨by rfl, ?_⟩) (by assumption) ?_
      rotate_left
      · intro w hSw; (try dsimp only at hSw); go_simp; (try with_reducible rfl)
      try simp only [Act.put, List.getElem_toArray, List.getElem_cons_zero, List.getElem_cons_succ, List.setIfInBounds_toArray, List.set_cons_zero, List.set_cons_succ]
      refine wpAnyH_take (i := 14) rfl (by kernel_rfl) (by kernel_rfl) (by kernel_rfl) (fun _ _ _ h => h) (Or.inr ⟨by rfl, rfl⟩) (by assumption) ?_
      try simp only [Act.put, List.getElem_toArray, List.getElem_cons_zero, List.getElem_cons_succ, List.setIfInBounds_toArray, List.set_cons_zero, List.set_cons_succ]
      refine wpAnyH_take (i := 15) rfl (by kernel_rfl) (by kernel_rfl) (by kernel_rfl) (fun _ _ _ h => h) (Or.inr ⟨by rfl, rfl⟩) (by assumption) ?_
      try simp only [Act.put, List.getElem_toArray, List.getElem_cons_zero, List.getElem_cons_succ, List.setIfInBounds_toArray, List.set_cons_zero, List.set_cons_succ]
      refine wpAnyH_take (i := 16) (v := ?_) rfl (by kernel_rfl) (by kernel_rfl) (by kernel_rfl) (fun _ _ _ h => h) (Or.inl ⟨by rfl, ?_⟩) (by assumption) ?_
      rotate_left
      · intro w hSw; (try dsimp only at hSw); go_simp; (try with_reducible rfl)
      try simp only [Act.put, List.getElem_toArray, List.getElem_cons_zero, List.getElem_cons_succ, List.setIfInBounds_toArray, List.set_cons_zero, List.set_cons_succ]
      obtain ⟨p0, p1, p2⟩ := hcw _ hd9
      have kl := (hd9.block _ hz9).trans k9
      have kT := block_set (block_set (block_set kl 0 (.int .u64 (x1 : Int))) 1 (.int .i64 (x2 : Int))) 2 (.slice ad dl.length cd)
      simp only [List.setIfInBounds_toArray, List.set_cons_zero, List.set_cons_succ] at kT
      refine wpAnyH_ready (rs := [17]) (by kernel_rfl) (by simp) ?_
      refine AllReadyH.cons rfl (fun K hK => ?_) AllReadyH.nil
      go_simp
      refine hK.out _ _ ⟨block_cell kT 0, block_cell kT 1, block_cell kT 2⟩ (fun hHeld => ?_)
      clear hK K
      try simp only [Act.put, List.getElem_toArray, List.getElem_cons_zero, List.getElem_cons_succ, List.setIfInBounds_toArray, List.set_cons_zero, List.set_cons_succ]
      refine wpAnyH_take (i := 18) (v := ?_) rfl (by kernel_rfl) (by kernel_rfl) (by kernel_rfl) (fun _ _ _ h => h) (Or.inl ⟨by rfl, ?_⟩) (by assumption) ?_
      rotate_left
      · intro w hSw; (try dsimp only at hSw); go_simp; (try with_reducible rfl)
      try simp only [Act.put, List.getElem_toArray, List.getElem_cons_zero, List.getElem_cons_succ, List.setIfInBounds_toArray, List.set_cons_zero, List.set_cons_succ]
      refine wpAnyH_done (by kernel_rfl) ?_ _
      go_wp2_with fail
      obtain ⟨X, hX⟩ : ∃ X, X = (((W9.setCell ⟨w.heap.size, 0, none⟩ (.int .u64 (x1 : Int))).setCell ⟨w.heap.size, 1, none⟩ (.int .i64 (x2 : Int))).setCell ⟨w.heap.size, 2, none⟩ (.slice ad dl.length cd)).drew := ⟨_, rfl⟩
      have kX : X.heap[w.heap.size]? = some (.cells #[.int .u64 (x1 : Int), .int .i64 (x2 : Int), .slice ad dl.length cd] 38) := by rw [hX]; exact kT
      have hgX : World.grownBy W9 X (some w.heap.size) := by rw [hX]; exact grown_trans (grown_trans (grown_trans (grown_set _ _ _ _) (grown_set _ _ _ _)) (grown_set _ _ _ _)) (grown_below (Below.refl _ _).drew)
      rw [← hX]
      clear hX
      have y0 : X.cell? ⟨w.heap.size, 0, none⟩ = some (.int .u64 (x1 : Int)) := block_cell kX 0
      have y1 : X.cell? ⟨w.heap.size, 1, none⟩ = some (.int .i64 (x2 : Int)) := block_cell kX 1
      have y2 : X.cell? ⟨w.heap.size, 2, none⟩ = some (.slice ad dl.length cd) := block_cell kX 2
      refine bodyPost_ret (v := .tuple #[.agg #[.int .u64 (x1 : Int), .int .i64 (x2 : Int), .slice ad dl.length cd], .bool false]) (by simp [results, Try.results41, go_sem, y0, y1, y2]) rfl ?_
      exact ⟨ad, cd, by rw [Hok.out]; simp [hen0], hfin W9 X (Below.refl _ _) hgX, below_grown hBw9 hgX (Nat.le_refl _) hBw9.size⟩
  · have hk1 : ((k.toNat : Int) == 2) = false := by have := u8_ne (k := 2) hk; simpa using this
    refine wp_region_held_drew (S := fun W' => (W'.cell? ⟨w.heap.size, 0, none⟩ = some (.int .u64 x1) ∧ W'.cell? ⟨w.heap.size, 1, none⟩ = some (.int .i64 x2) ∧ W'.cell? ⟨w.heap.size, 2, none⟩ = some (.slice ad dl.length cd))) (by kernel_rfl) (hcw _ hd9) (fun hHeld => ?_)
    refine wpAnyH_take (i := 0) (v := ?_) rfl (by kernel_rfl) (by kernel_rfl) (by kernel_rfl) (fun _ _ _ h => h) (Or.inl ⟨by rfl, ?_⟩) (by assumption) ?_
    rotate_left
    · intro w hSw; (try dsimp only at hSw); go_simp; (try with_reducible rfl)
    try simp only [Act.put, List.getElem_toArray, List.getElem_cons_zero, List.getElem_cons_succ, List.setIfInBounds_toArray, List.set_cons_zero, List.set_cons_succ]
    refine wpAnyH_take (i := 1) (v := ?_) rfl (by kernel_rfl) (by kernel_rfl) (by kernel_rfl) (fun _ _ _ h => h) (Or.inl ⟨by rfl, ?_⟩) (by assumption) ?_
    rotate_left
    · intro w hSw; (try dsimp only at hSw); go_simp; (try with_reducible rfl)
    try simp only [Act.put, List.getElem_toArray, List.getElem_cons_zero, List.getElem_cons_succ, List.setIfInBounds_toArray, List.set_cons_zero, List.set_cons_succ]
    refine wpAnyH_take (i := 2) (v := ?_) rfl (by kernel_rfl) (by kernel_rfl) (by kernel_rfl) (fun _ _ _ h => h) (Or.inl ⟨by rfl, ?_⟩) (by assumption) ?_
    rotate_left
    · intro w hSw; (try dsimp only at hSw); go_simp; (try with_reducible rfl)
    try simp only [Act.put, List.getElem_toArray, List.getElem_cons_zero, List.getElem_cons_succ, List.setIfInBounds_toArray, List.set_cons_zero, List.set_cons_succ]
    refine wpAnyH_take (i := 3) (v := ?_) rfl (by kernel_rfl) (by kernel_rfl) (by kernel_rfl) (fun _ _ _ h => h) (Or.inl ⟨by rfl, ?_⟩) (by assumption) ?_
    rotate_left
    · intro w hSw; (try dsimp only at hSw); go_simp; (try with_reducible rfl)
    try simp only [Act.put, List.getElem_toArray, List.getElem_cons_zero, List.getElem_cons_succ, List.setIfInBounds_toArray, List.set_cons_zero, List.set_cons_succ]
    refine wpAnyH_take (i := 4) rfl (by kernel_rfl) (by kernel_rfl) (by kernel_rfl) (fun _ _ _ h => h) (Or.inr ⟨by rfl, rfl⟩) (by assumption) ?_
    try simp only [Act.put, List.getElem_toArray, List.getElem_cons_zero, List.getElem_cons_succ, List.setIfInBounds_toArray, List.set_cons_zero, List.set_cons_succ]
    refine wpAnyH_take (i := 5) rfl (by kernel_rfl) (by kernel_rfl) (by kernel_rfl) (fun _ _ _ h => h) (Or.inr ⟨by rfl, rfl⟩) (by assumption) ?_
    try simp only [Act.put, List.getElem_toArray, List.getElem_cons_zero, List.getElem_cons_succ, List.setIfInBounds_toArray, List.set_cons_zero, List.set_cons_succ]
    refine wpAnyH_take (i := 6) rfl (by kernel_rfl) (by kernel_rfl) (by kernel_rfl) (fun _ _ _ h => h) (Or.inr ⟨by rfl, rfl⟩) (by assumption) ?_
    try simp only [Act.put, List.getElem_toArray, List.getElem_cons_zero, List.getElem_cons_succ, List.setIfInBounds_toArray, List.set_cons_zero, List.set_cons_succ]
    refine wpAnyH_take (i := 7) (v := ?_) rfl (by kernel_rfl) (by kernel_rfl) (by kernel_rfl) (fun _ _ _ h => h) (Or.inl ⟨by rfl, ?_⟩) (by assumption) ?_
    rotate_left
    · intro w hSw; (try dsimp only at hSw); go_simp; (try with_reducible rfl)
    try simp only [Act.put, List.getElem_toArray, List.getElem_cons_zero, List.getElem_cons_succ, List.setIfInBounds_toArray, List.set_cons_zero, List.set_cons_succ]
    refine wpAnyH_take (i := 8) (v := ?_) rfl (by kernel_rfl) (by kernel_rfl) (by kernel_rfl) (fun _ _ _ h => h) (Or.inl ⟨by rfl, ?_⟩) (by assumption) ?_
    rotate_left
    · intro w hSw; (try dsimp only at hSw); go_simp; (try with_reducible rfl)
    try simp only [Act.put, List.getElem_toArray, List.getElem_cons_zero, List.getElem_cons_succ, List.setIfInBounds_toArray, List.set_cons_zero, List.set_cons_succ]
    refine wpAnyH_take (i := 9) rfl (by kernel_rfl) (by kernel_rfl) (by kernel_rfl) (fun _ _ _ h => h) (Or.inr ⟨by rfl, rfl⟩) (by assumption) ?_
    try simp only [Act.put, List.getElem_toArray, List.getElem_cons_zero, List.getElem_cons_succ, List.setIfInBounds_toArray, List.set_cons_zero, List.set_cons_succ]
    refine wpAnyH_take (i := 10) rfl (by kernel_rfl) (by kernel_rfl) (by kernel_rfl) (fun _ _ _ h => h) (Or.inr ⟨by rfl, rfl⟩) (by assumption) ?_
    try simp only [Act.put, List.getElem_toArray, List.getElem_cons_zero, List.getElem_cons_succ, List.setIfInBounds_toArray, List.set_cons_zero, List.set_cons_succ]
    refine wpAnyH_take (i := 11) rfl (by kernel_rfl) (by kernel_rfl) (by kernel_rfl) (fun _ _ _ h => h) (Or.inr ⟨by rfl, rfl⟩) (by assumption) ?_
    try simp only [Act.put, List.getElem_toArray, List.getElem_cons_zero, List.getElem_cons_succ, List.setIfInBounds_toArray, List.set_cons_zero, List.set_cons_succ]
    refine wpAnyH_take (i := 12) (v := ?_) rfl (by kernel_rfl) (by kernel_rfl) (by kernel_rfl) (fun _ _ _ h => h) (Or.inl ⟨by rfl, ?_⟩) (by assumption) ?_
    rotate_left
    · intro w hSw; (try dsimp only at hSw); go_simp; (try with_reducible rfl)
    try simp only [Act.put, List.getElem_toArray, List.getElem_cons_zero, List.getElem_cons_succ, List.setIfInBounds_toArray, List.set_cons_zero, List.set_cons_succ]
    refine wpAnyH_take (i := 13) (v := ?_) rfl (by kernel_rfl) (by kernel_rfl) (by kernel_rfl) (fun _ _ _ h => h) (Or.inl ⟨by rfl, ?_⟩) (by assumption) ?_
    rotate_left
    · intro w hSw; (try dsimp only at hSw); go_simp; (try with_reducible rfl)
    try simp only [Act.put, List.getElem_toArray, List.getElem_cons_zero, List.getElem_cons_succ, List.setIfInBounds_toArray, List.set_cons_zero, List.set_cons_succ]
    refine wpAnyH_take (i := 14) rfl (by kernel_rfl) (by kernel_rfl) (by kernel_rfl) (fun _ _ _ h => h) (Or.inr ⟨by rfl, rfl⟩) (by assumption) ?_
    try simp only [Act.put, List.getElem_toArray, List.getElem_cons_zero, List.getElem_cons_succ, List.setIfInBounds_toArray, List.set_cons_zero, List.set_cons_succ]
    refine wpAnyH_take (i := 15) rfl (by kernel_rfl) (by kernel_rfl) (by kernel_rfl) (fun _ _ _ h => h) (Or.inr ⟨by rfl, rfl⟩) (by assumption) ?_
    try simp only [Act.put, List.getElem_toArray, List.getElem_cons_zero, List.getElem_cons_succ, List.setIfInBounds_toArray, List.set_cons_zero, List.set_cons_succ]
    refine wpAnyH_take (i := 16) (v := ?_) rfl (by kernel_rfl) (by kernel_rfl) (by kernel_rfl) (fun _ _ _ h => h) (Or.inl ⟨by rfl, ?_⟩) (by assumption) ?_
    rotate_left
    · intro w hSw; (try dsimp only at hSw); go_simp; (try with_reducible rfl)
    try simp only [Act.put, List.getElem_toArray, List.getElem_cons_zero, List.getElem_cons_succ, List.setIfInBounds_toArray, List.set_cons_zero, List.set_cons_succ]
    obtain ⟨p0, p1, p2⟩ := hcw _ hd9
    have kl := (hd9.block _ hz9).trans k9
    have kT := block_set (block_set (block_set kl 0 (.int .u64 (x1 : Int))) 1 (.int .i64 (x2 : Int))) 2 (.slice ad dl.length cd)
    simp only [List.setIfInBounds_toArray, List.set_cons_zero, List.set_cons_succ] at kT
    refine wpAnyH_ready (rs := [17]) (by kernel_rfl) (by simp) ?_
    refine AllReadyH.cons rfl (fun K hK => ?_) AllReadyH.nil
    go_simp
    refine hK.out _ _ ⟨block_cell kT 0, block_cell kT 1, block_cell kT 2⟩ (fun hHeld => ?_)
    clear hK K
    try simp only [Act.put, List.getElem_toArray, List.getElem_cons_zero, List.getElem_cons_succ, List.setIfInBounds_toArray, List.set_cons_zero, List.set_cons_succ]
    refine wpAnyH_take (i := 18) (v := ?_) rfl (by kernel_rfl) (by kernel_rfl) (by kernel_rfl) (fun _ _ _ h => h) (Or.inl ⟨by rfl, ?_⟩) (by assumption) ?_
    rotate_left
    · intro w hSw; (try dsimp only at hSw); go_simp; (try with_reducible rfl)
    try simp only [Act.put, List.getElem_toArray, List.getElem_cons_zero, List.getElem_cons_succ, List.setIfInBounds_toArray, List.set_cons_zero, List.set_cons_succ]
    refine wpAnyH_done (by kernel_rfl) ?_ _
    go_wp2_with fail
    obtain ⟨X, hX⟩ : ∃ X, X = (((W9.setCell ⟨w.heap.size, 0, none⟩ (.int .u64 (x1 : Int))).setCell ⟨w.heap.size, 1, none⟩ (.int .i64 (x2 : Int))).setCell ⟨w.heap.size, 2, none⟩ (.slice ad dl.length cd)).drew := ⟨_, rfl⟩
    have kX : X.heap[w.heap.size]? = some (.cells #[.int .u64 (x1 : Int), .int .i64 (x2 : Int), .slice ad dl.length cd] 38) := by rw [hX]; exact kT
    have hgX : World.grownBy W9 X (some w.heap.size) := by rw [hX]; exact grown_trans (grown_trans (grown_trans (grown_set _ _ _ _) (grown_set _ _ _ _)) (grown_set _ _ _ _)) (grown_below (Below.refl _ _).drew)
    rw [← hX]
    clear hX
    have y0 : X.cell? ⟨w.heap.size, 0, none⟩ = some (.int .u64 (x1 : Int)) := block_cell kX 0
    have y1 : X.cell? ⟨w.heap.size, 1, none⟩ = some (.int .i64 (x2 : Int)) := block_cell kX 1
    have y2 : X.cell? ⟨w.heap.size, 2, none⟩ = some (.slice ad dl.length cd) := block_cell kX 2
    refine bodyPost_ret (v := .tuple #[.agg #[.int .u64 (x1 : Int), .int .i64 (x2 : Int), .slice ad dl.length cd], .bool false]) (by simp [results, Try.results41, go_sem, y0, y1, y2]) rfl ?_
    exact ⟨ad, cd, by rw [Hok.out]; simp [hk], hfin W9 X (Below.refl _ _) hgX, below_grown hBw9 hgX (Nat.le_refl _) hBw9.size⟩
end Go.Proofs.Ytlphpjgiaflfkaa
