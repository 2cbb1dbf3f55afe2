/- Contracts of package reads: part, Take, Drop. No statement of the seat is proved here. -/
import Derived.Test.YtiboaafelabpfaaReadsB
namespace Go.Proofs.Ytiboaafelabpfaa
set_option linter.unusedVariables false
set_option linter.unusedSimpArgs false
set_option linter.unusedSectionVars false
open Go Go.RowKit

def Apart (v1 v2 : Value) : Prop := ∀ g, v1.ownBlock = some g → v2.ownBlock ≠ some g
theorem apart_nil (v : Value) (n c : Nat) : Apart (.slice none n c) v := fun g h => by simp [Value.ownBlock] at h
theorem Apart.or {v1 v2 : Value} (h : Apart v1 v2) : v2.ownBlock = none ∨ v2.ownBlock ≠ v1.ownBlock := by
  cases h2 : v2.ownBlock with
  | none => exact .inl rfl
  | some g => exact .inr fun e => h g e.symm h2
theorem Apart.symm {v1 v2 : Value} (h : Apart v1 v2) : Apart v2 v1 := fun g h1 h2 => h g h2 h1

/-- two slices of the call's own, that lie apart -/
def Two (w wr : World) (v1 v2 : Value) (l1 l2 : List Rd) : Prop :=
  wr.ownsRow w.heap.size 53 3 v1 l1.length (l1.map rdCells).flatten ∧ wr.ownsRow w.heap.size 53 3 v2 l2.length (l2.map rdCells).flatten ∧ Apart v1 v2 ∧ Below w.heap.size w wr
theorem Two.swap {w wr : World} {v1 v2 : Value} {l1 l2 : List Rd} (h : Two w wr v1 v2 l1 l2) : Two w wr v2 v1 l2 l1 := ⟨h.2.1, h.1, h.2.2.1.symm, h.2.2.2⟩
theorem Two.below {w wr W : World} {v1 v2 : Value} {l1 l2 : List Rd} (h : Two w wr v1 v2 l1 l2) (hb : Below wr.heap.size wr W) : Two w W v1 v2 l1 l2 :=
  ⟨own_below h.1 hb, own_below h.2.1 hb, h.2.2.1, below_on h.2.2.2 hb (Nat.le_refl _)⟩
theorem Two.push {w wr W : World} {v1 v2 : Value} {l1 l2 : List Rd} {r : Rd} {g c : Nat} (h : Two w wr v1 v2 l1 l2) (hown : W.ownsRow w.heap.size 53 3 (.slice (some ⟨g, 0, none⟩) (l1.length + 1) c) (l1.length + 1) (l1.map rdCells ++ [rdCells r]).flatten)
    (hg : wr.grownBy W v1.ownBlock) (hl : v1.ownBlock = some g ∨ g = wr.heap.size) : Two w W (.slice (some ⟨g, 0, none⟩) (l1.length + 1) c) v2 (l1 ++ [r]) l2 := by
  obtain ⟨h1, h2, h3, h4⟩ := h
  refine ⟨by simpa using hown, h2.kept hg h3.or, ?_, below_app h4 hg h1 (Nat.le_refl _) h4.size⟩
  intro k hk
  simp only [Value.ownBlock, Option.some.injEq] at hk
  subst hk
  rcases hl with hl | rfl
  · exact h3 _ hl
  · intro e
    have := (h2.lt _ e).2
    omega

theorem filter_snoc (p : Rd → Bool) (l : List Rd) (k : Nat) (h : k < l.length) : (l.take (k + 1)).filter p = (l.take k).filter p ++ (if p l[k] then [l[k]] else []) := by
  rw [List.take_succ_eq_append_getElem h, List.filter_append]
  congr 1
  simp [List.filter_cons]

/-- what 'part' leaves -/
def Parted (w : World) (b : Nat) (begun sure : Int) (l : List Rd) (p : Rd → Bool) (e : Ending) (w' : World) : Prop :=
  ∃ a1 c1 a2 c2, e = .returned (.slice a1 (l.filter p).length c1) ∧ Wait w' a1 c1 (l.filter p) ∧ Q w' b true begun sure a2 (l.filter (fun r => !p r)).length c2 ∧ Wait w' a2 c2 (l.filter (fun r => !p r)) ∧ w.grownBy w' (some b)

theorem part_nil (w : World) (v : Value) : Calls Try.prog 22 #[.pointer none, v] w fun e w' => e = .returned (.slice none 0 0) ∧ w = w' := by
  go_enter Try.func22, Try.ntmps22
  go_wp2_with (go_at_call 21; refine (none_nil _).mono ?_; rintro e w1 ⟨rfl, rfl⟩)
  go_ret
  exact ⟨rfl, rfl⟩
theorem part_not (w : World) (v : Value) (b : Nat) (begun sure : Int) (ao : Option Addr) (n cap : Nat) (h : Q w b false begun sure ao n cap) :
    Calls Try.prog 22 #[.pointer (some ⟨b, 0, none⟩), v] w fun e w' => e = .returned (.slice none 0 0) ∧ w = w' := by
  go_enter Try.func22, Try.ntmps22
  go_wp2_with (go_at_call 21; refine (none_at _ b _ _ _ _ _ _ h).mono ?_; rintro e w1 ⟨rfl, rfl⟩)
  go_ret
  exact ⟨rfl, rfl⟩

theorem parted_mk {w wr : World} {b : Nat} {begun sure : Int} {l : List Rd} {p : Rd → Bool} {ao a1 a2 : Option Addr} {n cap c1 c2 : Nat} (hq : Q w b true begun sure ao n cap)
    (h : Two w wr (.slice a1 (l.filter p).length c1) (.slice a2 (l.filter (fun r => !p r)).length c2) (l.filter p) (l.filter (fun r => !p r))) :
    Parted w b begun sure l p (.returned (.slice a1 (l.filter p).length c1)) (wr.setCell ⟨b, 3, none⟩ (.slice a2 (l.filter (fun r => !p r)).length c2)) := by
  obtain ⟨h1, h2, _, h4⟩ := h
  have hbz : b < w.heap.size := (Array.getElem?_eq_some_iff.1 hq).1
  have hb : wr.heap[b]? = _ := (h4.block b hbz).trans hq
  refine ⟨a1, c1, a2, c2, rfl, ?_, block_set hb 3 _, ?_, grown_trans (grown_below h4) (grown_set _ _ _ _)⟩
  · exact Rw.grown (Rw.of_own h1 (by simp) (rd_each _)) (grown_set _ _ _ _) (elem?_of hb) (by decide)
  · exact Rw.grown (Rw.of_own h2 (by simp) (rd_each _)) (grown_set _ _ _ _) (elem?_of hb) (by decide)

set_option maxHeartbeats 4000000 in
theorem part_drop (w : World)  (b : Nat) (begun sure : Int) (ao : Option Addr) (cap : Nat) (l : List Rd) (p : Rd → Bool) (h : Q w b true begun sure ao l.length cap) (hw : Wait w ao cap l) (hn : l.length ≤ 1000) (ht : Tells 24 #[] w.heap.size w p) :
    Calls Try.prog 22 #[.pointer (some ⟨b, 0, none⟩), .func (.func 24) #[] #[]] w (Parted w b begun sure l p) := by
  have c3 := block_cell h 3
  simp at c3
  have hbz := cell?_lt c3
  have Ht := Lib.hid ht
  clear ht
  go_enter Try.func22, Try.ntmps22
  go_wp2_with (go_at_call 21; refine (none_at _ b _ _ _ _ _ _ h).mono ?_; rintro e w1 ⟨rfl, rfl⟩)
  go_loopw [4, 5, 15] (fun v1 v2 i wr => ∃ k : Nat, k ≤ l.length ∧ i = .int .i64 k ∧ ∃ a1 c1 a2 c2 l1 l2, Hid (l1 = (l.take k).filter p ∧ l2 = (l.take k).filter (fun r => !p r) ∧ l1.length ≤ 1000 ∧ l2.length ≤ 1000) ∧ v1 = .slice a1 l1.length c1 ∧ v2 = .slice a2 l2.length c2 ∧ Two w wr (.slice a1 l1.length c1) (.slice a2 l2.length c2) l1 l2) (fun _ _ i _ => l.length - (intOf i).toNat)
  case atStart => exact ⟨0, Nat.zero_le _, rfl, none, 0, none, 0, [], [], ⟨by simp, by simp, by simp, by simp⟩, rfl, rfl, World.ownsRow_nil _ _ _ _, World.ownsRow_nil _ _ _ _, apart_nil _ _ _, Below.refl _ _⟩
  case round =>
    obtain ⟨k, hk, rfl, a1, c1, a2, c2, l1, l2, hL, rfl, rfl, hT⟩ := hrel
    obtain ⟨e1, e2, b1, b2⟩ := hL.out
    by_cases hlt : k < l.length
    · obtain ⟨b', off, rfl, d0, d1, d2⟩ := Wait.get (Rw.below hw hT.2.2.2) k hlt
      have f1 := filter_snoc p l k hlt
      have f2 := filter_snoc (fun r => !p r) l k hlt
      rw [← e1] at f1
      rw [← e2] at f2
      have q1 := List.length_filter_le p (l.take (k + 1))
      have q2 := List.length_filter_le (fun r => !p r) (l.take (k + 1))
      have q3 : (l.take (k + 1)).length ≤ 1000 := by rw [List.length_take]; omega
      obtain ⟨r, hr⟩ : ∃ r, r = l[k] := ⟨_, rfl⟩
      rw [← hr] at d0 d1 d2 f1 f2
      have z1 := cell?_lt d0
      clear hr e1 e2 hL
      have hX : ∀ W, Below wr.heap.size wr W → Below w.heap.size w W := fun W hW => below_on hT.2.2.2 hW (Nat.le_refl _)
      have hcall := fun W (hW : Below wr.heap.size wr W) => Ht.out W r (hX W hW)
      have Hcall := Lib.hid hcall
      clear hcall hX
      by_cases hp : p r = true
      · rw [hp] at f1 f2
        have F1 := Lib.hid f1
        have F2 := Lib.hid f2
        have Q1 := Lib.hid q1
        have Q2 := Lib.hid q2
        have Q3 := Lib.hid q3
        clear f1 f2 q1 q2 q3
        have Hp := Lib.hid hp
        clear hp
        go_wp2_with fail
        refine (Hcall.out _ (below_new _ _)).mono ?_
        rintro e W2 ⟨rfl, hB2⟩
        rw [Hp.out]
        have hB2' := below_on (below_new _ _) hB2 (Nat.le_refl _)
        have k0 := (hB2.cell (p := ⟨wr.heap.size, 0, none⟩) (by simp)).trans (cell?_new _ _ _ _ 0)
        have k1 := (hB2.cell (p := ⟨wr.heap.size, 1, none⟩) (by simp)).trans (cell?_new _ _ _ _ 1)
        have k2 := (hB2.cell (p := ⟨wr.heap.size, 2, none⟩) (by simp)).trans (cell?_new _ _ _ _ 2)
        simp at k0 k1 k2
        have hT3 := (hT.below hB2').below (below_new W2 (.cells #[.int .u64 r.id, .int .u64 r.index, .int .u64 r.round] 53))
        have hT3s := hT3.2.2.2.size
        go_wp2_with (at_builtin; refine wpl_append_one rfl (.tmp 22) (.tmp 24) 41 rfl w.heap.size 53 infoRd Try.underlying41 rfl (by decide) _ l1.length (l1.map rdCells) rfl hT3.1 _ 1 (rdCells r) rfl rfl (news_at _ rfl) (rd_one _) ?_ ?_ hT3s ?_; omega; (unfold maxLen; omega); intro g cap4 W4 hown4 hg4 hlie; have hT4 := hT3.push hown4 hg4 hlie; clear hown4 hg4 hlie)
        go_roundw
        case rel =>
          refine ⟨k + 1, by omega, by go_num, some ⟨g, 0, none⟩, cap4, a2, c2, l1 ++ [r], l2, ⟨?_, ?_, ?_, b2⟩, ?_, rfl, ?_⟩
          · rw [F1.out]; simp
          · rw [F2.out]; simp
          · have := F1.out; have := Q1.out; have := Q3.out; simp_all; omega
          · simp
          · simpa using hT4
        case measure => simp [intOf]; omega
      · have hp' : p r = false := by simpa using hp
        rw [hp'] at f1 f2
        have F1 := Lib.hid f1
        have F2 := Lib.hid f2
        have Q1 := Lib.hid q1
        have Q2 := Lib.hid q2
        have Q3 := Lib.hid q3
        clear f1 f2 q1 q2 q3 hp
        have Hp := Lib.hid hp'
        clear hp'
        go_wp2_with fail
        refine (Hcall.out _ (below_new _ _)).mono ?_
        rintro e W2 ⟨rfl, hB2⟩
        rw [Hp.out]
        have hB2' := below_on (below_new _ _) hB2 (Nat.le_refl _)
        have k0 := (hB2.cell (p := ⟨wr.heap.size, 0, none⟩) (by simp)).trans (cell?_new _ _ _ _ 0)
        have k1 := (hB2.cell (p := ⟨wr.heap.size, 1, none⟩) (by simp)).trans (cell?_new _ _ _ _ 1)
        have k2 := (hB2.cell (p := ⟨wr.heap.size, 2, none⟩) (by simp)).trans (cell?_new _ _ _ _ 2)
        simp at k0 k1 k2
        have hT3 := ((hT.below hB2').below (below_new W2 (.cells #[.int .u64 r.id, .int .u64 r.index, .int .u64 r.round] 53))).swap
        have hT3s := hT3.2.2.2.size
        go_wp2_with (at_builtin; refine wpl_append_one rfl (.tmp 26) (.tmp 28) 41 rfl w.heap.size 53 infoRd Try.underlying41 rfl (by decide) _ l2.length (l2.map rdCells) rfl hT3.1 _ 1 (rdCells r) rfl rfl (news_at _ rfl) (rd_one _) ?_ ?_ hT3s ?_; omega; (unfold maxLen; omega); intro g cap4 W4 hown4 hg4 hlie; have hT4 := (hT3.push hown4 hg4 hlie).swap; clear hown4 hg4 hlie)
        go_roundw
        case rel =>
          refine ⟨k + 1, by omega, by go_num, a1, c1, some ⟨g, 0, none⟩, cap4, l1, l2 ++ [r], ⟨?_, ?_, b1, ?_⟩, rfl, ?_, ?_⟩
          · rw [F1.out]; simp
          · rw [F2.out]; simp
          · have := F2.out; have := Q2.out; have := Q3.out; simp_all; omega
          · simp
          · simpa using hT4
        case measure => simp [intOf]; omega
    · obtain rfl : k = l.length := by omega
      rw [List.take_length] at e1 e2
      subst e1
      subst e2
      have hb4 := (hT.2.2.2.block b hbz).trans h
      have k3 := block_cell hb4 3
      have k3f := block_free hb4 3
      simp at k3
      clear hL
      go_wp2
      go_ret
      exact parted_mk h hT

set_option maxHeartbeats 4000000 in
theorem part_take (w : World) (x1 x2 : Option Addr) (b : Nat) (begun sure : Int) (ao : Option Addr) (cap : Nat) (l : List Rd) (p : Rd → Bool) (h : Q w b true begun sure ao l.length cap) (hw : Wait w ao cap l) (hn : l.length ≤ 1000) (ht : Tells 23 #[.pointer x1, .pointer x2] w.heap.size w p) :
    Calls Try.prog 22 #[.pointer (some ⟨b, 0, none⟩), .func (.func 23) #[] #[.pointer x1, .pointer x2]] w (Parted w b begun sure l p) := by
  have c3 := block_cell h 3
  simp at c3
  have hbz := cell?_lt c3
  have Ht := Lib.hid ht
  clear ht
  go_enter Try.func22, Try.ntmps22
  go_wp2_with (go_at_call 21; refine (none_at _ b _ _ _ _ _ _ h).mono ?_; rintro e w1 ⟨rfl, rfl⟩)
  go_loopw [4, 5, 15] (fun v1 v2 i wr => ∃ k : Nat, k ≤ l.length ∧ i = .int .i64 k ∧ ∃ a1 c1 a2 c2 l1 l2, Hid (l1 = (l.take k).filter p ∧ l2 = (l.take k).filter (fun r => !p r) ∧ l1.length ≤ 1000 ∧ l2.length ≤ 1000) ∧ v1 = .slice a1 l1.length c1 ∧ v2 = .slice a2 l2.length c2 ∧ Two w wr (.slice a1 l1.length c1) (.slice a2 l2.length c2) l1 l2) (fun _ _ i _ => l.length - (intOf i).toNat)
  case atStart => exact ⟨0, Nat.zero_le _, rfl, none, 0, none, 0, [], [], ⟨by simp, by simp, by simp, by simp⟩, rfl, rfl, World.ownsRow_nil _ _ _ _, World.ownsRow_nil _ _ _ _, apart_nil _ _ _, Below.refl _ _⟩
  case round =>
    obtain ⟨k, hk, rfl, a1, c1, a2, c2, l1, l2, hL, rfl, rfl, hT⟩ := hrel
    obtain ⟨e1, e2, b1, b2⟩ := hL.out
    by_cases hlt : k < l.length
    · obtain ⟨b', off, rfl, d0, d1, d2⟩ := Wait.get (Rw.below hw hT.2.2.2) k hlt
      have f1 := filter_snoc p l k hlt
      have f2 := filter_snoc (fun r => !p r) l k hlt
      rw [← e1] at f1
      rw [← e2] at f2
      have q1 := List.length_filter_le p (l.take (k + 1))
      have q2 := List.length_filter_le (fun r => !p r) (l.take (k + 1))
      have q3 : (l.take (k + 1)).length ≤ 1000 := by rw [List.length_take]; omega
      obtain ⟨r, hr⟩ : ∃ r, r = l[k] := ⟨_, rfl⟩
      rw [← hr] at d0 d1 d2 f1 f2
      have z1 := cell?_lt d0
      clear hr e1 e2 hL
      have hX : ∀ W, Below wr.heap.size wr W → Below w.heap.size w W := fun W hW => below_on hT.2.2.2 hW (Nat.le_refl _)
      have hcall := fun W (hW : Below wr.heap.size wr W) => Ht.out W r (hX W hW)
      have Hcall := Lib.hid hcall
      clear hcall hX
      by_cases hp : p r = true
      · rw [hp] at f1 f2
        have F1 := Lib.hid f1
        have F2 := Lib.hid f2
        have Q1 := Lib.hid q1
        have Q2 := Lib.hid q2
        have Q3 := Lib.hid q3
        clear f1 f2 q1 q2 q3
        have Hp := Lib.hid hp
        clear hp
        go_wp2_with fail
        refine (Hcall.out _ (below_new _ _)).mono ?_
        rintro e W2 ⟨rfl, hB2⟩
        rw [Hp.out]
        have hB2' := below_on (below_new _ _) hB2 (Nat.le_refl _)
        have k0 := (hB2.cell (p := ⟨wr.heap.size, 0, none⟩) (by simp)).trans (cell?_new _ _ _ _ 0)
        have k1 := (hB2.cell (p := ⟨wr.heap.size, 1, none⟩) (by simp)).trans (cell?_new _ _ _ _ 1)
        have k2 := (hB2.cell (p := ⟨wr.heap.size, 2, none⟩) (by simp)).trans (cell?_new _ _ _ _ 2)
        simp at k0 k1 k2
        have hT3 := (hT.below hB2').below (below_new W2 (.cells #[.int .u64 r.id, .int .u64 r.index, .int .u64 r.round] 53))
        have hT3s := hT3.2.2.2.size
        go_wp2_with (at_builtin; refine wpl_append_one rfl (.tmp 22) (.tmp 24) 41 rfl w.heap.size 53 infoRd Try.underlying41 rfl (by decide) _ l1.length (l1.map rdCells) rfl hT3.1 _ 1 (rdCells r) rfl rfl (news_at _ rfl) (rd_one _) ?_ ?_ hT3s ?_; omega; (unfold maxLen; omega); intro g cap4 W4 hown4 hg4 hlie; have hT4 := hT3.push hown4 hg4 hlie; clear hown4 hg4 hlie)
        go_roundw
        case rel =>
          refine ⟨k + 1, by omega, by go_num, some ⟨g, 0, none⟩, cap4, a2, c2, l1 ++ [r], l2, ⟨?_, ?_, ?_, b2⟩, ?_, rfl, ?_⟩
          · rw [F1.out]; simp
          · rw [F2.out]; simp
          · have := F1.out; have := Q1.out; have := Q3.out; simp_all; omega
          · simp
          · simpa using hT4
        case measure => simp [intOf]; omega
      · have hp' : p r = false := by simpa using hp
        rw [hp'] at f1 f2
        have F1 := Lib.hid f1
        have F2 := Lib.hid f2
        have Q1 := Lib.hid q1
        have Q2 := Lib.hid q2
        have Q3 := Lib.hid q3
        clear f1 f2 q1 q2 q3 hp
        have Hp := Lib.hid hp'
        clear hp'
        go_wp2_with fail
        refine (Hcall.out _ (below_new _ _)).mono ?_
        rintro e W2 ⟨rfl, hB2⟩
        rw [Hp.out]
        have hB2' := below_on (below_new _ _) hB2 (Nat.le_refl _)
        have k0 := (hB2.cell (p := ⟨wr.heap.size, 0, none⟩) (by simp)).trans (cell?_new _ _ _ _ 0)
        have k1 := (hB2.cell (p := ⟨wr.heap.size, 1, none⟩) (by simp)).trans (cell?_new _ _ _ _ 1)
        have k2 := (hB2.cell (p := ⟨wr.heap.size, 2, none⟩) (by simp)).trans (cell?_new _ _ _ _ 2)
        simp at k0 k1 k2
        have hT3 := ((hT.below hB2').below (below_new W2 (.cells #[.int .u64 r.id, .int .u64 r.index, .int .u64 r.round] 53))).swap
        have hT3s := hT3.2.2.2.size
        go_wp2_with (at_builtin; refine wpl_append_one rfl (.tmp 26) (.tmp 28) 41 rfl w.heap.size 53 infoRd Try.underlying41 rfl (by decide) _ l2.length (l2.map rdCells) rfl hT3.1 _ 1 (rdCells r) rfl rfl (news_at _ rfl) (rd_one _) ?_ ?_ hT3s ?_; omega; (unfold maxLen; omega); intro g cap4 W4 hown4 hg4 hlie; have hT4 := (hT3.push hown4 hg4 hlie).swap; clear hown4 hg4 hlie)
        go_roundw
        case rel =>
          refine ⟨k + 1, by omega, by go_num, a1, c1, some ⟨g, 0, none⟩, cap4, l1, l2 ++ [r], ⟨?_, ?_, b1, ?_⟩, rfl, ?_, ?_⟩
          · rw [F1.out]; simp
          · rw [F2.out]; simp
          · have := F2.out; have := Q2.out; have := Q3.out; simp_all; omega
          · simp
          · simpa using hT4
        case measure => simp [intOf]; omega
    · obtain rfl : k = l.length := by omega
      rw [List.take_length] at e1 e2
      subst e1
      subst e2
      have hb4 := (hT.2.2.2.block b hbz).trans h
      have k3 := block_cell hb4 3
      have k3f := block_free hb4 3
      simp at k3
      clear hL
      go_wp2
      go_ret
      exact parted_mk h hT
end Go.Proofs.Ytiboaafelabpfaa
