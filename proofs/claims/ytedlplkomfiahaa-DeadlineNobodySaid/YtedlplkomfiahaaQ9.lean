/- Lemmas for DeadlinePlays (Ua). No statement of the seat is proved here. -/
import Derived.Test.YtedlplkomfiahaaQ8
namespace Go.Proofs.Ytedlplkomfiahaa
set_option linter.unusedVariables false
set_option linter.unusedSimpArgs false
set_option linter.unusedSectionVars false
open Go Go.RowKit Go.Maps
abbrev rtT : TypeId := 88
abbrev rtsT : TypeId := 48
def rtCells (p : Th × Nat) : List Value := [.int .u64 p.1.id, .int .u64 p.1.gen, .int .i64 p.1.due, .int .i64 (p.2 : Nat)]
def rtVal (p : Th × Nat) : Value := .agg #[.int .u64 p.1.id, .int .u64 p.1.gen, .int .i64 p.1.due, .int .i64 (p.2 : Nat)]
abbrev rtFlat (l : RLs) : List Value := (l.map rtCells).flatten
theorem rt_one (p : Th × Nat) : ∀ u ∈ rtCells p, u.oneCell' = true := by
  intro u hu; simp [rtCells] at hu; rcases hu with rfl | rfl | rfl | rfl <;> rfl
theorem rts_one (l : RLs) : ∀ u ∈ rtFlat l, u.oneCell' = true := by
  intro u hu
  obtain ⟨r, hr, hu⟩ := List.mem_flatten.1 hu
  obtain ⟨x, _, rfl⟩ := List.mem_map.1 hr
  exact rt_one x u hu
theorem rt_each (l : RLs) : ∀ r ∈ l.map rtCells, r.length = 4 := by
  intro r hr; obtain ⟨x, _, rfl⟩ := List.mem_map.1 hr; rfl
theorem infoRt : (Try.prog.info? rtT).map (fun i => (i.zero, i.size, i.bytes)) = some (some (.agg #[.int .u64 0, .int .u64 0, .int .i64 0, .int .i64 0]), 4, 32) := by kernel_rfl
theorem szRt : (Try.prog.info? rtT).map (·.size) = some 4 := by obtain ⟨i, h1, _, h3, _⟩ := info_parts infoRt; rw [h1]; simp [h3]
/-- the reference's row -/
abbrev Rt (W : World) (ao : Option Addr) (cap : Nat) (l : RLs) : Prop := Rw W rtT 4 ao l.length cap (l.map rtCells)
theorem Rt.cells {W : World} {ao : Option Addr} {cap : Nat} {l : RLs} (h : Rt W ao cap l) (i : Nat) (hi : i < l.length) : ∃ b off, ao = some ⟨b, off, .none⟩ ∧ b < W.heap.size ∧
    W.cell? ⟨b, off + i * 4, none⟩ = some (.int .u64 l[i].1.id) ∧ W.cell? ⟨b, off + i * 4 + 1, none⟩ = some (.int .u64 l[i].1.gen) ∧ W.cell? ⟨b, off + i * 4 + 2, none⟩ = some (.int .i64 l[i].1.due) ∧ W.cell? ⟨b, off + i * 4 + 3, none⟩ = some (.int .i64 (l[i].2 : Nat)) := by
  obtain ⟨b, off, e, hc⟩ := Rw.get h (by decide) i hi
  have hl : (l.map rtCells)[i]'(by simpa using hi) = rtCells l[i] := by simp
  rw [hl] at hc
  have h4 : (rtCells l[i]).length = 4 := rfl
  have c0 := hc 0 (by omega)
  have c1 := hc 1 (by omega)
  have c2 := hc 2 (by omega)
  have c3 := hc 3 (by omega)
  exact ⟨b, off, e, cell?_lt c0, c0, c1, c2, c3⟩
theorem Rt.of_own {W : World} {base cap : Nat} {ao : Option Addr} {l : RLs} (h : W.ownsRow base rtT 4 (.slice ao l.length cap) l.length (rtFlat l)) : Rt W ao cap l := Rw.of_own h (by simp) (rt_each l)
theorem Rt.nil (W : World) : Rt W none 0 [] := Rw.nil W rtT 4
/-- a piece of a row -/
theorem Rt.piece {W : World} {ao : Option Addr} {cap : Nat} {l : RLs} (h : Rt W ao cap l) (a b : Nat) (hab : a ≤ b) (hb : b ≤ l.length) :
    Sl W 4 (if cap = a then ao else ao.map (·.add (a * 4))) (b - a) (cap - a) (rtFlat ((l.take b).drop a)) := by
  have := h.sl.cut a b hab hb (by decide)
  have e : ∀ (l : RLs) (k : Nat), (rtFlat l).take (k * 4) = rtFlat (l.take k) ∧ (rtFlat l).drop (k * 4) = rtFlat (l.drop k) := by
    intro l
    induction l with
    | nil => intro k; simp [rtFlat]
    | cons p l ih =>
      intro k
      cases k with
      | zero => simp [rtFlat]
      | succ k =>
        have h1 := ih k
        simp only [rtFlat, List.map_cons, List.flatten_cons, List.take_succ_cons, List.drop_succ_cons] at h1 ⊢
        have h4 : (rtCells p).length = 4 := rfl
        refine ⟨?_, ?_⟩
        · rw [List.take_append, List.take_of_length_le (by rw [h4]; omega), h4, show (k + 1) * 4 - 4 = k * 4 from by omega, h1.1]
        · rw [List.drop_append, List.drop_of_length_le (by rw [h4]; omega), h4, show (k + 1) * 4 - 4 = k * 4 from by omega, h1.2]; simp
  rw [(e l b).1, (e (l.take b) a).2] at this
  exact this
def leP (p q : Th × Nat) : Bool := thLe p.1 q.1
theorem leP_trans (a b c : Th × Nat) (h1 : leP a b = true) (h2 : leP b c = true) : leP a c = true := thLe_trans _ _ _ h1 h2
theorem leP_total (a b : Th × Nat) : leP a b = true ∨ leP b a = true := thLe_total _ _
theorem mg_map (a b : RLs) : (Sta.mg leP a b).map (·.1) = Sta.mg thLe (a.map (·.1)) (b.map (·.1)) := by
  induction a generalizing b with
  | nil => simp [Sta.mg_nil]
  | cons x a iha =>
    induction b with
    | nil => simp [Sta.mg_nil']
    | cons y b ihb =>
      simp only [List.map_cons] at *
      rw [Sta.mg_cons, Sta.mg_cons]
      show List.map _ (if thLe x.1 y.1 = true then _ else _) = _
      by_cases h : thLe x.1 y.1 = true
      · rw [if_pos h, if_pos h, List.map_cons, iha]; rfl
      · rw [if_neg h, if_neg h, List.map_cons, ihb]
theorem srt_map (l : RLs) : (Sta.srt leP l).map (·.1) = Sta.srt thLe (l.map (·.1)) := by
  have key : ∀ (l acc : RLs), (l.foldl (fun acc x => Sta.mg leP acc [x]) acc).map (·.1) = (l.map (·.1)).foldl (fun acc x => Sta.mg thLe acc [x]) (acc.map (·.1)) := by
    intro l
    induction l with
    | nil => intro acc; rfl
    | cons p l ih => intro acc; rw [List.foldl_cons, ih, mg_map]; rfl
  exact key l []
/-- Before -/
theorem before_any (a b : Th × Nat) (W : World) : Calls Try.prog 42 #[rtVal a, rtVal b] W fun e W' => e = .returned (.bool (thLt a.1 b.1)) ∧ Below W.heap.size W W' := by
  obtain ⟨⟨ai, ag, ad⟩, aslo⟩ := a
  obtain ⟨⟨bi, bg, bd⟩, bslo⟩ := b
  unfold rtVal thLt
  simp only
  obtain ⟨W1, hW1⟩ : ∃ W1, W1 = W.alloc (.cells #[.int .u64 ai, .int .u64 ag, .int .i64 ad, .int .i64 (aslo : Nat)] rtT) := ⟨_, rfl⟩
  obtain ⟨W2, hW2⟩ : ∃ W2, W2 = W1.alloc (.cells #[.int .u64 bi, .int .u64 bg, .int .i64 bd, .int .i64 (bslo : Nat)] rtT) := ⟨_, rfl⟩
  have hb : Below W.heap.size W W2 := by rw [hW2, hW1]; exact below_on (below_new _ _) (below_new _ _) (Nat.le_refl _)
  by_cases h1 : ad < bd
  · have e : (decide (ad < bd) || (decide (ad = bd) && decide (ai < bi))) = true := by simp [h1]
    rw [e]
    go_enter Try.func42, Try.ntmps42
    go_wp2
    go_ret
    exact ⟨rfl, by rw [hW2, hW1] at hb; exact hb⟩
  · by_cases h2 : ad = bd
    · subst h2
      have e : (decide (ad < ad) || (decide (ad = ad) && decide (ai < bi))) = decide (ai < bi) := by simp
      rw [e]
      have h3 : ¬ ad < ad := h1
      go_enter Try.func42, Try.ntmps42
      go_wp2
      go_ret
      exact ⟨by simp, by rw [hW2, hW1] at hb; exact hb⟩
    · have e : (decide (ad < bd) || (decide (ad = bd) && decide (ai < bi))) = false := by simp [h1, h2]
      rw [e]
      go_enter Try.func42, Try.ntmps42
      go_wp2
      go_ret
      exact ⟨by simp [h1, h2], by rw [hW2, hW1] at hb; exact hb⟩
end Go.Proofs.Ytedlplkomfiahaa
