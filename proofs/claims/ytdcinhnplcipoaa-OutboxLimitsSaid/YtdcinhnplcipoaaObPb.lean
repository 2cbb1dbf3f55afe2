/- Contract of the reference's Put where it puts nothing. No statement of the seat is proved here. -/
import Derived.Test.YtdcinhnplcipoaaObPl
namespace Go.Proofs.Ytdcinhnplcipoaa
set_option linter.unusedVariables false
set_option linter.unusedSimpArgs false
set_option linter.unusedSectionVars false
open Go Go.RowKit Go.Shelf

theorem all_wait {l : List No} (h : l.findIdx (fun n => !waitsB n) = l.length) : (l.filter waitsB).length = l.length := by
  rw [List.findIdx_eq_length] at h
  rw [List.filter_eq_self.2 (fun a ha => by simpa using h a ha)]
theorem put_new {w W : World} {last : Int} {v : Value} {n : No} (hW : W = ((w.alloc (.cells #[.int .u64 last, v] 53)).alloc (.cells #[.int .u64 n.id, .int .u64 n.tk, .int .i64 n.lv, .int .i64 n.pt, .int .i64 n.st, .int .i64 n.tr, .int .i64 n.rt, .int .i64 n.wt, .int .i64 n.nx] 24)).alloc (.cells #[.int .u64 0, .slice none 0 0] 53)) :
    W.heap[w.heap.size]? = some (.cells #[.int .u64 last, v] 53 (0, 0)) ∧ W.heap[w.heap.size + 1]? = some (.cells #[.int .u64 n.id, .int .u64 n.tk, .int .i64 n.lv, .int .i64 n.pt, .int .i64 n.st, .int .i64 n.tr, .int .i64 n.rt, .int .i64 n.wt, .int .i64 n.nx] 24 (0, 0)) ∧ W.heap[w.heap.size + 1 + 1]? = some (.cells #[.int .u64 0, .slice none 0 0] 53 (0, 0)) ∧ W.heap.size = w.heap.size + 3 ∧ Below w.heap.size w W := by
  obtain ⟨A, hA⟩ : ∃ A, A = w.alloc (.cells #[.int .u64 last, v] 53) := ⟨_, rfl⟩
  rw [← hA] at hW
  obtain ⟨B, hB⟩ : ∃ B, B = A.alloc (.cells #[.int .u64 n.id, .int .u64 n.tk, .int .i64 n.lv, .int .i64 n.pt, .int .i64 n.st, .int .i64 n.tr, .int .i64 n.rt, .int .i64 n.wt, .int .i64 n.nx] 24) := ⟨_, rfl⟩
  rw [← hB] at hW
  have e1 : A.heap.size = w.heap.size + 1 := by rw [hA]; simp
  have e2 : B.heap.size = w.heap.size + 1 + 1 := by rw [hB]; simp [e1]
  have e3 : W.heap.size = w.heap.size + 1 + 1 + 1 := by rw [hW]; simp [e2]
  have k0 : A.heap[w.heap.size]? = some (.cells #[.int .u64 last, v] 53 (0, 0)) := by rw [hA]; exact heap_alloc_new _ _
  have b1 : Below A.heap.size A B := by rw [hB]; exact below_new _ _
  have b2 : Below B.heap.size B W := by rw [hW]; exact below_new _ _
  have b0 : Below w.heap.size w A := by rw [hA]; exact below_new _ _
  have k1 : B.heap[A.heap.size]? = _ := (congrArg (fun z : World => z.heap[A.heap.size]?) hB).trans (heap_alloc_new _ _)
  have k2 : W.heap[B.heap.size]? = _ := (congrArg (fun z : World => z.heap[B.heap.size]?) hW).trans (heap_alloc_new _ _)
  rw [e1] at k1
  rw [e2] at k2
  exact ⟨(b2.block _ (by omega)).trans ((b1.block _ (by omega)).trans k0), (b2.block _ (by omega)).trans k1, k2, by omega, below_on (below_on b0 b1 (Nat.le_refl _)) b2 (Nat.le_refl _)⟩
set_option maxRecDepth 100000 in
set_option maxHeartbeats 8000000 in
theorem refPut_bad (last now : Int) (ao : Option Addr) (cap : Nat) (l : List No) (n : No) (w : World) (hs : Ns w ao cap l) (hl : l.length ≤ 128) (he : putErr last l n now ≠ 0) :
    Calls Try.prog 55 #[.agg #[.int .u64 last, .slice ao l.length cap], noVal n, .int .i64 now] w fun e w' => e = .returned (.tuple #[.agg #[.int .u64 last, .slice ao l.length cap], .int .u64 0, .int .i64 (putErr last l n now : Nat)]) ∧ Below w.heap.size w w' := by
  have hin := fun W => refInst_any now W
  have hfi := fun W => refFits_any n W
  obtain ⟨W1, hW1⟩ : ∃ W1, W1 = ((w.alloc (.cells #[.int .u64 last, .slice ao l.length cap] 53)).alloc (.cells #[.int .u64 n.id, .int .u64 n.tk, .int .i64 n.lv, .int .i64 n.pt, .int .i64 n.st, .int .i64 n.tr, .int .i64 n.rt, .int .i64 n.wt, .int .i64 n.nx] 24)).alloc (.cells #[.int .u64 0, .slice none 0 0] 53) := ⟨_, rfl⟩
  obtain ⟨k0, k1, k2, hz, hB1⟩ := put_new hW1
  obtain ⟨E, hE⟩ : ∃ E, E = putErr last l n now := ⟨_, rfl⟩
  rw [← hE] at he ⊢
  unfold putErr at hE
  obtain ⟨qi, hqi⟩ : ∃ q, q = instB now := ⟨_, rfl⟩
  obtain ⟨qf, hqf⟩ : ∃ q, q = fitsN n := ⟨_, rfl⟩
  rw [← hqi, ← hqf] at hE
  simp only [← hqi] at hin
  simp only [← hqf] at hfi
  obtain ⟨C, hC⟩ : ∃ C, C = (l.filter waitsB).length := ⟨_, rfl⟩
  have hcs : (qi = false ∧ E = 2) ∨ (qi = true ∧ qf = false ∧ E = 2) ∨ (qi = true ∧ qf = true ∧ 1152921504606846976 ≤ last ∧ E = 10) ∨ (qi = true ∧ qf = true ∧ ¬ 1152921504606846976 ≤ last ∧ 128 ≤ C ∧ E = 30) := by
    cases qi with
    | false => exact .inl ⟨rfl, by rw [hE]; rfl⟩
    | true =>
      cases qf with
      | false => exact .inr (.inl ⟨rfl, rfl, by rw [hE]; rfl⟩)
      | true =>
        rw [if_neg (by decide)] at hE
        by_cases g1 : 1152921504606846976 ≤ last
        · rw [if_pos g1] at hE; exact .inr (.inr (.inl ⟨rfl, rfl, g1, hE⟩))
        · rw [if_neg g1] at hE
          by_cases g2 : 128 ≤ l.length ∧ l.findIdx (fun n => !waitsB n) = l.length
          · rw [if_pos g2] at hE
            exact .inr (.inr (.inr ⟨rfl, rfl, g1, by rw [hC, all_wait g2.2]; exact g2.1, hE⟩))
          · rw [if_neg g2] at hE; exact absurd hE he
  have hco := fun W (h : Ns W ao cap l) => count_any last ao cap l W h (by omega)
  simp only [← hC] at hco
  have Hco := Lib.hid hco
  obtain ⟨sid, tk, lv, pt, st, tr, rt, wt, nx⟩ := n
  unfold noVal at hfi ⊢
  simp only at hfi hW1 k1 ⊢
  have Hfi := Lib.hid hfi
  have Hin := Lib.hid hin
  have hs1 := hs.below hB1
  have hlt0 : w.heap.size < W1.heap.size := by omega
  have hlt1 : w.heap.size + 1 < W1.heap.size := by omega
  have hlt2 : w.heap.size + 1 + 1 < W1.heap.size := by omega
  have Hz := Lib.hid hz
  clear hfi hin hqi hqf hE he hco hC hz
  have p0 := block_cell k0 0
  have p1 := block_cell k0 1
  simp at p0 p1
  obtain ⟨d0, d1, d2, d3, d4, d5, d6, d7, d8⟩ := blk9 k1
  have r0 := block_cell k2 0
  have r1 := block_cell k2 1
  have z0 := block_free k2 0
  have z1 := block_free k2 1
  simp at r0 r1
  rcases hcs with ⟨rfl, rfl⟩ | ⟨rfl, rfl, rfl⟩ | ⟨rfl, rfl, g1, rfl⟩ | ⟨rfl, rfl, g1, g2, rfl⟩
  · go_enter Try.func55, Try.ntmps55
    go_wp2_with fail
    rw [← hW1]
    clear hW1
    refine (Hin.out _).mono ?_
    rintro e W2 ⟨rfl, rfl⟩
    go_wp2_with fail
    refine bodyPost_ret (v := .tuple #[.agg #[.int .u64 last, .slice ao l.length cap], .int .u64 0, .int .i64 2]) (by simp [results, Try.results55, go_sem, r0, r1, z0, z1]) rfl ?_
    exact ⟨rfl, below_grown hB1 (grown_set2 _ (w.heap.size + 1 + 1) _ _) (by omega) hB1.size⟩
  all_goals
    go_enter Try.func55, Try.ntmps55
    go_wp2_with fail
    rw [← hW1]
    clear hW1
    refine (Hin.out _).mono ?_
    rintro e W2 ⟨rfl, rfl⟩
    go_wp2_with fail
    refine (Hfi.out _).mono ?_
    rintro e W3 ⟨rfl, hb3⟩
    have B3 := below_on hB1 hb3 (Nat.le_refl _)
    have j0 := (hb3.block _ hlt0).trans k0
    have j2 := (hb3.block _ hlt2).trans k2
    have hs3 := hs1.below hb3
    have hz3 := hb3.size
    clear p0 p1 d0 d1 d2 d3 d4 d5 d6 d7 d8 r0 r1 z0 z1
    have p0 := block_cell j0 0
    have p1 := block_cell j0 1
    have r0 := block_cell j2 0
    have r1 := block_cell j2 1
    have z0 := block_free j2 0
    have z1 := block_free j2 1
    simp at p0 p1 r0 r1
    go_wp2_with fail
  · refine bodyPost_ret (v := .tuple #[.agg #[.int .u64 last, .slice ao l.length cap], .int .u64 0, .int .i64 2]) (by simp [results, Try.results55, go_sem, r0, r1, z0, z1]) rfl ?_
    exact ⟨rfl, below_grown B3 (grown_set2 _ (w.heap.size + 1 + 1) _ _) (by omega) B3.size⟩
  · refine bodyPost_ret (v := .tuple #[.agg #[.int .u64 last, .slice ao l.length cap], .int .u64 0, .int .i64 10]) (by simp [results, Try.results55, go_sem, r0, r1, z0, z1]) rfl ?_
    exact ⟨rfl, below_grown B3 (grown_set2 _ (w.heap.size + 1 + 1) _ _) (by omega) B3.size⟩
  · refine (Hco.out _ hs3).mono ?_
    rintro e W4 ⟨rfl, hb4⟩
    have B4 := below_on B3 hb4 (Nat.le_refl _)
    have i0 := (hb4.block _ (Array.getElem?_eq_some_iff.1 j0).1).trans j0
    have i2 := (hb4.block _ (Array.getElem?_eq_some_iff.1 j2).1).trans j2
    clear p0 p1 r0 r1 z0 z1
    have p0 := block_cell i0 0
    have p1 := block_cell i0 1
    have r0 := block_cell i2 0
    have r1 := block_cell i2 1
    have z0 := block_free i2 0
    have z1 := block_free i2 1
    simp at p0 p1 r0 r1
    have g3 : (128 : Int) ≤ (C : Int) := by omega
    go_wp2_with fail
    refine bodyPost_ret (v := .tuple #[.agg #[.int .u64 last, .slice ao l.length cap], .int .u64 0, .int .i64 30]) (by simp [results, Try.results55, go_sem, r0, r1, z0, z1]) rfl ?_
    exact ⟨rfl, below_grown B4 (grown_set2 _ (w.heap.size + 1 + 1) _ _) (by omega) B4.size⟩
end Go.Proofs.Ytdcinhnplcipoaa
