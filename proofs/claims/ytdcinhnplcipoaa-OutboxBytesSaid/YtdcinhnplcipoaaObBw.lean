/- Contracts of outbox.Put and of the reference's Bytes. No statement of the seat is proved here. -/
import Derived.Test.YtdcinhnplcipoaaObBl
namespace Go.Proofs.Ytdcinhnplcipoaa
set_option linter.unusedVariables false
set_option linter.unusedSimpArgs false
set_option linter.unusedSectionVars false
open Go Go.RowKit Go.Shelf

abbrev u8s (l : List UInt8) : List Value := l.map u8
theorem Us.lit {w : World} (xs : List Nat) (cs : Array Value) (T : TypeId) (hcs : cs.toList = xs.map fun n : Nat => Value.int .u64 (n : Int)) (hm : xs.length ≤ 1000) :
    Us (w.alloc (.cells cs T)) (some ⟨w.heap.size, 0, .none⟩) xs.length xs :=
  ⟨by simp, by omega, by unfold maxLen; omega, by simp, fun j u hu => ⟨_, 0, rfl, by
    rw [cell?_new, Nat.zero_add, ← Array.getElem?_toList, hcs]; exact hu⟩⟩
theorem Ns.keepO {W W' : World} {ao : Option Addr} {cap p : Nat} {v : Value} {l : List No} (h : Ns W ao cap l) (hf : FrO W.heap.size p v W W') (h1 : 0 < l.length → ∀ a, ao = some a → a.block ≠ p ∧ v.ownBlock ≠ some a.block) : Ns W' ao cap l :=
  h.kept fun k off s e h0 => by
    obtain ⟨T, ht, -⟩ := h.typ k off s e h0
    obtain ⟨h2, h3⟩ := h1 h0 _ e
    exact hf.block k (elem?_lt ht) h2 h3
/-- a notice by numbers -/
def noOf (a0 a1 a2 a3 a4 a5 a6 a7 a8 : Nat) : No := ⟨a0, a1, a2, a3, a4, a5, a6, a7, a8⟩
theorem no_nats {n : No} (h : EncOk n) : ∃ a0 a1 a2 a3 a4 a5 a6 a7 a8 : Nat, n = noOf a0 a1 a2 a3 a4 a5 a6 a7 a8 := by
  obtain ⟨id, tk, lv, pt, st, tr, rt, wt, nx⟩ := n
  obtain ⟨h0, h1, h2, h3, h4, h5, h6, h7, h8⟩ := h
  simp only at h0 h1 h2 h3 h4 h5 h6 h7 h8
  refine ⟨id.toNat, tk.toNat, lv.toNat, pt.toNat, st.toNat, tr.toNat, rt.toNat, wt.toNat, nx.toNat, ?_⟩
  unfold noOf
  simp only [Int.toNat_of_nonneg h0.1, Int.toNat_of_nonneg h1.1, Int.toNat_of_nonneg h2.1, Int.toNat_of_nonneg h3.1, Int.toNat_of_nonneg h4.1, Int.toNat_of_nonneg h5.1, Int.toNat_of_nonneg h6.1, Int.toNat_of_nonneg h7.1, Int.toNat_of_nonneg h8.1]
theorem noNums_of (a0 a1 a2 a3 a4 a5 a6 a7 a8 : Nat) : noNums (noOf a0 a1 a2 a3 a4 a5 a6 a7 a8) = [a0, a1, a2, a3, a4, a5, a6, a7, a8] := by
  simp [noNums, noOf]
set_option maxRecDepth 100000 in
set_option maxHeartbeats 4000000 in
theorem putS_any (m : Nat) (hm : m < 2 ^ 64) (ao : Option Addr) (cap : Nat) (l : List No) {W : World} {base p : Nat} {v : Value} {l0 : List UInt8} (h : Wr W base p v l0) (hns : Ns W ao cap l) (hok : ∀ n ∈ l, EncOk n) (hl : l.length ≤ 1000) (hl0 : l0.length ≤ 1000)
    (hfar : 0 < l.length → ∀ a, ao = some a → a.block ≠ p ∧ v.ownBlock ≠ some a.block) :
    Calls Try.prog 28 #[.pointer (some ⟨p, 0, none⟩), .agg #[.int .u64 (m : Int), .slice ao l.length cap]] W (Wrote base p v (l0 ++ numsB [m, l.length] ++ encL l) W) := by
  have hpz := (Array.getElem?_eq_some_iff.1 h.blk).1
  have hvz := h.own.lt
  have w0 : IntKind.u64.wrap (l.length : Int) = (l.length : Int) := IntWalk.u64_in _ (by omega)
  have hle := numsB_len [m, l.length] (by intro n hn; simp at hn; rcases hn with rfl | rfl <;> omega)
  simp at hle
  have hnum := fun (W2 : World) (cap2 : Nat) (ad : Addr) (h2 : Wr W2 base p v l0) (hus : Us W2 (some ad) cap2 [m, l.length]) (hf : ad.block ≠ p ∧ v.ownBlock ≠ some ad.block) =>
    num_any [m, l.length] (by intro n hn; simp at hn; rcases hn with rfl | rfl <;> omega) (some ad) cap2 h2 (by simp; omega) hus (fun a e => by cases e; exact hf)
  have Hnum := Lib.hid hnum
  have Hle := Lib.hid hle
  obtain ⟨W1, hW1⟩ : ∃ W1, W1 = W.alloc (.cells #[.int .u64 (m : Int), .slice ao l.length cap] 44) := ⟨_, rfl⟩
  have hb1 : Below W.heap.size W W1 := by rw [hW1]; exact below_new _ _
  have k1 : W1.heap[W.heap.size]? = _ := (congrArg (fun z : World => z.heap[W.heap.size]?) hW1).trans (heap_alloc_new _ _)
  have k1z := (Array.getElem?_eq_some_iff.1 k1).1
  have e1 : W1.heap.size = W.heap.size + 1 := by rw [hW1]; simp
  obtain ⟨p0, p1⟩ := (⟨block_cell k1 0, block_cell k1 1⟩ : W1.cell? ⟨W.heap.size, 0, none⟩ = some (.int .u64 (m : Int)) ∧ W1.cell? ⟨W.heap.size, 1, none⟩ = some (.slice ao l.length cap))
  clear hnum hle hm
  have E1 := Lib.hid e1
  clear e1
  go_enter Try.func28, Try.ntmps28
  go_wp2_with fail
  rw [← hW1]
  clear hW1
  go_wp2_with fail
  obtain ⟨W2, hW2⟩ : ∃ W2, W2 = W1.alloc (.cells #[.int .u64 (m : Int), .int .u64 (l.length : Int)] 22) := ⟨_, rfl⟩
  have hus : Us W2 (some ⟨W1.heap.size, 0, none⟩) 2 [m, l.length] := by rw [hW2]; exact Us.lit [m, l.length] #[.int .u64 (m : Int), .int .u64 (l.length : Int)] _ rfl (by simp)
  have hb2 : Below W1.heap.size W1 W2 := by rw [hW2]; exact below_new _ _
  have k2 := (hb2.block _ k1z).trans k1
  have hB2 := below_on hb1 hb2 (Nat.le_refl _)
  have hz2 : W.heap.size + 1 ≤ W2.heap.size := by have := hb2.size; omega
  rw [E1.out] at hus
  rw [← hW2]
  clear hW2 p0 p1 k1
  refine (Hnum.out W2 2 _ (h.below hB2) hus ⟨by simp only; omega, fun e => by have := (hvz _ e).2; simp only at this; omega⟩).mono ?_
  rintro e W3 ⟨rfl, v3, hwr3, hfr3, hv3⟩
  have k3 := (hfr3.block W.heap.size (by omega) (by omega) (fun e => by have := (hvz _ e).2; omega)).trans k2
  have hF3 := ((FrO.refl W.heap.size p v W).below hB2 (Nat.le_refl _)).next hfr3 (by omega) (fun k hk => .inl hk)
  have hV3 : ∀ q, v3.ownBlock = some q → v.ownBlock = some q ∨ W.heap.size ≤ q := fun q hq => (hv3 q hq).imp_right (fun x => by omega)
  obtain ⟨p0, p1⟩ := (⟨block_cell k3 0, block_cell k3 1⟩ : W3.cell? ⟨W.heap.size, 0, none⟩ = some (.int .u64 (m : Int)) ∧ W3.cell? ⟨W.heap.size, 1, none⟩ = some (.slice ao l.length cap))
  clear hfr3 hv3 hus hb2 k2 Hnum
  go_wp2_with fail
  go_loopw [18] (fun a wr => ∃ (i : Nat) (v' : Value) (l' : List UInt8), a = .int .i64 i ∧ i ≤ l.length ∧ Hid (l' = l0 ++ numsB [m, l.length] ++ encL (l.take i)) ∧ Wr wr base p v' l' ∧ FrO W.heap.size p v W wr ∧ (∀ q, v'.ownBlock = some q → v.ownBlock = some q ∨ W.heap.size ≤ q)) (fun a _ => l.length - (intOf a).toNat)
  case atStart => exact ⟨0, v3, _, rfl, by omega, by show _ = _; simp [encL], hwr3, hF3, hV3⟩
  case round =>
    clear p0 p1 k3 hF3 hV3 hwr3 k1z E1 hz2 hB2 hb1
    obtain ⟨i, v', l', rfl, hi, hl', hwr, hfr, hv⟩ := hrel
    by_cases hlt : i < l.length
    · have hns2 := hns.keepO hfr hfar
      obtain ⟨b, off, rfl, hc⟩ := hns2.get i hlt
      have hoki := hok l[i] (List.getElem_mem hlt)
      have hstep := encL_take l i hlt
      have hlen := encL_len (l.take i) (fun n hn => hok n (List.mem_of_mem_take hn))
      have hlen2 : l'.length ≤ 100000 := by
        rw [hl'.out]
        have := Hle.out
        have h3 : (l.take i).length ≤ 1000 := by simp; omega
        simp only [List.length_append]; omega
      obtain ⟨n, hn⟩ : ∃ n, n = l[i] := ⟨_, rfl⟩
      rw [← hn] at hc hoki hstep
      clear hn hlen
      obtain ⟨a0, a1, a2, a3, a4, a5, a6, a7, a8, rfl⟩ := no_nats hoki
      have hnn := noNums_lt hoki
      unfold encN at hstep
      rw [noNums_of] at hnn hstep
      have w2 : IntKind.u64.wrap (a2 : Int) = (a2 : Int) := IntWalk.u64_in _ (by have := hnn a2 (by simp); omega)
      have w3 : IntKind.u64.wrap (a3 : Int) = (a3 : Int) := IntWalk.u64_in _ (by have := hnn a3 (by simp); omega)
      have w4 : IntKind.u64.wrap (a4 : Int) = (a4 : Int) := IntWalk.u64_in _ (by have := hnn a4 (by simp); omega)
      have w5 : IntKind.u64.wrap (a5 : Int) = (a5 : Int) := IntWalk.u64_in _ (by have := hnn a5 (by simp); omega)
      have w6 : IntKind.u64.wrap (a6 : Int) = (a6 : Int) := IntWalk.u64_in _ (by have := hnn a6 (by simp); omega)
      have w7 : IntKind.u64.wrap (a7 : Int) = (a7 : Int) := IntWalk.u64_in _ (by have := hnn a7 (by simp); omega)
      have w8 : IntKind.u64.wrap (a8 : Int) = (a8 : Int) := IntWalk.u64_in _ (by have := hnn a8 (by simp); omega)
      have hnum := fun (W2 : World) (ad : Addr) (h2 : Wr W2 base p v' l') (hus : Us W2 (some ad) 9 [a0, a1, a2, a3, a4, a5, a6, a7, a8]) (hf : ad.block ≠ p ∧ v'.ownBlock ≠ some ad.block) =>
        num_any [a0, a1, a2, a3, a4, a5, a6, a7, a8] hnn (some ad) 9 h2 (by simp; omega) hus (fun a e => by cases e; exact hf)
      have Hnum := Lib.hid hnum
      have Hstep := Lib.hid hstep
      clear hnum hnn hstep hoki
      obtain ⟨c0, c1, c2, c3, c4, c5, c6, c7, c8⟩ := hc
      simp only [noOf] at c0 c1 c2 c3 c4 c5 c6 c7 c8
      have i0 : (0 : Int) ≤ (i : Int) := by omega
      have i1 : (i : Int) < (l.length : Int) := by omega
      go_wp2_with fail
      obtain ⟨W5, hW5⟩ : ∃ W5, W5 = wr.alloc (.cells #[.int .u64 (a0 : Int), .int .u64 (a1 : Int), .int .i64 (a2 : Int), .int .i64 (a3 : Int), .int .i64 (a4 : Int), .int .i64 (a5 : Int), .int .i64 (a6 : Int), .int .i64 (a7 : Int), .int .i64 (a8 : Int)] 24) := ⟨_, rfl⟩
      have hb5 : Below wr.heap.size wr W5 := by rw [hW5]; exact below_new _ _
      have e5 : W5.heap.size = wr.heap.size + 1 := by rw [hW5]; simp
      obtain ⟨W6, hW6⟩ : ∃ W6, W6 = W5.alloc (.cells #[.int .u64 (a0 : Int), .int .u64 (a1 : Int), .int .u64 (a2 : Int), .int .u64 (a3 : Int), .int .u64 (a4 : Int), .int .u64 (a5 : Int), .int .u64 (a6 : Int), .int .u64 (a7 : Int), .int .u64 (a8 : Int)] 22) := ⟨_, rfl⟩
      have hb6 : Below wr.heap.size wr W6 := by rw [hW6]; exact below_on hb5 (below_new _ _) (Nat.le_refl _)
      have hus : Us W6 (some ⟨W5.heap.size, 0, none⟩) 9 [a0, a1, a2, a3, a4, a5, a6, a7, a8] := by rw [hW6]; exact Us.lit [a0, a1, a2, a3, a4, a5, a6, a7, a8] #[.int .u64 (a0 : Int), .int .u64 (a1 : Int), .int .u64 (a2 : Int), .int .u64 (a3 : Int), .int .u64 (a4 : Int), .int .u64 (a5 : Int), .int .u64 (a6 : Int), .int .u64 (a7 : Int), .int .u64 (a8 : Int)] _ rfl (by simp)
      rw [e5] at hus
      rw [← hW5, ← hW6]
      clear hW5 hW6 e5 hb5 c0 c1 c2 c3 c4 c5 c6 c7 c8
      have hpz' := (Array.getElem?_eq_some_iff.1 hwr.blk).1
      refine (Hnum.out W6 _ (hwr.below hb6) hus ⟨by simp only; omega, fun e => by have := (hwr.own.lt _ e).2; simp only at this; omega⟩).mono ?_
      rintro e W7 ⟨rfl, v7, hwr7, hfr7, hv7⟩
      have hsz6 := hb6.size
      have hszr := hfr.size
      have hF7 := (hfr.below hb6 hszr).next hfr7 (by omega) hv
      have hV7 : ∀ q, v7.ownBlock = some q → v.ownBlock = some q ∨ W.heap.size ≤ q := fun q hq => by
        rcases hv7 q hq with h1 | h1
        · exact hv q h1
        · exact .inr (by omega)
      have hl7 : Hid (l' ++ numsB [a0, a1, a2, a3, a4, a5, a6, a7, a8] = l0 ++ numsB [m, l.length] ++ encL (l.take (i + 1))) := by show _ = _; rw [hl'.out, Hstep.out, List.append_assoc _ (encL _)]
      clear hus Hnum hfr7 hv7
      go_wp2_with fail
      go_roundw
      case rel => exact ⟨i + 1, v7, _, by simp, by omega, hl7, hwr7, hF7, hV7⟩
      case measure => simp [intOf]; omega
    · have hi' : i = l.length := by omega
      subst hi'
      have hfin : l' = l0 ++ numsB [m, l.length] ++ encL l := by rw [hl'.out, List.take_length]
      subst hfin
      go_wp2_with fail
      refine bodyPost_ret (v := .tuple #[]) (by simp [results, Try.results28, go_sem]) rfl ?_
      exact ⟨rfl, v', hwr, hfr, hv⟩
def uRows (xs : List Nat) : List (List Value) := xs.map fun n : Nat => [Value.int .u64 (n : Int)]
theorem uRows_flat (xs : List Nat) : (uRows xs).flatten = xs.map fun n : Nat => Value.int .u64 (n : Int) := by
  unfold uRows
  induction xs with
  | nil => rfl
  | cons x xs ih => simp only [List.map_cons, List.flatten_cons, ih]; rfl
theorem us_rows {W : World} {ao : Option Addr} {cap : Nat} {xs : List Nat} (h : Rw W 22 1 ao xs.length cap (uRows xs)) : Us W ao cap xs := by
  have := h.sl
  rw [uRows_flat] at this
  exact this
theorem rows_lit {w : World} (xs : List Nat) (cs : Array Value) (hcs : cs.toList = xs.map fun n : Nat => Value.int .u64 (n : Int)) (hm : xs.length ≤ 1000) :
    Rw (w.alloc (.cells cs 22)) 22 1 (some ⟨w.heap.size, 0, none⟩) xs.length xs.length (uRows xs) := by
  refine ⟨by simp [uRows], by intro r hr; obtain ⟨x, _, rfl⟩ := List.mem_map.1 hr; rfl, ?_, fun b off s e => ?_⟩
  · rw [uRows_flat]
    exact Us.lit xs cs _ hcs hm
  · cases e
    exact elem?_of (heap_alloc_new w _)
theorem Rw.app {W W' : World} {base : Nat} {v : Value} {l : List UInt8} {ao : Option Addr} {n cap : Nat} {rows : List (List Value)} (h : Rw W 22 1 ao n cap rows) (ho : W.ownsRow base 5 1 v l.length (l.map u8)) (hg : W.grownBy W' v.ownBlock) : Rw W' 22 1 ao n cap rows := by
  cases hv : v.ownBlock with
  | none =>
    rw [hv] at hg
    exact h.below ⟨hg.os, hg.tape, hg.output, hg.size, fun k hk => hg.block k hk (fun e => by cases e)⟩
  | some g =>
    rw [hv] at hg
    exact h.grown hg (own_elem ho g hv) (by decide)
set_option maxRecDepth 100000 in
set_option maxHeartbeats 8000000 in
theorem refBytes_any (m : Nat) (hm : m < 2 ^ 64) (ao : Option Addr) (cap : Nat) (l : List No) (W : World) (hns : Ns W ao cap l) (hok : ∀ n ∈ l, EncOk n) (hl : l.length ≤ 1000) :
    Calls Try.prog 32 #[.agg #[.int .u64 (m : Int), .slice ao l.length cap]] W fun e W' => ∃ ao2 cap2 l2, e = .returned (.slice ao2 l2.length cap2) ∧ l2 = numsB [m, l.length] ++ encL l ∧ W'.ownsRow W.heap.size 5 1 (.slice ao2 l2.length cap2) l2.length (l2.map u8) ∧ Below W.heap.size W W' := by
  have w0 : IntKind.u64.wrap (l.length : Int) = (l.length : Int) := IntWalk.u64_in _ (by omega)
  have hA := refNumB_any m hm
  have hB := refNumB_any l.length (by omega)
  have hAl := numB_len m hm
  have hBl := numB_len l.length (by omega)
  have hE : numsB [m, l.length] = numB m ++ numB l.length := by simp [numsB]
  obtain ⟨na, hna⟩ : ∃ na, na = numB m := ⟨_, rfl⟩
  obtain ⟨nb, hnb⟩ : ∃ nb, nb = numB l.length := ⟨_, rfl⟩
  simp only [← hna, ← hnb] at hA hB hAl hBl hE
  clear hna hnb hm
  have HA := Lib.hid hA
  have HB := Lib.hid hB
  have HE := Lib.hid hE
  clear hA hB hE
  obtain ⟨W1, hW1⟩ : ∃ W1, W1 = W.alloc (.cells #[.int .u64 (m : Int), .slice ao l.length cap] 53) := ⟨_, rfl⟩
  have hb1 : Below W.heap.size W W1 := by rw [hW1]; exact below_new _ _
  have k1 : W1.heap[W.heap.size]? = _ := (congrArg (fun z : World => z.heap[W.heap.size]?) hW1).trans (heap_alloc_new _ _)
  obtain ⟨p0, p1⟩ := (⟨block_cell k1 0, block_cell k1 1⟩ : W1.cell? ⟨W.heap.size, 0, none⟩ = some (.int .u64 (m : Int)) ∧ W1.cell? ⟨W.heap.size, 1, none⟩ = some (.slice ao l.length cap))
  have hz1 := hb1.size
  have hk : ∀ W' : World, Below W1.heap.size W1 W' → W'.heap[W.heap.size]? = some (.cells #[.int .u64 (m : Int), .slice ao l.length cap] 53 (0, 0)) := fun W' hw => (hw.block _ (Array.getElem?_eq_some_iff.1 k1).1).trans k1
  have hd1 : Below W1.heap.size W1 W1.drew := (Below.refl _ _).drew
  go_enter Try.func32, Try.ntmps32
  go_upto_region 1 with fail
  rw [← hW1]
  clear hW1
  go_cut [3] (fun b wx => ∃ (ao4 : Option Addr) (cap4 : Nat) (l4 : List UInt8), b = .slice ao4 l4.length cap4 ∧ Hid (l4 = na ++ nb) ∧ wx.ownsRow W1.heap.size 5 1 (.slice ao4 l4.length cap4) l4.length (u8s l4) ∧ Below W1.heap.size W1 wx)
  case first =>
    go_region_law (first
      | (go_simp; go_at_call 65; refine (HB.out w2).mono ?_; rintro e w3 ⟨ao3, cap3, rfl, how3, hb3⟩; have hB3 : Below W1.heap.size W1 w3 := below_on hB2 hb3 (Nat.le_refl _); have hh3 := own_below how2 hb3; have kk3 := hk w3 hB3; have s0 := block_cell kk3 0; have s1 := block_cell kk3 1; simp at s0 s1)
      | (go_simp; go_at_call 65; refine (HA.out W1.drew).mono ?_; rintro e w2 ⟨ao2, cap2, rfl, how2, hb2⟩; have hB2 : Below W1.heap.size W1 w2 := below_on hd1 hb2 (Nat.le_refl _); have kk2 := hk w2 hB2; have r0 := block_cell kk2 0; have r1 := block_cell kk2 1; simp at r0 r1)
      | (refine step_append_bs rfl (.tmp 10) (.tmp 15) 66 rfl W1.drew.heap.size 5 infoUB Try.underlying66 _ _ na rfl hh3 _ _ nb rfl (Bs.of_own how3) ?_ ?_ ?_; omega; (exact hB3.size); intro ao4 cap4 l4 w4 hl4 hown4 hg4))
    all_goals
      go_wp2_with fail
      go_meet
      exact ⟨ao4, cap4, l4, rfl, hl4, hown4, below_app hB3 hg4 hh3 (Nat.le_refl _) hB3.size⟩
  case rest =>
    obtain ⟨ao4, cap4, l4, rfl, hl4, hown4, hB4⟩ := hcut
    clear HA HB hd1 p0 p1 k1
    have hl4n : l4.length ≤ 18 := by rw [hl4.out]; simp; omega
    go_wp2_with fail
    go_loopw [3, 4] (fun b a wr => ∃ (i : Nat) (ao' : Option Addr) (cap' : Nat) (l' : List UInt8), a = .int .i64 i ∧ b = .slice ao' l'.length cap' ∧ i ≤ l.length ∧ Hid (l' = na ++ nb ++ encL (l.take i)) ∧ l'.length ≤ 18 + 81 * i ∧ wr.ownsRow W1.heap.size 5 1 (.slice ao' l'.length cap') l'.length (u8s l') ∧ Below W1.heap.size W1 wr) (fun _ a _ => l.length - (intOf a).toNat)
    case atStart => exact ⟨0, ao4, cap4, l4, rfl, rfl, by omega, by show _ = _; rw [hl4.out]; simp [encL], by omega, hown4, hB4⟩
    case round =>
      obtain ⟨i, ao', cap', l', rfl, rfl, hi, hl', hl'n, hown, hB⟩ := hrel
      have kk := hk wr hB
      have kz := (Array.getElem?_eq_some_iff.1 kk).1
      have r0 := block_cell kk 0
      have r1 := block_cell kk 1
      simp at r0 r1
      by_cases hlt : i < l.length
      · have hns2 := (hns.below hb1).below hB
        obtain ⟨b, off, rfl, hc⟩ := hns2.get i hlt
        have hoki := hok l[i] (List.getElem_mem hlt)
        have hstep := encL_take l i hlt
        obtain ⟨n, hn⟩ : ∃ n, n = l[i] := ⟨_, rfl⟩
        rw [← hn] at hc hoki hstep
        clear hn
        have henc := encN_len hoki
        obtain ⟨a0, a1, a2, a3, a4, a5, a6, a7, a8, rfl⟩ := no_nats hoki
        have hnn := noNums_lt hoki
        unfold encN at hstep henc
        rw [noNums_of] at hnn hstep henc
        have w2 : IntKind.u64.wrap (a2 : Int) = (a2 : Int) := IntWalk.u64_in _ (by have := hnn a2 (by simp); omega)
        have w3 : IntKind.u64.wrap (a3 : Int) = (a3 : Int) := IntWalk.u64_in _ (by have := hnn a3 (by simp); omega)
        have w4 : IntKind.u64.wrap (a4 : Int) = (a4 : Int) := IntWalk.u64_in _ (by have := hnn a4 (by simp); omega)
        have w5 : IntKind.u64.wrap (a5 : Int) = (a5 : Int) := IntWalk.u64_in _ (by have := hnn a5 (by simp); omega)
        have w6 : IntKind.u64.wrap (a6 : Int) = (a6 : Int) := IntWalk.u64_in _ (by have := hnn a6 (by simp); omega)
        have w7 : IntKind.u64.wrap (a7 : Int) = (a7 : Int) := IntWalk.u64_in _ (by have := hnn a7 (by simp); omega)
        have w8 : IntKind.u64.wrap (a8 : Int) = (a8 : Int) := IntWalk.u64_in _ (by have := hnn a8 (by simp); omega)
        have Hstep := Lib.hid hstep
        have Hnn := Lib.hid hnn
        have Henc := Lib.hid henc
        clear hstep hoki hnn henc
        obtain ⟨c0, c1, c2, c3, c4, c5, c6, c7, c8⟩ := hc
        simp only [noOf] at c0 c1 c2 c3 c4 c5 c6 c7 c8
        have i0 : (0 : Int) ≤ (i : Int) := by omega
        have i1 : (i : Int) < (l.length : Int) := by omega
        go_wp2_with fail
        obtain ⟨W5, hW5⟩ : ∃ W5, W5 = wr.alloc (.cells #[.int .u64 (a0 : Int), .int .u64 (a1 : Int), .int .i64 (a2 : Int), .int .i64 (a3 : Int), .int .i64 (a4 : Int), .int .i64 (a5 : Int), .int .i64 (a6 : Int), .int .i64 (a7 : Int), .int .i64 (a8 : Int)] 24) := ⟨_, rfl⟩
        have hb5 : Below wr.heap.size wr W5 := by rw [hW5]; exact below_new _ _
        have e5 : W5.heap.size = wr.heap.size + 1 := by rw [hW5]; simp
        obtain ⟨W6, hW6⟩ : ∃ W6, W6 = W5.alloc (.cells #[.int .u64 (a0 : Int), .int .u64 (a1 : Int), .int .u64 (a2 : Int), .int .u64 (a3 : Int), .int .u64 (a4 : Int), .int .u64 (a5 : Int), .int .u64 (a6 : Int), .int .u64 (a7 : Int), .int .u64 (a8 : Int)] 22) := ⟨_, rfl⟩
        have hb6 : Below wr.heap.size wr W6 := by rw [hW6]; exact below_on hb5 (below_new _ _) (Nat.le_refl _)
        have hrw : Rw W6 22 1 (some ⟨W5.heap.size, 0, none⟩) 9 9 (uRows [a0, a1, a2, a3, a4, a5, a6, a7, a8]) := by rw [hW6]; exact rows_lit [a0, a1, a2, a3, a4, a5, a6, a7, a8] #[.int .u64 (a0 : Int), .int .u64 (a1 : Int), .int .u64 (a2 : Int), .int .u64 (a3 : Int), .int .u64 (a4 : Int), .int .u64 (a5 : Int), .int .u64 (a6 : Int), .int .u64 (a7 : Int), .int .u64 (a8 : Int)] rfl (by simp)
        rw [e5] at hrw
        rw [← hW5, ← hW6]
        have hown6 := own_below hown hb6
        have hB6 := below_on hB hb6 (Nat.le_refl _)
        clear hW5 hW6 e5 hb5 c0 c1 c2 c3 c4 c5 c6 c7 c8 r0 r1 kk w2 w3 w4 w5 w6 w7 w8
        obtain ⟨xs, hxs⟩ : ∃ xs, xs = [a0, a1, a2, a3, a4, a5, a6, a7, a8] := ⟨_, rfl⟩
        have hx9 : xs.length = 9 := by rw [hxs]; rfl
        rw [← hxs] at hrw Hstep Hnn Henc
        clear hxs
        have Hx9 := Lib.hid hx9
        obtain ⟨Z, hZ⟩ : ∃ Z, Z = wr.heap.size + 1 := ⟨_, rfl⟩
        rw [← hZ] at hrw ⊢
        clear hZ hx9
        go_loopw [3, 56] (fun b a wr => ∃ (j : Nat) (aoj : Option Addr) (capj : Nat) (lj : List UInt8), a = .int .i64 j ∧ b = .slice aoj lj.length capj ∧ j ≤ 9 ∧ Hid (lj = l' ++ numsB (xs.take j)) ∧ lj.length ≤ l'.length + 9 * j ∧ wr.ownsRow W1.heap.size 5 1 (.slice aoj lj.length capj) lj.length (u8s lj) ∧ Below W1.heap.size W1 wr ∧ Rw wr 22 1 (some ⟨Z, 0, none⟩) 9 9 (uRows xs)) (fun _ a _ => 9 - (intOf a).toNat)
        case atStart => exact ⟨0, ao', cap', l', rfl, rfl, by omega, by show _ = _; simp [numsB], by omega, hown6, hB6, hrw⟩
        case round =>
          obtain ⟨j, aoj, capj, lj, rfl, rfl, hj, hlj, hljn, hownj, hBj, hrwj⟩ := hrel
          by_cases hjt : j < 9
          · have hjx : j < xs.length := by have := Hx9.out; omega
            have hus := us_rows (by have := Hx9.out; rw [this]; exact hrwj)
            obtain ⟨bz, oz, ez, hcz⟩ := hus.get j hjx
            simp only [Option.some.injEq, Addr.mk.injEq] at ez
            obtain ⟨rfl, rfl, -⟩ := ez
            have hxj := Hnn.out xs[j] (List.getElem_mem hjx)
            have hsn := numsB_snoc xs j hjx
            obtain ⟨x, hx⟩ : ∃ x, x = xs[j] := ⟨_, rfl⟩
            rw [← hx] at hcz hxj hsn
            have hcz' : wr.cell? ⟨Z, j, none⟩ = some (.int .u64 (x : Int)) := by simpa using hcz
            have hNx := refNumB_any x hxj wr
            have hxl := numB_len x hxj
            obtain ⟨nx, hnx⟩ : ∃ nx, nx = numB x := ⟨_, rfl⟩
            simp only [← hnx] at hNx hxl hsn
            have HNx := Lib.hid hNx
            have Hsn := Lib.hid hsn
            clear hNx hsn hnx hx hus hcz hxj
            have i0 : (0 : Int) ≤ (j : Int) := by omega
            have i1 : (j : Int) < 9 := by omega
            go_wp2_with fail
            refine HNx.out.mono ?_
            rintro e W7 ⟨ao7, cap7, rfl, how7, hb7⟩
            have hown7 := own_below hownj hb7
            have hB7 := below_on hBj hb7 (Nat.le_refl _)
            have hrw7 := hrwj.below hb7
            clear hrwj hcz'
            go_wp2_with (at_builtin; refine wpl_append_bs rfl (.tmp 60) (.tmp 62) 66 rfl W1.heap.size 5 infoUB Try.underlying66 _ _ lj rfl hown7 _ _ nx rfl (Bs.of_own how7) ?_ ?_ ?_; omega; (exact hB7.size); intro ao8 cap8 l8 W8 hl8 hown8 hg8)
            have hl8n : l8.length ≤ l'.length + 9 * (j + 1) := by rw [hl8.out]; simp; omega
            have hl8' : Hid (l8 = l' ++ numsB (xs.take (j + 1))) := by show _ = _; rw [hl8.out, hlj.out, Hsn.out, List.append_assoc]
            go_roundw
            case rel => exact ⟨j + 1, ao8, cap8, l8, by simp, rfl, by omega, hl8', hl8n, hown8, below_app hB7 hg8 hown7 (Nat.le_refl _) hB7.size, hrw7.app hown7 hg8⟩
            case measure => simp [intOf]; omega
          · have hj9 : j = 9 := by omega
            subst hj9
            have hfin : Hid (lj = na ++ nb ++ encL (l.take (i + 1))) := by
              show _ = _
              have e9 : xs.take 9 = xs := List.take_of_length_le (by have := Hx9.out; omega)
              rw [hlj.out, hl'.out, Hstep.out, e9, List.append_assoc _ (encL _)]
            have hfl : lj.length ≤ 18 + 81 * (i + 1) := by
              rw [hlj.out]
              have e9 : xs.take 9 = xs := List.take_of_length_le (by have := Hx9.out; omega)
              rw [e9]
              have := Henc.out
              simp; omega
            go_wp2_with fail
            go_roundw
            case rel => exact ⟨i + 1, aoj, capj, lj, by simp, rfl, by omega, hfin, hfl, hownj, hBj⟩
            case measure => simp [intOf]; omega
      · have hi' : i = l.length := by omega
        subst hi'
        have hfin : l' = numsB [m, l.length] ++ encL l := by rw [hl'.out, List.take_length, HE.out]
        go_wp2_with fail
        go_ret
        exact ⟨ao', cap', l', rfl, hfin, own_base hown hz1, below_on hb1 hB (Nat.le_refl _)⟩
end Go.Proofs.Ytdcinhnplcipoaa
