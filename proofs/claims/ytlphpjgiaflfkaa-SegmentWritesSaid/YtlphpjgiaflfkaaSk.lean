/- The reference's writers: Text, Head, Line. No statement of the seat is proved here. -/
import Derived.Test.YtlphpjgiaflfkaaSh
import Derived.Lib.AppendStr
namespace Go.Proofs.Ytlphpjgiaflfkaa
set_option linter.unusedVariables false
set_option linter.unusedSimpArgs false
set_option linter.unusedSectionVars false
open Go Go.RowKit Go.Shelf

/-- a string's bytes to bytes -/
theorem wpl_append_str {P : Program} {w : World} {ops : Array Oper} {rest : List Oper} {o : Oper} {a : Act} {Q : Exit → Act → World → Prop} (hw : Region.wanted o (yielded ops a.tmps) = true) (s x : Operand) (t u : TypeId)
    (ho : o.op = .call { callee := .builtin .append, args := #[s, x], argTypes := #[t, u] })
    (base : Nat) (e : TypeId) (hi : (P.info? e).map (fun i => (i.zero, i.size, i.bytes)) = some (some (.int .u8 0), 1, 1)) (ht : P.underlying t = some (.slice e)) (hu : P.underlying u = some .string)
    (ao0 : Option Addr) (c0 : Nat) (l0 : List UInt8) (hs : a.eval s = .slice ao0 l0.length c0) (hown : w.ownsRow base e 1 (.slice ao0 l0.length c0) l0.length (l0.map u8))
    (l : List UInt8) (hx : a.eval x = .string ⟨l.toArray⟩)
    (hbytes : l0.length + l.length ≤ 140737488355328) (hbase : base ≤ w.heap.size)
    (h : ∀ ao' cap' l' w', Hid (l' = l0 ++ l) → w'.ownsRow base e 1 (.slice ao' l'.length cap') l'.length (l'.map u8) → w.grownBy w' (Value.slice ao0 l0.length c0).ownBlock → wpList P ops Q rest (a.put o.dst (.slice ao' l'.length cap')) w') : wpList P ops Q (o :: rest) a w := by
  obtain ⟨i, hi1, hi2, hi3, hi4⟩ := info_parts hi
  have hsz : (⟨l.toArray⟩ : ByteArray).size = l.length := by simp [ByteArray.size]
  refine wpl_of hw fun K hK => ?_
  obtain ⟨v', w', hr, h2, h3, h4⟩ := Lib.run_append_own_string (P := P) w base t u o.type e i ht hu hi1 hi2 hi3 hi4 _ _ _ hown ⟨l.toArray⟩ (by rw [hsz]; unfold maxLen; omega) (by rw [hsz]; omega) hbase
  unfold Oper.wp execOp
  simp only [ho, resolve, invoke, builtin, Sem.run_bind, Sem.run_pure, Result.andThen_ok, List.map_toArray, List.map_cons, List.map_nil, hs, hx, hr]
  have e1 : l0.length + (⟨l.toArray⟩ : ByteArray).size = (l0 ++ l).length := by rw [hsz]; simp
  have e2 : l0.map u8 ++ Lib.strCells ⟨l.toArray⟩ = (l0 ++ l).map u8 := by rw [List.map_append]; rfl
  rw [e1, e2] at h2
  obtain ⟨ao', cap', rfl⟩ := own_slice h2
  exact hK _ _ (h ao' cap' (l0 ++ l) w' rfl h2 h3)
set_option maxRecDepth 100000 in
set_option maxHeartbeats 2000000 in
theorem refTextB_any (d : List UInt8) (hd : d.length ≤ 1000000) (w : World) :
    Calls Try.prog 48 #[.string ⟨d.toArray⟩] w fun e w' => ∃ ao cap l', e = .returned (.slice ao l'.length cap) ∧ l' = numB d.length ++ d ∧ w'.ownsRow w.heap.size 5 1 (.slice ao l'.length cap) l'.length (l'.map u8) ∧ Below w.heap.size w w' := by
  have hsz : (⟨d.toArray⟩ : ByteArray).size = d.length := by simp [ByteArray.size]
  have w0 : IntKind.u64.wrap (d.length : Int) = (d.length : Int) := IntWalk.u64_in _ (by omega)
  have hnum := refNumB_any d.length (by omega)
  have hnl := numB_len d.length (by omega)
  obtain ⟨N, hN⟩ : ∃ N, N = numB d.length := ⟨_, rfl⟩
  simp only [← hN] at hnum hnl
  have HN := Lib.hid hN
  have Hnum := Lib.hid hnum
  clear hnum hN
  go_enter Try.func48, Try.ntmps48
  go_wp2_with fail
  refine (Hnum.out _).mono ?_
  rintro e w1 ⟨a1, c1, rfl, how1, hB1⟩
  have hz1 := hB1.size
  go_wp2_with (at_builtin; refine wpl_append_str rfl (.tmp 6) (.tmp 7) 22 9 rfl w.heap.size 5 infoU8 Try.underlying22 Try.underlying9 _ _ N rfl how1 d rfl ?_ ?_ ?_; omega; omega; intro a2 c2 l2 w2 hl2 how2 hg2)
  have hB2 := below_app hB1 hg2 how1 (Nat.le_refl _) hz1
  go_ret
  exact ⟨a2, c2, l2, rfl, by rw [← HN.out]; exact hl2.out, how2, hB2⟩
set_option maxRecDepth 100000 in
set_option maxHeartbeats 2000000 in
theorem refHeadB_any (n : Nat) (hn : n < 2 ^ 64) (w : World) :
    Calls Try.prog 17 #[.int .u64 (n : Nat)] w fun e w' => ∃ ao cap, e = .returned (.slice ao (headB n).length cap) ∧ Fresh w w' ao cap (headB n) := by
  have Hnum := Lib.hid (refNumB_any n hn)
  have hnl := numB_len n hn
  go_enter Try.func17, Try.ntmps17
  go_wp2_with fail
  refine (Hnum.out _).mono ?_
  rintro e w1 ⟨a1, c1, rfl, how1, hB1⟩
  have hby := bytes_any 1 a1 c1 (numB n) w1 (Bs.of_own how1) (by omega)
  rw [show (((1 : UInt8).toNat : Nat) : Int) = 1 from rfl] at hby
  have Hby := Lib.hid hby
  clear hby
  go_wp2_with fail
  refine Hby.out.mono ?_
  rintro e w2 ⟨a2, c2, rfl, hf2⟩
  go_wp2_with fail
  go_ret
  exact ⟨a2, c2, rfl, own_base hf2.own hB1.size, below_on hB1 hf2.bel (Nat.le_refl _)⟩
set_option maxRecDepth 100000 in
set_option maxHeartbeats 4000000 in
theorem refLine_any (i t k : Nat) (hi : i < 2 ^ 64) (ad : Option Addr) (cd : Nat) (d : List UInt8) (w : World) (hd : Bs w ad cd d) (hs : soundE ⟨(t : Nat), (k : Nat), d⟩ = true) :
    Calls Try.prog 18 #[.int .u64 (i : Nat), .agg #[.int .u64 (t : Nat), .int .i64 (k : Nat), .slice ad d.length cd]] w fun e w' => ∃ ao cap, e = .returned (.slice ao (lineB i t k d).length cap) ∧ Fresh w w' ao cap (lineB i t k d) := by
  obtain ⟨s1, s2, s3, s4, s5⟩ := soundE_iff.1 hs
  simp only at s1 s2 s3 s4 s5
  have ht : t < 2 ^ 64 := by omega
  have hk : k < 2 ^ 64 := by omega
  have hln := lineN_len i t k d hi ht hk (by omega)
  have hdl : d.length ≤ 4096 := s5
  have wk : IntKind.u64.wrap (k : Int) = (k : Int) := IntWalk.u64_in _ (by omega)
  have hA := refNumB_any i hi
  have hB := refNumB_any t ht
  have hC := refNumB_any k hk
  have hAl := numB_len i hi
  have hBl := numB_len t ht
  have hCl := numB_len k hk
  have hT := fun W => refTextB_any d (by omega) W
  have hE : lineN i t k d = numB i ++ numB t ++ numB k ++ (numB d.length ++ d) := by simp [lineN, numsB]
  have hEB : lineB i t k d = Fr.wrapped 2 (lineN i t k d) := rfl
  have hDl := numB_len d.length (by omega)
  obtain ⟨L, hL⟩ : ∃ L, L = lineN i t k d := ⟨_, rfl⟩
  obtain ⟨na, hna⟩ : ∃ na, na = numB i := ⟨_, rfl⟩
  obtain ⟨nb, hnb⟩ : ∃ nb, nb = numB t := ⟨_, rfl⟩
  obtain ⟨nc, hnc⟩ : ∃ nc, nc = numB k := ⟨_, rfl⟩
  obtain ⟨nd, hnd⟩ : ∃ nd, nd = numB d.length := ⟨_, rfl⟩
  simp only [← hna, ← hnb, ← hnc, ← hnd, ← hL] at hA hB hC hAl hBl hCl hT hE hEB hln hDl
  rw [hEB]
  clear hna hnb hnc hnd hL hEB s1 s2 s3 s4 s5 hs
  have HA := Lib.hid hA
  have HB := Lib.hid hB
  have HC := Lib.hid hC
  have HE := Lib.hid hE
  have HT := Lib.hid hT
  clear hA hB hC hE hT ht hk hi
  obtain ⟨W1, hW1⟩ : ∃ W1, W1 = w.alloc (.cells #[.int .u64 (t : Nat), .int .i64 (k : Nat), .slice ad d.length cd] 38) := ⟨_, rfl⟩
  have hb1 : Below w.heap.size w W1 := by rw [hW1]; exact below_new _ _
  have k1 : W1.heap[w.heap.size]? = some (.cells #[.int .u64 (t : Nat), .int .i64 (k : Nat), .slice ad d.length cd] 38 (0, 0)) := (congrArg (fun z : World => z.heap[w.heap.size]?) hW1).trans (heap_alloc_new _ _)
  have hz1 := hb1.size
  have hk : ∀ W' : World, Below W1.heap.size W1 W' → W'.heap[w.heap.size]? = some (.cells #[.int .u64 (t : Nat), .int .i64 (k : Nat), .slice ad d.length cd] 38 (0, 0)) := fun W' hw => (hw.block _ (Array.getElem?_eq_some_iff.1 k1).1).trans k1
  have hd1 : Below W1.heap.size W1 W1.drew := (Below.refl _ _).drew
  have p0 : W1.cell? ⟨w.heap.size, 0, none⟩ = some (.int .u64 (t : Nat)) := block_cell k1 0
  go_enter Try.func18, Try.ntmps18
  go_upto_region 1 with fail
  rw [← hW1]
  clear hW1
  go_cut [5] (fun b wx => ∃ (ao4 : Option Addr) (cap4 : Nat) (l4 : List UInt8), b = .slice ao4 l4.length cap4 ∧ Hid (l4 = na ++ nb) ∧ wx.ownsRow W1.heap.size 5 1 (.slice ao4 l4.length cap4) l4.length (l4.map u8) ∧ Below W1.heap.size W1 wx)
  case first =>
    go_region_law (first
      | (go_simp; go_at_call 47; refine (HB.out w2).mono ?_; rintro e w3 ⟨ao3, cap3, rfl, how3, hb3⟩; have hB3 : Below W1.heap.size W1 w3 := below_on hB2 hb3 (Nat.le_refl _); have hh3 := own_below how2 hb3; have s0 : w3.cell? ⟨w.heap.size, 0, none⟩ = some (.int .u64 (t : Nat)) := block_cell (hk w3 hB3) 0)
      | (go_simp; go_at_call 47; refine (HA.out W1.drew).mono ?_; rintro e w2 ⟨ao2, cap2, rfl, how2, hb2⟩; have hB2 : Below W1.heap.size W1 w2 := below_on hd1 hb2 (Nat.le_refl _); have r0 : w2.cell? ⟨w.heap.size, 0, none⟩ = some (.int .u64 (t : Nat)) := block_cell (hk w2 hB2) 0)
      | (refine step_append_bs rfl (.tmp 7) (.tmp 10) 22 rfl W1.drew.heap.size 5 infoUB Try.underlying22 _ _ na rfl hh3 _ _ nb rfl (Bs.of_own how3) ?_ ?_ ?_; omega; (exact hB3.size); intro ao4 cap4 l4 w4 hl4 hown4 hg4))
    all_goals
      go_wp2_with fail
      go_meet
      exact ⟨ao4, cap4, l4, rfl, hl4, hown4, below_app hB3 hg4 hh3 (Nat.le_refl _) hB3.size⟩
  case rest =>
    obtain ⟨ao4, cap4, l4, rfl, hl4, hown4, hB4⟩ := hcut
    clear HA HB hd1 p0 k1
    have hl4n : l4.length ≤ 18 := by rw [hl4.out]; simp; omega
    have p1 := block_cell (hk _ hB4) 1; simp at p1
    go_wp2_with fail
    refine (HC.out _).mono ?_
    rintro e w5 ⟨a5, c5, rfl, how5, hb5⟩
    have hB5 := below_on hB4 hb5 (Nat.le_refl _)
    have hown45 := own_below hown4 hb5
    have z4 := hB4.size
    have z5 := hB5.size
    clear p1
    go_wp2_with (at_builtin; go_loud (refine wpl_append_bs rfl (.tmp 12) (.tmp 16) 22 rfl W1.heap.size 5 infoU8 Try.underlying22 _ _ l4 rfl hown45 _ _ nc rfl (Bs.of_own how5) ?_ ?_ ?_; omega; omega; intro a6 c6 l6 w6 hl6 how6 hg6; have hB6 := below_app hB5 hg6 hown45 (Nat.le_refl _) z5; have p2 := block_cell (hk _ hB6) 2; simp at p2; have hcv := conv_any (hd.below (below_on hb1 hB6 (Nat.le_refl _)))))
    refine (HT.out _).mono ?_
    rintro e w7 ⟨a7, c7, l7, rfl, hl7, how7, hb7⟩
    have hB7 := below_on hB6 hb7 (Nat.le_refl _)
    have hown67 := own_below how6 hb7
    have z6 := hB6.size
    have z7 := hB7.size
    have hl6n : l6.length ≤ 27 := by rw [hl6.out]; simp; omega
    have hl7n : l7.length ≤ 4105 := by rw [hl7]; simp; omega
    have Hl7 := Lib.hid hl7
    clear p2 hcv hl7
    go_wp2_with (at_builtin; refine wpl_append_bs rfl (.tmp 18) (.tmp 22) 22 rfl W1.heap.size 5 infoU8 Try.underlying22 _ _ l6 rfl hown67 _ _ l7 rfl (Bs.of_own how7) ?_ ?_ ?_; omega; omega; intro a8 c8 l8 w8 hl8 how8 hg8)
    have hB8 := below_app hB7 hg8 hown67 (Nat.le_refl _) z7
    have hl8L : l8 = L := by rw [hl8.out, hl6.out, hl4.out, Hl7.out, HE.out]
    subst hl8L
    have hby := bytes_any 2 a8 c8 l8 w8 (Bs.of_own how8) (by omega)
    rw [show (((2 : UInt8).toNat : Nat) : Int) = 2 from rfl] at hby
    refine hby.mono ?_
    rintro e w9 ⟨a9, c9, rfl, hf9⟩
    have hBw := below_on hb1 hB8 (Nat.le_refl _)
    go_wp2_with fail
    go_ret
    exact ⟨a9, c9, rfl, own_base hf9.own hBw.size, below_on hBw hf9.bel (Nat.le_refl _)⟩
end Go.Proofs.Ytlphpjgiaflfkaa
