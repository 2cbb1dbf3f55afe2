/- Lemmas for BagOnce (Nd). No statement of the seat is proved here. -/
import Derived.Test.YtbmkgcoolofmpaaO6
import Derived.Test.YtbmkgcoolofmpaaO14
namespace Go.Proofs.Ytbmkgcoolofmpaa
set_option linter.unusedVariables false
set_option linter.unusedSimpArgs false
set_option linter.unusedSectionVars false
open Go Go.RowKit Go.Shelf
theorem entsB_take (l : List Ep) (k : Nat) (hk : k < l.length) : entsB ((l.take (k + 1)).map Ep.e) = entsB ((l.take k).map Ep.e) ++ entE l[k].e := by
  rw [List.take_succ_eq_append_getElem hk, List.map_append, List.map_singleton, entsB_snoc]
set_option maxRecDepth 100000 in
set_option maxHeartbeats 4000000 in
theorem wireBytes_bad (x : Mp) (w : World) (h : MpAt w x) (hl : x.el.length ≤ 1000000) (hml : x.ml.length ≤ 1000000) (hx0 : 0 ≤ x.index) (hs : soundM x.v = false) :
    Calls Try.prog 33 #[.agg (mpA x)] w fun e w' => e = .returned (.tuple #[.slice none 0 0, .int .i64 2]) ∧ Below w.heap.size w w' := by
  have hsnd := fun W hW => wireSound_any x W hW hl hml hx0
  rw [hs] at hsnd
  have Hsnd := Lib.hid hsnd
  have Hat := Lib.hid (fun W hb => h.below (W' := W) hb)
  clear hsnd hs h hl hml hx0
  obtain ⟨kind, frm, dst, term, index, logTerm, commit, round, ok, force, eo, ec, el, si, st, mo, mc, ml, ao, ac, d⟩ := x
  dsimp only [mpA] at Hsnd Hat ⊢
  have hB1 := below_new w (.cells #[.int .i64 kind, .int .i64 frm, .int .i64 dst, .int .u64 term, .int .u64 index, .int .u64 logTerm, .int .u64 commit, .int .u64 round, .bool ok, .bool force, .slice eo el.length ec, .int .u64 si, .int .u64 st, .slice mo ml.length mc, .slice ao d.length ac] 37)
  go_enter Try.func33, Try.ntmps33
  go_wp2_with fail
  refine (Hsnd.out _ (Hat.out _ hB1)).mono ?_
  rintro e w2 ⟨rfl, hB2⟩
  go_wp2_with fail
  go_ret2
  exact ⟨rfl, below_on hB1 hB2 (Nat.le_refl _)⟩
set_option maxRecDepth 100000 in
set_option maxHeartbeats 16000000 in
theorem wireBytes_ok (x : Mp) (w : World) (h : MpAt w x) (h0 : 0 ≤ x.index ∧ 0 ≤ x.logTerm ∧ 0 ≤ x.commit ∧ 0 ≤ x.round) (hml : x.ml.length ≤ 1000000) (hs : soundM x.v = true) :
    Calls Try.prog 33 #[.agg (mpA x)] w fun e w' => ∃ a c, e = .returned (.tuple #[.slice a (wireB x.v).length c, .int .i64 0]) ∧ Fresh w w' a c (wireB x.v) := by
  obtain ⟨⟨hk1, hk2⟩, ⟨hf1, hf2⟩, ⟨hg1, hg2⟩, ⟨ht1, ht2⟩, hcm, hrd, hlg, hix, he8, hents, hsnap, hplain⟩ := soundM_ok hs
  clear hplain
  have hblen := bodyB_len _ hs (by exact h0)
  have hel : x.el.length ≤ 8 := by simpa [Mp.v] using he8
  have hsnd := fun W hW => wireSound_any x W hW (by omega) hml h0.1
  rw [hs] at hsnd
  have Hsnd := Lib.hid hsnd
  obtain ⟨hi0, hl0, hc0, hr0⟩ := h0
  clear hsnd hs he8
  obtain ⟨kind, frm, dst, term, index, logTerm, commit, round, ok, force, eo, ec, el, si, st, mo, mc, ml, ao, ac, d⟩ := x
  obtain ⟨hens, hmem, hdat⟩ := h
  dsimp only [mpA, Mp.v] at *
  obtain ⟨B, hB⟩ : ∃ B, B = bodyB ⟨kind, frm, dst, term, index, logTerm, commit, round, ok, force, el.map Ep.e, ⟨si, st, ml, d⟩⟩ := ⟨_, rfl⟩
  unfold wireB
  rw [← hB] at hblen ⊢
  have HB := Lib.hid hB
  clear hB
  have wk : IntKind.u64.wrap kind = kind := IntWalk.u64_in _ (by omega)
  have wf : IntKind.u64.wrap frm = frm := IntWalk.u64_in _ (by omega)
  have wg : IntKind.u64.wrap dst = dst := IntWalk.u64_in _ (by omega)
  have wl : IntKind.u64.wrap (el.length : Int) = (el.length : Int) := IntWalk.u64_in _ (by omega)
  have Hnum := Lib.hid (fun W0 W p (h : WS W0 W p [] 0) => ws_num [kind.toNat, frm.toNat, dst.toNat, term.toNat] (by intro n hn; simp at hn; omega) 4 rfl #[.int .u64 kind, .int .u64 frm, .int .u64 dst, .int .u64 term] (by simp; omega) (by decide) h (by omega))
  have Hil := Lib.hid (fun W0 W p l n (h : WS W0 W p l n) (hn : n ≤ 1000) => ws_num [index.toNat, logTerm.toNat] (by intro n hn; simp at hn; omega) 2 rfl #[.int .u64 index, .int .u64 logTerm] (by simp; omega) (by decide) h (by omega))
  have Hir := Lib.hid (fun W0 W p l n (h : WS W0 W p l n) (hn : n ≤ 1000) => ws_num [index.toNat, round.toNat] (by intro n hn; simp at hn; omega) 2 rfl #[.int .u64 index, .int .u64 round] (by simp; omega) (by decide) h (by omega))
  have Hr := Lib.hid (fun W0 W p l n (h : WS W0 W p l n) (hn : n ≤ 1000) => ws_num [round.toNat] (by intro n hn; simp at hn; omega) 1 rfl #[.int .u64 round] (by simp; omega) (by decide) h (by omega))
  have H5 := Lib.hid (fun W0 W p l n (h : WS W0 W p l n) (hn : n ≤ 1000) => ws_num [index.toNat, logTerm.toNat, commit.toNat, round.toNat, el.length] (by intro n hn; simp at hn; omega) 5 rfl #[.int .u64 index, .int .u64 logTerm, .int .u64 commit, .int .u64 round, .int .u64 (el.length : Int)] (by simp; omega) (by decide) h (by omega))
  have Hok := Lib.hid (fun W0 W p l n (h : WS W0 W p l n) (hn : n ≤ 1000) => ws_flag ok h (by omega))
  have Hfo := Lib.hid (fun W0 W p l n (h : WS W0 W p l n) (hn : n ≤ 1000) => ws_flag force h (by omega))
  have HE := Lib.hid hents
  have HS := Lib.hid hsnap
  clear hents hsnap
  obtain ⟨W1, hW1⟩ : ∃ W1, W1 = w.alloc (.cells #[.int .i64 kind, .int .i64 frm, .int .i64 dst, .int .u64 term, .int .u64 index, .int .u64 logTerm, .int .u64 commit, .int .u64 round, .bool ok, .bool force, .slice eo el.length ec, .int .u64 si, .int .u64 st, .slice mo ml.length mc, .slice ao d.length ac] 37) := ⟨_, rfl⟩
  have hB1 : Below w.heap.size w W1 := by rw [hW1]; exact below_new _ _
  have k1 : W1.heap[w.heap.size]? = some (.cells #[.int .i64 kind, .int .i64 frm, .int .i64 dst, .int .u64 term, .int .u64 index, .int .u64 logTerm, .int .u64 commit, .int .u64 round, .bool ok, .bool force, .slice eo el.length ec, .int .u64 si, .int .u64 st, .slice mo ml.length mc, .slice ao d.length ac] 37) := by rw [hW1]; exact heap_alloc_new _ _
  have z1 : w.heap.size < W1.heap.size := (Array.getElem?_eq_some_iff.1 k1).1
  go_enter Try.func33, Try.ntmps33
  go_upto_region 1 with fail
  rw [← hW1]
  clear hW1
  obtain ⟨p0, p1, p2, p3, p4, p5, p6, p7, p8, p9, p10, p11, p12, p13, p14⟩ := (⟨block_cell k1 0, block_cell k1 1, block_cell k1 2, block_cell k1 3, block_cell k1 4, block_cell k1 5, block_cell k1 6, block_cell k1 7, block_cell k1 8, block_cell k1 9, block_cell k1 10, block_cell k1 11, block_cell k1 12, block_cell k1 13, block_cell k1 14⟩ : W1.cell? ⟨w.heap.size, 0, none⟩ = some (.int .i64 kind) ∧ W1.cell? ⟨w.heap.size, 1, none⟩ = some (.int .i64 frm) ∧ W1.cell? ⟨w.heap.size, 2, none⟩ = some (.int .i64 dst) ∧ W1.cell? ⟨w.heap.size, 3, none⟩ = some (.int .u64 term) ∧ W1.cell? ⟨w.heap.size, 4, none⟩ = some (.int .u64 index) ∧ W1.cell? ⟨w.heap.size, 5, none⟩ = some (.int .u64 logTerm) ∧ W1.cell? ⟨w.heap.size, 6, none⟩ = some (.int .u64 commit) ∧ W1.cell? ⟨w.heap.size, 7, none⟩ = some (.int .u64 round) ∧ W1.cell? ⟨w.heap.size, 8, none⟩ = some (.bool ok) ∧ W1.cell? ⟨w.heap.size, 9, none⟩ = some (.bool force) ∧ W1.cell? ⟨w.heap.size, 10, none⟩ = some (.slice eo el.length ec) ∧ W1.cell? ⟨w.heap.size, 11, none⟩ = some (.int .u64 si) ∧ W1.cell? ⟨w.heap.size, 12, none⟩ = some (.int .u64 st) ∧ W1.cell? ⟨w.heap.size, 13, none⟩ = some (.slice mo ml.length mc) ∧ W1.cell? ⟨w.heap.size, 14, none⟩ = some (.slice ao d.length ac))
  go_wp2_with fail
  refine (Hsnd.out _ ⟨hens.below hB1, hmem.below hB1, hdat.below hB1⟩).mono ?_
  rintro e W2 ⟨rfl, hB2⟩
  have k2 := (hB2.block _ z1).trans k1
  have hBw2 := below_on hB1 hB2 (Nat.le_refl _)
  have z2 := hB2.size
  clear p0 p1 p2 p3 p4 p5 p6 p7 p8 p9 p10 p11 p12 p13 p14 Hsnd k1
  have hens2 := hens.below hBw2
  have hmem2 := hmem.below hBw2
  have hdat2 := hdat.below hBw2
  clear hens hmem hdat
  have hws := WS.new W2
  obtain ⟨W3, hW3⟩ : ∃ W3, W3 = W2.alloc (.cells #[.slice none 0 0] 102) := ⟨_, rfl⟩
  rw [← hW3] at hws
  have e3 : W3.heap.size = W2.heap.size + 1 := by rw [hW3]; exact World.size_alloc _ _
  have hcw : ∀ W', Below W2.heap.size W2 W' → (W'.cell? ⟨w.heap.size, 0, none⟩ = some (.int .i64 kind) ∧ W'.cell? ⟨w.heap.size, 1, none⟩ = some (.int .i64 frm) ∧ W'.cell? ⟨w.heap.size, 2, none⟩ = some (.int .i64 dst) ∧ W'.cell? ⟨w.heap.size, 3, none⟩ = some (.int .u64 term) ∧ W'.cell? ⟨w.heap.size, 4, none⟩ = some (.int .u64 index) ∧ W'.cell? ⟨w.heap.size, 5, none⟩ = some (.int .u64 logTerm) ∧ W'.cell? ⟨w.heap.size, 6, none⟩ = some (.int .u64 commit) ∧ W'.cell? ⟨w.heap.size, 7, none⟩ = some (.int .u64 round) ∧ W'.cell? ⟨w.heap.size, 8, none⟩ = some (.bool ok) ∧ W'.cell? ⟨w.heap.size, 9, none⟩ = some (.bool force) ∧ W'.cell? ⟨w.heap.size, 10, none⟩ = some (.slice eo el.length ec) ∧ W'.cell? ⟨w.heap.size, 11, none⟩ = some (.int .u64 si) ∧ W'.cell? ⟨w.heap.size, 12, none⟩ = some (.int .u64 st) ∧ W'.cell? ⟨w.heap.size, 13, none⟩ = some (.slice mo ml.length mc) ∧ W'.cell? ⟨w.heap.size, 14, none⟩ = some (.slice ao d.length ac)) := fun W' hb => by
    have hk := (hb.block _ (Array.getElem?_eq_some_iff.1 k2).1).trans k2
    exact ⟨block_cell hk 0, block_cell hk 1, block_cell hk 2, block_cell hk 3, block_cell hk 4, block_cell hk 5, block_cell hk 6, block_cell hk 7, block_cell hk 8, block_cell hk 9, block_cell hk 10, block_cell hk 11, block_cell hk 12, block_cell hk 13, block_cell hk 14⟩
  have Hcw := Lib.hid hcw
  clear hcw
  obtain ⟨p0, p1, p2, p3, p4, p5, p6, p7, p8, p9, p10, p11, p12, p13, p14⟩ := Hcw.out W3 hws.bel
  have hn3 := Hnum.out _ _ _ hws
  have Hn3 := Lib.hid hn3
  have q2 : w.heap.size < W2.heap.size := by omega
  have q3 : w.heap.size < W3.heap.size := by omega
  have E3 := Lib.hid e3
  clear e3 hn3
  go_upto_region 4 with fail
  rw [← hW3]
  clear hW3
  go_wp2_with fail
  refine Hn3.out.mono ?_
  rintro e W5 ⟨rfl, hws5⟩
  clear p0 p1 p2 p3 p4 p5 p6 p7 p8 p9 p10 p11 p12 p13 p14 Hn3 q3
  rw [List.nil_append] at hws5
  obtain ⟨p0, p1, p2, p3, p4, p5, p6, p7, p8, p9, p10, p11, p12, p13, p14⟩ := Hcw.out W5 hws5.bel
  go_upto_region 5 with fail
  by_cases q1 : kind = 1
  · subst q1
    go_wp2_with fail
    refine (Hil.out _ _ _ _ _ hws5 (by omega)).mono ?_
    rintro e W6 ⟨rfl, hws6⟩
    clear p0 p1 p2 p3 p4 p5 p6 p7 p8 p9 p10 p11 p12 p13 p14
    obtain ⟨p0, p1, p2, p3, p4, p5, p6, p7, p8, p9, p10, p11, p12, p13, p14⟩ := Hcw.out W6 hws6.bel
    have hfin : B = numsB [Int.toNat 1, frm.toNat, dst.toNat, term.toNat] ++ numsB [index.toNat, logTerm.toNat] := by rw [HB.out]; simp [bodyB, fieldsB]
    rw [← hfin] at hws6
    clear hfin
    go_wp2_with fail
    refine (ws_bytes hws6 (by omega)).mono ?_
    rintro e W8 ⟨a8, c8, rfl, hb8, hB8⟩
    have hBw8 := below_on hBw2 hB8 (Nat.le_refl _)
    have hwrap := wrap_ok 5 a8 c8 B W8 hb8 (by decide) (by omega)
    rw [show (((5 : UInt8).toNat : Nat) : Int) = 5 from rfl] at hwrap
    have Hwrap := Lib.hid hwrap
    clear hwrap
    go_wp2_with fail
    refine Hwrap.out.mono ?_
    rintro e W9 ⟨a9, c9, rfl, hfr9⟩
    go_wp2_with fail
    go_ret2
    exact ⟨a9, c9, rfl, own_base hfr9.own hBw8.size, below_on hBw8 hfr9.bel (Nat.le_refl _)⟩
  by_cases q2 : kind = 2
  · subst q2
    go_wp2_with fail
    refine (Hok.out _ _ _ _ _ hws5 (by omega)).mono ?_
    rintro e W6 ⟨rfl, hws6⟩
    clear p0 p1 p2 p3 p4 p5 p6 p7 p8 p9 p10 p11 p12 p13 p14
    obtain ⟨p0, p1, p2, p3, p4, p5, p6, p7, p8, p9, p10, p11, p12, p13, p14⟩ := Hcw.out W6 hws6.bel
    have hfin : B = numsB [Int.toNat 2, frm.toNat, dst.toNat, term.toNat] ++ flagB ok := by rw [HB.out]; simp [bodyB, fieldsB]
    rw [← hfin] at hws6
    clear hfin
    go_wp2_with fail
    refine (ws_bytes hws6 (by omega)).mono ?_
    rintro e W8 ⟨a8, c8, rfl, hb8, hB8⟩
    have hBw8 := below_on hBw2 hB8 (Nat.le_refl _)
    have hwrap := wrap_ok 5 a8 c8 B W8 hb8 (by decide) (by omega)
    rw [show (((5 : UInt8).toNat : Nat) : Int) = 5 from rfl] at hwrap
    have Hwrap := Lib.hid hwrap
    clear hwrap
    go_wp2_with fail
    refine Hwrap.out.mono ?_
    rintro e W9 ⟨a9, c9, rfl, hfr9⟩
    go_wp2_with fail
    go_ret2
    exact ⟨a9, c9, rfl, own_base hfr9.own hBw8.size, below_on hBw8 hfr9.bel (Nat.le_refl _)⟩
  by_cases q3 : kind = 3
  · subst q3
    go_wp2_with fail
    refine (Hil.out _ _ _ _ _ hws5 (by omega)).mono ?_
    rintro e W6 ⟨rfl, hws6⟩
    clear p0 p1 p2 p3 p4 p5 p6 p7 p8 p9 p10 p11 p12 p13 p14
    obtain ⟨p0, p1, p2, p3, p4, p5, p6, p7, p8, p9, p10, p11, p12, p13, p14⟩ := Hcw.out W6 hws6.bel
    go_wp2_with fail
    refine (Hfo.out _ _ _ _ _ hws6 (by omega)).mono ?_
    rintro e W7 ⟨rfl, hws7⟩
    clear p0 p1 p2 p3 p4 p5 p6 p7 p8 p9 p10 p11 p12 p13 p14
    obtain ⟨p0, p1, p2, p3, p4, p5, p6, p7, p8, p9, p10, p11, p12, p13, p14⟩ := Hcw.out W7 hws7.bel
    have hfin : B = numsB [Int.toNat 3, frm.toNat, dst.toNat, term.toNat] ++ numsB [index.toNat, logTerm.toNat] ++ flagB force := by rw [HB.out]; simp [bodyB, fieldsB]
    rw [← hfin] at hws7
    clear hfin
    go_wp2_with fail
    refine (ws_bytes hws7 (by omega)).mono ?_
    rintro e W8 ⟨a8, c8, rfl, hb8, hB8⟩
    have hBw8 := below_on hBw2 hB8 (Nat.le_refl _)
    have hwrap := wrap_ok 5 a8 c8 B W8 hb8 (by decide) (by omega)
    rw [show (((5 : UInt8).toNat : Nat) : Int) = 5 from rfl] at hwrap
    have Hwrap := Lib.hid hwrap
    clear hwrap
    go_wp2_with fail
    refine Hwrap.out.mono ?_
    rintro e W9 ⟨a9, c9, rfl, hfr9⟩
    go_wp2_with fail
    go_ret2
    exact ⟨a9, c9, rfl, own_base hfr9.own hBw8.size, below_on hBw8 hfr9.bel (Nat.le_refl _)⟩
  by_cases q4 : kind = 4
  · subst q4
    go_wp2_with fail
    refine (Hok.out _ _ _ _ _ hws5 (by omega)).mono ?_
    rintro e W6 ⟨rfl, hws6⟩
    clear p0 p1 p2 p3 p4 p5 p6 p7 p8 p9 p10 p11 p12 p13 p14
    obtain ⟨p0, p1, p2, p3, p4, p5, p6, p7, p8, p9, p10, p11, p12, p13, p14⟩ := Hcw.out W6 hws6.bel
    have hfin : B = numsB [Int.toNat 4, frm.toNat, dst.toNat, term.toNat] ++ flagB ok := by rw [HB.out]; simp [bodyB, fieldsB]
    rw [← hfin] at hws6
    clear hfin
    go_wp2_with fail
    refine (ws_bytes hws6 (by omega)).mono ?_
    rintro e W8 ⟨a8, c8, rfl, hb8, hB8⟩
    have hBw8 := below_on hBw2 hB8 (Nat.le_refl _)
    have hwrap := wrap_ok 5 a8 c8 B W8 hb8 (by decide) (by omega)
    rw [show (((5 : UInt8).toNat : Nat) : Int) = 5 from rfl] at hwrap
    have Hwrap := Lib.hid hwrap
    clear hwrap
    go_wp2_with fail
    refine Hwrap.out.mono ?_
    rintro e W9 ⟨a9, c9, rfl, hfr9⟩
    go_wp2_with fail
    go_ret2
    exact ⟨a9, c9, rfl, own_base hfr9.own hBw8.size, below_on hBw8 hfr9.bel (Nat.le_refl _)⟩
  by_cases q5 : kind = 5
  · subst q5
    go_wp2_with fail
    refine (H5.out _ _ _ _ _ hws5 (by omega)).mono ?_
    rintro e W6 ⟨rfl, hws6⟩
    clear p0 p1 p2 p3 p4 p5 p6 p7 p8 p9 p10 p11 p12 p13 p14
    obtain ⟨p0, p1, p2, p3, p4, p5, p6, p7, p8, p9, p10, p11, p12, p13, p14⟩ := Hcw.out W6 hws6.bel
    go_wp2_with fail
    obtain ⟨L6, hL6⟩ : ∃ L6, L6 = numsB [Int.toNat 5, frm.toNat, dst.toNat, term.toNat] ++ numsB [index.toNat, logTerm.toNat, commit.toNat, round.toNat, el.length] := ⟨_, rfl⟩
    rw [show numsB [Int.toNat 5, frm.toNat, dst.toNat, term.toNat] ++ numsB [index.toNat, logTerm.toNat, commit.toNat, round.toNat, el.length] = L6 from hL6.symm] at hws6
    have HL6 := Lib.hid hL6
    clear hL6
    go_loopw [73] (fun u wr => ∃ k : Nat, u = .int .i64 (k : Nat) ∧ k ≤ el.length ∧ WS W2 wr W2.heap.size (L6 ++ entsB ((el.take k).map Ep.e)) (81 + 5000 * k)) (fun u _ => el.length - (intOf u).toNat)
    case atStart => exact ⟨0, rfl, Nat.zero_le _, by simpa [entsB] using hws6⟩
    case round =>
      obtain ⟨k, rfl, hk, hwsr⟩ := hrel
      clear p0 p1 p2 p3 p4 p5 p6 p7 p8 p9 p10 p11 p12 p13 p14
      obtain ⟨p0, p1, p2, p3, p4, p5, p6, p7, p8, p9, p10, p11, p12, p13, p14⟩ := Hcw.out wr hwsr.bel
      by_cases hlt : k < el.length
      · have hst := entsB_take el k hlt
        have hse := HE.out el[k].e (List.mem_map.2 ⟨el[k], List.getElem_mem hlt, rfl⟩)
        have hensr := hens2.below hwsr.bel
        obtain ⟨b1, o1, rfl, c0, c1, c2⟩ := hensr.get k hlt
        have hd0 := hens2.data _ (List.getElem_mem hlt)
        obtain ⟨y, hy⟩ : ∃ y, y = el[k] := ⟨_, rfl⟩
        rw [← hy] at c0 c1 c2 hd0 hse hst
        clear hy
        obtain ⟨⟨x1, x2, xd⟩, xa, xc⟩ := y
        simp only at c0 c1 c2 hd0 hse hst
        obtain ⟨s1, s2, s3, s4, s5⟩ := soundE_iff.1 hse
        simp only at s1 s2 s3 s4 s5
        clear hse
        have wx : IntKind.u64.wrap x2 = x2 := IntWalk.u64_in _ (by omega)
        have i0 : (0 : Int) ≤ (k : Int) := by omega
        have i1 : (k : Int) < (el.length : Int) := by omega
        have hba := below_new wr (.cells #[.int .u64 x1, .int .i64 x2, .slice xa xd.length xc] 88)
        have kk : (wr.alloc (.cells #[.int .u64 x1, .int .i64 x2, .slice xa xd.length xc] 88)).heap[wr.heap.size]? = some (.cells #[.int .u64 x1, .int .i64 x2, .slice xa xd.length xc] 88) := heap_alloc_new _ _
        obtain ⟨X1, hX1⟩ : ∃ X1, X1 = wr.alloc (.cells #[.int .u64 x1, .int .i64 x2, .slice xa xd.length xc] 88) := ⟨_, rfl⟩
        have eX : X1.heap.size = wr.heap.size + 1 := by rw [hX1]; exact World.size_alloc _ _
        rw [← hX1] at hba kk
        have hws1 := hwsr.below hba
        have hn1 := ws_numK [x1.toNat, x2.toNat] (by intro n hn; simp at hn; omega) 2 rfl #[.int .u64 x1, .int .u64 x2] (by simp; omega) (by decide) hws1 (by omega)
        have Hn1 := Lib.hid hn1
        obtain ⟨x0, x1', x2'⟩ := (⟨block_cell kk 0, block_cell kk 1, block_cell kk 2⟩ : X1.cell? ⟨wr.heap.size, 0, none⟩ = some (.int .u64 x1) ∧ X1.cell? ⟨wr.heap.size, 1, none⟩ = some (.int .i64 x2) ∧ X1.cell? ⟨wr.heap.size, 2, none⟩ = some (.slice xa xd.length xc))
        have zX : wr.heap.size < X1.heap.size := by omega
        have Hst := Lib.hid hst
        have EX := Lib.hid eX
        clear hn1 eX hst p0 p1 p2 p3 p4 p5 p6 p7 p8 p9 p10 p11 p12 p13 p14
        go_upto_region 19 with fail
        rw [← hX1]
        clear hX1 c0 c1 c2
        go_wp2_with fail
        refine Hn1.out.mono ?_
        rintro e X2 ⟨rfl, hws2, hkp⟩
        have kk2 := hkp _ _ _ kk (by decide) (by decide)
        have c2 : X2.cell? ⟨wr.heap.size, 2, none⟩ = some (.slice xa xd.length xc) := block_cell kk2 2
        have hcv := conv_any (hd0.below hws2.bel)
        clear x0 x1' x2' zX
        go_wp2_with fail
        refine (ws_text xd hws2 (by omega)).mono ?_
        rintro e X3 ⟨rfl, hws3⟩
        have hws3' : WS W2 X3 W2.heap.size (L6 ++ entsB ((el.take (k + 1)).map Ep.e)) (81 + 5000 * (k + 1)) := ⟨by rw [Hst.out]; simpa [entE, List.append_assoc] using hws3.wr, hws3.bel, by rw [Hst.out]; have := hws3.len; simp [entE] at this ⊢; omega⟩
        clear hcv c2
        go_wp2_with fail
        go_roundw
        case rel => exact ⟨k + 1, by simp, by omega, hws3'⟩
        case measure => simp [intOf]; omega
      · have hkk : k = el.length := by omega
        subst hkk
        rw [List.take_length] at hwsr
        have hfin : B = L6 ++ entsB (el.map Ep.e) := by rw [HB.out]; simp [bodyB, fieldsB, HL6.out]
        rw [← hfin] at hwsr
        clear hfin
        go_wp2_with fail
        refine (ws_bytes hwsr (by omega)).mono ?_
        rintro e W8 ⟨a8, c8, rfl, hb8, hB8⟩
        have hBw8 := below_on hBw2 hB8 (Nat.le_refl _)
        have hwrap := wrap_ok 5 a8 c8 B W8 hb8 (by decide) (by omega)
        rw [show (((5 : UInt8).toNat : Nat) : Int) = 5 from rfl] at hwrap
        have Hwrap := Lib.hid hwrap
        clear hwrap
        go_wp2_with fail
        refine Hwrap.out.mono ?_
        rintro e W9 ⟨a9, c9, rfl, hfr9⟩
        go_wp2_with fail
        go_ret2
        exact ⟨a9, c9, rfl, own_base hfr9.own hBw8.size, below_on hBw8 hfr9.bel (Nat.le_refl _)⟩
  by_cases q6 : kind = 6
  · subst q6
    go_wp2_with fail
    refine (Hok.out _ _ _ _ _ hws5 (by omega)).mono ?_
    rintro e W6 ⟨rfl, hws6⟩
    clear p0 p1 p2 p3 p4 p5 p6 p7 p8 p9 p10 p11 p12 p13 p14
    obtain ⟨p0, p1, p2, p3, p4, p5, p6, p7, p8, p9, p10, p11, p12, p13, p14⟩ := Hcw.out W6 hws6.bel
    go_wp2_with fail
    refine (Hir.out _ _ _ _ _ hws6 (by omega)).mono ?_
    rintro e W7 ⟨rfl, hws7⟩
    clear p0 p1 p2 p3 p4 p5 p6 p7 p8 p9 p10 p11 p12 p13 p14
    obtain ⟨p0, p1, p2, p3, p4, p5, p6, p7, p8, p9, p10, p11, p12, p13, p14⟩ := Hcw.out W7 hws7.bel
    have hfin : B = numsB [Int.toNat 6, frm.toNat, dst.toNat, term.toNat] ++ flagB ok ++ numsB [index.toNat, round.toNat] := by rw [HB.out]; simp [bodyB, fieldsB]
    rw [← hfin] at hws7
    clear hfin
    go_wp2_with fail
    refine (ws_bytes hws7 (by omega)).mono ?_
    rintro e W8 ⟨a8, c8, rfl, hb8, hB8⟩
    have hBw8 := below_on hBw2 hB8 (Nat.le_refl _)
    have hwrap := wrap_ok 5 a8 c8 B W8 hb8 (by decide) (by omega)
    rw [show (((5 : UInt8).toNat : Nat) : Int) = 5 from rfl] at hwrap
    have Hwrap := Lib.hid hwrap
    clear hwrap
    go_wp2_with fail
    refine Hwrap.out.mono ?_
    rintro e W9 ⟨a9, c9, rfl, hfr9⟩
    go_wp2_with fail
    go_ret2
    exact ⟨a9, c9, rfl, own_base hfr9.own hBw8.size, below_on hBw8 hfr9.bel (Nat.le_refl _)⟩
  by_cases q7 : kind = 7
  · subst q7
    go_wp2_with fail
    refine (Hr.out _ _ _ _ _ hws5 (by omega)).mono ?_
    rintro e W6 ⟨rfl, hws6⟩
    clear p0 p1 p2 p3 p4 p5 p6 p7 p8 p9 p10 p11 p12 p13 p14
    obtain ⟨p0, p1, p2, p3, p4, p5, p6, p7, p8, p9, p10, p11, p12, p13, p14⟩ := Hcw.out W6 hws6.bel
    have hs7 := HS.out (by trivial)
    have Hsb := Lib.hid (snapBytes_ok si st mo ao mc ac ml d W6 (hmem2.below hws6.bel) (hdat2.below hws6.bel) hs7)
    have hsl := snBody_len _ hs7
    have hsl2 : (snB ⟨si, st, ml, d⟩).length ≤ 33008 := by unfold snB; rw [Fr.wrapped_length]; omega
    obtain ⟨S, hS⟩ : ∃ S, S = snB ⟨si, st, ml, d⟩ := ⟨_, rfl⟩
    rw [← hS] at Hsb hsl2
    have HSn := Lib.hid hS
    clear hs7 hS
    go_wp2_with fail
    refine Hsb.out.mono ?_
    rintro e W7 ⟨a7, c7, rfl, hfr7⟩
    have hws7 := hws6.below hfr7.bel
    have hcv := conv_any (Bs.of_own hfr7.own)
    clear p0 p1 p2 p3 p4 p5 p6 p7 p8 p9 p10 p11 p12 p13 p14
    go_wp2_with fail
    refine (ws_text S hws7 (by omega)).mono ?_
    rintro e W10 ⟨rfl, hws10⟩
    clear hcv
    have hfin : B = numsB [Int.toNat 7, frm.toNat, dst.toNat, term.toNat] ++ numsB [round.toNat] ++ (numB S.length ++ S) := by rw [HB.out]; simp [bodyB, fieldsB, HSn.out]
    rw [← hfin] at hws10
    clear hfin
    go_wp2_with fail
    refine (ws_bytes hws10 (by omega)).mono ?_
    rintro e W8 ⟨a8, c8, rfl, hb8, hB8⟩
    have hBw8 := below_on hBw2 hB8 (Nat.le_refl _)
    have hwrap := wrap_ok 5 a8 c8 B W8 hb8 (by decide) (by omega)
    rw [show (((5 : UInt8).toNat : Nat) : Int) = 5 from rfl] at hwrap
    have Hwrap := Lib.hid hwrap
    clear hwrap
    go_wp2_with fail
    refine Hwrap.out.mono ?_
    rintro e W9 ⟨a9, c9, rfl, hfr9⟩
    go_wp2_with fail
    go_ret2
    exact ⟨a9, c9, rfl, own_base hfr9.own hBw8.size, below_on hBw8 hfr9.bel (Nat.le_refl _)⟩
  by_cases q8 : kind = 8
  · subst q8
    have hfin : B = numsB [Int.toNat 8, frm.toNat, dst.toNat, term.toNat] := by rw [HB.out]; simp [bodyB, fieldsB]
    rw [← hfin] at hws5
    clear hfin
    go_wp2_with fail
    refine (ws_bytes hws5 (by omega)).mono ?_
    rintro e W8 ⟨a8, c8, rfl, hb8, hB8⟩
    have hBw8 := below_on hBw2 hB8 (Nat.le_refl _)
    have hwrap := wrap_ok 5 a8 c8 B W8 hb8 (by decide) (by omega)
    rw [show (((5 : UInt8).toNat : Nat) : Int) = 5 from rfl] at hwrap
    have Hwrap := Lib.hid hwrap
    clear hwrap
    go_wp2_with fail
    refine Hwrap.out.mono ?_
    rintro e W9 ⟨a9, c9, rfl, hfr9⟩
    go_wp2_with fail
    go_ret2
    exact ⟨a9, c9, rfl, own_base hfr9.own hBw8.size, below_on hBw8 hfr9.bel (Nat.le_refl _)⟩
  omega
end Go.Proofs.Ytbmkgcoolofmpaa
