/- Lemmas for DeadlinePlays (Dl). No statement of the seat is proved here. -/
import Derived.Test.YtedlplkomfiahaaQ23
namespace Go.Proofs.Ytedlplkomfiahaa
set_option linter.unusedVariables false
set_option linter.unusedSimpArgs false
set_option linter.unusedSectionVars false
open Go Go.RowKit Go.Maps Go.Deep
set_option maxRecDepth 100000 in
set_option maxHeartbeats 8000000 in
theorem ddo_set (Wb W : World) (G : Nat → Prop) (b : Nat) (now last : Int) (X : List Th) (ao : Option Addr) (cap : Nat) (o : DOp) (hk : o.kind ≠ 1 ∧ o.kind ≠ 2 ∧ o.kind ≠ 3) (hW : Bk Wb W G b now last X) (hR : Rt W ao cap (slot0 X)) (hA : RAp W G ao) (hid : IdOk o.id) :
    Calls Try.prog 18 #[.pointer (some ⟨b, 0, none⟩), dsV now last ao X.length cap, dopVal o] W (DDone Wb W G b ao) := by
  obtain ⟨ok, oi, oa⟩ := o
  unfold dsV dopVal
  simp only at hk hid
  obtain ⟨h1, h2, h3⟩ := hk
  obtain ⟨W1, hW1⟩ : ∃ W1, W1 = W.alloc (.cells #[.int .i64 now, .int .u64 last, .slice ao X.length cap] rsT) := ⟨_, rfl⟩
  obtain ⟨W2, hW2⟩ : ∃ W2, W2 = W1.alloc (.cells #[.int .i64 ok, .int .u64 oi, .int .i64 oa] dopT) := ⟨_, rfl⟩
  obtain ⟨W3, hW3⟩ : ∃ W3, W3 = W2.alloc (.cells #[.int .i64 0, .int .u64 0, .slice none 0 0] rsT) := ⟨_, rfl⟩
  obtain ⟨b1, hb1⟩ : ∃ b, b = W.heap.size := ⟨_, rfl⟩
  obtain ⟨b2, hb2⟩ : ∃ b, b = W.heap.size + 1 := ⟨_, rfl⟩
  obtain ⟨b3, hb3⟩ : ∃ b, b = W.heap.size + 1 + 1 := ⟨_, rfl⟩
  have z1 : W1.heap.size = W.heap.size + 1 := by rw [hW1]; simp
  have z2 : W2.heap.size = W.heap.size + 1 + 1 := by rw [hW2]; simp [z1]
  have B1 : Below W.heap.size W W1 := by rw [hW1]; exact below_new _ _
  have B2 : Below W1.heap.size W1 W2 := by rw [hW2]; exact below_new _ _
  have B3 : Below W2.heap.size W2 W3 := by rw [hW3]; exact below_new _ _
  have hB3 := below_on (below_on B1 B2 (Nat.le_refl _)) B3 (Nat.le_refl _)
  have t1 : W3.heap[b1]? = some (.cells #[.int .i64 now, .int .u64 last, .slice ao X.length cap] rsT (0, 0)) := by
    rw [B3.block b1 (by omega), B2.block b1 (by omega), hW1, hb1]; exact heap_alloc_new _ _
  have t2 : W3.heap[b2]? = some (.cells #[.int .i64 ok, .int .u64 oi, .int .i64 oa] dopT (0, 0)) := by
    rw [B3.block b2 (by omega), hW2, hb2, ← z1]; exact heap_alloc_new _ _
  have t3 : W3.heap[b3]? = some (.cells #[.int .i64 0, .int .u64 0, .slice none 0 0] rsT (0, 0)) := by
    rw [hW3, hb3, ← z2]; exact heap_alloc_new _ _
  have Hup : Hid (W.heap.size ≤ b1 ∧ W.heap.size ≤ b2 ∧ W.heap.size ≤ b3) := ⟨by omega, by omega, by omega⟩
  have Hap : Hid (b1 ≠ b2 ∧ b1 ≠ b3 ∧ b2 ≠ b3) := ⟨by omega, by omega, by omega⟩
  have HB3 := Lib.hid hB3
  have T1 := Lib.hid t1
  have T2 := Lib.hid t2
  have T3 := Lib.hid t3
  clear z1 z2 B1 B2 B3 hB3 t1 t2 t3
  have p0 := block_cell T1.out 0
  have p1 := block_cell T1.out 1
  have p2 := block_cell T1.out 2
  have c0 := block_cell T2.out 0
  have c1 := block_cell T2.out 1
  have c2 := block_cell T2.out 2
  have l1 := (Array.getElem?_eq_some_iff.1 T1.out).1
  have l2 := (Array.getElem?_eq_some_iff.1 T2.out).1
  simp at p0 p1 p2 c0 c1 c2
  have HWo := Lib.hid hW
  have HRt := Lib.hid hR
  have HA := Lib.hid hA
  have Hid2 := Lib.hid hid
  have HRt4 := Lib.hid (hR.below HB3.out)
  have Hx := Lib.hid (And.intro hW.okX.2.2.2.2 hW.okX.2.2.1)
  have HF : Hid (∀ i, W.heap.size ≤ i → ¬ G i) := (fun i hi h => by have := hW.bd i h; omega : ∀ i, W.heap.size ≤ i → ¬ G i)
  have Hl3 := Lib.hid (Array.getElem?_eq_some_iff.1 T3.out).1
  clear hW hR hA hid
  go_enter Try.func18, Try.ntmps18
  go_upto_region 1 with fail
  rw [← hW1, ← hW2, ← hW3, ← hb3, ← hb2, ← hb1]
  clear hW1 hW2 hW3 hb1 hb2 hb3
  have Hca := Lib.hid (rset13 W3 now last ao cap X oi oa HRt4.out Hx.out.1 Hx.out.2 HWo.out.num.1)
  unfold dsV at Hca
  go_wp2_with fail
  refine (show Calls _ _ _ _ _ from Hca.out).mono ?_
  rintro e V1 ⟨a3, c3, rfl, hr3, hli, hb⟩
  obtain ⟨N, hN⟩ : ∃ N, N = setN last X oi oa := ⟨_, rfl⟩
  obtain ⟨Y, hY⟩ : ∃ Y, Y = setX last X oi oa := ⟨_, rfl⟩
  obtain ⟨L, hL⟩ : ∃ L, L = setL last X oi oa := ⟨_, rfl⟩
  obtain ⟨E, hE⟩ : ∃ E, E = setE last X oi oa := ⟨_, rfl⟩
  rw [← hY] at hr3
  rw [← hN, ← hY, ← hL, ← hE]
  unfold dsV
  have d1 := bx_below hb T1.out
  have d2 := bx_below hb T2.out
  have p0 := block_cell d1 0
  have p1 := block_cell d1 1
  have p2 := block_cell d1 2
  have c0 := block_cell d2 0
  have c1 := block_cell d2 1
  have c2 := block_cell d2 2
  have l1 := (Array.getElem?_eq_some_iff.1 d1).1
  have l2 := (Array.getElem?_eq_some_iff.1 d2).1
  simp at p0 p1 p2 c0 c1 c2
  clear d1 d2
  have HE := Lib.hid (And.intro hN (And.intro hY (And.intro hL hE)))
  have Hr3 := Lib.hid hr3
  have Hli := Lib.hid hli
  have HV1 := Lib.hid hb
  clear hN hY hL hE hr3 hli hb
  obtain ⟨Z, hZ⟩ : ∃ Z, Z = V1.alloc (.cells #[.int .i64 now, .int .u64 L, .slice a3 Y.length c3] rsT) := ⟨_, rfl⟩
  obtain ⟨b5, hb5⟩ : ∃ b, b = V1.heap.size := ⟨_, rfl⟩
  have hBZ : Below V1.heap.size V1 Z := by rw [hZ]; exact below_new _ _
  have x5 : Z.heap[b5]? = some (.cells #[.int .i64 now, .int .u64 L, .slice a3 Y.length c3] rsT (0, 0)) := by rw [hZ, hb5]; exact heap_alloc_new _ _
  have hn5 : V1.heap.size ≤ b5 := by omega
  have X5 := Lib.hid x5
  have HN := Lib.hid hn5
  have HBZ := Lib.hid (below_on HB3.out (below_on HV1.out hBZ (Nat.le_refl _)) (Nat.le_refl _))
  have HBV := Lib.hid hBZ
  clear hBZ x5 hn5
  have HWZ := Lib.hid (HWo.out.below HBZ.out)
  have Hcn := Lib.hid (bset_o HWZ.out oi oa Hid2.out)
  go_wp2_with fail
  rw [← hZ, ← hb5]
  clear hZ hb5
  refine (show Calls _ _ _ _ _ from Hcn.out).mono ?_
  rintro e V9 ⟨rfl, ⟨G9, hwo9, hg9, hF9⟩⟩
  rw [← HE.out.1, ← HE.out.2.2.2]
  rw [← HE.out.2.1, ← HE.out.2.2.1] at hwo9
  have hWV : W.heap.size ≤ V1.heap.size := Nat.le_trans HB3.out.size HV1.out.size
  have k9 : ∀ {i : Nat} {o : Obj}, Z.heap[i]? = some o → W.heap.size ≤ i → V9.heap[i]? = some o := fun hx hb => (hg9.block _ (Array.getElem?_eq_some_iff.1 hx).1 (HF.out _ hb)).trans hx
  have y5 := k9 X5.out (Nat.le_trans hWV HN.out)
  have y3 := k9 (bx_below HBV.out (bx_below HV1.out T3.out)) Hup.out.2.2
  have q0 := block_cell y5 0
  have q1 := block_cell y5 1
  have q2 := block_cell y5 2
  have m5 := (Array.getElem?_eq_some_iff.1 y5).1
  have y0 := block_cell y3 0
  have y1 := block_cell y3 1
  have y2 := block_cell y3 2
  have f0 := block_free y3 0
  have f1 := block_free y3 1
  have f2 := block_free y3 2
  have l3 := (Array.getElem?_eq_some_iff.1 y3).1
  simp at q0 q1 q2 y0 y1 y2 f0 f1 f2
  have hrZ := Hr3.out.below HBV.out
  obtain ⟨U, hU⟩ := ddone_sets HWo.out.bel.size HBZ.out hrZ (RAp.new HA.out HWo.out.bd HB3.out.size Hli.out hrZ) hwo9 hg9 hF9 (bx_below HBV.out (bx_below HV1.out T3.out)) Hup.out.2.2 (HF.out _ Hup.out.2.2) (.int .i64 now) (.int .u64 L) (.slice a3 Y.length c3)
  have HU := Lib.hid hU
  have ne5 : b5 ≠ b3 := by have h7 := Hl3.out; have h8 := HV1.out.size; have h9 := HN.out; omega
  clear k9 y5 y3 hwo9 hg9 hF9 hWV hrZ hU p0 p1 p2 c0 c1 c2 l1 l2
  go_wp2_with fail
  rw [← HU.out.1]
  have u3 := HU.out.2.2.1
  have u0 := block_cell u3 0
  have u1 := block_cell u3 1
  have u2 := block_cell u3 2
  have ul := (Array.getElem?_eq_some_iff.1 u3).1
  simp at u0 u1 u2
  clear u3
  refine bodyPost_ret (v := .tuple #[.agg #[.int .i64 now, .int .u64 L, .slice a3 Y.length c3], .bool true]) ?_ rfl ⟨now, L, Y, G9, a3, c3, (Hli.out.imp (fun h => h) (fun h x e => Nat.le_trans HB3.out.size (h x e))), rfl, HU.out.2.1⟩
  simp [results, Try.results18, go_sem, u0, u1, u2, ul]
end Go.Proofs.Ytedlplkomfiahaa
