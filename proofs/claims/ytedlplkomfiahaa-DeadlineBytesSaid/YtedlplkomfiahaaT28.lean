/- Lemmas for DeadlineBytes (DeadlineBytes). No statement of the seat is proved here. -/
import Derived.Test.YtedlplkomfiahaaT24
import Derived.Test.YtedlplkomfiahaaT27
namespace Go.Proofs.Ytedlplkomfiahaa
set_option linter.unusedVariables false
set_option linter.unusedSimpArgs false
set_option linter.unusedSectionVars false
open Go Go.RowKit Go.Shelf Go.Maps Go.Deep
set_option maxRecDepth 100000 in
set_option maxHeartbeats 4000000 in
theorem bytes13_walk (W : World) (n1 s1 : Int) (a1 : Option Addr) (c1 : Nat) (X : List Th) (n2 s2 : Int) (a2 : Option Addr) (c2 : Nat) (Y : List Th) (ab : Option Addr) (cb : Nat) (bs : List UInt8)
    (hX : ThR W a1 c1 X) (hXo : ∀ t ∈ X, IdOk t.id ∧ IdOk t.gen) (h0 : 0 ≤ s1) (hY : ThR W a2 c2 Y) (hs : Bs W ab cb bs) :
    Calls Try.prog 7 #[dsV n1 s1 a1 X.length c1, dsV n2 s2 a2 Y.length c2, .slice ab bs.length cb] W fun e W' => e = .returned (.bool true) ∧ Below W.heap.size W W' := by
  have hmain := bytes13_main W n1 s1 a1 c1 X n2 s2 a2 c2 Y ab cb bs hX hXo h0 hY hs
  by_cases hall : X.length ≤ 300 ∧ Y.length ≤ 300 ∧ bs.length ≤ 3000
  · exact hmain hall.1 hall.2.1 hall.2.2
  clear hmain hX hXo h0 hY hs
  unfold dsV
  obtain ⟨W1, hW1⟩ : ∃ W1, W1 = W.alloc (.cells #[.int .i64 n1, .int .u64 s1, .slice a1 X.length c1] dsT) := ⟨_, rfl⟩
  obtain ⟨W2, hW2⟩ : ∃ W2, W2 = W1.alloc (.cells #[.int .i64 n2, .int .u64 s2, .slice a2 Y.length c2] dsT) := ⟨_, rfl⟩
  obtain ⟨b1, hb1⟩ : ∃ b, b = W.heap.size := ⟨_, rfl⟩
  obtain ⟨b2, hb2⟩ : ∃ b, b = W.heap.size + 1 := ⟨_, rfl⟩
  have z1 : W1.heap.size = W.heap.size + 1 := by rw [hW1]; simp
  have B1 : Below W.heap.size W W1 := by rw [hW1]; exact below_new _ _
  have B2 : Below W1.heap.size W1 W2 := by rw [hW2]; exact below_new _ _
  have hB2 := below_on B1 B2 (Nat.le_refl _)
  have t1 : W2.heap[b1]? = some (.cells #[.int .i64 n1, .int .u64 s1, .slice a1 X.length c1] dsT (0, 0)) := by
    rw [B2.block b1 (by omega), hW1, hb1]; exact heap_alloc_new _ _
  have t2 : W2.heap[b2]? = some (.cells #[.int .i64 n2, .int .u64 s2, .slice a2 Y.length c2] dsT (0, 0)) := by
    rw [hW2, hb2, ← z1]; exact heap_alloc_new _ _
  have Hup : Hid (W.heap.size ≤ b1 ∧ W.heap.size ≤ b2) := ⟨by omega, by omega⟩
  have Hap : Hid (b1 ≠ b2) := (by omega : b1 ≠ b2)
  have HB2 := Lib.hid hB2
  have T1 := Lib.hid t1
  have T2 := Lib.hid t2
  clear z1 B1 B2 hB2 t1 t2
  have hli1 := light_d W2 n1 s1 a1 X.length c1
  have hli2 := fun V => light_d V n2 s2 a2 Y.length c2
  unfold dsV at hli1 hli2
  have p0 := block_cell T1.out 0
  have p1 := block_cell T1.out 1
  have p2 := block_cell T1.out 2
  have l1 := (Array.getElem?_eq_some_iff.1 T1.out).1
  simp at p0 p1 p2
  by_cases hlX : X.length ≤ 300
  · rw [decide_eq_true hlX] at hli1
    have Hli1 := Lib.hid hli1
    by_cases hlY : Y.length ≤ 300
    · simp only [decide_eq_true hlY] at hli2
      have Hli2 := Lib.hid hli2
      have x3 : (3000 : Int) < (bs.length : Int) := by
        have : ¬ bs.length ≤ 3000 := fun h => hall ⟨hlX, hlY, h⟩
        omega
      clear hli1 hli2 hlX hlY hall
      go_enter Try.func7, Try.ntmps7
      go_upto_region 1 with fail
      rw [← hW1, ← hW2, ← hb2, ← hb1]
      clear hW1 hW2 hb1 hb2
      go_wp2_with fail
      refine (show Calls _ _ _ _ _ from Hli1.out).mono ?_
      rintro e V1 ⟨rfl, hv1⟩
      have t2 := bx_below hv1 T2.out
      have q0 := block_cell t2 0
      have q1 := block_cell t2 1
      have q2 := block_cell t2 2
      have l2 := (Array.getElem?_eq_some_iff.1 t2).1
      simp at q0 q1 q2
      have HV1 := Lib.hid (below_on HB2.out hv1 (Nat.le_refl _))
      clear p0 p1 p2 l1 t2 hv1
      go_wp2_with fail
      refine (show Calls _ _ _ _ _ from Hli2.out V1).mono ?_
      rintro e V2 ⟨rfl, hv2⟩
      have Hlv := Lib.hid (lives13 V2)
      go_wp2_with fail
      refine (show Calls _ _ _ _ _ from Hlv.out).mono ?_
      rintro e V3 ⟨rfl, hv3⟩
      go_wp2_with fail
      go_ret
      exact ⟨rfl, below_on HV1.out (below_on hv2 hv3 (Nat.le_refl _)) (Nat.le_refl _)⟩
    · simp only [decide_eq_false hlY] at hli2
      have Hli2 := Lib.hid hli2
      clear hli1 hli2 hlX hlY hall
      go_enter Try.func7, Try.ntmps7
      go_upto_region 1 with fail
      rw [← hW1, ← hW2, ← hb2, ← hb1]
      clear hW1 hW2 hb1 hb2
      go_wp2_with fail
      refine (show Calls _ _ _ _ _ from Hli1.out).mono ?_
      rintro e V1 ⟨rfl, hv1⟩
      have t2 := bx_below hv1 T2.out
      have q0 := block_cell t2 0
      have q1 := block_cell t2 1
      have q2 := block_cell t2 2
      have l2 := (Array.getElem?_eq_some_iff.1 t2).1
      simp at q0 q1 q2
      have HV1 := Lib.hid (below_on HB2.out hv1 (Nat.le_refl _))
      clear p0 p1 p2 l1 t2 hv1
      go_wp2_with fail
      refine (show Calls _ _ _ _ _ from Hli2.out V1).mono ?_
      rintro e V2 ⟨rfl, hv2⟩
      have Hlv := Lib.hid (lives13 V2)
      go_wp2_with fail
      refine (show Calls _ _ _ _ _ from Hlv.out).mono ?_
      rintro e V3 ⟨rfl, hv3⟩
      go_wp2_with fail
      go_ret
      exact ⟨rfl, below_on HV1.out (below_on hv2 hv3 (Nat.le_refl _)) (Nat.le_refl _)⟩
  · rw [decide_eq_false hlX] at hli1
    have Hli1 := Lib.hid hli1
    clear hli1 hli2 hlX hall
    go_enter Try.func7, Try.ntmps7
    go_upto_region 1 with fail
    rw [← hW1, ← hW2, ← hb2, ← hb1]
    clear hW1 hW2 hb1 hb2
    go_wp2_with fail
    refine (show Calls _ _ _ _ _ from Hli1.out).mono ?_
    rintro e V1 ⟨rfl, hv1⟩
    have HV1 := Lib.hid (below_on HB2.out hv1 (Nat.le_refl _))
    have Hlv := Lib.hid (lives13 V1)
    clear p0 p1 p2 l1
    go_wp2_with fail
    refine (show Calls _ _ _ _ _ from Hlv.out).mono ?_
    rintro e V3 ⟨rfl, hv3⟩
    go_wp2_with fail
    go_ret
    exact ⟨rfl, below_on HV1.out hv3 (Nat.le_refl _)⟩
theorem deadlineBytes_walk (n1 s1 : Int) (a1 : Option Addr) (c1 : Nat) (X : List Th) (n2 s2 : Int) (a2 : Option Addr) (c2 : Nat) (Y : List Th) (ab : Option Addr) (cb : Nat) (bs : List UInt8) (W : World) (h0 : 0 ≤ s1) (hX : ThR W a1 c1 X) (hXok : ∀ t ∈ X, ThOk t) (h1 : 0 ≤ s2) (hY : ThR W a2 c2 Y) (hYok : ∀ t ∈ Y, ThOk t) (hs : Bs W ab cb bs) :
    Calls Try.prog 7 #[dsV n1 s1 a1 X.length c1, dsV n2 s2 a2 Y.length c2, .slice ab bs.length cb] W fun e W' => e = .returned (.bool true) ∧ Below W.heap.size W W' :=
  bytes13_walk W n1 s1 a1 c1 X n2 s2 a2 c2 Y ab cb bs hX (fun t ht => ⟨(hXok t ht).id, (hXok t ht).gen⟩) h0 hY hs
end Go.Proofs.Ytedlplkomfiahaa
