/- Lemmas for DeadlineBytes (Eh). No statement of the seat is proved here. -/
import Derived.Deep.RegionLaw
import Derived.Deep.RegionHeld3
import Derived.Test.YtedlplkomfiahaaT26
namespace Go.Proofs.Ytedlplkomfiahaa
set_option linter.unusedVariables false
set_option linter.unusedSimpArgs false
set_option linter.unusedSectionVars false
open Go Go.RowKit Go.Shelf Go.Maps Go.Deep
theorem neqb13 (b : Bool) (w : World) : (binOp .neq 4 (.bool b) (.bool b)).run Try.prog w = .ok (.bool false) w := by cases b <;> kernel_rfl
theorem eqlb13 (b : Bool) (w : World) : (binOp .eql 4 (.bool b) (.bool b)).run Try.prog w = .ok (.bool true) w := by cases b <;> kernel_rfl
theorem left_blk13 {W : World} {p n cap : Nat} {ao : Option Addr} {bad : Bool} (h : W.heap[p]? = some (.cells #[.slice ao n cap, .bool bad] 106 (0, 0))) :
    Calls Try.prog 30 #[.pointer (some ⟨p, 0, none⟩)] W fun e W' => e = .returned (.int .i64 n) ∧ W = W' := by
  have c0 := block_cell h 0
  simp at c0
  go_enter Try.func30, Try.ntmps30
  go_wp2_with fail
  go_ret
  exact ⟨rfl, rfl⟩
theorem bad_blk13 {W : World} {p n cap : Nat} {ao : Option Addr} {bad : Bool} (h : W.heap[p]? = some (.cells #[.slice ao n cap, .bool bad] 106 (0, 0))) :
    Calls Try.prog 31 #[.pointer (some ⟨p, 0, none⟩)] W fun e W' => e = .returned (.bool bad) ∧ W = W' := by
  have c1 := block_cell h 1
  simp at c1
  go_enter Try.func31, Try.ntmps31
  go_wp2_with fail
  go_ret
  exact ⟨rfl, rfl⟩
theorem ldSb {W : World} {b o : Nat} {ao : Option Addr} {n cap : Nat} (h : W.cell? ⟨b, o, none⟩ = some (.slice ao n cap)) : (Instr.loadAt 64 (.pointer (some ⟨b, o, none⟩))).run Try.prog W = .ok (.slice ao n cap) W := by go_simp
theorem ldBo13 {W : World} {b o : Nat} {x : Bool} (h : W.cell? ⟨b, o, none⟩ = some (.bool x)) : (Instr.loadAt 4 (.pointer (some ⟨b, o, none⟩))).run Try.prog W = .ok (.bool x) W := by go_simp
theorem neqs13 (s : ByteArray) (w : World) : (binOp .neq 9 (.string s) (.string s)).run Try.prog w = .ok (.bool false) w := by
  simp [go_sem]
theorem wpAnyH_mono13 {P : Program} {md : Region.Mode} {ops : Array Oper} {Q : Exit → Act → World → Prop} {S S' : World → Prop} (hs : ∀ w, S' w → S w) : ∀ (fuel : Nat) (L : Array Bool) (a : Act) (w : World), wpAnyH P md ops Q S' fuel L a w → wpAnyH P md ops Q S fuel L a w
  | 0, _, _, _, h => h
  | fuel + 1, _, _, _, h => ⟨h.1, fun i hi => wpOp_mono (fun a' w' h' => ⟨hs _ h'.1, wpAnyH_mono13 hs fuel _ a' w' h'.2⟩) (h.2 i hi)⟩
theorem ldDt {W : World} {b : Nat} {now last : Int} {v : Value} (h : W.heap[b]? = some (.cells #[.int .i64 now, .int .u64 last, v] dsT (0, 0))) (ao : Option Addr) (n cap : Nat) (hv : v = .slice ao n cap) : (Instr.loadAt dsT (.pointer (some ⟨b, 0, none⟩))).run Try.prog W = .ok (.agg #[.int .i64 now, .int .u64 last, v]) W := by
  subst hv
  have l1 := (Array.getElem?_eq_some_iff.1 h).1
  have c0 := block_cell h 0
  have c1 := block_cell h 1
  have c2 := block_cell h 2
  simp at c0 c1 c2
  go_simp
theorem snd_eq {sA : Bool} {now last : Int} {X : List Th} (hs : sA = true ↔ SoundP now last X) {W : World} {f : Nat} {args : Array Value} (h : Calls Try.prog f args W (SndIs W now last X)) : Calls Try.prog f args W fun e W' => e = .returned (.bool sA) ∧ Below W.heap.size W W' := h.mono fun e W' hh => by
  obtain ⟨v, rfl, hv, hb⟩ := hh
  have : v = sA := by
    cases v <;> cases sA <;> simp_all
  exact ⟨by rw [this], hb⟩
theorem dsame_self (W : World) (n1 s1 : Int) (a1 : Option Addr) (c1 : Nat) (X : List Th) (hX : ThR W a1 c1 X) (hl : X.length ≤ 1000) :
    Calls Try.prog 23 #[dsV n1 s1 a1 X.length c1, dsV n1 s1 a1 X.length c1] W fun e W' => e = .returned (.bool true) ∧ Below W.heap.size W W' := by
  refine (dsame_any W n1 s1 a1 c1 X n1 s1 a1 c1 X hX hX hl).mono ?_
  rintro e W' ⟨rfl, hb⟩
  exact ⟨by rw [decide_eq_true ⟨rfl, rfl, rfl⟩], hb⟩
set_option maxRecDepth 100000 in
set_option maxHeartbeats 16000000 in
theorem bytes13_main (W : World) (n1 s1 : Int) (a1 : Option Addr) (c1 : Nat) (X : List Th) (n2 s2 : Int) (a2 : Option Addr) (c2 : Nat) (Y : List Th) (ab : Option Addr) (cb : Nat) (bs : List UInt8)
    (hX : ThR W a1 c1 X) (hXo : ∀ t ∈ X, IdOk t.id ∧ IdOk t.gen) (h0 : 0 ≤ s1) (hY : ThR W a2 c2 Y) (hs : Bs W ab cb bs) (hlX : X.length ≤ 300) (hlY : Y.length ≤ 300) (hlb : bs.length ≤ 3000) :
    Calls Try.prog 7 #[dsV n1 s1 a1 X.length c1, dsV n2 s2 a2 Y.length c2, .slice ab bs.length cb] W fun e W' => e = .returned (.bool true) ∧ Below W.heap.size W W' := by
  have HX := Lib.hid hX
  have HY := Lib.hid hY
  have HS := Lib.hid hs
  have HXo := Lib.hid hXo
  have H0 := Lib.hid h0
  have HlX := Lib.hid hlX
  have HlY := Lib.hid hlY
  have x3 : ¬ (3000 : Int) < (bs.length : Int) := by omega
  have Hlb := Lib.hid hlb
  clear hX hY hs hXo h0 hlb
  unfold dsV
  obtain ⟨W1, hW1⟩ : ∃ W1, W1 = W.alloc (.cells #[.int .i64 n1, .int .u64 s1, .slice a1 X.length c1] dsT) := ⟨_, rfl⟩
  obtain ⟨W2, hW2⟩ : ∃ W2, W2 = W1.alloc (.cells #[.int .i64 n2, .int .u64 s2, .slice a2 Y.length c2] dsT) := ⟨_, rfl⟩
  obtain ⟨b1, hb1⟩ : ∃ b, b = W.heap.size := ⟨_, rfl⟩
  obtain ⟨b2, hb2⟩ : ∃ b, b = W.heap.size + 1 := ⟨_, rfl⟩
  have z1 : W1.heap.size = W.heap.size + 1 := by rw [hW1]; simp
  have B1 : Below W.heap.size W W1 := by rw [hW1]; exact below_new _ _
  have B2 : Below W1.heap.size W1 W2 := by rw [hW2]; exact below_new _ _
  have hB2 := below_on B1 B2 (Nat.le_refl _)
  have t1 : W2.heap[b1]? = some (.cells #[.int .i64 n1, .int .u64 s1, .slice a1 X.length c1] dsT (0, 0)) := by
    rw [B2.block b1 (by omega), hW1, hb1]; exact heap_alloc_new _ _
  have t2 : W2.heap[b2]? = some (.cells #[.int .i64 n2, .int .u64 s2, .slice a2 Y.length c2] dsT (0, 0)) := by
    rw [hW2, hb2, ← z1]; exact heap_alloc_new _ _
  have Hup : Hid (W.heap.size ≤ b1 ∧ W.heap.size ≤ b2) := ⟨by omega, by omega⟩
  have Hap : Hid (b1 ≠ b2) := (by omega : b1 ≠ b2)
  have HB2 := Lib.hid hB2
  have T1 := Lib.hid t1
  have T2 := Lib.hid t2
  clear z1 B1 B2 hB2 t1 t2
  have hli1 := light_d W2 n1 s1 a1 X.length c1
  rw [decide_eq_true hlX] at hli1
  have hli2 := fun V => light_d V n2 s2 a2 Y.length c2
  simp only [decide_eq_true hlY] at hli2
  unfold dsV at hli1 hli2
  have Hli1 := Lib.hid hli1
  have Hli2 := Lib.hid hli2
  clear hli1 hli2 hlX hlY
  have p0 := block_cell T1.out 0
  have p1 := block_cell T1.out 1
  have p2 := block_cell T1.out 2
  have l1 := (Array.getElem?_eq_some_iff.1 T1.out).1
  simp at p0 p1 p2
  obtain ⟨sA, hsA⟩ : ∃ b : Bool, b = true ↔ SoundP n1 s1 X := ⟨by classical exact decide (SoundP n1 s1 X), by simp⟩
  have HsA := Lib.hid hsA
  obtain ⟨sC, hsC⟩ : ∃ b : Bool, b = decide (n1 = n2 ∧ s1 = s2 ∧ X = Y) := ⟨_, rfl⟩
  have HsC := Lib.hid hsC
  have hnb := neqb13
  clear hsA hsC
  go_enter Try.func7, Try.ntmps7
  go_upto_region 1 with fail
  rw [← hW1, ← hW2, ← hb2, ← hb1]
  clear hW1 hW2 hb1 hb2
  go_wp2_with fail
  refine (show Calls _ _ _ _ _ from Hli1.out).mono ?_
  rintro e V1 ⟨rfl, hv1⟩
  have t2 := bx_below hv1 T2.out
  have q0 := block_cell t2 0
  have q1 := block_cell t2 1
  have q2 := block_cell t2 2
  have l2 := (Array.getElem?_eq_some_iff.1 t2).1
  simp at q0 q1 q2
  have HV1 := Lib.hid hv1
  clear p0 p1 p2 l1 t2 hv1
  go_wp2_with fail
  refine (show Calls _ _ _ _ _ from Hli2.out V1).mono ?_
  rintro e Z ⟨rfl, hv2⟩
  have hZ := below_on HB2.out (below_on HV1.out hv2 (Nat.le_refl _)) (Nat.le_refl _)
  have HZ := Lib.hid hZ
  have HZ2 := Lib.hid (below_on HV1.out hv2 (Nat.le_refl _))
  have TZ1 := Lib.hid (bx_below HZ2.out T1.out)
  have TZ2 := Lib.hid (bx_below HZ2.out T2.out)
  have HXZ := Lib.hid (HX.out.below hZ)
  have HYZ := Lib.hid (HY.out.below hZ)
  have HB0 := Lib.hid ((Below.refl Z.heap.size Z).drew)
  have hld : ∀ W', Below Z.heap.size Z W' → (Instr.loadAt dsT (.pointer (some ⟨b1, 0, none⟩))).run Try.prog W' = .ok (.agg #[.int .i64 n1, .int .u64 s1, .slice a1 X.length c1]) W' ∧ (Instr.loadAt dsT (.pointer (some ⟨b2, 0, none⟩))).run Try.prog W' = .ok (.agg #[.int .i64 n2, .int .u64 s2, .slice a2 Y.length c2]) W' := fun W' hw => ⟨ldDt (bx_below hw TZ1.out) _ _ _ rfl, ldDt (bx_below hw TZ2.out) _ _ _ rfl⟩
  have Hld := Lib.hid hld
  have Hso1 : Hid (∀ V, Below Z.heap.size Z V → Calls Try.prog 22 #[dsV n1 s1 a1 X.length c1] V fun e W' => e = .returned (.bool sA) ∧ Below V.heap.size V W') := Lib.hid fun V hw => snd_eq HsA.out (dsound_any V n1 s1 a1 c1 X (HXZ.out.below hw) (by have := HlX.out; omega) HXo.out)
  have Hso2 : Hid (∀ V a c, Rt V a c (slot0 X) → Calls Try.prog 17 #[dsV n1 s1 a X.length c] V fun e W' => e = .returned (.bool sA) ∧ Below V.heap.size V W') := Lib.hid fun V a c hr => snd_eq HsA.out (rsound13 V n1 s1 a c X hr (by have := HlX.out; omega))
  have Hpx : Hid (∀ V, Below Z.heap.size Z V → Calls Try.prog 16 #[dsV n1 s1 a1 X.length c1] V (RStIs V n1 s1 X)) := Lib.hid fun V hw => plain13_any V n1 s1 a1 c1 X (HXZ.out.below hw) (by have := HlX.out; omega)
  have Hpy : Hid (∀ V, Below Z.heap.size Z V → Calls Try.prog 16 #[dsV n2 s2 a2 Y.length c2] V (RStIs V n2 s2 Y)) := Lib.hid fun V hw => plain13_any V n2 s2 a2 c2 Y (HYZ.out.below hw) (by have := HlY.out; omega)
  have Hsm1 : Hid (∀ V, Below Z.heap.size Z V → Calls Try.prog 23 #[dsV n1 s1 a1 X.length c1, dsV n2 s2 a2 Y.length c2] V fun e W' => e = .returned (.bool sC) ∧ Below V.heap.size V W') := Lib.hid fun V hw => by rw [HsC.out]; exact dsame_any V n1 s1 a1 c1 X n2 s2 a2 c2 Y (HXZ.out.below hw) (HYZ.out.below hw) (by have := HlX.out; omega)
  have Hsm2 : Hid (∀ V a c a' c', Rt V a c (slot0 X) → Rt V a' c' (slot0 Y) → Calls Try.prog 19 #[dsV n1 s1 a X.length c, dsV n2 s2 a' Y.length c'] V fun e W' => e = .returned (.bool sC) ∧ Below V.heap.size V W') := Lib.hid fun V a c a' c' h1 h2 => by rw [HsC.out]; exact rsame13_any V n1 s1 a c X n2 s2 a' c' Y h1 h2 (by have := HlX.out; omega)
  have Hsm3 : Hid (∀ V, Below Z.heap.size Z V → Calls Try.prog 23 #[dsV n1 s1 a1 X.length c1, dsV n1 s1 a1 X.length c1] V fun e W' => e = .returned (.bool true) ∧ Below V.heap.size V W') := Lib.hid fun V hw => dsame_self V n1 s1 a1 c1 X (HXZ.out.below hw) (by have := HlX.out; omega)
  clear q0 q1 q2 l2 hv2 hZ hld
  go_upto_region 3 with fail
  refine wp_region_held_drew (S := fun W' => Below Z.heap.size Z W') (by kernel_rfl) HB0.out (fun hHeld => ?_)
  refine wpAnyH_take (i := 0) (v := .agg #[.int .i64 n1, .int .u64 s1, .slice a1 X.length c1]) rfl (by kernel_rfl) (by kernel_rfl) (by kernel_rfl) (fun _ _ _ h => h) (Or.inl ⟨by rfl, ?_⟩) (by assumption) ?_
  · intro w8 hSw; exact ld_takeT rfl (Hld.out w8 hSw).1 rfl
  simp only [Act.put, List.getElem_toArray, List.getElem_cons_zero, List.getElem_cons_succ, List.setIfInBounds_toArray, List.set_cons_zero, List.set_cons_succ]
  refine wpAnyH_take (i := 2) (v := .agg #[.int .i64 n1, .int .u64 s1, .slice a1 X.length c1]) rfl (by kernel_rfl) (by kernel_rfl) (by kernel_rfl) (fun _ _ _ h => h) (Or.inl ⟨by rfl, ?_⟩) (by assumption) ?_
  · intro w8 hSw; exact ld_takeT rfl (Hld.out w8 hSw).1 rfl
  simp only [Act.put, List.getElem_toArray, List.getElem_cons_zero, List.getElem_cons_succ, List.setIfInBounds_toArray, List.set_cons_zero, List.set_cons_succ]
  refine wpAnyH_ready (rs := [1]) (by kernel_rfl) (by simp) ?_
  refine AllReadyH.cons rfl (fun K hK => ?_) AllReadyH.nil
  go_simp
  go_at_call 22
  refine (Hso1.out Z.drew HB0.out).mono ?_
  rintro e U1 ⟨rfl, hb1⟩; have hB1 := below_on HB0.out hb1 (Nat.le_refl _)
  refine hK.out _ _ hB1 (fun hHeld => ?_)
  clear hK K
  try simp only [Act.put, List.getElem_toArray, List.getElem_cons_zero, List.getElem_cons_succ, List.setIfInBounds_toArray, List.set_cons_zero, List.set_cons_succ]
  refine wpAnyH_ready (rs := [3]) (by kernel_rfl) (by simp) ?_
  refine AllReadyH.cons rfl (fun K hK => ?_) AllReadyH.nil
  go_simp
  go_at_call 16
  refine (Hpx.out U1 hB1).mono ?_
  rintro e U3 ⟨a3, c3, rfl, ho3, hb3⟩; have hB3 := below_on hB1 hb3 (Nat.le_refl _)
  refine hK.out _ _ hB3 (fun hHeld => ?_)
  clear hK K
  try simp only [Act.put, List.getElem_toArray, List.getElem_cons_zero, List.getElem_cons_succ, List.setIfInBounds_toArray, List.set_cons_zero, List.set_cons_succ]
  refine wpAnyH_ready (rs := [4]) (by kernel_rfl) (by simp) ?_
  refine AllReadyH.cons rfl (fun K hK => ?_) AllReadyH.nil
  go_simp
  go_at_call 17
  refine (Hso2.out U3 a3 c3 (rtx_of ho3)).mono ?_
  rintro e U4 ⟨rfl, hb4⟩; have hB4 := below_on hB3 hb4 (Nat.le_refl _)
  refine hK.out _ _ hB4 (fun hHeld => ?_)
  clear hK K
  try simp only [Act.put, List.getElem_toArray, List.getElem_cons_zero, List.getElem_cons_succ, List.setIfInBounds_toArray, List.set_cons_zero, List.set_cons_succ]
  refine wpAnyH_take (i := 5) (v := ?_) rfl (by kernel_rfl) (by kernel_rfl) (by kernel_rfl) (fun _ _ _ h => h) (Or.inl ⟨by rfl, ?_⟩) (by assumption) ?_
  rotate_left
  · intro w8 hSw; clear hSw; go_simp; (try with_reducible rfl)
  simp only [Act.put, List.getElem_toArray, List.getElem_cons_zero, List.getElem_cons_succ, List.setIfInBounds_toArray, List.set_cons_zero, List.set_cons_succ]
  refine wpAnyH_take (i := 6) (v := ?_) rfl (by kernel_rfl) (by kernel_rfl) (by kernel_rfl) (fun _ _ _ h => h) (Or.inl ⟨by rfl, ?_⟩) (by assumption) ?_
  rotate_left
  · intro w8 hSw; clear hSw; go_simp; (try with_reducible rfl)
  simp only [Act.put, List.getElem_toArray, List.getElem_cons_zero, List.getElem_cons_succ, List.setIfInBounds_toArray, List.set_cons_zero, List.set_cons_succ]
  refine wpAnyH_take (i := 7) (v := .agg #[.int .i64 n1, .int .u64 s1, .slice a1 X.length c1]) rfl (by kernel_rfl) (by kernel_rfl) (by kernel_rfl) (fun _ _ _ h => h) (Or.inl ⟨by rfl, ?_⟩) (by assumption) ?_
  · intro w8 hSw; exact ld_takeT rfl (Hld.out w8 hSw).1 rfl
  simp only [Act.put, List.getElem_toArray, List.getElem_cons_zero, List.getElem_cons_succ, List.setIfInBounds_toArray, List.set_cons_zero, List.set_cons_succ]
  refine wpAnyH_take (i := 8) (v := .agg #[.int .i64 n2, .int .u64 s2, .slice a2 Y.length c2]) rfl (by kernel_rfl) (by kernel_rfl) (by kernel_rfl) (fun _ _ _ h => h) (Or.inl ⟨by rfl, ?_⟩) (by assumption) ?_
  · intro w8 hSw; exact ld_takeT rfl (Hld.out w8 hSw).2 rfl
  simp only [Act.put, List.getElem_toArray, List.getElem_cons_zero, List.getElem_cons_succ, List.setIfInBounds_toArray, List.set_cons_zero, List.set_cons_succ]
  refine wpAnyH_take (i := 10) (v := .agg #[.int .i64 n1, .int .u64 s1, .slice a1 X.length c1]) rfl (by kernel_rfl) (by kernel_rfl) (by kernel_rfl) (fun _ _ _ h => h) (Or.inl ⟨by rfl, ?_⟩) (by assumption) ?_
  · intro w8 hSw; exact ld_takeT rfl (Hld.out w8 hSw).1 rfl
  simp only [Act.put, List.getElem_toArray, List.getElem_cons_zero, List.getElem_cons_succ, List.setIfInBounds_toArray, List.set_cons_zero, List.set_cons_succ]
  refine wpAnyH_take (i := 12) (v := .agg #[.int .i64 n2, .int .u64 s2, .slice a2 Y.length c2]) rfl (by kernel_rfl) (by kernel_rfl) (by kernel_rfl) (fun _ _ _ h => h) (Or.inl ⟨by rfl, ?_⟩) (by assumption) ?_
  · intro w8 hSw; exact ld_takeT rfl (Hld.out w8 hSw).2 rfl
  simp only [Act.put, List.getElem_toArray, List.getElem_cons_zero, List.getElem_cons_succ, List.setIfInBounds_toArray, List.set_cons_zero, List.set_cons_succ]
  refine wpAnyH_ready (rs := [9]) (by kernel_rfl) (by simp) ?_
  refine AllReadyH.cons rfl (fun K hK => ?_) AllReadyH.nil
  go_simp
  go_at_call 23
  refine (Hsm1.out U4 hB4).mono ?_
  rintro e U5 ⟨rfl, hb5⟩; have hB5 := below_on hB4 hb5 (Nat.le_refl _)
  refine hK.out _ _ hB5 (fun hHeld => ?_)
  clear hK K
  try simp only [Act.put, List.getElem_toArray, List.getElem_cons_zero, List.getElem_cons_succ, List.setIfInBounds_toArray, List.set_cons_zero, List.set_cons_succ]
  refine wpAnyH_ready (rs := [11]) (by kernel_rfl) (by simp) ?_
  refine AllReadyH.cons rfl (fun K hK => ?_) AllReadyH.nil
  go_simp
  go_at_call 16
  refine (Hpx.out U5 hB5).mono ?_
  rintro e U6 ⟨a6, c6, rfl, ho6, hb6⟩; have hB6 := below_on hB5 hb6 (Nat.le_refl _)
  refine hK.out _ _ hB6 (fun hHeld => ?_)
  clear hK K
  try simp only [Act.put, List.getElem_toArray, List.getElem_cons_zero, List.getElem_cons_succ, List.setIfInBounds_toArray, List.set_cons_zero, List.set_cons_succ]
  refine wpAnyH_ready (rs := [13]) (by kernel_rfl) (by simp) ?_
  refine AllReadyH.cons rfl (fun K hK => ?_) AllReadyH.nil
  go_simp
  go_at_call 16
  refine (Hpy.out U6 hB6).mono ?_
  rintro e U7 ⟨a7, c7, rfl, ho7, hb7⟩; have hB7 := below_on hB6 hb7 (Nat.le_refl _)
  refine hK.out _ _ hB7 (fun hHeld => ?_)
  clear hK K
  try simp only [Act.put, List.getElem_toArray, List.getElem_cons_zero, List.getElem_cons_succ, List.setIfInBounds_toArray, List.set_cons_zero, List.set_cons_succ]
  refine wpAnyH_ready (rs := [14]) (by kernel_rfl) (by simp) ?_
  refine AllReadyH.cons rfl (fun K hK => ?_) AllReadyH.nil
  go_simp
  go_at_call 19
  refine (Hsm2.out U7 a6 c6 a7 c7 ((rtx_of ho6).below hb7) (rtx_of ho7)).mono ?_
  rintro e U8 ⟨rfl, hb8⟩; have hB8 := below_on hB7 hb8 (Nat.le_refl _)
  refine hK.out _ _ hB8 (fun hHeld => ?_)
  clear hK K
  try simp only [Act.put, List.getElem_toArray, List.getElem_cons_zero, List.getElem_cons_succ, List.setIfInBounds_toArray, List.set_cons_zero, List.set_cons_succ]
  refine wpAnyH_take (i := 15) (v := ?_) rfl (by kernel_rfl) (by kernel_rfl) (by kernel_rfl) (fun _ _ _ h => h) (Or.inl ⟨by rfl, ?_⟩) (by assumption) ?_
  rotate_left
  · intro w8 hSw; clear hSw; go_simp; (try with_reducible rfl)
  simp only [Act.put, List.getElem_toArray, List.getElem_cons_zero, List.getElem_cons_succ, List.setIfInBounds_toArray, List.set_cons_zero, List.set_cons_succ]
  refine wpAnyH_take (i := 16) (v := ?_) rfl (by kernel_rfl) (by kernel_rfl) (by kernel_rfl) (fun _ _ _ h => h) (Or.inl ⟨by rfl, ?_⟩) (by assumption) ?_
  rotate_left
  · intro w8 hSw; clear hSw; go_simp; (try with_reducible rfl)
  simp only [Act.put, List.getElem_toArray, List.getElem_cons_zero, List.getElem_cons_succ, List.setIfInBounds_toArray, List.set_cons_zero, List.set_cons_succ]
  refine wpAnyH_take (i := 17) (v := ?_) rfl (by kernel_rfl) (by kernel_rfl) (by kernel_rfl) (fun _ _ _ h => h) (Or.inl ⟨by rfl, ?_⟩) (by assumption) ?_
  rotate_left
  · intro w8 hSw; clear hSw; go_simp; (try with_reducible rfl)
  simp only [Act.put, List.getElem_toArray, List.getElem_cons_zero, List.getElem_cons_succ, List.setIfInBounds_toArray, List.set_cons_zero, List.set_cons_succ]
  refine wpAnyH_take (i := 18) (v := .agg #[.int .i64 n1, .int .u64 s1, .slice a1 X.length c1]) rfl (by kernel_rfl) (by kernel_rfl) (by kernel_rfl) (fun _ _ _ h => h) (Or.inl ⟨by rfl, ?_⟩) (by assumption) ?_
  · intro w8 hSw; exact ld_takeT rfl (Hld.out w8 hSw).1 rfl
  simp only [Act.put, List.getElem_toArray, List.getElem_cons_zero, List.getElem_cons_succ, List.setIfInBounds_toArray, List.set_cons_zero, List.set_cons_succ]
  refine wpAnyH_take (i := 19) (v := .agg #[.int .i64 n1, .int .u64 s1, .slice a1 X.length c1]) rfl (by kernel_rfl) (by kernel_rfl) (by kernel_rfl) (fun _ _ _ h => h) (Or.inl ⟨by rfl, ?_⟩) (by assumption) ?_
  · intro w8 hSw; exact ld_takeT rfl (Hld.out w8 hSw).1 rfl
  simp only [Act.put, List.getElem_toArray, List.getElem_cons_zero, List.getElem_cons_succ, List.setIfInBounds_toArray, List.set_cons_zero, List.set_cons_succ]
  refine wpAnyH_ready (rs := [20]) (by kernel_rfl) (by simp) ?_
  refine AllReadyH.cons rfl (fun K hK => ?_) AllReadyH.nil
  go_simp
  go_at_call 23
  refine (Hsm3.out U8 hB8).mono ?_
  rintro e U9 ⟨rfl, hb9⟩; have hB9 := below_on hB8 hb9 (Nat.le_refl _)
  refine hK.out _ _ hB9 (fun hHeld => ?_)
  clear hK K
  try simp only [Act.put, List.getElem_toArray, List.getElem_cons_zero, List.getElem_cons_succ, List.setIfInBounds_toArray, List.set_cons_zero, List.set_cons_succ]
  refine wpAnyH_take (i := 21) (v := ?_) rfl (by kernel_rfl) (by kernel_rfl) (by kernel_rfl) (fun _ _ _ h => h) (Or.inl ⟨by rfl, ?_⟩) (by assumption) ?_
  rotate_left
  · intro w8 hSw; clear hSw; go_simp; (try with_reducible rfl)
  simp only [Act.put, List.getElem_toArray, List.getElem_cons_zero, List.getElem_cons_succ, List.setIfInBounds_toArray, List.set_cons_zero, List.set_cons_succ]
  refine wpAnyH_take (i := 22) (v := ?_) rfl (by kernel_rfl) (by kernel_rfl) (by kernel_rfl) (fun _ _ _ h => h) (Or.inl ⟨by rfl, ?_⟩) (by assumption) ?_
  rotate_left
  · intro w8 hSw; clear hSw; go_simp; (try with_reducible rfl)
  simp only [Act.put, List.getElem_toArray, List.getElem_cons_zero, List.getElem_cons_succ, List.setIfInBounds_toArray, List.set_cons_zero, List.set_cons_succ]
  refine wpAnyH_done (by kernel_rfl) ?_ _
  have HB9 := Lib.hid hB9
  have HXY := Lib.hid (And.intro (HXZ.out.below hB9) (HYZ.out.below hB9))
  have T9 := Lib.hid (bx_below hB9 TZ1.out)
  have Hso9 := Lib.hid (Hso1.out U9 hB9)
  have Hrow : Hid (0 < X.length → ∀ a, a1 = some a → a.block < W.heap.size) := Lib.hid fun h0 a e => by
    obtain ⟨b, off, e2, hb, -⟩ := HX.out.cells 0 h0
    rw [e] at e2
    cases e2
    exact hb
  unfold dsV at Hso9
  have p0 := block_cell T9.out 0
  have p1 := block_cell T9.out 1
  have p2 := block_cell T9.out 2
  have l1 := (Array.getElem?_eq_some_iff.1 T9.out).1
  simp at p0 p1 p2
  clear hB1 hB3 hB4 hB5 hB6 hB7 hB8 hB9 hb1 hb3 hb4 hb5 hb6 hb7 hb8 hb9 ho3 ho6 ho7 hHeld Hso1 Hso2 Hpy Hsm1 Hsm2 Hsm3
  go_wp2_with fail
  refine (show Calls _ _ _ _ _ from Hso9.out).mono ?_
  rintro e Z1 ⟨rfl, hz1⟩
  have hZ1 := below_on HB9.out hz1 (Nat.le_refl _)
  have HZ1 := Lib.hid hZ1
  have TZ := Lib.hid (bx_below hz1 T9.out)
  clear p0 p1 p2 l1 hz1 hZ1 Hso9
  go_upto_if 54 with fail
  go_cut [] (fun wx => Below Z.heap.size Z wx)
  case first =>
    cases sA with
    | false =>
      go_wp2_with fail
      go_meet
      exact HZ1.out
    | true =>
      have hP : SoundP n1 s1 X := HsA.out.1 rfl
      have hn0 : 0 ≤ n1 ∧ n1 ≤ 1125899906842624 := hP.1
      have hs1 : s1 ≤ 1152921504606846976 := hP.2.1
      have e1 : ((n1.toNat : Nat) : Int) = n1 := Int.toNat_of_nonneg hn0.1
      have e2 : ((s1.toNat : Nat) : Int) = s1 := Int.toNat_of_nonneg H0.out
      have hok := encT_ok hP (fun t ht => (HXo.out t ht).1)
      have hrt := readB_enc hP H0.out (fun t ht => (HXo.out t ht).1)
      have hEl := encB_len n1.toNat s1.toNat X (by omega) (by omega) (by have := HlX.out; omega) hok
      have hput := fun (V : World) (q : Nat) (h : Wr V q q (.slice none 0 0) []) (hn : ThR V a1 c1 X) (hf : 0 < X.length → ∀ a, a1 = some a → a.block ≠ q ∧ (Value.slice none 0 0).ownBlock ≠ some a.block) => putB_any n1.toNat s1.toNat (by omega) (by omega) a1 c1 X h hn hok (by have := HlX.out; omega) (by simp) hf
      have hrp := fun (V : World) (a : Option Addr) (c : Nat) (h : Rt V a c (slot0 X)) => refPutB_any n1.toNat s1.toNat (by omega) (by omega) a c X V h hok (by have := HlX.out; omega)
      simp only [List.nil_append] at hput
      rw [e1, e2] at hEl hput hrp
      obtain ⟨E, hE⟩ : ∃ E, E = encB n1 s1 X := ⟨_, rfl⟩
      simp only [← hE] at hrt hEl hput hrp
      have hrp2 : ∀ (V : World) (a : Option Addr) (c : Nat), Rt V a c (slot0 X) → Calls Try.prog 28 #[dsV n1 s1 a X.length c] V fun e W' => ∃ ao2 cap2, e = .returned (.slice ao2 E.length cap2) ∧ W'.ownsRow V.heap.size 5 1 (.slice ao2 E.length cap2) E.length (E.map u8) ∧ Below V.heap.size V W' := fun V a c h => (hrp V a c h).mono fun e W'' ⟨ao2, cap2, l2, h1, h2, h3, h4⟩ => by
        subst h2
        exact ⟨ao2, cap2, h1, h3, h4⟩
      have Hput := Lib.hid hput
      have Hrp := Lib.hid hrp2
      have Hrt := Lib.hid hrt
      have HEl := Lib.hid hEl
      clear hput hrp hrp2 hrt hEl hE e1 e2 hn0 hs1 hok hP
      have HXz := Lib.hid (HXZ.out.below HZ1.out)
      obtain ⟨W6, hW6⟩ : ∃ W6, W6 = Z1.alloc (.cells #[.slice none 0 0] 67) := ⟨_, rfl⟩
      obtain ⟨PW, hPW⟩ : ∃ PW, PW = Z1.heap.size := ⟨_, rfl⟩
      have hb6 : Below Z1.heap.size Z1 W6 := by rw [hW6]; exact below_new _ _
      have x6 : W6.heap[PW]? = some (.cells #[.slice none 0 0] 67 (0, 0)) := by rw [hW6, hPW]; exact heap_alloc_new _ _
      have hz6 := (Array.getElem?_eq_some_iff.1 x6).1
      have hwr6 : Wr W6 PW PW (.slice none 0 0) [] := ⟨x6, World.ownsRow_nil _ _ _ _, Nat.le_refl _, by simp [Value.ownBlock], by omega⟩
      have hB6 := below_on HZ1.out hb6 (Nat.le_refl _)
      have hZP : Z.heap.size ≤ PW := by have := HZ1.out.size; omega
      have hWZ := HZ.out.size
      have T6 := bx_below hb6 TZ.out
      have p0 := block_cell T6 0
      have p1 := block_cell T6 1
      have p2 := block_cell T6 2
      have l1 := (Array.getElem?_eq_some_iff.1 T6).1
      simp at p0 p1 p2
      have Hpt := Lib.hid (Hput.out W6 PW hwr6 (HXz.out.below hb6) (fun h0 a e => ⟨by have := Hrow.out h0 a e; omega, by simp [Value.ownBlock]⟩))
      unfold dsV at Hpt
      have HB6 := Lib.hid hB6
      have HZP := Lib.hid hZP
      have HW6 := Lib.hid hW6
      have HPW := Lib.hid hPW
      have T6' := Lib.hid T6
      have HWZ := Lib.hid hWZ
      clear hb6 x6 hz6 hwr6 hB6 hZP hW6 hPW T6 hWZ p0 p1 p2 l1
      have p0 := block_cell T6'.out 0
      have p1 := block_cell T6'.out 1
      have p2 := block_cell T6'.out 2
      have l1 := (Array.getElem?_eq_some_iff.1 T6'.out).1
      simp at p0 p1 p2
      go_upto_region 7 with fail
      rw [← HW6.out, ← HPW.out]
      go_wp2_with fail
      refine (show Calls _ _ _ _ _ from Hpt.out).mono ?_
      rintro e w7 ⟨rfl, v7, hwr7, hfr7, hv7⟩
      have hB7 : Below Z.heap.size Z w7 := hfr7.below_of HB6.out HB6.out.size HZP.out (fun k e => by simp [Value.ownBlock] at e)
      have Hby := Lib.hid (bytes_wr hwr7 (by have := HEl.out; omega))
      have HB7 := Lib.hid hB7
      have Hwr7 := Lib.hid hwr7
      clear hwr7 hfr7 hv7 hB7 p0 p1 p2 l1 Hpt
      go_wp2_with fail
      refine (show Calls _ _ _ _ _ from Hby.out).mono ?_
      rintro e w8 ⟨ao8, c8, rfl, how8, hb8⟩
      have hB8 := below_on HB7.out hb8 (Nat.le_refl _)
      have hwr8 := Hwr7.out.below hb8
      have Hop := Lib.hid (open_rd ao8 c8 E w8 (Bs.of_own how8))
      have HB8 := Lib.hid hB8
      have Hwr8 := Lib.hid hwr8
      clear how8 hb8 hB8 hwr8 Hwr7 Hby
      go_wp2_with fail
      refine (show Calls _ _ _ _ _ from Hop.out).mono ?_
      rintro e w9 ⟨rfl, hrd9, hb9⟩
      have hB9' := below_on HB8.out hb9 (Nat.le_refl _)
      have hwr9 := Hwr8.out.below hb9
      have hrs := dread_any hrd9
      rw [Hrt.out] at hrs
      unfold ReadToldB at hrs
      simp only at hrs
      have Hrs := Lib.hid hrs
      have HB9' := Lib.hid hB9'
      have Hwr9 := Lib.hid hwr9
      have Hpp : Hid (PW < w8.heap.size ∧ Z.heap.size ≤ w8.heap.size ∧ (∀ k, v7.ownBlock = some k → k < w8.heap.size)) := Lib.hid ⟨(Array.getElem?_eq_some_iff.1 Hwr8.out.blk).1, HB8.out.size, fun k e => (Hwr8.out.own.lt k e).2⟩
      clear hrd9 hb9 hB9' hwr9 hrs Hop
      go_wp2_with fail
      refine (show Calls _ _ _ _ _ from Hrs.out).mono ?_
      rintro e w10 ⟨ao10, c10, ar10, cr10, rfl, ho10, hrd10, hg10⟩
      unfold dsV
      have hB10 : Below Z.heap.size Z w10 := HB9'.out.grown hg10 HB9'.out.size (fun k hk => by cases hk; exact Hpp.out.2.1)
      have hwr10 : Wr w10 PW PW v7 E := ⟨(hg10.block PW (Array.getElem?_eq_some_iff.1 Hwr9.out.blk).1 (by have := Hpp.out.1; simp; omega)).trans Hwr9.out.blk, Hwr9.out.own.kept hg10 (by
        cases hv : v7.ownBlock with
        | none => exact .inl rfl
        | some g => exact .inr (fun e => by have := Hpp.out.2.2 g hv; simp at e; omega)), Nat.le_refl _, Hwr9.out.ne, by have := Hwr9.out.sz; have := hg10.size; omega⟩
      obtain ⟨W11, hW11⟩ : ∃ W11, W11 = w10.alloc (.cells #[.int .i64 n1, .int .u64 s1, .slice ao10 X.length c10] dsT) := ⟨_, rfl⟩
      obtain ⟨Y11, hY11⟩ : ∃ Y, Y = w10.heap.size := ⟨_, rfl⟩
      have hb11 : Below w10.heap.size w10 W11 := by rw [hW11]; exact below_new _ _
      have z11 : W11.heap[Y11]? = some (.cells #[.int .i64 n1, .int .u64 s1, .slice ao10 X.length c10] dsT (0, 0)) := by rw [hW11, hY11]; exact heap_alloc_new _ _
      have hB11 := below_on hB10 hb11 (Nat.le_refl _)
      have HB11 := Lib.hid hB11
      have Z11 := Lib.hid z11
      have T11 := Lib.hid (bx_below hB11 TZ1.out)
      have Hwr11 := Lib.hid (hwr10.below hb11)
      have HR11 := Lib.hid (ThR.of13 (own_below ho10 hb11))
      have HX11 := Lib.hid (HXZ.out.below hB11)
      have HB0' := Lib.hid ((Below.refl W11.heap.size W11).drew)
      have hld : ∀ W', Below W11.heap.size W11 W' → (Instr.loadAt dsT (.pointer (some ⟨b1, 0, none⟩))).run Try.prog W' = .ok (.agg #[.int .i64 n1, .int .u64 s1, .slice a1 X.length c1]) W' ∧ (Instr.loadAt dsT (.pointer (some ⟨Y11, 0, none⟩))).run Try.prog W' = .ok (.agg #[.int .i64 n1, .int .u64 s1, .slice ao10 X.length c10]) W' := fun W' hw => ⟨ldDt (bx_below hw T11.out) _ _ _ rfl, ldDt (bx_below hw Z11.out) _ _ _ rfl⟩
      have Hld2 := Lib.hid hld
      have Hconv : Hid (∀ (ao : Option Addr) (c : Nat) (W : World), Bs W ao c E → (convert 64 9 (.slice ao E.length c)).run Try.prog W = .ok (.string ⟨E.toArray⟩) W) := Lib.hid fun ao c W h =>
        run_string_bs _ _ 5 Try.underlying64 Try.underlying5 Try.underlying9 ao c E h
      have hnst := neqs13
      clear hld hB10 hwr10 ho10 hrd10 hg10 hb11 z11 hB11 Hrs Hwr9
      go_upto_region 9 with fail
      rw [← hW11, ← hY11]
      clear hW11 hY11
      refine wp_region_held_drew (S := fun W' => Below W11.heap.size W11 W') (by kernel_rfl) HB0'.out (fun hHeld => ?_)
      refine wpAnyH_take (i := 2) (v := .agg #[.int .i64 n1, .int .u64 s1, .slice a1 X.length c1]) rfl (by kernel_rfl) (by kernel_rfl) (by kernel_rfl) (fun _ _ _ h => h) (Or.inl ⟨by rfl, ?_⟩) (by assumption) ?_
      · intro w8 hSw; exact ld_takeT rfl (Hld2.out w8 hSw).1 rfl
      simp only [Act.put, List.getElem_toArray, List.getElem_cons_zero, List.getElem_cons_succ, List.setIfInBounds_toArray, List.set_cons_zero, List.set_cons_succ]
      refine wpAnyH_ready (rs := [0]) (by kernel_rfl) (by simp) ?_
      refine AllReadyH.cons rfl (fun K hK => ?_) AllReadyH.nil
      go_simp
      go_at_call 27
      refine (bytes_wr (Hwr11.out.below HB0'.out) (by have := HEl.out; omega)).mono ?_
      rintro e U1 ⟨ao12, c12, rfl, how12, hb12⟩; have hB12 := below_on HB0'.out hb12 (Nat.le_refl _)
      refine hK.out _ _ hB12 (fun hHeld => ?_)
      clear hK K
      try simp only [Act.put, List.getElem_toArray, List.getElem_cons_zero, List.getElem_cons_succ, List.setIfInBounds_toArray, List.set_cons_zero, List.set_cons_succ]
      refine wpAnyH_mono13 (S' := fun W' => Below U1.heap.size U1 W') (fun w h => below_on hB12 h (Nat.le_refl _)) _ _ _ _ ?_
      have hHeld2 : (fun W' => Below U1.heap.size U1 W') U1 := Below.refl _ U1
      refine wpAnyH_take (i := 1) (v := .string ⟨E.toArray⟩) rfl (by kernel_rfl) (by kernel_rfl) (by kernel_rfl) (fun _ _ _ h => h) (Or.inl ⟨by rfl, ?_⟩) (by assumption) ?_
      · intro w8 hSw
        have hcv := Hconv.out ao12 c12 w8 ((Bs.of_own how12).below hSw)
        clear hSw
        go_simp
        try with_reducible rfl
      simp only [Act.put, List.getElem_toArray, List.getElem_cons_zero, List.getElem_cons_succ, List.setIfInBounds_toArray, List.set_cons_zero, List.set_cons_succ]
      refine wpAnyH_ready (rs := [3]) (by kernel_rfl) (by simp) ?_
      refine AllReadyH.cons rfl (fun K hK => ?_) AllReadyH.nil
      go_simp
      go_at_call 16
      refine (plain13_any U1 n1 s1 a1 c1 X (HX11.out.below hB12) (by have := HlX.out; omega)).mono ?_
      rintro e U3 ⟨a3, c3, rfl, ho3, hb3⟩; have hB3 := below_on hB12 hb3 (Nat.le_refl _)
      refine hK.out _ _ hb3 (fun hHeld => ?_)
      clear hK K
      try simp only [Act.put, List.getElem_toArray, List.getElem_cons_zero, List.getElem_cons_succ, List.setIfInBounds_toArray, List.set_cons_zero, List.set_cons_succ]
      refine wpAnyH_ready (rs := [4]) (by kernel_rfl) (by simp) ?_
      refine AllReadyH.cons rfl (fun K hK => ?_) AllReadyH.nil
      go_simp
      go_at_call 28
      refine (Hrp.out U3 a3 c3 (rtx_of ho3)).mono ?_
      rintro e U4 ⟨ao13, c13, rfl, how13, hb13⟩; have hB4 := below_on hB3 hb13 (Nat.le_refl _); have hb14 := below_on hb3 hb13 (Nat.le_refl _)
      refine hK.out _ _ hb14 (fun hHeld => ?_)
      clear hK K
      try simp only [Act.put, List.getElem_toArray, List.getElem_cons_zero, List.getElem_cons_succ, List.setIfInBounds_toArray, List.set_cons_zero, List.set_cons_succ]
      refine wpAnyH_mono13 (S' := fun W' => Below U4.heap.size U4 W') (fun w h => below_on hb14 h (Nat.le_refl _)) _ _ _ _ ?_
      have hHeld3 : (fun W' => Below U4.heap.size U4 W') U4 := Below.refl _ U4
      refine wpAnyH_take (i := 5) (v := .string ⟨E.toArray⟩) rfl (by kernel_rfl) (by kernel_rfl) (by kernel_rfl) (fun _ _ _ h => h) (Or.inl ⟨by rfl, ?_⟩) (by assumption) ?_
      · intro w8 hSw
        have hcv := Hconv.out ao13 c13 w8 ((Bs.of_own how13).below hSw)
        clear hSw
        go_simp
        try with_reducible rfl
      simp only [Act.put, List.getElem_toArray, List.getElem_cons_zero, List.getElem_cons_succ, List.setIfInBounds_toArray, List.set_cons_zero, List.set_cons_succ]
      refine wpAnyH_take (i := 6) (v := ?_) rfl (by kernel_rfl) (by kernel_rfl) (by kernel_rfl) (fun _ _ _ h => h) (Or.inl ⟨by rfl, ?_⟩) (by assumption) ?_
      rotate_left
      · intro w8 hSw; clear hSw; go_simp; (try with_reducible rfl)
      simp only [Act.put, List.getElem_toArray, List.getElem_cons_zero, List.getElem_cons_succ, List.setIfInBounds_toArray, List.set_cons_zero, List.set_cons_succ]
      refine wpAnyH_take (i := 7) (v := ?_) rfl (by kernel_rfl) (by kernel_rfl) (by kernel_rfl) (fun _ _ _ h => h) (Or.inl ⟨by rfl, ?_⟩) (by assumption) ?_
      rotate_left
      · intro w8 hSw; clear hSw; go_simp; (try with_reducible rfl)
      simp only [Act.put, List.getElem_toArray, List.getElem_cons_zero, List.getElem_cons_succ, List.setIfInBounds_toArray, List.set_cons_zero, List.set_cons_succ]
      refine wpAnyH_take (i := 8) (v := ?_) rfl (by kernel_rfl) (by kernel_rfl) (by kernel_rfl) (fun _ _ _ h => h) (Or.inl ⟨by rfl, ?_⟩) (by assumption) ?_
      rotate_left
      · intro w8 hSw; clear hSw; go_simp; (try with_reducible rfl)
      simp only [Act.put, List.getElem_toArray, List.getElem_cons_zero, List.getElem_cons_succ, List.setIfInBounds_toArray, List.set_cons_zero, List.set_cons_succ]
      refine wpAnyH_take (i := 9) (v := ?_) rfl (by kernel_rfl) (by kernel_rfl) (by kernel_rfl) (fun _ _ _ h => h) (Or.inl ⟨by rfl, ?_⟩) (by assumption) ?_
      rotate_left
      · intro w8 hSw; clear hSw; go_simp; (try with_reducible rfl)
      simp only [Act.put, List.getElem_toArray, List.getElem_cons_zero, List.getElem_cons_succ, List.setIfInBounds_toArray, List.set_cons_zero, List.set_cons_succ]
      refine wpAnyH_take (i := 10) (v := ?_) rfl (by kernel_rfl) (by kernel_rfl) (by kernel_rfl) (fun _ _ _ h => h) (Or.inl ⟨by rfl, ?_⟩) (by assumption) ?_
      rotate_left
      · intro w8 hSw; clear hSw; go_simp; (try with_reducible rfl)
      simp only [Act.put, List.getElem_toArray, List.getElem_cons_zero, List.getElem_cons_succ, List.setIfInBounds_toArray, List.set_cons_zero, List.set_cons_succ]
      refine wpAnyH_take (i := 11) (v := ?_) rfl (by kernel_rfl) (by kernel_rfl) (by kernel_rfl) (fun _ _ _ h => h) (Or.inl ⟨by rfl, ?_⟩) (by assumption) ?_
      rotate_left
      · intro w8 hSw; clear hSw; go_simp; (try with_reducible rfl)
      simp only [Act.put, List.getElem_toArray, List.getElem_cons_zero, List.getElem_cons_succ, List.setIfInBounds_toArray, List.set_cons_zero, List.set_cons_succ]
      refine wpAnyH_take (i := 12) (v := .agg #[.int .i64 n1, .int .u64 s1, .slice ao10 X.length c10]) rfl (by kernel_rfl) (by kernel_rfl) (by kernel_rfl) (fun _ _ _ h => h) (Or.inl ⟨by rfl, ?_⟩) (by assumption) ?_
      · intro w8 hSw; exact ld_takeT rfl (Hld2.out w8 (below_on hB4 hSw (Nat.le_refl _))).2 rfl
      simp only [Act.put, List.getElem_toArray, List.getElem_cons_zero, List.getElem_cons_succ, List.setIfInBounds_toArray, List.set_cons_zero, List.set_cons_succ]
      refine wpAnyH_take (i := 14) (v := .agg #[.int .i64 n1, .int .u64 s1, .slice a1 X.length c1]) rfl (by kernel_rfl) (by kernel_rfl) (by kernel_rfl) (fun _ _ _ h => h) (Or.inl ⟨by rfl, ?_⟩) (by assumption) ?_
      · intro w8 hSw; exact ld_takeT rfl (Hld2.out w8 (below_on hB4 hSw (Nat.le_refl _))).1 rfl
      simp only [Act.put, List.getElem_toArray, List.getElem_cons_zero, List.getElem_cons_succ, List.setIfInBounds_toArray, List.set_cons_zero, List.set_cons_succ]
      refine wpAnyH_ready (rs := [13]) (by kernel_rfl) (by simp) ?_
      refine AllReadyH.cons rfl (fun K hK => ?_) AllReadyH.nil
      go_simp
      go_at_call 16
      refine (plain13_any U4 n1 s1 ao10 c10 X (HR11.out.below hB4) (by have := HlX.out; omega)).mono ?_
      rintro e U5 ⟨a5, c5, rfl, ho5, hb5⟩; have hB5 := below_on hB4 hb5 (Nat.le_refl _)
      refine hK.out _ _ hb5 (fun hHeld => ?_)
      clear hK K
      try simp only [Act.put, List.getElem_toArray, List.getElem_cons_zero, List.getElem_cons_succ, List.setIfInBounds_toArray, List.set_cons_zero, List.set_cons_succ]
      refine wpAnyH_ready (rs := [15]) (by kernel_rfl) (by simp) ?_
      refine AllReadyH.cons rfl (fun K hK => ?_) AllReadyH.nil
      go_simp
      go_at_call 16
      refine (plain13_any U5 n1 s1 a1 c1 X (HX11.out.below hB5) (by have := HlX.out; omega)).mono ?_
      rintro e U6 ⟨a6, c6, rfl, ho6, hb6⟩; have hB6 := below_on hB5 hb6 (Nat.le_refl _); have hb56 := below_on hb5 hb6 (Nat.le_refl _)
      refine hK.out _ _ hb56 (fun hHeld => ?_)
      clear hK K
      try simp only [Act.put, List.getElem_toArray, List.getElem_cons_zero, List.getElem_cons_succ, List.setIfInBounds_toArray, List.set_cons_zero, List.set_cons_succ]
      refine wpAnyH_ready (rs := [16]) (by kernel_rfl) (by simp) ?_
      refine AllReadyH.cons rfl (fun K hK => ?_) AllReadyH.nil
      go_simp
      go_at_call 19
      refine (rsame13_eq U6 n1 s1 a5 c5 X a6 c6 ((rtx_of ho5).below hb6) (rtx_of ho6) (by have := HlX.out; omega)).mono ?_
      rintro e U7 ⟨rfl, hb7⟩; have hB7 := below_on hB6 hb7 (Nat.le_refl _); have hb57 := below_on hb56 hb7 (Nat.le_refl _)
      refine hK.out _ _ hb57 (fun hHeld => ?_)
      clear hK K
      try simp only [Act.put, List.getElem_toArray, List.getElem_cons_zero, List.getElem_cons_succ, List.setIfInBounds_toArray, List.set_cons_zero, List.set_cons_succ]
      refine wpAnyH_take (i := 17) (v := ?_) rfl (by kernel_rfl) (by kernel_rfl) (by kernel_rfl) (fun _ _ _ h => h) (Or.inl ⟨by rfl, ?_⟩) (by assumption) ?_
      rotate_left
      · intro w8 hSw; clear hSw; go_simp; (try with_reducible rfl)
      simp only [Act.put, List.getElem_toArray, List.getElem_cons_zero, List.getElem_cons_succ, List.setIfInBounds_toArray, List.set_cons_zero, List.set_cons_succ]
      refine wpAnyH_take (i := 18) (v := ?_) rfl (by kernel_rfl) (by kernel_rfl) (by kernel_rfl) (fun _ _ _ h => h) (Or.inl ⟨by rfl, ?_⟩) (by assumption) ?_
      rotate_left
      · intro w8 hSw; clear hSw; go_simp; (try with_reducible rfl)
      simp only [Act.put, List.getElem_toArray, List.getElem_cons_zero, List.getElem_cons_succ, List.setIfInBounds_toArray, List.set_cons_zero, List.set_cons_succ]
      refine wpAnyH_done (by kernel_rfl) ?_ _
      have HBe := Lib.hid (below_on HB11.out hB7 (Nat.le_refl _))
      clear hB12 hB3 hB4 hB5 hB6 hB7 hb12 hb3 hb13 hb14 hb5 hb6 hb7 hb56 hb57 ho3 ho5 ho6 how12 how13
      go_wp2_with fail
      go_meet
      exact HBe.out
  case rest =>
    have HW := Lib.hid (below_on HZ.out hcut (Nat.le_refl _))
    clear HZ1 TZ T9 HB9
    have hsw := HS.out.below HW.out
    have Hop := Lib.hid (open_rd ab cb bs wc hsw)
    have Hsw := Lib.hid hsw
    clear hsw
    go_wp2_with fail
    refine (show Calls _ _ _ _ _ from Hop.out).mono ?_
    rintro e w6 ⟨rfl, hrd6, hb6⟩
    obtain ⟨P, hP⟩ : ∃ P, P = wc.heap.size := ⟨_, rfl⟩
    obtain ⟨W7, hW7⟩ : ∃ W7, W7 = w6.alloc (.cells #[.slice ab bs.length cb, .bool false] 78) := ⟨_, rfl⟩
    obtain ⟨Q, hQ⟩ : ∃ Q, Q = w6.heap.size := ⟨_, rfl⟩
    have hb7 : Below w6.heap.size w6 W7 := by rw [hW7]; exact below_new _ _
    have x7 : W7.heap[Q]? = some (.cells #[.slice ab bs.length cb, .bool false] 78 (0, 0)) := by rw [hW7, hQ]; exact heap_alloc_new _ _
    rw [← hP] at hrd6 ⊢
    have hPQ : P < Q := by have := (Array.getElem?_eq_some_iff.1 hrd6.blk).1; omega
    have hWP : W.heap.size ≤ P := by have := HW.out.size; omega
    have hB7 : Below W.heap.size W W7 := below_on HW.out (below_on hb6 hb7 (Nat.le_refl _)) (Nat.le_refl _)
    have hrd7 := hrd6.below hb7
    have hlow : Low13 W.heap.size bs ab := Low13.of HS.out
    obtain ⟨⟨⟨rx, ry, rX⟩, rok, rest, rbad⟩, hr⟩ : ∃ r, r = readB (bs, false) := ⟨_, rfl⟩
    have hrl : rX.length ≤ 256 := by have := readB_len (bs, false); rw [← hr] at this; exact this
    have hrs := dread_any hrd7
    rw [← hr] at hrs
    unfold ReadToldB at hrs
    simp only at hrs
    have Hr := Lib.hid hr
    have Hrl := Lib.hid hrl
    have Hrs := Lib.hid hrs
    have HB7 := Lib.hid hB7
    have X7 := Lib.hid x7
    have HPQ := Lib.hid (And.intro hPQ hWP)
    have Hlow := Lib.hid hlow
    have HW7 := Lib.hid hW7
    have HQ := Lib.hid hQ
    clear hrl hr hrs hB7 x7 hPQ hWP hrd6 hrd7 hb6 hb7 hP hlow hW7 hQ
    go_wp2_with fail
    rw [← HW7.out, ← HQ.out]
    clear HW7
    refine (show Calls _ _ _ _ _ from Hrs.out).mono ?_
    rintro e w8 ⟨a8, c8, ar8, cr8, rfl, ho8, hrd8, hg8⟩
    unfold dsV
    have hz7 := (Array.getElem?_eq_some_iff.1 X7.out).1
    have x8 := (hg8.block Q hz7 (by have := HPQ.out; simp; omega)).trans X7.out
    have hB8 : Below W.heap.size W w8 := HB7.out.grown hg8 HB7.out.size (fun k hk => by cases hk; exact HPQ.out.2)
    obtain ⟨W9, hW9⟩ : ∃ W9, W9 = w8.alloc (.cells #[.int .i64 rx, .int .u64 ry, .slice a8 rX.length c8] dsT) := ⟨_, rfl⟩
    obtain ⟨Y9, hY9⟩ : ∃ Y, Y = w8.heap.size := ⟨_, rfl⟩
    have hb9 : Below w8.heap.size w8 W9 := by rw [hW9]; exact below_new _ _
    have s9 : W9.heap[Y9]? = some (.cells #[.int .i64 rx, .int .u64 ry, .slice a8 rX.length c8] dsT (0, 0)) := by rw [hW9, hY9]; exact heap_alloc_new _ _
    have hB9 := below_on hB8 hb9 (Nat.le_refl _)
    have hbs9 : Bs W9 ab cb bs := HS.out.below hB9
    have hrs := refReadB_any (⟨bx_below hb9 x8, hbs9⟩ : Rd 78 W9 Q ab cb bs false)
    rw [← Hr.out] at hrs
    unfold ReadToldB at hrs
    simp only at hrs
    have Hrs2 := Lib.hid hrs
    have HO9 := Lib.hid (own_below ho8 hb9)
    have S9 := Lib.hid s9
    have HB9 := Lib.hid hB9
    have P9 := Lib.hid (bx_below hb9 hrd8.blk)
    have HQ7 : Hid (Q < W7.heap.size ∧ Q < Y9) := Lib.hid ⟨hz7, by have := (Array.getElem?_eq_some_iff.1 x8).1; omega⟩
    clear hrs s9 hB9 hbs9 ho8 hrd8 hg8 x8 hB8 hb9 hz7 Hrs
    go_wp2_with fail
    rw [← hW9, ← hY9]
    clear hW9 hY9
    refine (show Calls _ _ _ _ _ from Hrs2.out).mono ?_
    rintro e w10 ⟨a10, c10, ar10, cr10, rfl, ho10, hrd10, hg10⟩
    unfold dsV
    have s10 := (hg10.block Y9 (Array.getElem?_eq_some_iff.1 S9.out).1 (by have := HQ7.out; simp; omega)).trans S9.out
    have p10 := (hg10.block P (Array.getElem?_eq_some_iff.1 P9.out).1 (by have := HPQ.out; simp; omega)).trans P9.out
    have hB10 : Below W.heap.size W w10 := HB9.out.grown hg10 HB9.out.size (fun k hk => by cases hk; have := HPQ.out; omega)
    have ho9 := HO9.out.kept hg10 (by
      cases hv : (Value.slice a8 rX.length c8).ownBlock with
      | none => exact .inl rfl
      | some g => exact .inr (fun e => by have := (HO9.out.lt g hv).1; have := HQ7.out; simp at e; omega))
    obtain ⟨W11, hW11⟩ : ∃ W11, W11 = w10.alloc (.cells #[.int .i64 rx, .int .u64 ry, .slice a10 rX.length c10] rsT) := ⟨_, rfl⟩
    obtain ⟨Y11, hY11⟩ : ∃ Y, Y = w10.heap.size := ⟨_, rfl⟩
    have hb11 : Below w10.heap.size w10 W11 := by rw [hW11]; exact below_new _ _
    have z11 : W11.heap[Y11]? = some (.cells #[.int .i64 rx, .int .u64 ry, .slice a10 rX.length c10] rsT (0, 0)) := by rw [hW11, hY11]; exact heap_alloc_new _ _
    have S11 := Lib.hid (bx_below hb11 s10)
    have P11 := Lib.hid (bx_below hb11 p10)
    have Q11 := Lib.hid (bx_below hb11 hrd10.blk)
    have Z11 := Lib.hid z11
    have HB11 := Lib.hid (below_on hB10 hb11 (Nat.le_refl _))
    have HR1 := Lib.hid (ThR.of13 (own_below ho9 hb11))
    have HR2 := Lib.hid (rtx_of (own_below ho10 hb11))
    have HB0' := Lib.hid ((Below.refl W11.heap.size W11).drew)
    have hld : ∀ W', Below W11.heap.size W11 W' → (Instr.loadAt dsT (.pointer (some ⟨Y9, 0, none⟩))).run Try.prog W' = .ok (.agg #[.int .i64 rx, .int .u64 ry, .slice a8 rX.length c8]) W' ∧ (Instr.loadAt rsT (.pointer (some ⟨Y11, 0, none⟩))).run Try.prog W' = .ok (.agg #[.int .i64 rx, .int .u64 ry, .slice a10 rX.length c10]) W' ∧ (Instr.loadAt 64 (.pointer (some ⟨Q, 0, none⟩))).run Try.prog W' = .ok (.slice ar10 rest.length cr10) W' ∧ (Instr.loadAt 4 (.pointer (some ⟨Q, 1, none⟩))).run Try.prog W' = .ok (.bool rbad) W' := fun W' hw => by
      have b0 := block_cell (bx_below hw Q11.out) 0
      have b1 := block_cell (bx_below hw Q11.out) 1
      simp at b0 b1
      exact ⟨ldDt (bx_below hw S11.out) _ _ _ rfl, ldDs (bx_below hw Z11.out) _ _ _ rfl, ldSb b0, ldBo13 b1⟩
    have Hld2 := Lib.hid hld
    have hee := eqlb13
    clear hld hB10 ho9 ho10 hrd10 hg10 hb11 z11 s10 p10 Hrs2 hnb
    go_upto_region 14 with fail
    rw [← hW11, ← hY11]
    clear hW11 hY11
    refine wp_region_held_drew (S := fun W' => Below W11.heap.size W11 W') (by kernel_rfl) HB0'.out (fun hHeld => ?_)
    refine wpAnyH_take (i := 0) (v := ?_) rfl (by kernel_rfl) (by kernel_rfl) (by kernel_rfl) (fun _ _ _ h => h) (Or.inl ⟨by rfl, ?_⟩) (by assumption) ?_
    rotate_left
    · intro w8 hSw; clear hSw; go_simp; (try with_reducible rfl)
    simp only [Act.put, List.getElem_toArray, List.getElem_cons_zero, List.getElem_cons_succ, List.setIfInBounds_toArray, List.set_cons_zero, List.set_cons_succ]
    refine wpAnyH_take (i := 1) (v := ?_) rfl (by kernel_rfl) (by kernel_rfl) (by kernel_rfl) (fun _ _ _ h => h) (Or.inl ⟨by rfl, ?_⟩) (by assumption) ?_
    rotate_left
    · intro w8 hSw; clear hSw; go_simp; (try with_reducible rfl)
    simp only [Act.put, List.getElem_toArray, List.getElem_cons_zero, List.getElem_cons_succ, List.setIfInBounds_toArray, List.set_cons_zero, List.set_cons_succ]
    refine wpAnyH_take (i := 2) (v := ?_) rfl (by kernel_rfl) (by kernel_rfl) (by kernel_rfl) (fun _ _ _ h => h) (Or.inl ⟨by rfl, ?_⟩) (by assumption) ?_
    rotate_left
    · intro w8 hSw; clear hSw; go_simp; (try with_reducible rfl)
    simp only [Act.put, List.getElem_toArray, List.getElem_cons_zero, List.getElem_cons_succ, List.setIfInBounds_toArray, List.set_cons_zero, List.set_cons_succ]
    refine wpAnyH_take (i := 3) (v := ?_) rfl (by kernel_rfl) (by kernel_rfl) (by kernel_rfl) (fun _ _ _ h => h) (Or.inl ⟨by rfl, ?_⟩) (by assumption) ?_
    rotate_left
    · intro w8 hSw; clear hSw; go_simp; (try with_reducible rfl)
    simp only [Act.put, List.getElem_toArray, List.getElem_cons_zero, List.getElem_cons_succ, List.setIfInBounds_toArray, List.set_cons_zero, List.set_cons_succ]
    refine wpAnyH_take (i := 4) (v := .agg #[.int .i64 rx, .int .u64 ry, .slice a8 rX.length c8]) rfl (by kernel_rfl) (by kernel_rfl) (by kernel_rfl) (fun _ _ _ h => h) (Or.inl ⟨by rfl, ?_⟩) (by assumption) ?_
    · intro w8 hSw; exact ld_takeT rfl (Hld2.out w8 hSw).1 rfl
    simp only [Act.put, List.getElem_toArray, List.getElem_cons_zero, List.getElem_cons_succ, List.setIfInBounds_toArray, List.set_cons_zero, List.set_cons_succ]
    refine wpAnyH_take (i := 6) (v := .agg #[.int .i64 rx, .int .u64 ry, .slice a10 rX.length c10]) rfl (by kernel_rfl) (by kernel_rfl) (by kernel_rfl) (fun _ _ _ h => h) (Or.inl ⟨by rfl, ?_⟩) (by assumption) ?_
    · intro w8 hSw; exact ld_takeT rfl (Hld2.out w8 hSw).2.1 rfl
    simp only [Act.put, List.getElem_toArray, List.getElem_cons_zero, List.getElem_cons_succ, List.setIfInBounds_toArray, List.set_cons_zero, List.set_cons_succ]
    refine wpAnyH_ready (rs := [5]) (by kernel_rfl) (by simp) ?_
    refine AllReadyH.cons rfl (fun K hK => ?_) AllReadyH.nil
    go_simp
    go_at_call 16
    refine (plain13_any W11.drew rx ry a8 c8 rX (HR1.out.below HB0'.out) (by have := Hrl.out; omega)).mono ?_
    rintro e U3 ⟨a3, c3, rfl, ho3, hb3⟩; have hB3 := below_on HB0'.out hb3 (Nat.le_refl _)
    refine hK.out _ _ hB3 (fun hHeld => ?_)
    clear hK K
    try simp only [Act.put, List.getElem_toArray, List.getElem_cons_zero, List.getElem_cons_succ, List.setIfInBounds_toArray, List.set_cons_zero, List.set_cons_succ]
    refine wpAnyH_ready (rs := [7]) (by kernel_rfl) (by simp) ?_
    refine AllReadyH.cons rfl (fun K hK => ?_) AllReadyH.nil
    go_simp
    go_at_call 19
    refine (rsame13_eq U3 rx ry a3 c3 rX a10 c10 (rtx_of ho3) (HR2.out.below hB3) (by have := Hrl.out; omega)).mono ?_
    rintro e U4 ⟨rfl, hb4⟩; have hB4 := below_on hB3 hb4 (Nat.le_refl _)
    refine hK.out _ _ hB4 (fun hHeld => ?_)
    clear hK K
    try simp only [Act.put, List.getElem_toArray, List.getElem_cons_zero, List.getElem_cons_succ, List.setIfInBounds_toArray, List.set_cons_zero, List.set_cons_succ]
    refine wpAnyH_take (i := 8) (v := ?_) rfl (by kernel_rfl) (by kernel_rfl) (by kernel_rfl) (fun _ _ _ h => h) (Or.inl ⟨by rfl, ?_⟩) (by assumption) ?_
    rotate_left
    · intro w8 hSw; clear hSw; go_simp; (try with_reducible rfl)
    simp only [Act.put, List.getElem_toArray, List.getElem_cons_zero, List.getElem_cons_succ, List.setIfInBounds_toArray, List.set_cons_zero, List.set_cons_succ]
    refine wpAnyH_take (i := 9) (v := ?_) rfl (by kernel_rfl) (by kernel_rfl) (by kernel_rfl) (fun _ _ _ h => h) (Or.inl ⟨by rfl, ?_⟩) (by assumption) ?_
    rotate_left
    · intro w8 hSw; clear hSw; go_simp; (try with_reducible rfl)
    simp only [Act.put, List.getElem_toArray, List.getElem_cons_zero, List.getElem_cons_succ, List.setIfInBounds_toArray, List.set_cons_zero, List.set_cons_succ]
    refine wpAnyH_take (i := 10) (v := ?_) rfl (by kernel_rfl) (by kernel_rfl) (by kernel_rfl) (fun _ _ _ h => h) (Or.inl ⟨by rfl, ?_⟩) (by assumption) ?_
    rotate_left
    · intro w8 hSw; clear hSw; go_simp; (try with_reducible rfl)
    simp only [Act.put, List.getElem_toArray, List.getElem_cons_zero, List.getElem_cons_succ, List.setIfInBounds_toArray, List.set_cons_zero, List.set_cons_succ]
    refine wpAnyH_take (i := 12) (v := ?_) rfl (by kernel_rfl) (by kernel_rfl) (by kernel_rfl) (fun _ _ _ h => h) (Or.inl ⟨by rfl, ?_⟩) (by assumption) ?_
    rotate_left
    · intro w8 hSw; clear hSw; go_simp; (try with_reducible rfl)
    simp only [Act.put, List.getElem_toArray, List.getElem_cons_zero, List.getElem_cons_succ, List.setIfInBounds_toArray, List.set_cons_zero, List.set_cons_succ]
    refine wpAnyH_take (i := 13) (v := ?_) rfl (by kernel_rfl) (by kernel_rfl) (by kernel_rfl) (fun _ _ _ h => h) (Or.inl ⟨by rfl, ?_⟩) (by assumption) ?_
    rotate_left
    · intro w8 hSw; clear hSw; go_simp; (try with_reducible rfl)
    simp only [Act.put, List.getElem_toArray, List.getElem_cons_zero, List.getElem_cons_succ, List.setIfInBounds_toArray, List.set_cons_zero, List.set_cons_succ]
    refine wpAnyH_take (i := 14) (v := ?_) rfl (by kernel_rfl) (by kernel_rfl) (by kernel_rfl) (fun _ _ _ h => h) (Or.inl ⟨by rfl, ?_⟩) (by assumption) ?_
    rotate_left
    · intro w8 hSw; clear hSw; go_simp; (try with_reducible rfl)
    simp only [Act.put, List.getElem_toArray, List.getElem_cons_zero, List.getElem_cons_succ, List.setIfInBounds_toArray, List.set_cons_zero, List.set_cons_succ]
    refine wpAnyH_take (i := 15) (v := .slice ar10 rest.length cr10) rfl (by kernel_rfl) (by kernel_rfl) (by kernel_rfl) (fun _ _ _ h => h) (Or.inl ⟨by rfl, ?_⟩) (by assumption) ?_
    · intro w8 hSw; exact ld_takeT rfl (Hld2.out w8 hSw).2.2.1 rfl
    simp only [Act.put, List.getElem_toArray, List.getElem_cons_zero, List.getElem_cons_succ, List.setIfInBounds_toArray, List.set_cons_zero, List.set_cons_succ]
    refine wpAnyH_take (i := 16) (v := ?_) rfl (by kernel_rfl) (by kernel_rfl) (by kernel_rfl) (fun _ _ _ h => h) (Or.inl ⟨by rfl, ?_⟩) (by assumption) ?_
    rotate_left
    · intro w8 hSw; clear hSw; go_simp; (try with_reducible rfl)
    simp only [Act.put, List.getElem_toArray, List.getElem_cons_zero, List.getElem_cons_succ, List.setIfInBounds_toArray, List.set_cons_zero, List.set_cons_succ]
    refine wpAnyH_ready (rs := [11]) (by kernel_rfl) (by simp) ?_
    refine AllReadyH.cons rfl (fun K hK => ?_) AllReadyH.nil
    go_simp
    go_at_call 30
    refine (left_blk13 (bx_below hB4 P11.out)).mono ?_
    rintro e U5 ⟨rfl, hb5⟩; subst hb5
    refine hK.out _ _ hB4 (fun hHeld => ?_)
    clear hK K
    try simp only [Act.put, List.getElem_toArray, List.getElem_cons_zero, List.getElem_cons_succ, List.setIfInBounds_toArray, List.set_cons_zero, List.set_cons_succ]
    refine wpAnyH_take (i := 17) (v := ?_) rfl (by kernel_rfl) (by kernel_rfl) (by kernel_rfl) (fun _ _ _ h => h) (Or.inl ⟨by rfl, ?_⟩) (by assumption) ?_
    rotate_left
    · intro w8 hSw; clear hSw; go_simp; (try with_reducible rfl)
    simp only [Act.put, List.getElem_toArray, List.getElem_cons_zero, List.getElem_cons_succ, List.setIfInBounds_toArray, List.set_cons_zero, List.set_cons_succ]
    refine wpAnyH_take (i := 18) (v := ?_) rfl (by kernel_rfl) (by kernel_rfl) (by kernel_rfl) (fun _ _ _ h => h) (Or.inl ⟨by rfl, ?_⟩) (by assumption) ?_
    rotate_left
    · intro w8 hSw; clear hSw; go_simp; (try with_reducible rfl)
    simp only [Act.put, List.getElem_toArray, List.getElem_cons_zero, List.getElem_cons_succ, List.setIfInBounds_toArray, List.set_cons_zero, List.set_cons_succ]
    refine wpAnyH_take (i := 19) (v := ?_) rfl (by kernel_rfl) (by kernel_rfl) (by kernel_rfl) (fun _ _ _ h => h) (Or.inl ⟨by rfl, ?_⟩) (by assumption) ?_
    rotate_left
    · intro w8 hSw; clear hSw; go_simp; (try with_reducible rfl)
    simp only [Act.put, List.getElem_toArray, List.getElem_cons_zero, List.getElem_cons_succ, List.setIfInBounds_toArray, List.set_cons_zero, List.set_cons_succ]
    refine wpAnyH_take (i := 20) (v := ?_) rfl (by kernel_rfl) (by kernel_rfl) (by kernel_rfl) (fun _ _ _ h => h) (Or.inl ⟨by rfl, ?_⟩) (by assumption) ?_
    rotate_left
    · intro w8 hSw; clear hSw; go_simp; (try with_reducible rfl)
    simp only [Act.put, List.getElem_toArray, List.getElem_cons_zero, List.getElem_cons_succ, List.setIfInBounds_toArray, List.set_cons_zero, List.set_cons_succ]
    refine wpAnyH_take (i := 22) (v := ?_) rfl (by kernel_rfl) (by kernel_rfl) (by kernel_rfl) (fun _ _ _ h => h) (Or.inl ⟨by rfl, ?_⟩) (by assumption) ?_
    rotate_left
    · intro w8 hSw; clear hSw; go_simp; (try with_reducible rfl)
    simp only [Act.put, List.getElem_toArray, List.getElem_cons_zero, List.getElem_cons_succ, List.setIfInBounds_toArray, List.set_cons_zero, List.set_cons_succ]
    refine wpAnyH_take (i := 23) (v := ?_) rfl (by kernel_rfl) (by kernel_rfl) (by kernel_rfl) (fun _ _ _ h => h) (Or.inl ⟨by rfl, ?_⟩) (by assumption) ?_
    rotate_left
    · intro w8 hSw; clear hSw; go_simp; (try with_reducible rfl)
    simp only [Act.put, List.getElem_toArray, List.getElem_cons_zero, List.getElem_cons_succ, List.setIfInBounds_toArray, List.set_cons_zero, List.set_cons_succ]
    refine wpAnyH_take (i := 24) (v := ?_) rfl (by kernel_rfl) (by kernel_rfl) (by kernel_rfl) (fun _ _ _ h => h) (Or.inl ⟨by rfl, ?_⟩) (by assumption) ?_
    rotate_left
    · intro w8 hSw; clear hSw; go_simp; (try with_reducible rfl)
    simp only [Act.put, List.getElem_toArray, List.getElem_cons_zero, List.getElem_cons_succ, List.setIfInBounds_toArray, List.set_cons_zero, List.set_cons_succ]
    refine wpAnyH_take (i := 25) (v := .bool rbad) rfl (by kernel_rfl) (by kernel_rfl) (by kernel_rfl) (fun _ _ _ h => h) (Or.inl ⟨by rfl, ?_⟩) (by assumption) ?_
    · intro w8 hSw; exact ld_takeT rfl (Hld2.out w8 hSw).2.2.2 rfl
    simp only [Act.put, List.getElem_toArray, List.getElem_cons_zero, List.getElem_cons_succ, List.setIfInBounds_toArray, List.set_cons_zero, List.set_cons_succ]
    refine wpAnyH_ready (rs := [21]) (by kernel_rfl) (by simp) ?_
    refine AllReadyH.cons rfl (fun K hK => ?_) AllReadyH.nil
    go_simp
    go_at_call 31
    refine (bad_blk13 (bx_below hB4 P11.out)).mono ?_
    rintro e U6 ⟨rfl, hb6⟩; subst hb6
    refine hK.out _ _ hB4 (fun hHeld => ?_)
    clear hK K
    try simp only [Act.put, List.getElem_toArray, List.getElem_cons_zero, List.getElem_cons_succ, List.setIfInBounds_toArray, List.set_cons_zero, List.set_cons_succ]
    refine wpAnyH_take (i := 26) (v := ?_) rfl (by kernel_rfl) (by kernel_rfl) (by kernel_rfl) (fun _ _ _ h => h) (Or.inl ⟨by rfl, ?_⟩) (by assumption) ?_
    rotate_left
    · intro w8 hSw; clear hSw; go_simp; (try with_reducible rfl)
    simp only [Act.put, List.getElem_toArray, List.getElem_cons_zero, List.getElem_cons_succ, List.setIfInBounds_toArray, List.set_cons_zero, List.set_cons_succ]
    refine wpAnyH_take (i := 27) (v := ?_) rfl (by kernel_rfl) (by kernel_rfl) (by kernel_rfl) (fun _ _ _ h => h) (Or.inl ⟨by rfl, ?_⟩) (by assumption) ?_
    rotate_left
    · intro w8 hSw; clear hSw; go_simp; (try with_reducible rfl)
    simp only [Act.put, List.getElem_toArray, List.getElem_cons_zero, List.getElem_cons_succ, List.setIfInBounds_toArray, List.set_cons_zero, List.set_cons_succ]
    refine wpAnyH_take (i := 28) (v := ?_) rfl (by kernel_rfl) (by kernel_rfl) (by kernel_rfl) (fun _ _ _ h => h) (Or.inl ⟨by rfl, ?_⟩) (by assumption) ?_
    rotate_left
    · intro w8 hSw; clear hSw; go_simp; (try with_reducible rfl)
    simp only [Act.put, List.getElem_toArray, List.getElem_cons_zero, List.getElem_cons_succ, List.setIfInBounds_toArray, List.set_cons_zero, List.set_cons_succ]
    refine wpAnyH_ready (rs := [29]) (by kernel_rfl) (by simp) ?_
    refine AllReadyH.cons rfl (fun K hK => ?_) AllReadyH.nil
    go_simp
    go_at_call 9
    refine (lives13 _).mono ?_
    rintro e U8 ⟨rfl, hb8⟩; have hB8 := below_on hB4 hb8 (Nat.le_refl _)
    refine hK.out _ _ hB8 (fun hHeld => ?_)
    clear hK K
    try simp only [Act.put, List.getElem_toArray, List.getElem_cons_zero, List.getElem_cons_succ, List.setIfInBounds_toArray, List.set_cons_zero, List.set_cons_succ]
    refine wpAnyH_take (i := 30) (v := ?_) rfl (by kernel_rfl) (by kernel_rfl) (by kernel_rfl) (fun _ _ _ h => h) (Or.inl ⟨by rfl, ?_⟩) (by assumption) ?_
    rotate_left
    · intro w8 hSw; clear hSw; go_simp; (try with_reducible rfl)
    simp only [Act.put, List.getElem_toArray, List.getElem_cons_zero, List.getElem_cons_succ, List.setIfInBounds_toArray, List.set_cons_zero, List.set_cons_succ]
    refine wpAnyH_take (i := 31) (v := ?_) rfl (by kernel_rfl) (by kernel_rfl) (by kernel_rfl) (fun _ _ _ h => h) (Or.inl ⟨by rfl, ?_⟩) (by assumption) ?_
    rotate_left
    · intro w8 hSw; clear hSw; go_simp; (try with_reducible rfl)
    simp only [Act.put, List.getElem_toArray, List.getElem_cons_zero, List.getElem_cons_succ, List.setIfInBounds_toArray, List.set_cons_zero, List.set_cons_succ]
    refine wpAnyH_done (by kernel_rfl) ?_ _
    have HB8 := Lib.hid (below_on HB11.out hB8 (Nat.le_refl _))
    clear hB3 hB4 hB8 hb3 hb4 hb8 ho3 hHeld Hld2 hee
    go_wp2_with fail
    go_ret
    exact ⟨rfl, HB8.out⟩
end Go.Proofs.Ytedlplkomfiahaa
