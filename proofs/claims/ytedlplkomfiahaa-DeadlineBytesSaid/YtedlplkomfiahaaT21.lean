/- Lemmas for DeadlineBytes (Dc Rk Dd De Df Dh). No statement of the seat is proved here. -/
import Derived.Deep.RegionHeld
import Derived.Test.YtedlplkomfiahaaT1
import Derived.Test.YtedlplkomfiahaaT20
namespace Go.Proofs.Ytedlplkomfiahaa
set_option linter.unusedVariables false
set_option linter.unusedSimpArgs false
set_option linter.unusedSectionVars false
open Go Go.RowKit Go.Maps Go.Deep
abbrev dsT : TypeId := 42
def dsV (now last : Int) (ao : Option Addr) (n cap : Nat) : Value := .agg #[.int .i64 now, .int .u64 last, .slice ao n cap]
theorem bnew_o (W wr : World) (now : Int) (h : Inst now) (hb : Below W.heap.size W wr) : Calls Try.prog 8 #[.int .i64 now] wr fun e W' => ∃ b G, e = .returned (.pointer (some ⟨b, 0, none⟩)) ∧ Bk W W' G b now 0 [] ∧ Below wr.heap.size wr W' ∧ ∀ i, G i → wr.heap.size ≤ i := by
  have Hn := Lib.hid (new_o W wr now h hb)
  have Hb := Lib.hid hb
  clear hb
  go_enter Try.func8, Try.ntmps8
  go_wp2_with fail
  refine (show Calls _ _ _ _ _ from Hn.out).mono ?_
  rintro e V1 ⟨w, F, rfl, hw, hb1, hF⟩
  obtain ⟨V2, hV2⟩ : ∃ V2, V2 = V1.alloc (.cells #[.pointer (some ⟨w, 0, none⟩), .int .u64 0] bkT) := ⟨_, rfl⟩
  obtain ⟨p, hp⟩ : ∃ p, p = V1.heap.size := ⟨_, rfl⟩
  have hB2 : Below V1.heap.size V1 V2 := by rw [hV2]; exact below_new _ _
  have hx2 : V2.heap[p]? = some (.cells #[.pointer (some ⟨w, 0, none⟩), .int .u64 0] bkT (0, 0)) := by rw [hV2, hp]; exact heap_alloc_new _ _
  have hR : Bk W V2 (fun i => F i ∨ i = p) p now 0 [] := ⟨w, F, hw.below hB2, hx2, fun e => by have := hw.bd p e; omega, fun i => Iff.rfl, by have := hw.bel.size; omega, by omega, by omega⟩
  have HR := Lib.hid hR
  have HB2 := Lib.hid (below_on hb1 hB2 (Nat.le_refl _))
  have HF : Hid (∀ i, F i ∨ i = p → wr.heap.size ≤ i) := (fun i hi => hi.elim (hF i) (fun e => by have := hb1.size; omega) : ∀ i, F i ∨ i = p → wr.heap.size ≤ i)
  clear hw hb1 hF hB2 hx2 hR
  go_wp2_with fail
  rw [← hV2, ← hp]
  go_ret
  exact ⟨p, _, rfl, HR.out, HB2.out, HF.out⟩
end Go.Proofs.Ytedlplkomfiahaa
namespace Go.Proofs.Ytedlplkomfiahaa
set_option linter.unusedVariables false
set_option linter.unusedSimpArgs false
set_option linter.unusedSectionVars false
open Go
section
variable {P : Program} {ops : Array Oper} {Q : Exit → Act → World → Prop} {md : Region.Mode} {S : World → Prop} {k : Nat}
/-- whatever order; S holds till number k has come up -/
def wpLate (P : Program) (md : Region.Mode) (ops : Array Oper) (Q : Exit → Act → World → Prop) (S : World → Prop) (k : Nat) : Nat → Array Bool → Act → World → Prop
  | 0, L, a, w => Region.ready md ops L = [] ∧ Q .normal a w
  | n + 1, L, a, w => (Region.ready md ops L = [] → Q .normal a w) ∧
      ∀ i ∈ Region.ready md ops L, wpOp P ops Q i (fun a' w' => ((L.setIfInBounds i true).getD k true = false → S w') ∧ wpLate P md ops Q S k n (L.setIfInBounds i true) a' w') a w
theorem wpAny_of_late : ∀ (n : Nat) (L : Array Bool) (a : Act) (w : World), wpLate P md ops Q S k n L a w → wpAny P md ops Q n L a w
  | 0, _, _, _, h => h
  | n + 1, L, _, _, h => ⟨h.1, fun i hi => wpOp_mono (fun a' w' h' => wpAny_of_late n _ a' w' h'.2) (h.2 i hi)⟩
theorem getD_back {L : Array Bool} {i j : Nat} (h : (L.setIfInBounds i true).getD j true = false) : L.getD j true = false := by
  by_cases e : i = j
  · subst e
    simp only [Array.getD_eq_getD_getElem?, Array.getElem?_setIfInBounds_self] at h
    split at h <;> simp at h
  · rwa [getD_set_ne true e] at h
theorem late_first {S0 : World → Prop} {U : Array Bool → Prop} {i : Nat} {oi : Oper} {v : Value} (hi : ops[i]? = some oi) (hsel : ∀ (j : Nat) (o : Oper) cs b, ops[j]? = some o → o.op ≠ .select cs b)
    (hQ : ∀ c a w, Q (.panic c) (a.put oi.dst v) w → Q (.panic c) a w) (hik : i ≠ k)
    (hU : ∀ L j, U L → i ∈ Region.ready md ops L → j ∈ Region.ready md ops L → j ≠ i → U (L.setIfInBounds j true))
    (hS0 : ∀ L w', U L → (L.getD k true = false → S w') → S0 w') :
    ∀ (n : Nat) (L : Array Bool) (a : Act) (w : World),
      (∀ j oj, ops[j]? = some oj → j ≠ i → L.getD j true = false → (∀ e ∈ oj.after, Region.binds md e = true → e.on ≠ i) → oi.apart ops oj = true) →
      i ∈ Region.ready md ops L → U L → YieldsIf P ops S0 oi v a → (L.getD k true = false → S w) →
      wpLate P md ops Q S k n (L.setIfInBounds i true) (a.put oi.dst v) w → wpLate P md ops Q S k (n + 1) L a w
  | 0, L, a, w => fun _ hr hu hy hS H => by
    refine ⟨fun h => (by rw [h] at hr; cases hr), fun j hj => ?_⟩
    rcases Nat.decEq j i with e | e
    · have := ready_mono hj e
      rw [H.1] at this
      cases this
    · subst e
      exact hy.wpOp hi (hS0 L w hu hS) ⟨fun h => hS (getD_back h), H⟩
  | n + 1, L, a, w => fun hap hr hu hy hS H => by
    refine ⟨fun h => (by rw [h] at hr; cases hr), fun j hj => ?_⟩
    rcases Nat.decEq j i with e | e
    · obtain ⟨hjl, oj, hoj, hjall⟩ := mem_ready.1 hj
      have hnw : ∀ d ∈ oj.after, Region.binds md d = true → d.on ≠ i := fun d hd hb heq => by
        have h1 := hjall d hd hb
        have h0 := (mem_ready.1 hr).1
        rw [heq] at h1
        simp only [Array.getD_eq_getD_getElem?] at h0 h1
        cases hx : L[i]? with
        | none => rw [hx] at h1; cases h1
        | some x => rw [hx] at h0 h1; simp only [Option.getD_some] at h0 h1; rw [h0] at h1; cases h1
      have hrest := wpOp_putIf hoj (hap j oj hoj e hjl hnw) (fun cs b => hsel i oi cs b hi) (fun cs b => hsel j oj cs b hoj) hQ hy (H.2 j (ready_mono hj e))
      have hu' := hU L j hu hr hj e
      refine wpOp_mono (fun a' w' hp => ?_) hrest
      obtain ⟨hy', hc, hW⟩ := hp
      have hc' : (L.setIfInBounds j true).getD k true = false → S w' := fun h => hc (by rw [Array.setIfInBounds_comm _ _ (Ne.symm e), getD_set_ne true hik]; exact h)
      refine ⟨hc', late_first hi hsel hQ hik hU hS0 n (L.setIfInBounds j true) a' w' (fun m om hom hmi hml hno => hap m om hom hmi (getD_back hml) hno) (ready_mono hr (Ne.symm e)) hu' hy' hc' ?_⟩
      rw [Array.setIfInBounds_comm _ _ e]
      exact hW
    · subst e
      exact hy.wpOp hi (hS0 L w hu hS) ⟨fun h => hS (getD_back h), H⟩
/-- each of the row waits for the one ahead of it -/
def waitsB (md : Region.Mode) (ops : Array Oper) : Nat → List Nat → Bool
  | _, [] => true
  | p, m :: c => (match ops[m]? with | some o => o.after.toList.any (fun e => Region.binds md e && e.on == p) | none => false) && waitsB md ops m c
theorem waits_out {j : Nat} {L : Array Bool} (hj : j ∈ Region.ready md ops L) : ∀ (c : List Nat) (p : Nat), waitsB md ops p c = true → L.getD p true = false → (∀ m ∈ c, L.getD m true = false) → ∀ m ∈ c, j ≠ m
  | [], _, _, _, _ => fun m hm => by cases hm
  | m :: c, p, hw, hp, hc => fun x hx => by
    unfold waitsB at hw
    simp only [Bool.and_eq_true] at hw
    rcases List.mem_cons.1 hx with rfl | hx
    · intro e
      subst e
      obtain ⟨-, oj, hoj, hall⟩ := mem_ready.1 hj
      rw [hoj] at hw
      simp only [List.any_eq_true, Bool.and_eq_true, beq_iff_eq] at hw
      obtain ⟨⟨d, hd, hb, hon⟩, -⟩ := hw
      have h1 := hall d (Array.mem_toList_iff.1 hd) hb
      rw [hon] at h1
      simp only [Array.getD_eq_getD_getElem?] at hp h1
      cases hx : L[p]? with
      | none => rw [hx] at h1; cases h1
      | some y => rw [hx] at hp h1; simp only [Option.getD_some] at hp h1; rw [hp] at h1; cases h1
    · exact waits_out hj c m hw.2 (hc m (List.mem_cons_self ..)) (fun y hy => hc y (List.mem_cons_of_mem _ hy)) x hx
/-- a load: c is a row of operations from it to the store k, each waiting for the one ahead -/
theorem wpLate_take (c : List Nat) {i : Nat} {oi : Oper} {v : Value} {n : Nat} {L : Array Bool} {a : Act} {w : World} (hi : ops[i]? = some oi)
    (hs : Region.noSelect ops = true) (hf : Region.free md ops L i = true) (hr : (Region.ready md ops L).contains i = true) (hik : (i == k) = false)
    (hc : (waitsB md ops i c && c.contains k && c.all (fun m => L.getD m true == false)) = true)
    (hQ : ∀ c a w, Q (.panic c) (a.put oi.dst v) w → Q (.panic c) a w) (hy : YieldsIf P ops S oi v a) (hS : S w)
    (h : wpLate P md ops Q S k n (L.setIfInBounds i true) (a.put oi.dst v) w) : wpLate P md ops Q S k (n + 1) L a w := by
  simp only [Bool.and_eq_true, List.all_eq_true, beq_iff_eq] at hc
  obtain ⟨⟨h1, h2⟩, h3⟩ := hc
  have hk : k ∈ c := by simpa using h2
  have hr2 : i ∈ Region.ready md ops L := by simpa using hr
  refine late_first (S0 := S) (U := fun L => ∀ m ∈ c, L.getD m true = false) hi (Region.noSelect_spec hs) hQ (by simpa using hik) ?_ (fun L w' hu hS => hS (hu k hk)) n L a w (Region.free_spec hi hf) hr2 h3 hy (fun _ => hS) h
  intro L j hu hri hrj hji m hm
  have hne := waits_out hrj c i h1 (mem_ready.1 hri).1 hu m hm
  rw [getD_set_ne true hne]
  exact hu m hm
/-- what yields in whatever world -/
theorem wpLate_pure {i : Nat} {oi : Oper} {v : Value} {n : Nat} {L : Array Bool} {a : Act} {w : World} (hi : ops[i]? = some oi)
    (hs : Region.noSelect ops = true) (hf : Region.free md ops L i = true) (hr : (Region.ready md ops L).contains i = true) (hik : (i == k) = false)
    (hQ : ∀ c a w, Q (.panic c) (a.put oi.dst v) w → Q (.panic c) a w) (hy : YieldsIf P ops (fun _ => True) oi v a) (hS : L.getD k true = false → S w)
    (h : wpLate P md ops Q S k n (L.setIfInBounds i true) (a.put oi.dst v) w) : wpLate P md ops Q S k (n + 1) L a w :=
  late_first (S0 := fun _ => True) (U := fun _ => True) hi (Region.noSelect_spec hs) hQ (by simpa using hik) (fun _ _ _ _ _ _ => trivial) (fun _ _ _ _ => trivial) n L a w (Region.free_spec hi hf) (by simpa using hr) trivial hy hS h
def AllLate (P : Program) (md : Region.Mode) (ops : Array Oper) (Q : Exit → Act → World → Prop) (S : World → Prop) (k n : Nat) (L : Array Bool) (a : Act) (w : World) (rs : List Nat) : Prop :=
  ∀ i ∈ rs, wpOp P ops Q i (fun a' w' => ((L.setIfInBounds i true).getD k true = false → S w') ∧ wpLate P md ops Q S k n (L.setIfInBounds i true) a' w') a w
theorem AllLate.nil {n : Nat} {L : Array Bool} {a : Act} {w : World} : AllLate P md ops Q S k n L a w [] := fun _ h => by cases h
theorem AllLate.cons {n : Nat} {L : Array Bool} {a : Act} {w : World} {i : Nat} {o : Oper} {rs : List Nat} (ho : ops[i]? = some o)
    (h : ∀ K' : Act → World → Prop, Shut (∀ a w, S w → (S w → wpLate P md ops Q S k n (L.setIfInBounds i true) a w) → K' a w) → if Region.wanted o (yielded ops a.tmps) = true then Oper.wp P o a w K' Q else K' (a.put o.dst undef) w)
    (hs : AllLate P md ops Q S k n L a w rs) : AllLate P md ops Q S k n L a w (i :: rs) := fun j hj => by
  rcases List.mem_cons.1 hj with rfl | hj
  · exact wpOp_step ho (fun K' hK => h K' (fun a w hS hW => hK a w ⟨fun _ => hS, hW hS⟩))
  · exact hs j hj
/-- the store itself -/
theorem AllLate.store {n : Nat} {L : Array Bool} {a : Act} {w : World} {o : Oper} (ho : ops[k]? = some o)
    (h : ∀ K' : Act → World → Prop, Shut (∀ a w, wpLate P md ops Q S k n (L.setIfInBounds k true) a w → K' a w) → if Region.wanted o (yielded ops a.tmps) = true then Oper.wp P o a w K' Q else K' (a.put o.dst undef) w) : AllLate P md ops Q S k n L a w [k] := fun j hj => by
  rcases List.mem_cons.1 hj with rfl | hj
  · refine wpOp_step ho (fun K' hK => h K' (fun a w hW => hK a w ⟨fun e => ?_, hW⟩))
    exfalso
    simp only [Array.getD_eq_getD_getElem?, Array.getElem?_setIfInBounds_self] at e
    split at e <;> simp at e
  · cases hj
theorem wpLate_ready {rs : List Nat} {n : Nat} {L : Array Bool} {a : Act} {w : World} (hr : Region.ready md ops L = rs) (hne : rs ≠ [])
    (h : AllLate P md ops Q S k n L a w rs) : wpLate P md ops Q S k (n + 1) L a w := ⟨fun h0 => absurd (hr ▸ h0) hne, hr ▸ h⟩
theorem wpLate_done {L : Array Bool} {a : Act} {w : World} (hr : Region.ready md ops L = []) (h : Q .normal a w) : ∀ n, wpLate P md ops Q S k n L a w
  | 0 => ⟨hr, h⟩
  | _ + 1 => ⟨fun _ => h, by rw [hr]; simp⟩
theorem wp_region_late (k : Nat) {id : Nat} {a : Act} {w : World} (hm : P.follows .mixedOrders = true) (hS : S w.drew)
    (h : S w.drew → wpLate P .any ops Q S k ops.size (Array.replicate ops.size false) a w.drew) : (Code.region id ops true).wp P Q a w :=
  wp_region_any hm (wpAny_of_late _ _ _ _ (h hS))
end
end Go.Proofs.Ytedlplkomfiahaa
namespace Go.Proofs.Ytedlplkomfiahaa
set_option linter.unusedVariables false
set_option linter.unusedSimpArgs false
set_option linter.unusedSectionVars false
open Go Go.RowKit Go.Maps Go.Deep
abbrev rsT : TypeId := 50
theorem slot0_next (X : List Th) (i : Nat) (hi : i < X.length) : rtFlat (slot0 (X.take i)) ++ rtFlat [(X[i], 0)] = rtFlat (slot0 (X.take (i + 1))) := by
  rw [← rt_two, List.take_add_one, List.getElem?_eq_getElem hi, Option.toList_some]
  unfold slot0
  rw [List.map_append]
  rfl
/-- a row of things that reads, whatever its block -/
abbrev ThR (W : World) (ao : Option Addr) (cap : Nat) (l : List Th) : Prop := Sl W 3 ao l.length cap (thFlat l)
theorem Tt.thr {W : World} {ao : Option Addr} {cap : Nat} {l : List Th} (h : Tt W ao cap l) : ThR W ao cap l := h.sl
theorem ThR.cells {W : World} {ao : Option Addr} {cap : Nat} {l : List Th} (h : ThR W ao cap l) (i : Nat) (hi : i < l.length) : ∃ b off, ao = some ⟨b, off, .none⟩ ∧ b < W.heap.size ∧
    W.cell? ⟨b, off + i * 3, none⟩ = some (.int .u64 l[i].id) ∧ W.cell? ⟨b, off + i * 3 + 1, none⟩ = some (.int .u64 l[i].gen) ∧ W.cell? ⟨b, off + i * 3 + 2, none⟩ = some (.int .i64 l[i].due) := by
  have h3 : (thCells l[i]).length = 3 := rfl
  have g := fun j (hj : j < 3) => thFlat_get l i hi j hj
  obtain ⟨b, off, e, c0⟩ := h.cell (i * 3) _ (g 0 (by decide))
  obtain ⟨b1, off1, e1, c1⟩ := h.cell (i * 3 + 1) _ (g 1 (by decide))
  obtain ⟨b2, off2, e2, c2⟩ := h.cell (i * 3 + 2) _ (g 2 (by decide))
  have q1 := e.symm.trans e1
  have q2 := e.symm.trans e2
  simp only [Option.some.injEq, Addr.mk.injEq, and_true] at q1 q2
  obtain ⟨rfl, rfl⟩ := q1
  obtain ⟨rfl, rfl⟩ := q2
  exact ⟨b, off, e, cell?_lt c0, c0, c1, c2⟩
theorem ThR.below {W W' : World} {ao : Option Addr} {cap : Nat} {l : List Th} (h : ThR W ao cap l) (hb : Below W.heap.size W W') : ThR W' ao cap l := Sl.below h hb
/-- the law's Light -/
theorem light_d (W : World) (now last : Int) (ao : Option Addr) (n cap : Nat) :
    Calls Try.prog 14 #[dsV now last ao n cap] W fun e W' => e = .returned (.bool (decide (n ≤ 300))) ∧ Below W.heap.size W W' := by
  unfold dsV
  obtain ⟨W1, hW1⟩ : ∃ W1, W1 = W.alloc (.cells #[.int .i64 now, .int .u64 last, .slice ao n cap] dsT) := ⟨_, rfl⟩
  have hB := below_new W (.cells #[.int .i64 now, .int .u64 last, .slice ao n cap] dsT)
  rw [← hW1] at hB
  by_cases h : n ≤ 300
  · have x1 : (n : Int) ≤ 300 := by omega
    rw [decide_eq_true h]
    clear h
    go_enter Try.func14, Try.ntmps14
    go_wp2_with fail
    rw [← hW1]
    go_ret
    exact ⟨rfl, hB⟩
  · have x1 : ¬ (n : Int) ≤ 300 := by omega
    rw [decide_eq_false h]
    clear h
    go_enter Try.func14, Try.ntmps14
    go_wp2_with fail
    rw [← hW1]
    go_ret
    exact ⟨rfl, hB⟩
def RStIs (W : World) (now last : Int) (X : List Th) (e : Ending) (W' : World) : Prop := ∃ a c, e = .returned (dsV now last a X.length c) ∧ W'.ownsRow W.heap.size rtT 4 (.slice a X.length c) X.length (rtFlat (slot0 X)) ∧ Below W.heap.size W W'
set_option maxRecDepth 100000 in
set_option maxHeartbeats 8000000 in
theorem plain13_any (W : World) (now last : Int) (ao : Option Addr) (cap : Nat) (X : List Th) (h : ThR W ao cap X) (hl : X.length ≤ 1000) :
    Calls Try.prog 16 #[dsV now last ao X.length cap] W (RStIs W now last X) := by
  unfold dsV
  have Hh := Lib.hid h
  have HL := Lib.hid hl
  clear h hl
  obtain ⟨W1, hW1⟩ : ∃ W1, W1 = W.alloc (.cells #[.int .i64 now, .int .u64 last, .slice ao X.length cap] dsT) := ⟨_, rfl⟩
  obtain ⟨W2, hW2⟩ : ∃ W2, W2 = W1.alloc (.cells #[.int .i64 0, .int .u64 0, .slice none 0 0] rsT) := ⟨_, rfl⟩
  obtain ⟨W3, hW3⟩ : ∃ W3, W3 = W2.alloc (.cells #[.int .i64 now, .int .u64 last, .slice none 0 0] rsT) := ⟨_, rfl⟩
  obtain ⟨b1, hb1⟩ : ∃ b, b = W.heap.size := ⟨_, rfl⟩
  obtain ⟨b2, hb2⟩ : ∃ b, b = W.heap.size + 1 := ⟨_, rfl⟩
  obtain ⟨b3, hb3⟩ : ∃ b, b = W.heap.size + 1 + 1 := ⟨_, rfl⟩
  have z1 : W1.heap.size = W.heap.size + 1 := by rw [hW1]; simp
  have z2 : W2.heap.size = W.heap.size + 1 + 1 := by rw [hW2]; simp [z1]
  have B1 : Below W.heap.size W W1 := by rw [hW1]; exact below_new _ _
  have B2 : Below W1.heap.size W1 W2 := by rw [hW2]; exact below_new _ _
  have B3 : Below W2.heap.size W2 W3 := by rw [hW3]; exact below_new _ _
  have hB3 := below_on (below_on B1 B2 (Nat.le_refl _)) B3 (Nat.le_refl _)
  have t1 : W3.heap[b1]? = some (.cells #[.int .i64 now, .int .u64 last, .slice ao X.length cap] dsT (0, 0)) := by
    rw [B3.block b1 (by omega), B2.block b1 (by omega), hW1, hb1]; exact heap_alloc_new _ _
  have t2 : W3.heap[b2]? = some (.cells #[.int .i64 0, .int .u64 0, .slice none 0 0] rsT (0, 0)) := by
    rw [B3.block b2 (by omega), hW2, hb2, ← z1]; exact heap_alloc_new _ _
  have t3 : W3.heap[b3]? = some (.cells #[.int .i64 now, .int .u64 last, .slice none 0 0] rsT (0, 0)) := by
    rw [hW3, hb3, ← z2]; exact heap_alloc_new _ _
  have Hup : Hid (W.heap.size ≤ b1 ∧ W.heap.size ≤ b2 ∧ W.heap.size ≤ b3) := ⟨by omega, by omega, by omega⟩
  have Hap : Hid (b1 ≠ b2 ∧ b1 ≠ b3 ∧ b2 ≠ b3) := ⟨by omega, by omega, by omega⟩
  have HB3 := Lib.hid hB3
  have T1 := Lib.hid t1
  have T2 := Lib.hid t2
  have T3 := Lib.hid t3
  clear z1 z2 B1 B2 B3 hB3 t1 t2 t3
  obtain ⟨E, hE⟩ : ∃ E, E = W3.heap.size := ⟨_, rfl⟩
  have HE := Lib.hid hE
  have HbE : Hid (b1 < E ∧ b2 < E ∧ b3 < E) := (by rw [HE.out]; exact ⟨(Array.getElem?_eq_some_iff.1 T1.out).1, (Array.getElem?_eq_some_iff.1 T2.out).1, (Array.getElem?_eq_some_iff.1 T3.out).1⟩ : b1 < E ∧ b2 < E ∧ b3 < E)
  clear hE
  go_enter Try.func16, Try.ntmps16
  go_wp2_with fail
  rw [← hW1, ← hW2, ← hW3, ← hb3, ← hb2, ← hb1]
  clear hW1 hW2 hW3 hb1 hb2 hb3
  go_loopw [14] (fun u wr => ∃ (i : Nat) (a : Option Addr) (c : Nat), u = .int .i64 (i : Nat) ∧ i ≤ X.length ∧ Hid (wr.heap[b3]? = some (.cells #[.int .i64 now, .int .u64 last, .slice a i c] rsT (0, 0))) ∧ Hid (wr.ownsRow E rtT 4 (.slice a i c) i (rtFlat (slot0 (X.take i)))) ∧ Hid (Gr (fun i => i = b3) W3 wr)) (fun u _ => X.length - (intOf u).toNat)
  case atStart => exact ⟨0, none, 0, rfl, Nat.zero_le _, T3, (World.ownsRow_nil _ _ _ _ : W3.ownsRow E rtT 4 (.slice none 0 0) 0 []), Gr.refl _ _⟩
  case round =>
    obtain ⟨i, a, c, rfl, hi, hx3, ho, hg⟩ := hrel
    have hBw : Below W.heap.size W wr := HB3.out.trans (hg.out.above HB3.out.size (fun i e => by subst e; exact Hup.out.2.2))
    have hEw : E ≤ wr.heap.size := by rw [HE.out]; exact hg.out.size
    have HBw := Lib.hid hBw
    have HEw := Lib.hid hEw
    by_cases hil : i < X.length
    · obtain ⟨x1, x2⟩ := i_nums i X.length hil
      obtain ⟨bx, fx, rfl, hbx, c0, c1, c2⟩ := ThR.cells (ThR.below Hh.out hBw) i hil
      have hfl := slot0_next X i hil
      obtain ⟨⟨ti, tg, td⟩, hy⟩ : ∃ y, y = X[i] := ⟨_, rfl⟩
      rw [← hy] at c0 c1 c2 hfl
      simp only at c0 c1 c2
      obtain ⟨V, hV⟩ : ∃ V, V = wr.alloc (.cells #[.int .u64 ti, .int .u64 tg, .int .i64 td] thT) := ⟨_, rfl⟩
      obtain ⟨p, hp⟩ : ∃ p, p = wr.heap.size := ⟨_, rfl⟩
      have hBV : Below wr.heap.size wr V := by rw [hV]; exact below_new _ _
      have hxp : V.heap[p]? = some (.cells #[.int .u64 ti, .int .u64 tg, .int .i64 td] thT (0, 0)) := by rw [hV, hp]; exact heap_alloc_new _ _
      have hx3V := bx_below hBV hx3.out
      have hne : b3 ≠ p := by have := HbE.out; omega
      have w1 : wrap64 ((i : Int) + 1) = (i : Int) + 1 := IntWalk.wrap64_in _ (by have := HL.out; omega)
      have hld : ∀ W', (W'.heap[b3]? = V.heap[b3]? ∧ W'.heap[p]? = V.heap[p]?) → (Instr.loadAt rtsT (.pointer (some ⟨b3, 2, none⟩))).run Try.prog W' = .ok (.slice a i c) W' ∧ (Instr.loadAt thT (.pointer (some ⟨p, 0, none⟩))).run Try.prog W' = .ok (thVal ⟨ti, tg, td⟩) W' := fun W' hw => by
        have p1 := block_cell (hw.1.trans hx3V) 2
        simp at p1
        exact ⟨ldS p1, ldTb ⟨ti, tg, td⟩ (hw.2.trans hxp)⟩
      have Hld := Lib.hid hld
      have Hlt := Lib.hid (And.intro (Array.getElem?_eq_some_iff.1 hx3V).1 (Array.getElem?_eq_some_iff.1 hxp).1)
      have Hi := Lib.hid hil
      have Hfl := Lib.hid hfl
      have HBV := Lib.hid hBV
      have Hne := Lib.hid hne
      have Hx3V := Lib.hid hx3V
      have HW1 := Lib.hid w1
      have Hp := Lib.hid hp
      have HV := Lib.hid hV
      clear hld hil hfl hBV hne hy hi hxp hx3V hBw hEw w1 hp hV
      go_upto_region 5 with fail
      rw [← HV.out, ← Hp.out]
      clear c0 c1 c2 hbx
      refine wp_region_late 7 (S := fun W' => W'.heap[b3]? = V.heap[b3]? ∧ W'.heap[p]? = V.heap[p]?) (by kernel_rfl) ⟨rfl, rfl⟩ (fun hHeld => ?_)
      obtain ⟨V0, hV0⟩ : ∃ V0, V0 = V.drew := ⟨_, rfl⟩
      rw [← hV0] at hHeld ⊢
      have hB0 : Below V.heap.size V V0 := by rw [hV0]; exact (Below.refl _ V).drew
      clear hV0
      refine wpLate_pure (i := 0) (v := ?_) rfl (by kernel_rfl) (by kernel_rfl) (by kernel_rfl) (by kernel_rfl) (fun _ _ _ h => h) (Or.inl ⟨by rfl, ?_⟩) (fun _ => by assumption) ?_
      rotate_left
      · intro w8 hSw; clear hSw; go_simp; (try with_reducible rfl)
      simp only [Act.put, List.getElem_toArray, List.getElem_cons_zero, List.getElem_cons_succ, List.setIfInBounds_toArray, List.set_cons_zero, List.set_cons_succ]
      refine wpLate_take [5, 7] (i := 1) (v := .slice a i c) rfl (by kernel_rfl) (by kernel_rfl) (by kernel_rfl) (by kernel_rfl) (by kernel_rfl) (fun _ _ _ h => h) (Or.inl ⟨by rfl, ?_⟩) (by assumption) ?_
      · intro w8 hSw; exact ld_takeT rfl (Hld.out w8 hSw).1 rfl
      simp only [Act.put, List.getElem_toArray, List.getElem_cons_zero, List.getElem_cons_succ, List.setIfInBounds_toArray, List.set_cons_zero, List.set_cons_succ]
      refine wpLate_take [3, 4, 5, 7] (i := 2) (v := thVal ⟨ti, tg, td⟩) rfl (by kernel_rfl) (by kernel_rfl) (by kernel_rfl) (by kernel_rfl) (by kernel_rfl) (fun _ _ _ h => h) (Or.inl ⟨by rfl, ?_⟩) (by assumption) ?_
      · intro w8 hSw; exact ld_takeT rfl (Hld.out w8 hSw).2 rfl
      simp only [Act.put, List.getElem_toArray, List.getElem_cons_zero, List.getElem_cons_succ, List.setIfInBounds_toArray, List.set_cons_zero, List.set_cons_succ]
      refine wpLate_ready (rs := [3]) (by kernel_rfl) (by simp) ?_
      refine AllLate.cons rfl (fun K hK => ?_) AllLate.nil
      go_simp
      go_at_call 41
      refine (plain_any V0 ⟨ti, tg, td⟩).mono ?_
      rintro e V1 ⟨rfl, hb1⟩; have hB1 := below_on hB0 hb1 (Nat.le_refl _)
      refine hK.out _ _ ⟨hB1.block b3 Hlt.out.1, hB1.block p Hlt.out.2⟩ (fun hHeld => ?_)
      clear hK K
      try simp only [Act.put, List.getElem_toArray, List.getElem_cons_zero, List.getElem_cons_succ, List.setIfInBounds_toArray, List.set_cons_zero, List.set_cons_succ]
      unfold rtVal
      refine wpLate_ready (rs := [4]) (by kernel_rfl) (by simp) ?_
      refine AllLate.cons rfl (fun K hK => ?_) AllLate.nil
      go_simp
      obtain ⟨V2, hV2⟩ : ∃ V2, V2 = V1.alloc (.cells #[.int .u64 ti, .int .u64 tg, .int .i64 td, .int .i64 0] rtT) := ⟨_, rfl⟩
      obtain ⟨g1, hg1⟩ : ∃ g, g = V1.heap.size := ⟨_, rfl⟩
      have hB2 : Below V.heap.size V V2 := by rw [hV2]; exact below_on hB1 (below_new _ _) (Nat.le_refl _)
      have hBw2 := below_on HBV.out hB2 (Nat.le_refl _)
      have hE2 : E ≤ V2.heap.size := Nat.le_trans HEw.out hBw2.size
      have own1 : V2.ownsRow E rtT 4 (.slice (some ⟨g1, 0, .none⟩) 1 1) 1 (rtFlat [((⟨ti, tg, td⟩ : Th), 0)]) := by rw [hV2, hg1]; exact own_rt V1 E (⟨ti, tg, td⟩, 0) (Nat.le_trans HEw.out (below_on HBV.out hB1 (Nat.le_refl _)).size)
      rw [← hV2, ← hg1]
      refine hK.out _ _ ⟨hB2.block b3 Hlt.out.1, hB2.block p Hlt.out.2⟩ (fun hHeld => ?_)
      clear hK K hV2 hg1
      try simp only [Act.put, List.getElem_toArray, List.getElem_cons_zero, List.getElem_cons_succ, List.setIfInBounds_toArray, List.set_cons_zero, List.set_cons_succ]
      have own2 := own_below ho.out hBw2
      have hown := (ho.out).lt
      refine wpLate_ready (rs := [5]) (by kernel_rfl) (by simp) ?_
      refine AllLate.cons rfl (fun K hK => ?_) AllLate.nil
      rw [if_pos (by rfl)]
      refine wpo_append_lie (.tmp 19) (.tmp 22) rtsT rfl E rtT infoRt Try.underlying48 rfl (by decide) _ i _ rfl own2 _ _ _ _ rfl (Rt.of_own (l := [((⟨ti, tg, td⟩ : Th), 0)]) own1).sl (rts_one _) (by unfold maxLen; have := HL.out; have := Hi.out; simp; omega) (by have := HL.out; have := Hi.out; simp; omega) hE2 fun a3 c3 V3 own3 hgr _ => ?_
      have hg3 : V3.heap[b3]? = V.heap[b3]? := (hgr.block b3 (Nat.lt_of_lt_of_le Hlt.out.1 hB2.size) (fun e => by have := (hown b3 e.symm).1; have := HbE.out; omega)).trans (hB2.block b3 Hlt.out.1)
      have hgp : V3.heap[p]? = V.heap[p]? := (hgr.block p (Nat.lt_of_lt_of_le Hlt.out.2 hB2.size) (fun e => by have := (hown p e.symm).2; have := Hp.out; omega)).trans (hB2.block p Hlt.out.2)
      refine hK.out _ _ ⟨hg3, hgp⟩ (fun hHeld => ?_)
      clear hK K
      try simp only [Act.put, List.getElem_toArray, List.getElem_cons_zero, List.getElem_cons_succ, List.setIfInBounds_toArray, List.set_cons_zero, List.set_cons_succ]
      have x3 := hg3.trans Hx3V.out
      have y2 := block_cell x3 2
      have f2 := block_free x3 2
      have l3 := (Array.getElem?_eq_some_iff.1 x3).1
      simp at y2 f2
      have hfr : Gr (fun i => i = b3) W3 V3 := ⟨(hgr.os.trans hBw2.os).trans hg.out.os, (hgr.tape.trans hBw2.tape).trans hg.out.tape, (hgr.output.trans hBw2.output).trans hg.out.output, Nat.le_trans (Nat.le_trans hg.out.size hBw2.size) hgr.size, fun j hj hjn => (hgr.block j (Nat.lt_of_lt_of_le hj (Nat.le_trans hg.out.size hBw2.size)) (fun e => by have := (hown j e.symm).1; have := HE.out; omega)).trans ((hBw2.block j (Nat.lt_of_lt_of_le hj hg.out.size)).trans (hg.out.block j hj hjn))⟩
      obtain ⟨U, hU⟩ : ∃ U, U = V3.setCell ⟨b3, 2, none⟩ (.slice a3 (i + 1) c3) := ⟨_, rfl⟩
      have hxU := block_set x3 2 (.slice a3 (i + 1) c3)
      simp only [List.setIfInBounds_toArray, List.set_cons_zero, List.set_cons_succ] at hxU
      have hoU0 := World.ownsRow.kept own3 (grown_set V3 b3 2 (.slice a3 (i + 1) c3)) (.inr (fun e => by have := (own3.lt b3 e).1; have := HbE.out; omega))
      rw [Hfl.out] at hoU0
      have hoU := hoU0
      clear hoU0
      have hfU : Gr (fun i => i = b3) W3 U := by rw [hU]; exact hfr.trans (Gr.one (grown_set V3 b3 2 _) (fun b e => (Option.some.inj e).symm))
      rw [← hU] at hxU hoU
      have HxU := Lib.hid hxU
      have HoU := Lib.hid hoU
      have HfU := Lib.hid hfU
      have HU := Lib.hid hU
      clear hxU hoU hfU hU hfr hg3 hgp own3 own1 own2 hgr hown hE2 hBw2 hB2 hB1 hb1 hB0
      refine wpLate_pure (i := 6) (v := ?_) rfl (by kernel_rfl) (by kernel_rfl) (by kernel_rfl) (by kernel_rfl) (fun _ _ _ h => h) (Or.inl ⟨by rfl, ?_⟩) (fun _ => by assumption) ?_
      rotate_left
      · intro w8 hSw; clear hSw; go_simp; (try with_reducible rfl)
      simp only [Act.put, List.getElem_toArray, List.getElem_cons_zero, List.getElem_cons_succ, List.setIfInBounds_toArray, List.set_cons_zero, List.set_cons_succ]
      refine wpLate_ready (rs := [7]) (by kernel_rfl) (by simp) ?_
      refine AllLate.store rfl (fun K hK => ?_)
      go_simp
      rw [show V3.setCell ⟨b3, 2, none⟩ (.slice a3 (i + 1) c3) = U from HU.out.symm]
      refine hK.out _ _ ?_
      clear hK K y2 f2 l3 x3
      try simp only [Act.put, List.getElem_toArray, List.getElem_cons_zero, List.getElem_cons_succ, List.setIfInBounds_toArray, List.set_cons_zero, List.set_cons_succ]
      refine wpLate_done (by kernel_rfl) ?_ _
      have w1 := HW1.out
      go_wp2_with fail
      go_roundw
      case rel => exact ⟨i + 1, a3, c3, by first | rfl | rw [w1]; rfl, Hi.out, HxU, HoU, HfU⟩
      case measure =>
        first | rw [w1] | skip
        exact ts_meas X.length i Hi.out
    · obtain rfl : i = X.length := Nat.le_antisymm hi (Nat.le_of_not_lt hil)
      have x1 : ¬ (X.length : Int) < (X.length : Int) := Int.lt_irrefl _
      have z3 := hx3.out
      have q0 := block_cell z3 0
      have q1 := block_cell z3 1
      have q2 := block_cell z3 2
      have m3 := (Array.getElem?_eq_some_iff.1 z3).1
      have z2 := (hg.out.block b2 (by have := HE.out; have := HbE.out; omega) Hap.out.2.2).trans T2.out
      have r0 := block_cell z2 0
      have r1 := block_cell z2 1
      have r2 := block_cell z2 2
      have f0 := block_free z2 0
      have f1 := block_free z2 1
      have f2 := block_free z2 2
      have m2 := (Array.getElem?_eq_some_iff.1 z2).1
      simp at q0 q1 q2 r0 r1 r2 f0 f1 f2
      have Z2 := Lib.hid z2
      clear hi hil z3 z2
      go_wp2_with fail
      have u3 := bx_set3 Z2.out (.int .i64 now) (.int .u64 last) (.slice a X.length c)
      have hgU := gr_set3 wr b2 (.int .i64 now) (.int .u64 last) (.slice a X.length c)
      obtain ⟨U, hU⟩ : ∃ U, U = ((wr.setCell ⟨b2, 0, none⟩ (.int .i64 now)).setCell ⟨b2, 1, none⟩ (.int .u64 last)).setCell ⟨b2, 2, none⟩ (.slice a X.length c) := ⟨_, rfl⟩
      rw [← hU] at u3 hgU ⊢
      have u0 := block_cell u3 0
      have u1 := block_cell u3 1
      have u2 := block_cell u3 2
      have ul := (Array.getElem?_eq_some_iff.1 u3).1
      simp at u0 u1 u2
      have ho2 := ho.out
      rw [List.take_length] at ho2
      have hR : RStIs W now last X (.returned (dsV now last a X.length c)) U := ⟨a, c, rfl, own_base (own_gr ho2 hgU (fun i e => by subst e; exact HbE.out.2.1)) (by rw [HE.out]; exact HB3.out.size), HBw.out.trans (hgU.above HBw.out.size (fun i e => by subst e; exact Hup.out.2.1))⟩
      clear u3 hU
      refine bodyPost_ret (v := .agg #[.int .i64 now, .int .u64 last, .slice a X.length c]) ?_ rfl hR
      simp [results, Try.results16, go_sem, u0, u1, u2, ul]
end Go.Proofs.Ytedlplkomfiahaa
namespace Go.Proofs.Ytedlplkomfiahaa
set_option linter.unusedVariables false
set_option linter.unusedSimpArgs false
set_option linter.unusedSectionVars false
open Go Go.RowKit Go.Maps Go.Deep
theorem neq_rr (x y : Th) (w : World) : (binOp .neq rtT (rtVal (x, 0)) (rtVal (y, 0))).run Try.prog w = .ok (.bool (!decide (x = y))) w := neq_rtv x (y, 0) w
theorem guard_rr (op : BinOp) (p q : Operand) (x y : Th) (w : World) : (eqGuard op rtT p q (rtVal (x, 0)) (rtVal (y, 0))).run Try.prog w = .ok () w := guard_rt op p q _ _ w
theorem take_step (X Y : List Th) (i : Nat) (hx : i < X.length) (hy : i < Y.length) : (X.take (i + 1) = Y.take (i + 1)) ↔ (X.take i = Y.take i ∧ X[i] = Y[i]) := by
  rw [← List.take_append_getElem hx, ← List.take_append_getElem hy]
  have l1 : (X.take i).length = i := by rw [List.length_take]; omega
  have l2 : (Y.take i).length = i := by rw [List.length_take]; omega
  constructor
  · intro h
    obtain ⟨h1, h2⟩ := List.append_inj h (l1.trans l2.symm)
    exact ⟨h1, by simpa using h2⟩
  · rintro ⟨h1, h2⟩
    rw [h1, h2]
set_option maxRecDepth 100000 in
set_option maxHeartbeats 8000000 in
theorem rsame13_any (W : World) (n1 s1 : Int) (a1 : Option Addr) (c1 : Nat) (X : List Th) (n2 s2 : Int) (a2 : Option Addr) (c2 : Nat) (Y : List Th) (hX : Rt W a1 c1 (slot0 X)) (hY : Rt W a2 c2 (slot0 Y)) (hl : X.length ≤ 1000) :
    Calls Try.prog 19 #[dsV n1 s1 a1 X.length c1, dsV n2 s2 a2 Y.length c2] W fun e W' => e = .returned (.bool (decide (n1 = n2 ∧ s1 = s2 ∧ X = Y))) ∧ Below W.heap.size W W' := by
  unfold dsV
  obtain ⟨W1, hW1⟩ : ∃ W1, W1 = W.alloc (.cells #[.int .i64 n1, .int .u64 s1, .slice a1 X.length c1] rsT) := ⟨_, rfl⟩
  obtain ⟨W2, hW2⟩ : ∃ W2, W2 = W1.alloc (.cells #[.int .i64 n2, .int .u64 s2, .slice a2 Y.length c2] rsT) := ⟨_, rfl⟩
  obtain ⟨b1, hb1⟩ : ∃ b, b = W.heap.size := ⟨_, rfl⟩
  obtain ⟨b2, hb2⟩ : ∃ b, b = W.heap.size + 1 := ⟨_, rfl⟩
  have z1 : W1.heap.size = W.heap.size + 1 := by rw [hW1]; simp
  have B1 : Below W.heap.size W W1 := by rw [hW1]; exact below_new _ _
  have B2 : Below W1.heap.size W1 W2 := by rw [hW2]; exact below_new _ _
  have hB2 := below_on B1 B2 (Nat.le_refl _)
  have t1 : W2.heap[b1]? = some (.cells #[.int .i64 n1, .int .u64 s1, .slice a1 X.length c1] rsT (0, 0)) := by
    rw [B2.block b1 (by omega), hW1, hb1]; exact heap_alloc_new _ _
  have t2 : W2.heap[b2]? = some (.cells #[.int .i64 n2, .int .u64 s2, .slice a2 Y.length c2] rsT (0, 0)) := by
    rw [hW2, hb2, ← z1]; exact heap_alloc_new _ _
  have Hup : Hid (W.heap.size ≤ b1 ∧ W.heap.size ≤ b2) := ⟨by omega, by omega⟩
  have Hap : Hid (b1 ≠ b2) := (by omega : b1 ≠ b2)
  have HB2 := Lib.hid hB2
  have T1 := Lib.hid t1
  have T2 := Lib.hid t2
  clear z1 B1 B2 hB2 t1 t2
  have p0 := block_cell T1.out 0
  have p1 := block_cell T1.out 1
  have p2 := block_cell T1.out 2
  have q0 := block_cell T2.out 0
  have q1 := block_cell T2.out 1
  have q2 := block_cell T2.out 2
  have l1 := (Array.getElem?_eq_some_iff.1 T1.out).1
  have l2 := (Array.getElem?_eq_some_iff.1 T2.out).1
  simp at p0 p1 p2 q0 q1 q2
  have HX := Lib.hid hX
  have HY := Lib.hid hY
  have HL := Lib.hid hl
  clear hX hY hl
  by_cases e1 : n1 = n2
  · subst e1
    by_cases e2 : s1 = s2
    · subst e2
      by_cases e3 : X.length = Y.length
      · have x0 : (X.length : Int) = (Y.length : Int) := by omega
        have y0 : ((X.length : Int) != (Y.length : Int)) = false := by simp [e3]
        have Hlen := Lib.hid e3
        clear e3
        go_enter Try.func19, Try.ntmps19
        go_wp2_with fail
        rw [← hW1, ← hW2, ← hb2, ← hb1]
        clear hW1 hW2 hb1 hb2 p0 p1 p2 q0 q1 q2 l1 l2 x0 y0
        go_loopw [5] (fun u wr => ∃ i : Nat, u = .int .i64 (i : Nat) ∧ i ≤ X.length ∧ Hid (X.take i = Y.take i) ∧ Hid (Below W2.heap.size W2 wr)) (fun u _ => X.length - (intOf u).toNat)
        case atStart => exact ⟨0, rfl, Nat.zero_le _, by show _ = _; simp, (Below.refl _ W2 : Below W2.heap.size W2 W2)⟩
        case round =>
          obtain ⟨i, rfl, hi, heq, hbw⟩ := hrel
          have p0 := block_cell (bx_below hbw.out T1.out) 0
          have p2 := block_cell (bx_below hbw.out T1.out) 2
          have l1 := (Array.getElem?_eq_some_iff.1 (bx_below hbw.out T1.out)).1
          simp at p0 p2
          by_cases hil : i < X.length
          · obtain ⟨x1, x2⟩ := i_nums i X.length hil
            have hil2 : i < Y.length := by rw [← Hlen.out]; exact hil
            have hBw := below_on HB2.out hbw.out (Nat.le_refl _)
            obtain ⟨ba, fa, rfl, hba, c0, c1', c2', c3⟩ := rx_cells (HX.out.below hBw) i hil
            obtain ⟨bb, fb, rfl, hbb, d0, d1, d2, d3⟩ := rx_cells (HY.out.below hBw) i hil2
            obtain ⟨x, hx⟩ : ∃ x, x = X[i] := ⟨_, rfl⟩
            obtain ⟨y, hy⟩ : ∃ y, y = Y[i] := ⟨_, rfl⟩
            rw [← hx] at c0 c1' c2'
            rw [← hy] at d0 d1 d2
            have x3 : (i : Int) < (Y.length : Int) := by omega
            have w1 : wrap64 ((i : Int) + 1) = (i : Int) + 1 := IntWalk.wrap64_in _ (by have := HL.out; omega)
            have hld : ∀ W', Below wr.heap.size wr W' → (Instr.loadAt rtsT (.pointer (some ⟨b1, 2, none⟩))).run Try.prog W' = .ok (.slice (some ⟨ba, fa, none⟩) X.length c1) W' ∧ (Instr.loadAt rtsT (.pointer (some ⟨b2, 2, none⟩))).run Try.prog W' = .ok (.slice (some ⟨bb, fb, none⟩) Y.length c2) W' ∧ (Instr.loadAt rtT (.pointer (some ⟨ba, fa + i * 4, none⟩))).run Try.prog W' = .ok (rtVal (x, 0)) W' ∧ (Instr.loadAt rtT (.pointer (some ⟨bb, fb + i * 4, none⟩))).run Try.prog W' = .ok (rtVal (y, 0)) W' := fun W' hw => by
              have hw2 := below_on hbw.out hw (Nat.le_refl _)
              have r1 := block_cell (bx_below hw2 T1.out) 2
              have r2 := block_cell (bx_below hw2 T2.out) 2
              simp at r1 r2
              exact ⟨ldS r1, ldS r2, ldRt x 0 ((hw.cell (p := ⟨ba, fa + i * 4, none⟩) hba).trans c0) ((hw.cell (p := ⟨ba, fa + i * 4 + 1, none⟩) hba).trans c1') ((hw.cell (p := ⟨ba, fa + i * 4 + 2, none⟩) hba).trans c2') ((hw.cell (p := ⟨ba, fa + i * 4 + 3, none⟩) hba).trans c3),
                ldRt y 0 ((hw.cell (p := ⟨bb, fb + i * 4, none⟩) hbb).trans d0) ((hw.cell (p := ⟨bb, fb + i * 4 + 1, none⟩) hbb).trans d1) ((hw.cell (p := ⟨bb, fb + i * 4 + 2, none⟩) hbb).trans d2) ((hw.cell (p := ⟨bb, fb + i * 4 + 3, none⟩) hbb).trans d3)⟩
            have hnq := neq_rr x y
            have hgq := fun p q w => guard_rr .neq p q x y w
            have Hld := Lib.hid hld
            have Hx := Lib.hid hx
            have Hy := Lib.hid hy
            have Hi := Lib.hid hil
            have Hi2 := Lib.hid hil2
            have HW1 := Lib.hid w1
            have HBd := Lib.hid hBw.drew
            clear hld hx hy hBw c0 c1' c2' c3 d0 d1 d2 d3 hba hbb w1
            go_upto_region 6 with fail
            refine wp_region_held_drew (S := fun W' => Below wr.heap.size wr W') (by kernel_rfl) (Below.refl _ wr).drew (fun hHeld => ?_)
            refine wpAnyH_take (i := 0) (v := ?_) rfl (by kernel_rfl) (by kernel_rfl) (by kernel_rfl) (fun _ _ _ h => h) (Or.inl ⟨by rfl, ?_⟩) (by assumption) ?_
            rotate_left
            · intro w8 hSw; clear hSw; go_simp; (try with_reducible rfl)
            simp only [Act.put, List.getElem_toArray, List.getElem_cons_zero, List.getElem_cons_succ, List.setIfInBounds_toArray, List.set_cons_zero, List.set_cons_succ]
            refine wpAnyH_take (i := 1) (v := .slice (some ⟨ba, fa, none⟩) X.length c1) rfl (by kernel_rfl) (by kernel_rfl) (by kernel_rfl) (fun _ _ _ h => h) (Or.inl ⟨by rfl, ?_⟩) (by assumption) ?_
            · intro w8 hSw; exact ld_takeT rfl (Hld.out w8 hSw).1 rfl
            simp only [Act.put, List.getElem_toArray, List.getElem_cons_zero, List.getElem_cons_succ, List.setIfInBounds_toArray, List.set_cons_zero, List.set_cons_succ]
            refine wpAnyH_take (i := 2) (v := ?_) rfl (by kernel_rfl) (by kernel_rfl) (by kernel_rfl) (fun _ _ _ h => h) (Or.inl ⟨by rfl, ?_⟩) (by assumption) ?_
            rotate_left
            · intro w8 hSw; clear hSw; go_simp; (try with_reducible rfl)
            simp only [Act.put, List.getElem_toArray, List.getElem_cons_zero, List.getElem_cons_succ, List.setIfInBounds_toArray, List.set_cons_zero, List.set_cons_succ]
            refine wpAnyH_take (i := 3) (v := ?_) rfl (by kernel_rfl) (by kernel_rfl) (by kernel_rfl) (fun _ _ _ h => h) (Or.inl ⟨by rfl, ?_⟩) (by assumption) ?_
            rotate_left
            · intro w8 hSw; clear hSw; go_simp; (try with_reducible rfl)
            simp only [Act.put, List.getElem_toArray, List.getElem_cons_zero, List.getElem_cons_succ, List.setIfInBounds_toArray, List.set_cons_zero, List.set_cons_succ]
            refine wpAnyH_take (i := 4) (v := rtVal (x, 0)) rfl (by kernel_rfl) (by kernel_rfl) (by kernel_rfl) (fun _ _ _ h => h) (Or.inl ⟨by rfl, ?_⟩) (by assumption) ?_
            · intro w8 hSw; exact ld_takeT rfl (Hld.out w8 hSw).2.2.1 rfl
            simp only [Act.put, List.getElem_toArray, List.getElem_cons_zero, List.getElem_cons_succ, List.setIfInBounds_toArray, List.set_cons_zero, List.set_cons_succ]
            refine wpAnyH_take (i := 5) (v := ?_) rfl (by kernel_rfl) (by kernel_rfl) (by kernel_rfl) (fun _ _ _ h => h) (Or.inl ⟨by rfl, ?_⟩) (by assumption) ?_
            rotate_left
            · intro w8 hSw; clear hSw; go_simp; (try with_reducible rfl)
            simp only [Act.put, List.getElem_toArray, List.getElem_cons_zero, List.getElem_cons_succ, List.setIfInBounds_toArray, List.set_cons_zero, List.set_cons_succ]
            refine wpAnyH_take (i := 6) (v := .slice (some ⟨bb, fb, none⟩) Y.length c2) rfl (by kernel_rfl) (by kernel_rfl) (by kernel_rfl) (fun _ _ _ h => h) (Or.inl ⟨by rfl, ?_⟩) (by assumption) ?_
            · intro w8 hSw; exact ld_takeT rfl (Hld.out w8 hSw).2.1 rfl
            simp only [Act.put, List.getElem_toArray, List.getElem_cons_zero, List.getElem_cons_succ, List.setIfInBounds_toArray, List.set_cons_zero, List.set_cons_succ]
            refine wpAnyH_take (i := 7) (v := ?_) rfl (by kernel_rfl) (by kernel_rfl) (by kernel_rfl) (fun _ _ _ h => h) (Or.inl ⟨by rfl, ?_⟩) (by assumption) ?_
            rotate_left
            · intro w8 hSw; clear hSw; go_simp; (try with_reducible rfl)
            simp only [Act.put, List.getElem_toArray, List.getElem_cons_zero, List.getElem_cons_succ, List.setIfInBounds_toArray, List.set_cons_zero, List.set_cons_succ]
            refine wpAnyH_take (i := 8) (v := ?_) rfl (by kernel_rfl) (by kernel_rfl) (by kernel_rfl) (fun _ _ _ h => h) (Or.inl ⟨by rfl, ?_⟩) (by assumption) ?_
            rotate_left
            · intro w8 hSw; clear hSw; go_simp; (try with_reducible rfl)
            simp only [Act.put, List.getElem_toArray, List.getElem_cons_zero, List.getElem_cons_succ, List.setIfInBounds_toArray, List.set_cons_zero, List.set_cons_succ]
            refine wpAnyH_take (i := 9) (v := rtVal (y, 0)) rfl (by kernel_rfl) (by kernel_rfl) (by kernel_rfl) (fun _ _ _ h => h) (Or.inl ⟨by rfl, ?_⟩) (by assumption) ?_
            · intro w8 hSw; exact ld_takeT rfl (Hld.out w8 hSw).2.2.2 rfl
            simp only [Act.put, List.getElem_toArray, List.getElem_cons_zero, List.getElem_cons_succ, List.setIfInBounds_toArray, List.set_cons_zero, List.set_cons_succ]
            refine wpAnyH_take (i := 10) (v := ?_) rfl (by kernel_rfl) (by kernel_rfl) (by kernel_rfl) (fun _ _ _ h => h) (Or.inl ⟨by rfl, ?_⟩) (by assumption) ?_
            rotate_left
            · intro w8 hSw; clear hSw; go_simp; (try with_reducible rfl)
            simp only [Act.put, List.getElem_toArray, List.getElem_cons_zero, List.getElem_cons_succ, List.setIfInBounds_toArray, List.set_cons_zero, List.set_cons_succ]
            refine wpAnyH_done (by kernel_rfl) ?_ _
            have Hb8 := Lib.hid hbw.out.drew
            clear hnq hgq p0 p2 l1 hHeld
            by_cases hxy : x = y
            · have hv : (!decide (x = y)) = false := by simp [hxy]
              rw [hv]
              have Hxy := Lib.hid hxy
              have w1 := HW1.out
              clear hxy hv
              go_wp2_with fail
              go_roundw
              case rel => exact ⟨i + 1, by first | rfl | rw [w1]; rfl, Hi.out, (take_step X Y i Hi.out Hi2.out).2 ⟨heq.out, by rw [← Hx.out, ← Hy.out]; exact Hxy.out⟩, Hb8.out⟩
              case measure =>
                first | rw [w1] | skip
                exact ts_meas X.length i Hi.out
            · have hv : (!decide (x = y)) = true := by simp [hxy]
              rw [hv]
              have hne : ¬ X = Y := fun e => by
                apply hxy
                have := ((take_step X Y i Hi.out Hi2.out).1 (by rw [e])).2
                rw [Hx.out, Hy.out]; exact this
              have Hne := Lib.hid hne
              clear hxy hv hne
              go_wp2_with fail
              go_ret
              exact ⟨by have h := Hne.out; simp [h], HBd.out⟩
          · obtain rfl : i = X.length := Nat.le_antisymm hi (Nat.le_of_not_lt hil)
            have x1 : ¬ (X.length : Int) < (X.length : Int) := Int.lt_irrefl _
            have heq2 := heq.out
            rw [List.take_length, Hlen.out, List.take_length] at heq2
            have hne : X = Y := heq2
            have Hne := Lib.hid hne
            have HBw := Lib.hid (below_on HB2.out hbw.out (Nat.le_refl _))
            clear hne heq2 hi hil
            go_wp2_with fail
            go_ret
            exact ⟨by have h := Hne.out; simp [h], HBw.out⟩
      · have x0 : ¬ (X.length : Int) = (Y.length : Int) := by omega
        have y0 : ((X.length : Int) != (Y.length : Int)) = true := by simp; omega
        have hne : ¬ X = Y := fun e => e3 (by rw [e])
        have Hne := Lib.hid hne
        clear hne e3
        go_enter Try.func19, Try.ntmps19
        go_wp2_with fail
        rw [← hW1, ← hW2]
        go_ret
        exact ⟨by have h := Hne.out; simp [h], HB2.out⟩
    · have y1 : (s1 != s2) = true := by simp [e2]
      have hne : ¬ s1 = s2 := e2
      have Hne := Lib.hid hne
      clear hne
      go_enter Try.func19, Try.ntmps19
      go_wp2_with fail
      rw [← hW1, ← hW2]
      go_ret
      exact ⟨by have h := Hne.out; simp [h], HB2.out⟩
  · have y1 : (n1 != n2) = true := by simp [e1]
    have hne : ¬ n1 = n2 := e1
    have Hne := Lib.hid hne
    clear hne
    go_enter Try.func19, Try.ntmps19
    go_wp2_with fail
    rw [← hW1, ← hW2]
    go_ret
    exact ⟨by have h := Hne.out; simp [h], HB2.out⟩
end Go.Proofs.Ytedlplkomfiahaa
namespace Go.Proofs.Ytedlplkomfiahaa
set_option linter.unusedVariables false
set_option linter.unusedSimpArgs false
set_option linter.unusedSectionVars false
open Go Go.RowKit Go.Maps Go.Deep
theorem rt_keep {V U : World} {a : Option Addr} {c : Nat} {l : RLs} {H : Nat → Prop} (h : Rt V a c l) (hg : Gr H V U) (hA : ∀ x, a = some x → ¬ H x.block) : Rt U a c l := rt_gr h hg (fun x e => ⟨h.lt x e, hA x e⟩)
/-- a box of another type is not the row's block -/
theorem rt_off {V : World} {p : Nat} {T : TypeId} {cs : Array Value} {a : Option Addr} {c : Nat} {l : RLs} (h : Rt V a c l) (hx : V.heap[p]? = some (.cells cs T (0, 0))) (hT : T ≠ rtT) : ∀ x, a = some x → x.block ≠ p := fun x e e2 => by
  obtain ⟨b, off, s⟩ := x
  have ht := h.typ b off s e
  simp only at e2
  subst e2
  unfold elem? at ht
  rw [hx] at ht
  exact hT (Option.some.inj ht)
theorem ldDs {W : World} {b : Nat} {now last : Int} {v : Value} (h : W.heap[b]? = some (.cells #[.int .i64 now, .int .u64 last, v] rsT (0, 0))) (ao : Option Addr) (n cap : Nat) (hv : v = .slice ao n cap) : (Instr.loadAt rsT (.pointer (some ⟨b, 0, none⟩))).run Try.prog W = .ok (.agg #[.int .i64 now, .int .u64 last, v]) W := by
  subst hv
  have p0 := block_cell h 0
  have p1 := block_cell h 1
  have p2 := block_cell h 2
  simp at p0 p1 p2
  go_simp
end Go.Proofs.Ytedlplkomfiahaa
namespace Go.Proofs.Ytedlplkomfiahaa
set_option linter.unusedVariables false
set_option linter.unusedSimpArgs false
set_option linter.unusedSectionVars false
open Go Go.RowKit Go.Maps Go.Deep
/-- a call of a book -/
structure DOp where
  kind : Int
  id : Int
  at_ : Int
deriving Inhabited
def dopCells (o : DOp) : List Value := [.int .i64 o.kind, .int .u64 o.id, .int .i64 o.at_]
/-- the call's result is set: its box is neither the book's nor the row's -/
theorem ddone_sets {Wb W Z V : World} {G G9 : Nat → Prop} {b b3 : Nat} {now' last' : Int} {X' : List Th} {a3 : Option Addr} {c3 : Nat} {x0 x1 x2 : Value} (hbb : Wb.heap.size ≤ W.heap.size)
    (hBZ : Below W.heap.size W Z) (hRZ : Rt Z a3 c3 (slot0 X')) (hAZ : RAp Z G a3) (hwo : Bk Wb V G9 b now' last' X') (hg : Gr G Z V) (hF9 : ∀ i, G9 i → G i ∨ Z.heap.size ≤ i)
    (hx : Z.heap[b3]? = some (.cells #[x0, x1, x2] rsT (0, 0))) (hb : W.heap.size ≤ b3) (hF3 : ¬ G b3) (v0 v1 v2 : Value) :
    ∃ U, U = ((V.setCell ⟨b3, 0, none⟩ v0).setCell ⟨b3, 1, none⟩ v1).setCell ⟨b3, 2, none⟩ v2 ∧ (Bk Wb U G9 b now' last' X' ∧ Rt U a3 c3 (slot0 X') ∧ RAp U G9 a3 ∧ Gr G W U ∧ ∀ i, G9 i → G i ∨ W.heap.size ≤ i) ∧ U.heap[b3]? = some (.cells #[v0, v1, v2] rsT (0, 0)) ∧ ∀ i, i ≠ b3 → U.heap[i]? = V.heap[i]? := by
  have hlt := (Array.getElem?_eq_some_iff.1 hx).1
  have xV := (hg.block b3 hlt hF3).trans hx
  have xU := bx_set3 xV v0 v1 v2
  have hgU := gr_set3 V b3 v0 v1 v2
  have hZs := hBZ.size
  have hVs := hg.size
  have hrV := rt_gr hRZ hg hAZ
  refine ⟨_, rfl, ⟨?_, ?_, ?_, ?_, ?_⟩, xU, fun i hi => ((heap_setCell_other _ ⟨b3, 2, none⟩ i v2 hi).trans (heap_setCell_other _ ⟨b3, 1, none⟩ i v1 hi)).trans (heap_setCell_other V ⟨b3, 0, none⟩ i v0 hi)⟩
  · exact hwo.beside hgU (fun i hi e => by subst e; rcases hF9 _ hi with h | h; exact hF3 h; omega) (fun i e => by subst e; omega)
  · exact rt_keep hrV hgU (rt_off hrV xV (by decide))
  · intro a e
    have h1 := hAZ a e
    refine ⟨Nat.lt_of_lt_of_le h1.1 (Nat.le_trans hVs hgU.size), fun h => ?_⟩
    rcases hF9 _ h with h | h
    · exact h1.2 h
    · omega
  · exact ((Gr.below hBZ).trans hg).then hgU (fun i e => by subst e; exact .inr hb)
  · intro i hi
    rcases hF9 i hi with h | h
    · exact .inl h
    · exact .inr (Nat.le_trans hZs h)
end Go.Proofs.Ytedlplkomfiahaa
