/- Lemmas for BagOnce (FrameB Sg Sl FrameE FrameR Sr Ss Sm Qv Sh Sw Ma Mb Mc Md Wl Mfd Ml). No statement of the seat is proved here. -/
import Derived.Deep.RegionLaw
import Derived.Deep.DeepCutAuto
import Derived.RegionTactic
import Derived.ChangeAlike
import Derived.Deep.RegionHeld3
import Derived.RangeFuncNested
import Derived.RangeFuncBound
import Derived.RangeFuncCalls
import Derived.RangeFuncLeaves
import Derived.Shelf.Abstract
import Derived.Shelf.RegionOpen
import Derived.OwnWalkIn
import Derived.TacticsInMore
import Derived.LoopNIn
import Derived.LoopIn
import Derived.Sort.QuietIn
import Derived.Maps.OwnIn
import Derived.Lib.AppendStr
import Derived.Scope
import Derived.Test.YtbmkgcoolofmpaaO1
import Derived.Test.YtbmkgcoolofmpaaO3
namespace Go.Proofs.Ytbmkgcoolofmpaa
set_option linter.unusedVariables false
set_option linter.unusedSimpArgs false
set_option linter.unusedSectionVars false
open Go Go.RowKit
/-- what Take answers -/
def TakeIs (w : World) (l : List UInt8) (e : Ending) (w' : World) : Prop :=
  ∃ ab cb, e = .returned (.tuple #[.int .u8 ((Fr.take l).kind.toNat : Nat), .slice ab (Fr.take l).body.length cb, .int .i64 ((Fr.take l).n : Nat), .int .i64 ((Fr.take l).err : Nat)]) ∧ Bs w' ab cb (Fr.take l).body ∧ Below w.heap.size w w'
theorem bs_nil {w : World} : Bs w none 0 [] := ⟨by simp, by simp, by decide, fun _ => rfl, fun j u hu => by simp at hu⟩
theorem takeIs_bad {w w' : World} {l : List UInt8} {k : Nat} (h : Fr.take l = ⟨0, [], 0, k⟩) (hb : Below w.heap.size w w') : TakeIs w l (.returned (.tuple #[.int .u8 0, .slice none 0 0, .int .i64 0, .int .i64 (k : Nat)])) w' := by
  unfold TakeIs; rw [h]; exact ⟨none, 0, rfl, bs_nil, hb⟩
theorem takeIs_ok {w w' : World} {l body : List UInt8} {k : UInt8} {n : Nat} {ab : Option Addr} {cb : Nat} (h : Fr.take l = ⟨k, body, n, 0⟩) (hb : Bs w' ab cb body) (hbel : Below w.heap.size w w') :
    TakeIs w l (.returned (.tuple #[.int .u8 (k.toNat : Nat), .slice ab body.length cb, .int .i64 (n : Nat), .int .i64 0])) w' := by
  unfold TakeIs; rw [h]; exact ⟨ab, cb, rfl, hb, hbel⟩
set_option maxHeartbeats 1000000 in
theorem take_any (ao : Option Addr) (cap : Nat) (l : List UInt8) (w : World) (hl : l.length ≤ 70000000000000) (hb : Bs w ao cap l) :
    Calls Try.prog 71 #[.slice ao l.length cap] w (TakeIs w l) := by
  obtain ⟨n, k, hs⟩ : ∃ n k, Fr.size l = (n, k) := ⟨_, _, rfl⟩
  by_cases hk : k = 0
  · subst hk
    have h5 := Fr.size_ok l (by rw [hs])
    have hno := fun h => Fr.take_sum l (by rw [hs]) h
    have hye := fun h => Fr.take_yes l (by rw [hs]) h
    rw [hs] at h5 hno hye
    obtain ⟨h5, _, _, h6, h7, h8⟩ := h5
    simp only at h7 h8 hno hye
    have hn8 : 8 ≤ n := by omega
    clear h6 h7
    have Hno := Lib.hid hno
    have Hye := Lib.hid hye
    clear hno hye
    have Hs := Lib.hid hs
    clear hs
    go_enter Try.func71, Try.ntmps71
    go_wp2_with fail
    refine (size_any ao cap l w hl hb).mono ?_
    rintro e w1 ⟨rfl, hB1⟩
    rw [Hs.out]
    go_wp2_with ((with_reducible show wpList _ _ _ (⟨_, Op.slice _ (.tmp 17) _ _ _, _, _, _, _⟩ :: _) _ _); refine wpl_slice_bs rfl (.tmp 17) none (some (.tmp 18)) 33 5 rfl Try.underlying33 sizeU8 _ _ l rfl (hb.below hB1) 0 n (.inr ⟨rfl, rfl⟩) (.inl ⟨_, rfl, ?_⟩) ?_ ?_ ?_; rfl; omega; omega; intro ao2 cap2 l2 hl2 hlen2 hb2; have hle2 : l2.length ≤ 70000000000000 := (by omega); clear hlen2)
    have hl2' : l2 = l.take n := hl2.out
    cases ho : Crc.opened l2 with
    | none =>
      have Hf := Lib.hid (Hno.out (by rw [← hl2']; exact ho))
      have Ho := Lib.hid ho
      clear ho hl2'
      refine (open_none ao2 cap2 l2 w1 hle2 hb2 Ho.out).mono ?_
      rintro e w2 ⟨rfl, hB2⟩
      go_wp2_with fail
      refine bodyPost_ret (v := .tuple #[.int .u8 0, .slice none 0 0, .int .i64 0, .int .i64 22]) (by simp [results, Try.results71, go_sem]) rfl ?_
      exact takeIs_bad (k := 22) Hf.out (below_on hB1 hB2 (Nat.le_refl _))
    | some own =>
      obtain ⟨e1, e2⟩ := Hye.out (by rw [← hl2', ho]; simp)
      have eo : own = l.take (n - 3) := by rw [← hl2', ho] at e1; simpa using e1
      rw [← eo] at e2
      have hol : own.length = n - 3 := by rw [eo, List.length_take]; omega
      have ho5 : 5 ≤ own.length := by omega
      have hk : l.getD 1 0 = own[1]'(Nat.lt_of_lt_of_le (by decide) ho5) := by
        simp only [eo, List.getElem_take]
        rw [List.getD, List.getElem?_eq_getElem (by omega)]; rfl
      rw [hk] at e2
      have Ho := Lib.hid ho
      have He := Lib.hid e2
      have hoL : own.length ≤ 70000000000000 := by omega
      clear ho hl2' e1 e2 eo hol hk
      refine (open_yes ao2 cap2 l2 own w1 hle2 hb2 Ho.out).mono ?_
      rintro e w2 ⟨a3, c3, rfl, hf3⟩
      have hb3 := Bs.of_own hf3.own
      have hB2 := below_on hB1 hf3.bel (Nat.le_refl _)
      clear hf3
      obtain ⟨b, off, rfl, k1⟩ := hb3.get 1 (by omega)
      have hlc := hb3.le
      have hcut := Sl.cut hb3 5 own.length ho5 (Nat.le_refl _) (by decide)
      have h5i : (5 : Int) ≤ (own.length : Int) := by omega
      go_wp2_with fail
      go_quiet (fail)
      have hcut' : Bs w2 (if c3 = 5 then some ⟨b, off, none⟩ else some ⟨b, off + 5, none⟩) (c3 - 5) (own.drop 5) := by
        unfold Bs
        rw [List.length_drop]
        have ht : (own.map u8).take own.length = own.map u8 := List.take_of_length_le (by simp)
        simpa [List.map_drop, Addr.add_none, ht] using hcut
      clear hcut
      generalize (if c3 = 5 then (some ⟨b, off, none⟩ : Option Addr) else some ⟨b, off + 5, none⟩) = ax at *
      have hld : own.length - 5 = (own.drop 5).length := by simp
      rw [hld]
      clear hld
      go_wp2
      refine bodyPost_ret (v := .tuple #[.int .u8 own[1].toNat, .slice ax (own.drop 5).length (c3 - 5), .int .i64 n, .int .i64 0]) (by simp [results, Try.results71, go_sem]) rfl ?_
      exact takeIs_ok He.out (hcut'.below (below_drewN (Below.refl _ _) _)) (below_drewN hB2 _)
  · have Hf := Lib.hid (Fr.take_err l (by rw [hs]; exact hk))
    rw [hs] at Hf
    have Hs := Lib.hid hs
    have hkb : ((k : Int) != 0) = true := by simp; omega
    clear hs
    go_enter Try.func71, Try.ntmps71
    go_wp2_with fail
    refine (size_any ao cap l w hl hb).mono ?_
    rintro e w1 ⟨rfl, hB1⟩
    rw [Hs.out]
    go_wp2_with fail
    refine bodyPost_ret (v := .tuple #[.int .u8 0, .slice none 0 0, .int .i64 0, .int .i64 k]) (by simp [results, Try.results71, go_sem]) rfl ?_
    exact takeIs_bad Hf.out hB1
set_option maxHeartbeats 1000000 in
theorem whole_any (ao : Option Addr) (cap : Nat) (l : List UInt8) (w : World) (hl : l.length ≤ 70000000000000) (hb : Bs w ao cap l) :
    Calls Try.prog 46 #[.slice ao l.length cap] w fun e w' => Below w.heap.size w w' ∧
      (((Fr.take l).err = 0 ∧ (Fr.take l).n = l.length ∧ ∃ ab cb, e = .returned (.tuple #[.int .u8 ((Fr.take l).kind.toNat : Nat), .slice ab (Fr.take l).body.length cb, .bool true]) ∧ Bs w' ab cb (Fr.take l).body) ∨
        (¬ ((Fr.take l).err = 0 ∧ (Fr.take l).n = l.length) ∧ e = .returned (.tuple #[.int .u8 0, .slice none 0 0, .bool false]))) := by
  have hbl : (Fr.take l).body.length ≤ l.length := by
    unfold Fr.take
    split
    · simp
    · split
      · simp
      · rename_i own ho
        obtain ⟨e, _⟩ := Fr.opened_take _ _ ho
        rw [e]; simp only [List.length_drop, List.length_take]; omega
  generalize hT : Fr.take l = T at *
  obtain ⟨k, body, n, err⟩ := T
  simp only at hbl ⊢
  have HT := Lib.hid hT
  clear hT
  have three : ((err : Int) != 0) = true ∧ err ≠ 0 ∨ ((err : Int) != 0) = false ∧ err = 0 ∧ ((n : Int) != l.length) = true ∧ n ≠ l.length ∨ ((err : Int) != 0) = false ∧ err = 0 ∧ ((n : Int) != l.length) = false ∧ n = l.length := by
    by_cases h1 : err = 0
    · by_cases h2 : n = l.length
      · exact .inr (.inr ⟨by simp [h1], h1, by simp [h2], h2⟩)
      · exact .inr (.inl ⟨by simp [h1], h1, by simp; omega, h2⟩)
    · exact .inl ⟨by simp; omega, h1⟩
  rcases three with ⟨t1, f1⟩ | ⟨t1, f1, t2, f2⟩ | ⟨t1, f1, t2, f2⟩
  · have F1 := Lib.hid f1
    clear f1
    go_enter Try.func46, Try.ntmps46
    go_wp2_with fail
    refine (take_any ao cap l w hl hb).mono ?_
    unfold TakeIs
    rw [HT.out]
    rintro e w1 ⟨ab, cb, rfl, hb1, hB1⟩
    go_wp2_with fail
    refine bodyPost_ret (v := .tuple #[.int .u8 0, .slice none 0 0, .bool false]) (by simp [results, Try.results46, go_sem]) rfl ?_
    exact ⟨hB1, .inr ⟨fun h => F1.out h.1, rfl⟩⟩
  · have F2 := Lib.hid f2
    have F1 := Lib.hid f1
    clear f1 f2
    go_enter Try.func46, Try.ntmps46
    go_wp2_with fail
    refine (take_any ao cap l w hl hb).mono ?_
    unfold TakeIs
    rw [HT.out]
    rintro e w1 ⟨ab, cb, rfl, hb1, hB1⟩
    go_wp2_with fail
    refine bodyPost_ret (v := .tuple #[.int .u8 0, .slice none 0 0, .bool false]) (by simp [results, Try.results46, go_sem]) rfl ?_
    exact ⟨hB1, .inr ⟨fun h => F2.out h.2, rfl⟩⟩
  · have F2 := Lib.hid f2
    have F1 := Lib.hid f1
    clear f1 f2
    go_enter Try.func46, Try.ntmps46
    go_wp2_with fail
    refine (take_any ao cap l w hl hb).mono ?_
    unfold TakeIs
    rw [HT.out]
    rintro e w1 ⟨ab, cb, rfl, hb1, hB1⟩
    go_wp2_with fail
    refine (clone_any ab cb body w1 (by omega) hb1).mono ?_
    rintro e w2 ⟨a2, c2, rfl, hf2⟩
    go_wp2_with fail
    refine bodyPost_ret (v := .tuple #[.int .u8 k.toNat, .slice a2 body.length c2, .bool true]) (by simp [results, Try.results46, go_sem]) rfl ?_
    exact ⟨below_on hB1 hf2.bel (Nat.le_refl _), .inl ⟨F1.out, F2.out, _, _, rfl, Bs.of_own hf2.own⟩⟩
end Go.Proofs.Ytbmkgcoolofmpaa
namespace Go.Proofs.Ytbmkgcoolofmpaa
set_option linter.unusedVariables false
set_option linter.unusedSimpArgs false
set_option linter.unusedSectionVars false
open Go Go.RowKit Go.Shelf
/-- an entry -/
structure En where
  term : Int
  kind : Int
  data : List UInt8
deriving Inhabited
def soundE (e : En) : Bool := decide (1 ≤ e.term) && decide (e.term ≤ 1152921504606846976) && decide (1 ≤ e.kind) && decide (e.kind ≤ 3) && decide (e.data.length ≤ 4096)
theorem soundE_iff {e : En} : soundE e = true ↔ 1 ≤ e.term ∧ e.term ≤ 1152921504606846976 ∧ 1 ≤ e.kind ∧ e.kind ≤ 3 ∧ e.data.length ≤ 4096 := by
  simp only [soundE, Bool.and_eq_true, decide_eq_true_eq, and_assoc]
set_option maxRecDepth 100000 in
theorem sound_e (x1 x2 : Int) (ad : Option Addr) (n cd : Nat) (d : List UInt8) (hd : n = d.length) (w : World) :
    Calls Try.prog 93 #[.agg #[.int .u64 x1, .int .i64 x2, .slice ad n cd]] w fun e w' => e = .returned (.bool (soundE ⟨x1, x2, d⟩)) ∧ Below w.heap.size w w' := by
  obtain ⟨c, hc⟩ : ∃ c, c = soundE ⟨x1, x2, d⟩ := ⟨_, rfl⟩
  have hiff := soundE_iff (e := ⟨x1, x2, d⟩)
  rw [← hc] at hiff
  simp only [← hd] at hiff
  rw [← hc]
  have Hc := Lib.hid hiff
  clear hiff hc hd
  go_enter Try.func93, Try.ntmps93
  go_wp2_with fail
  all_goals
    go_ret
    refine ⟨ret_bool ?_, below_new _ _⟩
    rw [Bool.eq_iff_iff, Hc.out]
    simp only [decide_eq_true_eq, Bool.false_eq_true, false_iff]
    omega
end Go.Proofs.Ytbmkgcoolofmpaa
namespace Go.Proofs.Ytbmkgcoolofmpaa
set_option linter.unusedVariables false
set_option linter.unusedSimpArgs false
set_option linter.unusedSectionVars false
open Go Go.RowKit Go.Shelf
/-- bytes in a block of bytes -/
def BsT (w : World) (ao : Option Addr) (cap : Nat) (l : List UInt8) : Prop := Bs w ao cap l ∧ ∀ b off s, ao = some ⟨b, off, s⟩ → elem? w b = some 5
theorem BsT.below {w w' : World} {ao : Option Addr} {cap : Nat} {l : List UInt8} (h : BsT w ao cap l) (hb : Below w.heap.size w w') : BsT w' ao cap l :=
  ⟨h.1.below hb, fun b off s e => by rw [elem?_same (hb.block b (elem?_lt (h.2 b off s e)))]; exact h.2 b off s e⟩
theorem BsT.kept {w w' : World} {ao : Option Addr} {cap : Nat} {l : List UInt8} (h : BsT w ao cap l) (hk : ∀ b, elem? w b = some 5 → w'.heap[b]? = w.heap[b]?) : BsT w' ao cap l :=
  ⟨⟨h.1.len, h.1.le, h.1.max, h.1.none, fun j u hu => by
    obtain ⟨b, off, e, hc⟩ := h.1.cell j u hu
    exact ⟨b, off, e, by rw [World.cell?_of_block (w := w) (hk b (h.2 _ _ _ e))]; exact hc⟩⟩, fun b off s e => by rw [elem?_same (hk b (h.2 b off s e))]; exact h.2 b off s e⟩
theorem BsT.grown {w w' : World} {T : TypeId} {g : Nat} {ao : Option Addr} {cap : Nat} {l : List UInt8} (h : BsT w ao cap l) (hg : w.grownBy w' (some g)) (hT : elem? w g = some T) (hne : T ≠ 5) : BsT w' ao cap l :=
  h.kept fun b hb => hg.block b (elem?_lt hb) fun e => by
    simp only [Option.some.injEq] at e
    subst e
    rw [hb] at hT
    exact hne (by simpa using hT.symm)
end Go.Proofs.Ytbmkgcoolofmpaa
namespace Go.Proofs.Ytbmkgcoolofmpaa
set_option linter.unusedVariables false
set_option linter.unusedSimpArgs false
set_option linter.unusedSectionVars false
open Go Go.RowKit Go.Shelf
attribute [local go_sem] Oper.semAt_some
namespace Fr
theorem take_n (l : List UInt8) (h : (take l).err = 0) : (take l).n = (take l).body.length + 8 ∧ (take l).n ≤ l.length ∧ (take l).body.length ≤ 65536 := by
  have hs : (size l).2 = 0 := by
    apply Classical.byContradiction
    intro hn
    rw [take_err l hn] at h
    exact hn h
  have ho : Crc.opened (l.take (size l).1) ≠ none := by
    intro hn
    rw [take_sum l hs hn] at h
    cases h
  obtain ⟨_, h2⟩ := take_yes l hs ho
  obtain ⟨a, b, c, d, e, f⟩ := size_ok l hs
  rw [h2]
  simp only [List.length_drop, List.length_take]
  omega
end Fr
end Go.Proofs.Ytbmkgcoolofmpaa
namespace Go.Proofs.Ytbmkgcoolofmpaa
set_option linter.unusedVariables false
set_option linter.unusedSimpArgs false
set_option linter.unusedSectionVars false
open Go Go.RowKit Go.Shelf
attribute [local go_sem] Oper.semAt_some
namespace Fr
/-- kind and body of the frames with which bytes begin -/
def rows : Nat → List UInt8 → List (UInt8 × List UInt8)
  | 0, _ => []
  | k + 1, l => if l = [] ∨ (take l).err ≠ 0 then [] else ((take l).kind, (take l).body) :: rows k (l.drop (take l).n)
def all (l : List UInt8) : List (UInt8 × List UInt8) := rows l.length l
end Fr
end Go.Proofs.Ytbmkgcoolofmpaa
namespace Go.Proofs.Ytbmkgcoolofmpaa
set_option linter.unusedVariables false
set_option linter.unusedSimpArgs false
set_option linter.unusedSectionVars false
open Go Go.RowKit Go.Shelf
/-- entries in memory: each with the place of its data -/
structure Ep where
  e : En
  ao : Option Addr
  cap : Nat
def epCells (x : Ep) : List Value := [.int .u64 x.e.term, .int .i64 x.e.kind, .slice x.ao x.e.data.length x.cap]
theorem ep_each (l : List Ep) : ∀ r ∈ l.map epCells, r.length = 3 := by
  intro r hr; obtain ⟨x, _, rfl⟩ := List.mem_map.1 hr; rfl
theorem infoEn : (Try.prog.info? 88).map (fun i => (i.zero, i.size, i.bytes)) = some (some (.agg #[.int .u64 0, .int .i64 0, .slice none 0 0]), 3, 40) := by kernel_rfl
/-- a row of entries of one's own -/
structure EnsO (W : World) (base : Nat) (v : Value) (l : List Ep) : Prop where
  own : W.ownsRow base 88 3 v l.length (l.map epCells).flatten
  data : ∀ x ∈ l, BsT W x.ao x.cap x.e.data
theorem own_elemE {w : World} {base e k n : Nat} {v : Value} {xs : List Value} (h : w.ownsRow base e k v n xs) (g : Nat) (hg : v.ownBlock = some g) : elem? w g = some e := by
  rcases h.2 with ⟨h2, _⟩ | ⟨g', cap', cur, hv, _, hh, _⟩
  · subst h2; cases hg
  · subst hv
    simp [Value.ownBlock] at hg
    subst hg
    exact elem?_of hh
theorem EnsO.below {W W' : World} {base : Nat} {v : Value} {l : List Ep} (h : EnsO W base v l) (hb : Below W.heap.size W W') : EnsO W' base v l :=
  ⟨own_below h.own hb, fun x hx => (h.data x hx).below hb⟩
theorem EnsO.nil (W : World) (base : Nat) : EnsO W base (.slice none 0 0) [] := ⟨World.ownsRow_nil _ _ _ _, fun x hx => by cases hx⟩
theorem EnsO.grown {W W' : World} {base g : Nat} {T : TypeId} {v : Value} {l : List Ep} (h : EnsO W base v l) (hg : W.grownBy W' (some g)) (hT : elem? W g = some T) (h1 : T ≠ 5) (h2 : T ≠ 88) : EnsO W' base v l :=
  ⟨h.own.kept hg (.inr fun e => by have := own_elemE h.own g e; rw [hT] at this; exact h2 (by simpa using this)), fun x hx => (h.data x hx).grown hg hT h1⟩
/-- behind an append -/
theorem EnsO.push {W W' : World} {base : Nat} {v v' : Value} {l : List Ep} {x : Ep} (h : EnsO W base v l) (ho : W'.ownsRow base 88 3 v' (l.length + 1) (l.map epCells ++ [epCells x]).flatten) (hg : W.grownBy W' v.ownBlock) (hx : BsT W x.ao x.cap x.e.data) : EnsO W' base v' (l ++ [x]) := by
  have key : ∀ {ao : Option Addr} {cap : Nat} {d : List UInt8}, BsT W ao cap d → BsT W' ao cap d := fun hd => by
    cases hv : v.ownBlock with
    | none => rw [hv] at hg; exact hd.kept fun b hb => hg.block b (elem?_lt hb) (by simp)
    | some g => rw [hv] at hg; exact hd.grown hg (own_elemE h.own g hv) (by decide)
  refine ⟨by simpa using ho, fun y hy => ?_⟩
  rcases List.mem_append.1 hy with hy | hy
  · exact key (h.data y hy)
  · simp at hy; subst hy; exact key hx
end Go.Proofs.Ytbmkgcoolofmpaa
namespace Go.Proofs.Ytbmkgcoolofmpaa
set_option linter.unusedVariables false
set_option linter.unusedSimpArgs false
set_option linter.unusedSectionVars false
open Go Go.RowKit Go.Shelf
deriving instance DecidableEq for En
/-- entries that read -/
structure Ens (W : World) (ao : Option Addr) (cap : Nat) (l : List Ep) : Prop where
  sl : Sl W 3 ao l.length cap (l.map epCells).flatten
  data : ∀ x ∈ l, Bs W x.ao x.cap x.e.data
theorem Ens.below {W W' : World} {ao : Option Addr} {cap : Nat} {l : List Ep} (h : Ens W ao cap l) (hb : Below W.heap.size W W') : Ens W' ao cap l := ⟨h.sl.below hb, fun x hx => (h.data x hx).below hb⟩
theorem EnsO.ens {W : World} {base cap : Nat} {ao : Option Addr} {l : List Ep} (h : EnsO W base (.slice ao l.length cap) l) : Ens W ao cap l := ⟨Sl.of_own h.own, fun x hx => (h.data x hx).1⟩
theorem flat3_get (l : List Ep) (i : Nat) (hi : i < l.length) (j : Nat) (hj : j < 3) : (l.map epCells).flatten[i * 3 + j]? = some ((epCells l[i])[j]'hj) := by
  have := flatten_get (rows := l.map epCells) (k := 3) (ep_each l) i j (by simpa using hi) (by rw [List.getElem_map]; exact hj)
  rw [this]; simp only [List.getElem_map]; rfl
theorem Ens.get {W : World} {ao : Option Addr} {cap : Nat} {l : List Ep} (h : Ens W ao cap l) (i : Nat) (hi : i < l.length) :
    ∃ b off, ao = some ⟨b, off, none⟩ ∧ W.cell? ⟨b, off + i * 3, none⟩ = some (.int .u64 l[i].e.term) ∧ W.cell? ⟨b, off + i * 3 + 1, none⟩ = some (.int .i64 l[i].e.kind) ∧ W.cell? ⟨b, off + i * 3 + 2, none⟩ = some (.slice l[i].ao l[i].e.data.length l[i].cap) := by
  obtain ⟨b, off, e, c0⟩ := h.sl.cell _ _ (flat3_get l i hi 0 (by decide))
  have hc : ∀ j (hj : j < 3), W.cell? ⟨b, off + i * 3 + j, none⟩ = some ((epCells l[i])[j]'hj) := by
    intro j hj
    obtain ⟨b', off', e', hc⟩ := h.sl.cell _ _ (flat3_get l i hi j hj)
    rw [e] at e'
    simp only [Option.some.injEq, Addr.mk.injEq] at e'
    obtain ⟨rfl, rfl, -⟩ := e'
    rw [Nat.add_assoc]; exact hc
  exact ⟨b, off, e, hc 0 (by decide), hc 1 (by decide), hc 2 (by decide)⟩
theorem take_next {α : Type} {a b : List α} {i : Nat} (ha : i < a.length) (hb : i < b.length) (h : a.take i = b.take i) (he : a[i] = b[i]) : a.take (i + 1) = b.take (i + 1) := by
  rw [List.take_succ_eq_append_getElem ha, List.take_succ_eq_append_getElem hb, h, he]
end Go.Proofs.Ytbmkgcoolofmpaa
namespace Go.Proofs.Ytbmkgcoolofmpaa
set_option linter.unusedVariables false
set_option linter.unusedSimpArgs false
set_option linter.unusedSectionVars false
open Go Go.RowKit Go.Shelf
set_option maxRecDepth 100000 in
set_option maxHeartbeats 1000000 in
theorem bytesEqual_any (ao1 ao2 : Option Addr) (c1 c2 : Nat) (d1 d2 : List UInt8) (w : World) (h1 : Bs w ao1 c1 d1) (h2 : Bs w ao2 c2 d2) :
    Calls Try.prog 64 #[.slice ao1 d1.length c1, .slice ao2 d2.length c2] w fun e w' => e = .returned (.bool (d1 == d2)) ∧ w = w' := by
  have cv1 := conv_any h1
  have cv2 := conv_any h2
  go_enter Try.func64, Try.ntmps64
  go_wp2_with fail
  go_ret
  exact ⟨ret_bool (by simp), rfl⟩
set_option maxRecDepth 100000 in
set_option maxHeartbeats 2000000 in
theorem sameOne_any (x1 x2 y1 y2 : Int) (xa ya : Option Addr) (xc yc : Nat) (xd yd : List UInt8) (w : World) (h1 : Bs w xa xc xd) (h2 : Bs w ya yc yd) :
    Calls Try.prog 63 #[.agg #[.int .u64 x1, .int .i64 x2, .slice xa xd.length xc], .agg #[.int .u64 y1, .int .i64 y2, .slice ya yd.length yc]] w fun e w' => e = .returned (.bool (decide ((⟨x1, x2, xd⟩ : En) = ⟨y1, y2, yd⟩))) ∧ Below w.heap.size w w' := by
  obtain ⟨c, hc⟩ : ∃ c, c = decide ((⟨x1, x2, xd⟩ : En) = ⟨y1, y2, yd⟩) := ⟨_, rfl⟩
  rw [← hc]
  have Hc := Lib.hid hc
  clear hc
  have heq := fun W hW1 hW2 => bytesEqual_any xa ya xc yc xd yd W hW1 hW2
  have hB2 : Below w.heap.size w ((w.alloc (.cells #[.int .u64 x1, .int .i64 x2, .slice xa xd.length xc] 88)).alloc (.cells #[.int .u64 y1, .int .i64 y2, .slice ya yd.length yc] 88)) := (below_new w _).alloc (by simp) _
  have g1 := h1.below hB2
  have g2 := h2.below hB2
  by_cases e1 : x1 = y1
  · have e1b : (x1 == y1) = true := by simp [e1]
    by_cases e2 : x2 = y2
    · have e2b : (x2 == y2) = true := by simp [e2]
      have Hcc : Hid (c = (xd == yd)) := by
        show _ = _
        rw [Hc.out, e1, e2]
        by_cases e3 : xd = yd <;> simp [e3]
      have Heq := Lib.hid (heq _ g1 g2)
      clear e1 e2 heq
      go_enter Try.func63, Try.ntmps63
      go_wp2_with fail
      refine Heq.out.mono ?_
      rintro e w2 ⟨rfl, rfl⟩
      go_wp2_with fail
      go_ret
      exact ⟨by rw [Hcc.out]; rfl, hB2⟩
    · have e2b : (x2 == y2) = false := by simp [e2]
      have Hcc : Hid (c = false) := by
        show _ = _
        rw [Hc.out]
        simp [e2]
      clear e1 e2 heq
      go_enter Try.func63, Try.ntmps63
      go_wp2_with fail
      go_ret
      exact ⟨by rw [Hcc.out]; rfl, hB2⟩
  · have e1b : (x1 == y1) = false := by simp [e1]
    have Hcc : Hid (c = false) := by
      show _ = _
      rw [Hc.out]
      simp [e1]
    clear e1 heq
    go_enter Try.func63, Try.ntmps63
    go_wp2_with fail
    go_ret
    exact ⟨by rw [Hcc.out]; rfl, hB2⟩
set_option maxRecDepth 100000 in
set_option maxHeartbeats 4000000 in
theorem equalFunc_any (ao1 ao2 : Option Addr) (c1 c2 : Nat) (l1 l2 : List Ep) (w : World) (h1 : Ens w ao1 c1 l1) (h2 : Ens w ao2 c2 l2) (hl1 : l1.length ≤ 1000000) (hl2 : l2.length ≤ 1000000) :
    Calls Try.prog 62 #[.slice ao1 l1.length c1, .slice ao2 l2.length c2, .func (.func 63) #[] #[]] w fun e w' => e = .returned (.bool (decide (l1.map Ep.e = l2.map Ep.e))) ∧ Below w.heap.size w w' := by
  obtain ⟨c, hc⟩ : ∃ c, c = decide (l1.map Ep.e = l2.map Ep.e) := ⟨_, rfl⟩
  rw [← hc]
  have Hc := Lib.hid hc
  clear hc
  by_cases hlen : l1.length = l2.length
  · have hlb : ((l1.length : Int) != (l2.length : Int)) = false := by simp [hlen]
    have Hlen := Lib.hid hlen
    clear hlen
    go_enter Try.func62, Try.ntmps62
    go_wp2_with fail
    go_loopw [17] (fun u wr => ∃ i : Nat, u = .int .i64 (i : Nat) ∧ i ≤ l1.length ∧ Hid ((l1.map Ep.e).take i = (l2.map Ep.e).take i) ∧ Below w.heap.size w wr) (fun u _ => l1.length - (intOf u).toNat)
    case atStart => exact ⟨0, rfl, Nat.zero_le _, Lib.hid (by simp), Below.refl _ _⟩
    case round =>
      obtain ⟨i, rfl, hi, Hinv, hB⟩ := hrel
      by_cases hlt : i < l1.length
      · have hlt2 : i < l2.length := by have := Hlen.out; omega
        have g1 := h1.below hB
        have g2 := h2.below hB
        obtain ⟨b1, o1, rfl, p0, p1, p2⟩ := g1.get i hlt
        obtain ⟨b2, o2, rfl, q0, q1, q2⟩ := g2.get i hlt2
        have hd1 := g1.data _ (List.getElem_mem hlt)
        have hd2 := g2.data _ (List.getElem_mem hlt2)
        have hne : l1[i].e ≠ l2[i].e → c = false := fun h => by
          rw [Hc.out]
          simp only [decide_eq_false_iff_not]
          intro he
          apply h
          have e3 : (l1.map Ep.e)[i]'(by simpa using hlt) = (l2.map Ep.e)[i]'(by simpa using hlt2) := by simp only [he]
          simpa using e3
        have heq : l1[i].e = l2[i].e → (l1.map Ep.e).take (i + 1) = (l2.map Ep.e).take (i + 1) := fun h => take_next (by simpa using hlt) (by simpa using hlt2) Hinv.out (by simpa using h)
        obtain ⟨x, hx⟩ : ∃ x, x = l1[i] := ⟨_, rfl⟩
        obtain ⟨y, hy⟩ : ∃ y, y = l2[i] := ⟨_, rfl⟩
        rw [← hx] at p0 p1 p2 hd1 hne heq
        rw [← hy] at q0 q1 q2 hd2 hne heq
        clear hx hy
        obtain ⟨⟨x1, x2, xd⟩, xa, xc⟩ := x
        obtain ⟨⟨y1, y2, yd⟩, ya, yc⟩ := y
        simp only at p0 p1 p2 q0 q1 q2 hd1 hd2 hne heq
        have i0 : (0 : Int) ≤ (i : Int) := by omega
        have i1 : (i : Int) < (l1.length : Int) := by omega
        have i2 : (i : Int) < (l2.length : Int) := by omega
        have hz := hB.size
        have hB2 : Below wr.heap.size wr ((wr.alloc (.cells #[.int .u64 x1, .int .i64 x2, .slice xa xd.length xc] 88)).alloc (.cells #[.int .u64 y1, .int .i64 y2, .slice ya yd.length yc] 88)) := (below_new wr _).alloc (by simp) _
        have hba := below_new wr (.cells #[.int .u64 x1, .int .i64 x2, .slice xa xd.length xc] 88)
        have q0 := (hba.cell (p := ⟨b2, o2 + i * 3, none⟩) (cell?_lt q0)).trans q0
        have q1 := (hba.cell (p := ⟨b2, o2 + i * 3 + 1, none⟩) (cell?_lt q1)).trans q1
        have q2 := (hba.cell (p := ⟨b2, o2 + i * 3 + 2, none⟩) (cell?_lt q2)).trans q2
        have hsm := sameOne_any x1 x2 y1 y2 xa ya xc yc xd yd _ (hd1.below hB2) (hd2.below hB2)
        have hBB := below_on hB hB2 (Nat.le_refl _)
        by_cases he : (⟨x1, x2, xd⟩ : En) = ⟨y1, y2, yd⟩
        · have Hgo := Lib.hid (heq he)
          rw [decide_eq_true he] at hsm
          have Hsm := Lib.hid hsm
          clear hsm he hne heq hd1 hd2 g1 g2 hB2
          go_wp2_with fail
          refine Hsm.out.mono ?_
          rintro e w2 ⟨rfl, hB3⟩
          go_wp2_with fail
          go_roundw
          case rel => exact ⟨i + 1, by simp, by omega, Hgo, below_on hBB hB3 (Nat.le_refl _)⟩
          case measure => simp [intOf]; omega
        · have Hgo := Lib.hid (hne he)
          rw [decide_eq_false he] at hsm
          have Hsm := Lib.hid hsm
          clear hsm he hne heq hd1 hd2 g1 g2 hB2
          go_wp2_with fail
          refine Hsm.out.mono ?_
          rintro e w2 ⟨rfl, hB3⟩
          go_wp2_with fail
          go_ret
          exact ⟨by rw [Hgo.out]; rfl, below_on hBB hB3 (Nat.le_refl _)⟩
      · have hii : i = l1.length := by omega
        subst hii
        have hfin : Hid (c = true) := by
          show _ = _
          rw [Hc.out, decide_eq_true_eq]
          have h3 := Hinv.out
          rw [List.take_of_length_le (by simp), List.take_of_length_le (by rw [Hlen.out]; simp)] at h3
          exact h3
        go_wp2_with fail
        go_ret
        exact ⟨by rw [hfin.out]; rfl, hB⟩
  · have hlb : ((l1.length : Int) != (l2.length : Int)) = true := by simp; omega
    have hfin : Hid (c = false) := by
      show _ = _
      rw [Hc.out]
      simp only [decide_eq_false_iff_not]
      intro h3
      exact hlen (by simpa using congrArg List.length h3)
    clear hlen
    go_enter Try.func62, Try.ntmps62
    go_wp2_with fail
    go_ret
    exact ⟨by rw [hfin.out]; rfl, Below.refl _ _⟩
set_option maxRecDepth 100000 in
set_option maxHeartbeats 4000000 in
theorem segSame_any (ao1 ao2 : Option Addr) (c1 c2 : Nat) (l1 l2 : List Ep) (w : World) (h1 : Ens w ao1 c1 l1) (h2 : Ens w ao2 c2 l2) (hl1 : l1.length ≤ 1000000) (hl2 : l2.length ≤ 1000000) :
    Calls Try.prog 40 #[.slice ao1 l1.length c1, .slice ao2 l2.length c2] w fun e w' => e = .returned (.bool (decide (l1.map Ep.e = l2.map Ep.e))) ∧ Below w.heap.size w w' := by
  have H := Lib.hid (equalFunc_any ao1 ao2 c1 c2 l1 l2 w h1 h2 hl1 hl2)
  go_enter Try.func40, Try.ntmps40
  go_wp2_with fail
  refine H.out.mono ?_
  rintro e w1 ⟨rfl, hB⟩
  go_wp2_with fail
  go_ret
  exact ⟨rfl, hB⟩
end Go.Proofs.Ytbmkgcoolofmpaa
namespace Go.Proofs.Ytbmkgcoolofmpaa
set_option linter.unusedVariables false
set_option linter.unusedSimpArgs false
set_option linter.unusedSectionVars false
open Go Go.RowKit Go.Shelf
theorem Us.lit {w : World} (xs : List Nat) (cs : Array Value) (T : TypeId) (hcs : cs.toList = xs.map fun n : Nat => Value.int .u64 (n : Int)) (hm : xs.length ≤ 1000) :
    Us (w.alloc (.cells cs T)) (some ⟨w.heap.size, 0, .none⟩) xs.length xs :=
  ⟨by simp, by omega, by unfold maxLen; omega, by simp, fun j u hu => ⟨_, 0, rfl, by
    rw [cell?_new, Nat.zero_add, ← Array.getElem?_toList, hcs]; exact hu⟩⟩
theorem infoUB1 : (Try.prog.info? 5).map (fun i => (i.zero, i.size, i.bytes)) = some (some (.int .u8 0), 1, 1) := by kernel_rfl
set_option maxRecDepth 100000 in
set_option maxHeartbeats 1000000 in
theorem wraw_any {W : World} {base p : Nat} {v : Value} {l d : List UInt8} {g cd : Nat} (h : Wr W base p v l) (hd : Bs W (some ⟨g, 0, none⟩) cd d) (hl : l.length + d.length ≤ 1099511627776) :
    Calls Try.prog 83 #[.pointer (some ⟨p, 0, none⟩), .slice (some ⟨g, 0, none⟩) d.length cd] W (Wrote base p v (l ++ d) W) := by
  have c0 : W.cell? ⟨p, 0, none⟩ = some v := block_cell h.blk 0
  have f0 := block_free h.blk 0
  have hpz := (Array.getElem?_eq_some_iff.1 h.blk).1
  obtain ⟨i0, hi, hz0, hz1, hz2⟩ := info_parts infoUB1
  have hnews : ∀ j u, (d.map u8)[j]? = some u → W.cell? ((⟨g, 0, none⟩ : Addr).add j) = some u := by
    intro j u hu
    obtain ⟨b, off, e, hc⟩ := hd.cell j u hu
    simp only [Option.some.injEq, Addr.mk.injEq] at e
    obtain ⟨rfl, rfl, -⟩ := e
    rw [Addr.add_none]; exact hc
  have Happ := Lib.hid (fun (v' : Value) (W2 : World) ho hg hv => h.app (W1 := W) (W2 := W2) (v' := v') (l' := l ++ d) (Below.refl _ _) ho hg hv)
  have hs1 : l.length + d.length ≤ maxLen := by unfold maxLen; omega
  have hown := h.own
  have hsz := h.sz
  have hbase : base ≤ W.heap.size := hsz
  have hdl : (d.map u8).length = d.length * 1 := by simp
  have hu8 := u8_one d
  have Hn := Lib.hid hnews
  have Hl := Lib.hid hl
  obtain ⟨m, hm⟩ : ∃ m, m = d.length := ⟨_, rfl⟩
  rw [← hm] at hs1 hdl hl ⊢
  have Hm := Lib.hid hm
  have hbytes : (l.length + m) * 1 ≤ 140737488355328 := by omega
  clear hm hnews hl Hl hd h
  go_enter Try.func83, Try.ntmps83
  go_wp2_with (at_builtin; refine wpList_append_own_at _ rfl (.tmp 10) (.tmp 11) 33 rfl base 5 i0 (.int .u8 0) 1 1 Try.underlying33 hi hz0 hz1 hz2 rfl (by decide) v l.length (l.map u8) rfl hown ⟨g, 0, none⟩ m cd (d.map u8) rfl hdl Hn.out hu8 hs1 hbytes hbase ?_; intro v' W2 hown' hgrow _ hat; obtain ⟨r1, r2, r3, r4⟩ := Happ.out v' W2 (by rw [List.length_append, ← Hm.out, List.map_append]; exact hown') hgrow (fun k hk => by rcases hat with e | e; exact .inl (e ▸ hk); exact .inr (by rw [e] at hk; cases hk; exact Nat.le_refl _)); have d0 : W2.cell? ⟨p, 0, none⟩ = some v := block_cell r1 0; have d1 := block_free r1 0; obtain ⟨a2, k2, rfl⟩ := own_slice hown')
  refine bodyPost_ret (v := .tuple #[]) (by simp [results, Try.results83, go_sem]) rfl ?_
  exact ⟨rfl, _, r2, r3, r4⟩
set_option maxRecDepth 100000 in
set_option maxHeartbeats 2000000 in
theorem wtext_any {W : World} {base p : Nat} {v : Value} {l d : List UInt8} (h : Wr W base p v l) (hl : l.length + d.length ≤ 1000000000) :
    Calls Try.prog 55 #[.pointer (some ⟨p, 0, none⟩), .string ⟨d.toArray⟩] W (Wrote base p v (l ++ (numB d.length ++ d)) W) := by
  have hsz : (⟨d.toArray⟩ : ByteArray).size = d.length := by simp [ByteArray.size]
  have w0 : IntKind.u64.wrap (d.length : Int) = (d.length : Int) := IntWalk.u64_in _ (by omega)
  have hpz := (Array.getElem?_eq_some_iff.1 h.blk).1
  have hvz := h.own.lt
  have hdl : d.length < 2 ^ 64 := by omega
  have hnl := numB_len d.length hdl
  have hns : numsB [d.length] = numB d.length := by simp [numsB]
  obtain ⟨W1, hW1⟩ : ∃ W1, W1 = W.alloc (.cells #[.int .u64 (d.length : Int)] 31) := ⟨_, rfl⟩
  have hus : Us W1 (some ⟨W.heap.size, 0, none⟩) 1 [d.length] := by rw [hW1]; exact Us.lit [d.length] #[.int .u64 (d.length : Int)] _ rfl (by simp)
  have hB1 : Below W.heap.size W W1 := by rw [hW1]; exact below_new _ _
  have hnum := num_any [d.length] (by simpa using hdl) (some ⟨W.heap.size, 0, none⟩) 1 (h.below hB1) (by simp; omega) hus (fun a e => by cases e; exact ⟨by simp only; omega, fun e => by have := (hvz _ e).2; simp only at this; omega⟩)
  rw [hns] at hnum
  have Hnum := Lib.hid hnum
  have hF1 := (FrO.refl W.heap.size p v W).below hB1 (Nat.le_refl _)
  have hz1 := hB1.size
  clear hnum hus hns hdl
  go_enter Try.func55, Try.ntmps55
  go_wp2_with fail
  rw [← hW1]
  clear hW1
  refine Hnum.out.mono ?_
  rintro e W2 ⟨rfl, v2, hwr2, hfr2, hv2⟩
  have hF2 := hF1.next hfr2 hz1 (fun k hk => .inl hk)
  have hV2 : ∀ k, v2.ownBlock = some k → v.ownBlock = some k ∨ W.heap.size ≤ k := fun k hk => (hv2 k hk).imp_right (fun x => by omega)
  obtain ⟨cd, W3, hcv, hb3, hB3, -⟩ := bytes_of d (by unfold maxLen; omega) W2
  have hwr3 := hwr2.below hB3
  have hF3 := hF2.below hB3 hF2.size
  have hraw := wraw_any hwr3 hb3 (by simp; omega)
  have Hraw := Lib.hid hraw
  have hsz3 := hF3.size
  clear hraw hb3 hwr3 hwr2 hfr2 hv2 Hnum
  go_wp2_with fail
  refine Hraw.out.mono ?_
  rintro e W4 ⟨rfl, v4, hwr4, hfr4, hv4⟩
  go_wp2_with fail
  refine bodyPost_ret (v := .tuple #[]) (by simp [results, Try.results55, go_sem]) rfl ?_
  refine ⟨rfl, v4, by rw [← List.append_assoc]; exact hwr4, hF3.next hfr4 hsz3 hV2, fun k hk => ?_⟩
  rcases hv4 k hk with e | e
  · exact hV2 k e
  · exact .inr (by omega)
end Go.Proofs.Ytbmkgcoolofmpaa
namespace Go.Proofs.Ytbmkgcoolofmpaa
set_option linter.unusedVariables false
set_option linter.unusedSimpArgs false
set_option linter.unusedSectionVars false
open Go Go.RowKit Go.Shelf
/-- a new writer -/
theorem Wr.new (w : World) : Wr (w.alloc (.cells #[.slice none 0 0] 102)) w.heap.size w.heap.size (.slice none 0 0) [] :=
  ⟨heap_alloc_new _ _, World.ownsRow_nil _ _ _ _, Nat.le_refl _, by simp [Value.ownBlock], by simp⟩
theorem Wr.below_of {w W W' : World} {base p : Nat} {v : Value} {l : List UInt8} (h : Wr W base p v l) (hf : FrO W.heap.size p v W W') (hb : Below w.heap.size w W) (hp : w.heap.size ≤ base) : Below w.heap.size w W' :=
  hf.below_of hb hb.size (Nat.le_trans hp h.le) (fun k e => Nat.le_trans hp (h.own.lt k e).1)
end Go.Proofs.Ytbmkgcoolofmpaa
namespace Go.Proofs.Ytbmkgcoolofmpaa
set_option linter.unusedVariables false
set_option linter.unusedSimpArgs false
set_option linter.unusedSectionVars false
open Go Go.RowKit Go.Shelf
def LightP (l : List Ep) : Prop := (∀ x ∈ l, x.e.data.length ≤ 5000) ∧ l.length ≤ 60
instance (l : List Ep) : Decidable (LightP l) := by unfold LightP; exact inferInstance
end Go.Proofs.Ytbmkgcoolofmpaa
namespace Go.Proofs.Ytbmkgcoolofmpaa
set_option linter.unusedVariables false
set_option linter.unusedSimpArgs false
set_option linter.unusedSectionVars false
open Go Go.RowKit Go.Shelf
/-- integers of a kind -/
def Iz (w : World) (k : IntKind) (ao : Option Addr) (cap : Nat) (l : List Int) : Prop := Sl w 1 ao l.length cap (l.map (Value.int k))
theorem Iz.below {w w' : World} {k : IntKind} {ao : Option Addr} {cap : Nat} {l : List Int} (h : Iz w k ao cap l) (hb : Below w.heap.size w w') : Iz w' k ao cap l := Sl.below h hb
theorem Iz.get {w : World} {k : IntKind} {ao : Option Addr} {cap : Nat} {l : List Int} (h : Iz w k ao cap l) (i : Nat) (hi : i < l.length) :
    ∃ b off, ao = some ⟨b, off, none⟩ ∧ w.cell? ⟨b, off + i, none⟩ = some (.int k l[i]) := h.cell i _ (by simp [hi])
theorem Iz.nil (w : World) (k : IntKind) : Iz w k none 0 [] := ⟨by simp, by simp, by decide, fun _ => rfl, fun j u hu => by simp at hu⟩
theorem Iz.of_own {w : World} {base e cap : Nat} {k : IntKind} {ao : Option Addr} {l : List Int} (h : w.ownsRow base e 1 (.slice ao l.length cap) l.length (l.map (Value.int k))) : Iz w k ao cap l := Sl.of_own h
set_option maxRecDepth 100000 in
set_option maxHeartbeats 2000000 in
theorem equalInt_any (ao1 ao2 : Option Addr) (c1 c2 : Nat) (l1 l2 : List Int) (w : World) (h1 : Iz w .i64 ao1 c1 l1) (h2 : Iz w .i64 ao2 c2 l2) (hl1 : l1.length ≤ 1000000) (hl2 : l2.length ≤ 1000000) :
    Calls Try.prog 65 #[.slice ao1 l1.length c1, .slice ao2 l2.length c2] w fun e w' => e = .returned (.bool (decide (l1 = l2))) ∧ Below w.heap.size w w' := by
  obtain ⟨c, hc⟩ : ∃ c, c = decide (l1 = l2) := ⟨_, rfl⟩
  rw [← hc]
  have Hc := Lib.hid hc
  clear hc
  by_cases hlen : l1.length = l2.length
  · have hlb : ((l1.length : Int) != (l2.length : Int)) = false := by simp [hlen]
    have Hlen := Lib.hid hlen
    clear hlen
    go_enter Try.func65, Try.ntmps65
    go_wp2_with fail
    go_loopw [13] (fun u wr => ∃ i : Nat, u = .int .i64 (i : Nat) ∧ i ≤ l1.length ∧ Hid (l1.take i = l2.take i) ∧ Below w.heap.size w wr) (fun u _ => l1.length - (intOf u).toNat)
    case atStart => exact ⟨0, rfl, Nat.zero_le _, Lib.hid (by simp), Below.refl _ _⟩
    case round =>
      obtain ⟨i, rfl, hi, Hinv, hB⟩ := hrel
      by_cases hlt : i < l1.length
      · have hlt2 : i < l2.length := by have := Hlen.out; omega
        obtain ⟨b1, o1, rfl, p0⟩ := (h1.below hB).get i hlt
        obtain ⟨b2, o2, rfl, q0⟩ := (h2.below hB).get i hlt2
        have hne : l1[i] ≠ l2[i] → c = false := fun h => by
          rw [Hc.out]
          simp only [decide_eq_false_iff_not]
          intro he
          apply h
          simp only [he]
        have heq : l1[i] = l2[i] → l1.take (i + 1) = l2.take (i + 1) := fun h => take_next hlt hlt2 Hinv.out h
        obtain ⟨x, hx⟩ : ∃ x, x = l1[i] := ⟨_, rfl⟩
        obtain ⟨y, hy⟩ : ∃ y, y = l2[i] := ⟨_, rfl⟩
        rw [← hx] at p0 hne heq
        rw [← hy] at q0 hne heq
        clear hx hy
        have i0 : (0 : Int) ≤ (i : Int) := by omega
        have i1 : (i : Int) < (l1.length : Int) := by omega
        have i2 : (i : Int) < (l2.length : Int) := by omega
        have Hne := Lib.hid hne
        have Heq := Lib.hid heq
        clear hne heq
        by_cases e1 : x = y
        · have e1b : (x != y) = false := by simp [e1]
          have Hgo := Lib.hid (Heq.out e1)
          clear e1 Hne Heq
          go_wp2_with fail
          go_quiet (fail)
          go_wp2_with fail
          go_roundw
          case rel => exact ⟨i + 1, by simp, by omega, Hgo, below_drewN hB _⟩
          case measure => simp [intOf]; omega
        · have e1b : (x != y) = true := by simpa using e1
          have Hf := Lib.hid (Hne.out e1)
          clear e1 Hne Heq
          go_wp2_with fail
          go_quiet (fail)
          go_wp2_with fail
          go_ret
          exact ⟨by rw [Hf.out]; rfl, below_drewN hB _⟩
      · have hi' : i = l1.length := by omega
        subst hi'
        have Ht : Hid (c = true) := Lib.hid (by
          rw [Hc.out]
          simp only [decide_eq_true_eq]
          have h := Hinv.out
          rw [List.take_of_length_le (Nat.le_refl _), List.take_of_length_le (by rw [Hlen.out]; exact Nat.le_refl _)] at h
          exact h)
        go_wp2_with fail
        go_ret
        exact ⟨by rw [Ht.out]; rfl, hB⟩
  · have hlb : ((l1.length : Int) != (l2.length : Int)) = true := by simp; omega
    have Hf : Hid (c = false) := Lib.hid (by
      rw [Hc.out]
      simp only [decide_eq_false_iff_not]
      intro h
      exact hlen (congrArg List.length h))
    clear hlen
    go_enter Try.func65, Try.ntmps65
    go_wp2_with fail
    go_ret
    exact ⟨by rw [Hf.out]; rfl, Below.refl _ _⟩
set_option maxRecDepth 100000 in
set_option maxHeartbeats 2000000 in
theorem equalUint_any (ao1 ao2 : Option Addr) (c1 c2 : Nat) (l1 l2 : List Int) (w : World) (h1 : Iz w .u64 ao1 c1 l1) (h2 : Iz w .u64 ao2 c2 l2) (hl1 : l1.length ≤ 1000000) (hl2 : l2.length ≤ 1000000) :
    Calls Try.prog 38 #[.slice ao1 l1.length c1, .slice ao2 l2.length c2] w fun e w' => e = .returned (.bool (decide (l1 = l2))) ∧ Below w.heap.size w w' := by
  obtain ⟨c, hc⟩ : ∃ c, c = decide (l1 = l2) := ⟨_, rfl⟩
  rw [← hc]
  have Hc := Lib.hid hc
  clear hc
  by_cases hlen : l1.length = l2.length
  · have hlb : ((l1.length : Int) != (l2.length : Int)) = false := by simp [hlen]
    have Hlen := Lib.hid hlen
    clear hlen
    go_enter Try.func38, Try.ntmps38
    go_wp2_with fail
    go_loopw [13] (fun u wr => ∃ i : Nat, u = .int .i64 (i : Nat) ∧ i ≤ l1.length ∧ Hid (l1.take i = l2.take i) ∧ Below w.heap.size w wr) (fun u _ => l1.length - (intOf u).toNat)
    case atStart => exact ⟨0, rfl, Nat.zero_le _, Lib.hid (by simp), Below.refl _ _⟩
    case round =>
      obtain ⟨i, rfl, hi, Hinv, hB⟩ := hrel
      by_cases hlt : i < l1.length
      · have hlt2 : i < l2.length := by have := Hlen.out; omega
        obtain ⟨b1, o1, rfl, p0⟩ := (h1.below hB).get i hlt
        obtain ⟨b2, o2, rfl, q0⟩ := (h2.below hB).get i hlt2
        have hne : l1[i] ≠ l2[i] → c = false := fun h => by
          rw [Hc.out]
          simp only [decide_eq_false_iff_not]
          intro he
          apply h
          simp only [he]
        have heq : l1[i] = l2[i] → l1.take (i + 1) = l2.take (i + 1) := fun h => take_next hlt hlt2 Hinv.out h
        obtain ⟨x, hx⟩ : ∃ x, x = l1[i] := ⟨_, rfl⟩
        obtain ⟨y, hy⟩ : ∃ y, y = l2[i] := ⟨_, rfl⟩
        rw [← hx] at p0 hne heq
        rw [← hy] at q0 hne heq
        clear hx hy
        have i0 : (0 : Int) ≤ (i : Int) := by omega
        have i1 : (i : Int) < (l1.length : Int) := by omega
        have i2 : (i : Int) < (l2.length : Int) := by omega
        have Hne := Lib.hid hne
        have Heq := Lib.hid heq
        clear hne heq
        by_cases e1 : x = y
        · have e1b : (x != y) = false := by simp [e1]
          have Hgo := Lib.hid (Heq.out e1)
          clear e1 Hne Heq
          go_wp2_with fail
          go_quiet (fail)
          go_wp2_with fail
          go_roundw
          case rel => exact ⟨i + 1, by simp, by omega, Hgo, below_drewN hB _⟩
          case measure => simp [intOf]; omega
        · have e1b : (x != y) = true := by simpa using e1
          have Hf := Lib.hid (Hne.out e1)
          clear e1 Hne Heq
          go_wp2_with fail
          go_quiet (fail)
          go_wp2_with fail
          go_ret
          exact ⟨by rw [Hf.out]; rfl, below_drewN hB _⟩
      · have hi' : i = l1.length := by omega
        subst hi'
        have Ht : Hid (c = true) := Lib.hid (by
          rw [Hc.out]
          simp only [decide_eq_true_eq]
          have h := Hinv.out
          rw [List.take_of_length_le (Nat.le_refl _), List.take_of_length_le (by rw [Hlen.out]; exact Nat.le_refl _)] at h
          exact h)
        go_wp2_with fail
        go_ret
        exact ⟨by rw [Ht.out]; rfl, hB⟩
  · have hlb : ((l1.length : Int) != (l2.length : Int)) = true := by simp; omega
    have Hf : Hid (c = false) := Lib.hid (by
      rw [Hc.out]
      simp only [decide_eq_false_iff_not]
      intro h
      exact hlen (congrArg List.length h))
    clear hlen
    go_enter Try.func38, Try.ntmps38
    go_wp2_with fail
    go_ret
    exact ⟨by rw [Hf.out]; rfl, Below.refl _ _⟩
/-- rising, below 7 -/
def mRise : Int → List Int → Bool
  | _, [] => true
  | last, n :: r => decide (last < n) && decide (n < 7) && mRise n r
def mOk (l : List Int) : Bool := decide (0 < l.length) && decide (l.length ≤ 7) && mRise (-1) l
theorem mRise_drop (last : Int) (l : List Int) (i : Nat) (hi : i < l.length) : mRise last (l.drop i) = (decide (last < l[i]) && decide (l[i] < 7) && mRise l[i] (l.drop (i + 1))) := by
  rw [List.drop_eq_getElem_cons hi]; rfl
theorem mRise_end (last : Int) (l : List Int) (i : Nat) (hi : l.length ≤ i) : mRise last (l.drop i) = true := by
  rw [List.drop_eq_nil_of_le hi]; rfl
set_option maxRecDepth 100000 in
set_option maxHeartbeats 2000000 in
theorem rising_any (ao : Option Addr) (cap : Nat) (l : List Int) (w : World) (h : Iz w .i64 ao cap l) (hl : l.length ≤ 1000000) :
    Calls Try.prog 95 #[.slice ao l.length cap] w fun e w' => e = .returned (.bool (mOk l)) ∧ Below w.heap.size w w' := by
  obtain ⟨c, hc⟩ : ∃ c, c = mOk l := ⟨_, rfl⟩
  rw [← hc]
  have Hc := Lib.hid hc
  clear hc
  by_cases h0 : 0 < l.length
  · by_cases h7 : l.length ≤ 7
    · have Hc2 : Hid (c = mRise (-1) l) := by show _ = _; rw [Hc.out, mOk, decide_eq_true h0, decide_eq_true h7]; rfl
      have c1 : ((l.length : Int) > 0) := by omega
      have c2 : ((l.length : Int) ≤ 7) := by omega
      go_enter Try.func95, Try.ntmps95
      go_wp2_with fail
      refine wp_scope_straight ?_
      go_wp2_with fail
      refine wp_label ?_
      rename_i hKx
      refine hKx _ _ ?_
      go_wp2_with fail
      go_loopw [3, 4, 17] (fun b v u wr => ∃ (i : Nat) (last : Int), b = .bool true ∧ v = .int .i64 last ∧ u = .int .i64 (i : Nat) ∧ i ≤ l.length ∧ Hid (c = mRise last (l.drop i)) ∧ Below w.heap.size w wr) (fun _ _ u _ => l.length - (intOf u).toNat)
      case atStart => exact ⟨0, -1, rfl, rfl, rfl, Nat.zero_le _, Hc2, Below.refl _ _⟩
      case round =>
        obtain ⟨i, last, rfl, rfl, rfl, hi, Hinv, hB⟩ := hrel
        by_cases hlt : i < l.length
        · obtain ⟨b1, o1, rfl, p0⟩ := (h.below hB).get i hlt
          have hst := mRise_drop last l i hlt
          obtain ⟨x, hx⟩ : ∃ x, x = l[i] := ⟨_, rfl⟩
          rw [← hx] at p0 hst
          clear hx
          have i0 : (0 : Int) ≤ (i : Int) := by omega
          have i1 : (i : Int) < (l.length : Int) := by omega
          by_cases e1 : last < x
          · by_cases e2 : x < 7
            · have Hgo : Hid (c = mRise x (l.drop (i + 1))) := by show _ = _; rw [Hinv.out, hst, decide_eq_true e1, decide_eq_true e2]; rfl
              clear hst
              go_wp2_with fail
              go_roundw
              case rel => exact ⟨i + 1, x, rfl, rfl, by simp, by omega, Hgo, hB⟩
              case measure => simp [intOf]; omega
            · have Hf : Hid (c = false) := by show _ = _; rw [Hinv.out, hst, decide_eq_false e2]; simp
              clear hst
              go_wp2_with fail
              go_ret
              exact ⟨by rw [Hf.out]; rfl, hB⟩
          · have Hf : Hid (c = false) := by show _ = _; rw [Hinv.out, hst, decide_eq_false e1]; simp
            clear hst
            go_wp2_with fail
            go_ret
            exact ⟨by rw [Hf.out]; rfl, hB⟩
        · have hi' : i = l.length := by omega
          subst hi'
          have Ht : Hid (c = true) := by show _ = _; rw [Hinv.out, mRise_end _ _ _ (Nat.le_refl _)]
          go_wp2_with fail
          first | go_ret | (simp only [Exit.noGoto]; go_ret)
          exact ⟨by rw [Ht.out]; rfl, hB⟩
    · have Hf : Hid (c = false) := by show _ = _; rw [Hc.out, mOk, decide_eq_false h7]; simp
      have c1 : ((l.length : Int) > 0) := by omega
      have c2 : ¬ ((l.length : Int) ≤ 7) := by omega
      obtain ⟨b1, o1, rfl, p0⟩ := h.get 0 h0
      obtain ⟨x, hx⟩ : ∃ x, x = l[0] := ⟨_, rfl⟩
      rw [← hx] at p0
      simp only [Nat.add_zero] at p0
      clear hx
      have i1 : (0 : Int) < (l.length : Int) := by omega
      go_enter Try.func95, Try.ntmps95
      go_wp2_with fail
      refine wp_scope_straight ?_
      go_wp2_with fail
      refine wp_label ?_
      rename_i hKx
      refine hKx _ _ ?_
      go_wp2_with fail
      go_loopw [3, 17] (fun b u wr => b = .bool false ∧ u = .int .i64 0 ∧ w = wr) (fun _ _ _ => 0)
      case atStart => exact ⟨by simp; omega, rfl, rfl⟩
      case round =>
        obtain ⟨rfl, rfl, rfl⟩ := hrel
        go_wp2_with fail
        first | go_ret | (simp only [Exit.noGoto]; go_ret)
        exact ⟨by rw [Hf.out]; rfl, Below.refl _ _⟩
  · have h0' : l.length = 0 := by omega
    have Hf : Hid (c = false) := by show _ = _; rw [Hc.out, mOk, decide_eq_false h0]; simp
    clear h0
    go_enter Try.func95, Try.ntmps95
    go_wp2_with fail
    refine wp_scope_straight ?_
    go_wp2_with fail
    refine wp_label ?_
    rename_i hKx
    refine hKx _ _ ?_
    go_wp2_with fail
    go_loopw [3, 17] (fun b u wr => b = .bool false ∧ u = .int .i64 0 ∧ w = wr) (fun _ _ _ => 0)
    case atStart => exact ⟨by simp, rfl, rfl⟩
    case round =>
      obtain ⟨rfl, rfl, rfl⟩ := hrel
      go_wp2_with fail
      first | go_ret | (simp only [Exit.noGoto]; go_ret)
      exact ⟨by rw [Hf.out]; rfl, Below.refl _ _⟩
end Go.Proofs.Ytbmkgcoolofmpaa
namespace Go.Proofs.Ytbmkgcoolofmpaa
set_option linter.unusedVariables false
set_option linter.unusedSimpArgs false
set_option linter.unusedSectionVars false
open Go Go.RowKit Go.Shelf
/-- a snapshot -/
structure Sn where
  index : Int
  term : Int
  members : List Int
  data : List UInt8
deriving DecidableEq
def soundSn (s : Sn) : Bool := decide (1 ≤ s.index) && decide (s.index < 576460752303423488) && decide (1 ≤ s.term) && decide (s.term ≤ 1152921504606846976) && mOk s.members && decide (s.data.length ≤ 32768)
theorem soundSn_iff {s : Sn} : soundSn s = true ↔ 1 ≤ s.index ∧ s.index < 576460752303423488 ∧ 1 ≤ s.term ∧ s.term ≤ 1152921504606846976 ∧ mOk s.members = true ∧ s.data.length ≤ 32768 := by
  simp only [soundSn, Bool.and_eq_true, decide_eq_true_eq, and_assoc]
set_option maxRecDepth 100000 in
set_option maxHeartbeats 2000000 in
theorem snapSound_any (i t : Int) (mo ao : Option Addr) (mc ac : Nat) (ml : List Int) (d : List UInt8) (w : World) (hm : Iz w .i64 mo mc ml) (hml : ml.length ≤ 1000000) :
    Calls Try.prog 80 #[.agg #[.int .u64 i, .int .u64 t, .slice mo ml.length mc, .slice ao d.length ac]] w fun e w' => e = .returned (.bool (soundSn ⟨i, t, ml, d⟩)) ∧ Below w.heap.size w w' := by
  obtain ⟨c, hc⟩ : ∃ c, c = soundSn ⟨i, t, ml, d⟩ := ⟨_, rfl⟩
  have hiff := soundSn_iff (s := ⟨i, t, ml, d⟩)
  rw [← hc] at hiff
  rw [← hc]
  have Hc := Lib.hid hiff
  have hb := below_new w (.cells #[.int .u64 i, .int .u64 t, .slice mo ml.length mc, .slice ao d.length ac] 35)
  have hm1 := rising_any mo mc ml _ (hm.below hb) hml
  have Hm := Lib.hid hm1
  clear hiff hc hm1
  obtain ⟨r, hr⟩ : ∃ r, r = mOk ml := ⟨_, rfl⟩
  rw [← hr] at Hm Hc
  clear hr
  by_cases q1 : 1 ≤ i
  · by_cases q2 : i < 576460752303423488
    · by_cases q3 : 1 ≤ t
      · by_cases q4 : t ≤ 1152921504606846976
        · go_enter Try.func80, Try.ntmps80
          go_wp2_with fail
          refine Hm.out.mono ?_
          rintro e w2 ⟨rfl, hb2⟩
          have c3 : w2.cell? ⟨w.heap.size, 3, none⟩ = some (.slice ao d.length ac) := block_cell ((hb2.block _ (by simp)).trans (heap_alloc_new _ _)) 3
          cases r
          · go_wp2_with fail
            go_ret
            refine ⟨ret_bool ?_, below_on hb hb2 (Nat.le_refl _)⟩
            rw [Bool.eq_iff_iff, Hc.out]
            simp
          · go_wp2_with fail
            go_ret
            refine ⟨ret_bool ?_, below_on hb hb2 (Nat.le_refl _)⟩
            rw [Bool.eq_iff_iff, Hc.out]
            simp
            omega
        · go_enter Try.func80, Try.ntmps80
          go_wp2_with fail
          go_ret
          refine ⟨ret_bool ?_, hb⟩
          rw [Bool.eq_iff_iff, Hc.out]
          simp
          omega
      · go_enter Try.func80, Try.ntmps80
        go_wp2_with fail
        go_ret
        refine ⟨ret_bool ?_, hb⟩
        rw [Bool.eq_iff_iff, Hc.out]
        simp
        omega
    · go_enter Try.func80, Try.ntmps80
      go_wp2_with fail
      go_ret
      refine ⟨ret_bool ?_, hb⟩
      rw [Bool.eq_iff_iff, Hc.out]
      simp
      omega
  · go_enter Try.func80, Try.ntmps80
    go_wp2_with fail
    go_ret
    refine ⟨ret_bool ?_, hb⟩
    rw [Bool.eq_iff_iff, Hc.out]
    simp
    omega
set_option maxRecDepth 100000 in
set_option maxHeartbeats 4000000 in
theorem snapSame_any (i1 t1 i2 t2 : Int) (mo1 ao1 mo2 ao2 : Option Addr) (mc1 ac1 mc2 ac2 : Nat) (ml1 ml2 : List Int) (d1 d2 : List UInt8) (w : World) (hm1 : Iz w .i64 mo1 mc1 ml1) (hm2 : Iz w .i64 mo2 mc2 ml2) (hd1 : Bs w ao1 ac1 d1) (hd2 : Bs w ao2 ac2 d2) (hl1 : ml1.length ≤ 1000000) (hl2 : ml2.length ≤ 1000000) :
    Calls Try.prog 41 #[.agg #[.int .u64 i1, .int .u64 t1, .slice mo1 ml1.length mc1, .slice ao1 d1.length ac1], .agg #[.int .u64 i2, .int .u64 t2, .slice mo2 ml2.length mc2, .slice ao2 d2.length ac2]] w fun e w' => e = .returned (.bool (decide ((⟨i1, t1, ml1, d1⟩ : Sn) = ⟨i2, t2, ml2, d2⟩))) ∧ Below w.heap.size w w' := by
  obtain ⟨c, hc⟩ : ∃ c, c = decide ((⟨i1, t1, ml1, d1⟩ : Sn) = ⟨i2, t2, ml2, d2⟩) := ⟨_, rfl⟩
  have hiff : c = true ↔ (i1 = i2 ∧ t1 = t2 ∧ ml1 = ml2 ∧ d1 = d2) := by rw [hc]; simp
  rw [← hc]
  have Hc := Lib.hid hiff
  have hb1 := below_new w (.cells #[.int .u64 i1, .int .u64 t1, .slice mo1 ml1.length mc1, .slice ao1 d1.length ac1] 35)
  have hb : Below w.heap.size w ((w.alloc (.cells #[.int .u64 i1, .int .u64 t1, .slice mo1 ml1.length mc1, .slice ao1 d1.length ac1] 35)).alloc (.cells #[.int .u64 i2, .int .u64 t2, .slice mo2 ml2.length mc2, .slice ao2 d2.length ac2] 35)) := hb1.alloc (by simp) _
  have Hm := Lib.hid (equalInt_any mo1 mo2 mc1 mc2 ml1 ml2 _ (hm1.below hb) (hm2.below hb) hl1 hl2)
  have Hd := Lib.hid (fun W hW1 hW2 => bytesEqual_any ao1 ao2 ac1 ac2 d1 d2 W hW1 hW2)
  have g1 := hd1.below hb
  have g2 := hd2.below hb
  clear hiff hc hb1
  by_cases q1 : i1 = i2
  · have e1 : (i1 == i2) = true := by simp [q1]
    by_cases q2 : t1 = t2
    · have e2 : (t1 == t2) = true := by simp [q2]
      have Q1 := Lib.hid q1
      have Q2 := Lib.hid q2
      clear q1 q2
      by_cases q3 : ml1 = ml2
      · rw [decide_eq_true q3] at Hm
        have Q3 := Lib.hid q3
        clear q3
        go_enter Try.func41, Try.ntmps41
        go_wp2_with fail
        refine Hm.out.mono ?_
        rintro e w2 ⟨rfl, hb2⟩
        have Hd2 := Lib.hid (Hd.out w2 (g1.below hb2) (g2.below hb2))
        have hbb := below_on hb hb2 (Nat.le_refl _)
        have k1 : ((w.alloc (.cells #[.int .u64 i1, .int .u64 t1, .slice mo1 ml1.length mc1, .slice ao1 d1.length ac1] 35)).alloc (.cells #[.int .u64 i2, .int .u64 t2, .slice mo2 ml2.length mc2, .slice ao2 d2.length ac2] 35)).heap[w.heap.size]? = some (.cells #[.int .u64 i1, .int .u64 t1, .slice mo1 ml1.length mc1, .slice ao1 d1.length ac1] 35) := ((below_new _ _).block _ (by simp)).trans (heap_alloc_new _ _)
        have k2 : ((w.alloc (.cells #[.int .u64 i1, .int .u64 t1, .slice mo1 ml1.length mc1, .slice ao1 d1.length ac1] 35)).alloc (.cells #[.int .u64 i2, .int .u64 t2, .slice mo2 ml2.length mc2, .slice ao2 d2.length ac2] 35)).heap[w.heap.size + 1]? = some (.cells #[.int .u64 i2, .int .u64 t2, .slice mo2 ml2.length mc2, .slice ao2 d2.length ac2] 35) := by
          have h := heap_alloc_new (w.alloc (.cells #[.int .u64 i1, .int .u64 t1, .slice mo1 ml1.length mc1, .slice ao1 d1.length ac1] 35)) (.cells #[.int .u64 i2, .int .u64 t2, .slice mo2 ml2.length mc2, .slice ao2 d2.length ac2] 35)
          rwa [World.size_alloc] at h
        have k1' := (hb2.block _ (Array.getElem?_eq_some_iff.1 k1).1).trans k1
        have k2' := (hb2.block _ (Array.getElem?_eq_some_iff.1 k2).1).trans k2
        have c3 : w2.cell? ⟨w.heap.size, 3, none⟩ = some (.slice ao1 d1.length ac1) := block_cell k1' 3
        have c4 : w2.cell? ⟨w.heap.size + 1, 3, none⟩ = some (.slice ao2 d2.length ac2) := block_cell k2' 3
        clear k1 k2 k1' k2'
        go_wp2_with fail
        refine Hd2.out.mono ?_
        rintro e w3 ⟨rfl, rfl⟩
        go_wp2_with fail
        go_ret
        exact ⟨ret_bool (by rw [Bool.eq_iff_iff, Hc.out]; simp [Q1.out, Q2.out, Q3.out]), hbb⟩
      · rw [decide_eq_false q3] at Hm
        have Q3 := Lib.hid q3
        clear q3
        go_enter Try.func41, Try.ntmps41
        go_wp2_with fail
        refine Hm.out.mono ?_
        rintro e w2 ⟨rfl, hb2⟩
        have hbb := below_on hb hb2 (Nat.le_refl _)
        go_wp2_with fail
        go_ret
        exact ⟨ret_bool (by rw [Bool.eq_iff_iff, Hc.out]; simp [Q3.out]), hbb⟩
    · have e2 : (t1 == t2) = false := by simp [q2]
      have Q2 := Lib.hid q2
      clear q1 q2
      go_enter Try.func41, Try.ntmps41
      go_wp2_with fail
      go_ret
      exact ⟨ret_bool (by rw [Bool.eq_iff_iff, Hc.out]; simp [Q2.out]), hb⟩
  · have e1 : (i1 == i2) = false := by simp [q1]
    have Q1 := Lib.hid q1
    clear q1
    go_enter Try.func41, Try.ntmps41
    go_wp2_with fail
    go_ret
    exact ⟨ret_bool (by rw [Bool.eq_iff_iff, Hc.out]; simp [Q1.out]), hb⟩
end Go.Proofs.Ytbmkgcoolofmpaa
namespace Go.Proofs.Ytbmkgcoolofmpaa
set_option linter.unusedVariables false
set_option linter.unusedSimpArgs false
set_option linter.unusedSectionVars false
open Go Go.RowKit Go.Shelf
/-- do bytes stand for members? -/
def memOk (d : List UInt8) : Bool := decide (endR (readN 127 d false).2.1 (readN 127 d false).2.2 = 0) && decide ((readN 127 d false).1 ≠ 0)
theorem infoInt : (Try.prog.info? 3).map (fun i => (i.zero, i.size, i.bytes)) = some (some (.int .i64 0), 1, 8) := by kernel_rfl
set_option maxRecDepth 100000 in
set_option maxHeartbeats 2000000 in
theorem memOf_any (s : Nat) (hs : s ≤ 127) (w : World) :
    Calls Try.prog 101 #[.int .u64 (s : Nat)] w fun e w' => (∃ ao n cap, e = .returned (.slice ao n cap)) ∧ Below w.heap.size w w' := by
  go_enter Try.func101, Try.ntmps101
  go_wp2_with fail
  go_loopw [2, 4] (fun v u wr => ∃ (i n : Nat) (rows : List (List Value)) (ao : Option Addr) (cap : Nat), v = .slice ao n cap ∧ u = .int .i64 (i : Nat) ∧ i ≤ 7 ∧ n ≤ i ∧ wr.ownsRow w.heap.size 3 1 (.slice ao n cap) n rows.flatten ∧ Below w.heap.size w wr) (fun _ u _ => 7 - (intOf u).toNat)
  case atStart => exact ⟨0, 0, [], none, 0, rfl, rfl, by omega, by omega, World.ownsRow_nil _ _ _ _, Below.refl _ _⟩
  case round =>
    obtain ⟨i, n, rows, ao, cap, rfl, rfl, hi, hn, how, hB⟩ := hrel
    by_cases hlt : i < 7
    · have i1 : (i : Int) < 7 := by omega
      have i0 : (0 : Int) ≤ (i : Int) := by omega
      have i2 : (i : Int) ≤ 64 := by omega
      have hba := below_new wr (.cells #[.int .i64 (i : Int)] 3)
      have how1 := own_below how hba
      have hzz : w.heap.size ≤ (wr.alloc (.cells #[.int .i64 (i : Int)] 3)).heap.size := by have := hB.size; simp; omega
      obtain ⟨bt, hbt⟩ : ∃ bt, bt = (bits BinOp.and IntKind.u64 ((s : Int) / 2 ^ i) 1 == 1) := ⟨_, rfl⟩
      cases bt
      · have hb2 := hbt.symm
        clear hbt
        go_wp2_with fail
        go_roundw
        case rel => exact ⟨i + 1, n, rows, ao, cap, rfl, by simp, by omega, by omega, how, hB⟩
        case measure => simp [intOf]; omega
      · have hb2 := hbt.symm
        clear hbt
        go_wp2_with (first
          | (at_builtin; refine wpl_append_one rfl (.tmp 12) (.tmp 14) 27 rfl w.heap.size 3 infoInt Try.underlying27 rfl (by decide) _ n rows rfl how1 _ 1 [.int .i64 (i : Int)] rfl rfl (news_at _ rfl) (fun u hu => by simp at hu; subst hu; rfl) ?_ ?_ ?_ ?_; omega; (unfold maxLen; omega); exact hzz; intro g4 c4 W12 hown12 hg12 hlie))
        have hB12 := below_app (below_on hB hba (Nat.le_refl _)) hg12 how1 (Nat.le_refl _) hzz
        go_roundw
        case rel => exact ⟨i + 1, n + 1, rows ++ [[.int .i64 (i : Int)]], some ⟨g4, 0, none⟩, c4, rfl, by simp, by omega, by omega, hown12, hB12⟩
        case measure => simp [intOf]; omega
    · have hii : i = 7 := by omega
      subst hii
      go_wp2_with fail
      go_ret
      exact ⟨⟨ao, n, cap, rfl⟩, hB⟩
set_option maxRecDepth 100000 in
set_option maxHeartbeats 2000000 in
theorem memRead_any (ao : Option Addr) (cap : Nat) (d : List UInt8) (w : World) (h : Bs w ao cap d) :
    Calls Try.prog 94 #[.slice ao d.length cap] w fun e w' => (∃ v, e = .returned (.tuple #[v, .bool (memOk d)])) ∧ Below w.heap.size w w' := by
  obtain ⟨ok, hok⟩ : ∃ ok, ok = memOk d := ⟨_, rfl⟩
  rw [← hok]
  unfold memOk at hok
  have Hop := Lib.hid (open_rd ao cap d w h)
  have n0 := fun (W : World) (p : Nat) (h : Rd 123 W p ao cap d false) => rnum_any 127 (by decide) h
  have m0 := readN_le 127 d false
  generalize readN 127 d false = r at hok n0 m0
  obtain ⟨x, l, bad⟩ := r
  simp only at hok n0 m0
  have Hn := Lib.hid n0
  have Hok := Lib.hid hok
  clear n0 hok
  go_enter Try.func94, Try.ntmps94
  go_wp2_with fail
  refine Hop.out.mono ?_
  rintro e w1 ⟨rfl, hrd1, hB1⟩
  have Hn1 := Lib.hid (Hn.out w1 _ hrd1)
  go_wp2_with fail
  refine Hn1.out.mono ?_
  rintro e w2 ⟨ar, cr, rfl, hrd2, hg2, hsb2⟩
  have hB2 : Below w.heap.size w w2 := hB1.grown hg2 hB1.size (fun q hq => by simp at hq; omega)
  have He := Lib.hid (end_rd hrd2)
  have Hof := Lib.hid (fun W => memOf_any x m0 W)
  obtain ⟨en, hen⟩ : ∃ en, en = endR l bad := ⟨_, rfl⟩
  rw [← hen] at He Hok
  clear hen Hn Hn1
  by_cases e0 : en = 0
  · subst e0
    by_cases e1 : x = 0
    · subst e1
      have Hf : Hid (ok = false) := by show _ = _; rw [Hok.out]; simp
      go_wp2_with fail
      refine He.out.mono ?_
      rintro e w3 ⟨rfl, rfl⟩
      go_wp2_with fail
      go_ret2
      exact ⟨⟨_, by rw [Hf.out]; rfl⟩, hB2⟩
    · have Hf : Hid (ok = true) := by show _ = _; rw [Hok.out]; simp [e1]
      have e1b : ((x : Int) == 0) = false := by simpa using e1
      clear e1
      go_wp2_with fail
      refine He.out.mono ?_
      rintro e w3 ⟨rfl, rfl⟩
      go_wp2_with fail
      refine (Hof.out _).mono ?_
      rintro e w4 ⟨⟨ao4, n4, c4, rfl⟩, hB4⟩
      go_wp2_with fail
      go_ret2
      exact ⟨⟨_, by rw [Hf.out]; rfl⟩, below_on hB2 hB4 (Nat.le_refl _)⟩
  · have Hf : Hid (ok = false) := by show _ = _; rw [Hok.out]; simp [e0]
    have e0b : (en != 0) = true := by simpa using e0
    clear e0
    go_wp2_with fail
    refine He.out.mono ?_
    rintro e w3 ⟨rfl, rfl⟩
    go_wp2_with fail
    go_ret2
    exact ⟨⟨_, by rw [Hf.out]; rfl⟩, hB2⟩
theorem cell_at {w : World} {b : Nat} {cs : Array Value} {T : TypeId} (h : w.heap[b]? = some (.cells cs T (0, 0))) (i : Nat) (v : Value) (hv : cs[i]? = some v) : w.cell? ⟨b, i, .none⟩ = some v := (block_cell h i).trans hv
theorem al3 {w W : World} {A B C : Obj} (h : W = ((w.alloc A).alloc B).alloc C) : W.heap[w.heap.size]? = some A ∧ W.heap[w.heap.size + 1]? = some B ∧ W.heap[w.heap.size + 1 + 1]? = some C ∧ Below w.heap.size w W := by
  subst h
  refine ⟨?_, ?_, ?_, ?_⟩
  · exact ((below_new _ _).block _ (by simp only [World.size_alloc]; omega)).trans (((below_new _ _).block _ (by simp only [World.size_alloc]; omega)).trans (heap_alloc_new _ _))
  · have h := heap_alloc_new (w.alloc A) B
    rw [World.size_alloc] at h
    exact ((below_new _ _).block _ (by simp only [World.size_alloc]; omega)).trans h
  · have h := heap_alloc_new ((w.alloc A).alloc B) C
    rw [World.size_alloc, World.size_alloc] at h
    exact h
  · exact ((below_new w _).alloc (by simp only [World.size_alloc]; omega) _).alloc (by simp only [World.size_alloc]; omega) _
end Go.Proofs.Ytbmkgcoolofmpaa
namespace Go.Proofs.Ytbmkgcoolofmpaa
set_option linter.unusedVariables false
set_option linter.unusedSimpArgs false
set_option linter.unusedSectionVars false
open Go Go.RowKit Go.Shelf
/-- a message -/
structure Ms where
  kind : Int
  frm : Int
  dst : Int
  term : Int
  index : Int
  logTerm : Int
  commit : Int
  round : Int
  ok : Bool
  force : Bool
  es : List En
  sn : Sn
deriving DecidableEq
/-- a message, and where its rows lie -/
structure Mp where
  kind : Int
  frm : Int
  dst : Int
  term : Int
  index : Int
  logTerm : Int
  commit : Int
  round : Int
  ok : Bool
  force : Bool
  eo : Option Addr
  ec : Nat
  el : List Ep
  si : Int
  st : Int
  mo : Option Addr
  mc : Nat
  ml : List Int
  ao : Option Addr
  ac : Nat
  d : List UInt8
def Mp.v (x : Mp) : Ms := ⟨x.kind, x.frm, x.dst, x.term, x.index, x.logTerm, x.commit, x.round, x.ok, x.force, x.el.map Ep.e, ⟨x.si, x.st, x.ml, x.d⟩⟩
abbrev mpA (x : Mp) : Array Value := #[.int .i64 x.kind, .int .i64 x.frm, .int .i64 x.dst, .int .u64 x.term, .int .u64 x.index, .int .u64 x.logTerm, .int .u64 x.commit, .int .u64 x.round, .bool x.ok, .bool x.force, .slice x.eo x.el.length x.ec, .int .u64 x.si, .int .u64 x.st, .slice x.mo x.ml.length x.mc, .slice x.ao x.d.length x.ac]
/-- its rows read -/
structure MpAt (W : World) (x : Mp) : Prop where
  ens : Ens W x.eo x.ec x.el
  mem : Iz W .i64 x.mo x.mc x.ml
  dat : Bs W x.ao x.ac x.d
theorem MpAt.below {W W' : World} {x : Mp} (h : MpAt W x) (hb : Below W.heap.size W W') : MpAt W' x := ⟨h.ens.below hb, h.mem.below hb, h.dat.below hb⟩
def entB : Int → List En → Bool
  | _, [] => true
  | last, e :: r => soundE e && decide (last ≤ e.term) && (decide (e.kind ≠ 3) || memOk e.data) && entB e.term r
def lastT : Int → List En → Int
  | last, [] => last
  | _, e :: r => lastT e.term r
def entM (m : Ms) : Bool := entB m.logTerm m.es && decide (m.es.length ≤ 8) && decide (lastT m.logTerm m.es ≤ m.term) && decide (m.index ≤ 576460752303423488) && decide (m.index + m.es.length ≤ 576460752303423488)
def rowB : Int → Int → List En → Bool
  | _, _, [] => true
  | f, t, e :: r => soundE e && decide (f ≤ e.term) && decide (e.term ≤ t) && (decide (e.kind ≠ 3) || memOk e.data) && rowB e.term t r
theorem entB_drop (last : Int) (l : List En) (i : Nat) (hi : i < l.length) : entB last (l.drop i) = (soundE l[i] && decide (last ≤ l[i].term) && (decide (l[i].kind ≠ 3) || memOk l[i].data) && entB l[i].term (l.drop (i + 1))) := by
  rw [List.drop_eq_getElem_cons hi]; rfl
theorem lastT_drop (last : Int) (l : List En) (i : Nat) (hi : i < l.length) : lastT last (l.drop i) = lastT l[i].term (l.drop (i + 1)) := by
  rw [List.drop_eq_getElem_cons hi]; rfl
set_option maxRecDepth 100000 in
set_option maxHeartbeats 4000000 in
theorem entries_any (x : Mp) (w : World) (h : MpAt w x) (hl : x.el.length ≤ 1000000) (hx0 : 0 ≤ x.index) :
    Calls Try.prog 79 #[.agg (mpA x)] w fun e w' => e = .returned (.bool (entM x.v)) ∧ Below w.heap.size w w' := by
  obtain ⟨kind, frm, dst, term, index, logTerm, commit, round, ok, force, eo, ec, el, si, st, mo, mc, ml, ao, ac, d⟩ := x
  obtain ⟨hen, hmem, hdat⟩ := h
  simp only at hen hl hx0
  clear hmem hdat
  dsimp only [mpA, Mp.v, entM]
  obtain ⟨c0, hc0⟩ : ∃ c0, c0 = entB logTerm (el.map Ep.e) := ⟨_, rfl⟩
  obtain ⟨lt, hlt⟩ : ∃ lt, lt = lastT logTerm (el.map Ep.e) := ⟨_, rfl⟩
  rw [← hc0, ← hlt, List.length_map]
  obtain ⟨c, hc⟩ : ∃ c, c = (c0 && decide (el.length ≤ 8) && decide (lt ≤ term) && decide (index ≤ 576460752303423488) && decide (index + (el.length : Nat) ≤ 576460752303423488)) := ⟨_, rfl⟩
  rw [← hc]
  have hiff : c = true ↔ (c0 = true ∧ el.length ≤ 8 ∧ lt ≤ term ∧ index ≤ 576460752303423488 ∧ index + (el.length : Nat) ≤ 576460752303423488) := by rw [hc]; simp [and_assoc]
  have Hc := Lib.hid hiff
  clear hiff hc
  have HC0 := Lib.hid hc0
  have HLT := Lib.hid hlt
  clear hc0 hlt
  obtain ⟨W1, hW1⟩ : ∃ W1, W1 = w.alloc (.cells #[.int .i64 kind, .int .i64 frm, .int .i64 dst, .int .u64 term, .int .u64 index, .int .u64 logTerm, .int .u64 commit, .int .u64 round, .bool ok, .bool force, .slice eo el.length ec, .int .u64 si, .int .u64 st, .slice mo ml.length mc, .slice ao d.length ac] 37) := ⟨_, rfl⟩
  have hB1 : Below w.heap.size w W1 := by rw [hW1]; exact below_new _ _
  have k1 : W1.heap[w.heap.size]? = some (.cells #[.int .i64 kind, .int .i64 frm, .int .i64 dst, .int .u64 term, .int .u64 index, .int .u64 logTerm, .int .u64 commit, .int .u64 round, .bool ok, .bool force, .slice eo el.length ec, .int .u64 si, .int .u64 st, .slice mo ml.length mc, .slice ao d.length ac] 37) := by rw [hW1]; exact heap_alloc_new _ _
  have z1 : w.heap.size < W1.heap.size := (Array.getElem?_eq_some_iff.1 k1).1
  have p5 : W1.cell? ⟨w.heap.size, 5, none⟩ = some (.int .u64 logTerm) := block_cell k1 5
  have p10 : W1.cell? ⟨w.heap.size, 10, none⟩ = some (.slice eo el.length ec) := block_cell k1 10
  go_enter Try.func79, Try.ntmps79
  go_wp2_with fail
  rw [← hW1]
  clear hW1
  go_wp2_with fail
  have K1 := Lib.hid k1
  clear k1 p5 p10
  go_loopw [3, 14] (fun v u wr => ∃ (i : Nat) (last : Int), v = .int .u64 last ∧ u = .int .i64 (i : Nat) ∧ i ≤ el.length ∧ Hid (c0 = entB last ((el.map Ep.e).drop i)) ∧ Hid (lt = lastT last ((el.map Ep.e).drop i)) ∧ Below W1.heap.size W1 wr) (fun _ u _ => el.length - (intOf u).toNat)
  case atStart => exact ⟨0, logTerm, rfl, rfl, Nat.zero_le _, HC0, HLT, Below.refl _ _⟩
  case round =>
    obtain ⟨i, last, rfl, rfl, hi, Hinv, Hlt2, hB⟩ := hrel
    have hBw := below_on hB1 hB (Nat.le_refl _)
    by_cases hlt : i < el.length
    · have g1 := hen.below hBw
      obtain ⟨b1, o1, rfl, p0, p1, p2⟩ := g1.get i hlt
      have hd0 := hen.data _ (List.getElem_mem hlt)
      have hst := entB_drop last (el.map Ep.e) i (by simpa using hlt)
      have hst2 := lastT_drop last (el.map Ep.e) i (by simpa using hlt)
      simp only [List.getElem_map] at hst hst2
      obtain ⟨y, hy⟩ : ∃ y, y = el[i] := ⟨_, rfl⟩
      rw [← hy] at p0 p1 p2 hd0 hst hst2
      clear hy
      obtain ⟨⟨x1, x2, xd⟩, xa, xc⟩ := y
      simp only at p0 p1 p2 hd0 hst hst2
      have i0 : (0 : Int) ≤ (i : Int) := by omega
      have i1 : (i : Int) < (el.length : Int) := by omega
      have hba := below_new wr (.cells #[.int .u64 x1, .int .i64 x2, .slice xa xd.length xc] 88)
      have hB2 := below_on hBw hba (Nat.le_refl _)
      have ka : (wr.alloc (.cells #[.int .u64 x1, .int .i64 x2, .slice xa xd.length xc] 88)).heap[wr.heap.size]? = some (.cells #[.int .u64 x1, .int .i64 x2, .slice xa xd.length xc] 88) := heap_alloc_new _ _
      have Hs := Lib.hid (sound_e x1 x2 xa xd.length xc xd rfl (wr.alloc (.cells #[.int .u64 x1, .int .i64 x2, .slice xa xd.length xc] 88)))
      have Hm := Lib.hid (fun W hW => memRead_any xa xc xd W hW)
      obtain ⟨mk, hmk⟩ : ∃ mk, mk = memOk xd := ⟨_, rfl⟩
      obtain ⟨sk, hsk⟩ : ∃ sk, sk = soundE ⟨x1, x2, xd⟩ := ⟨_, rfl⟩
      rw [← hmk] at hst Hm
      rw [← hsk] at hst Hs
      clear hmk hsk
      have hcw : ∀ W', Below (wr.alloc (.cells #[.int .u64 x1, .int .i64 x2, .slice xa xd.length xc] 88)).heap.size (wr.alloc (.cells #[.int .u64 x1, .int .i64 x2, .slice xa xd.length xc] 88)) W' → (W'.cell? ⟨wr.heap.size, 0, none⟩ = some (.int .u64 x1) ∧ W'.cell? ⟨wr.heap.size, 1, none⟩ = some (.int .i64 x2) ∧ W'.cell? ⟨wr.heap.size, 2, none⟩ = some (.slice xa xd.length xc)) := fun W' hb => by
        have hk := (hb.block _ (Array.getElem?_eq_some_iff.1 ka).1).trans ka
        exact ⟨block_cell hk 0, block_cell hk 1, block_cell hk 2⟩
      have Hst2 := Lib.hid hst2
      have Hst := Lib.hid hst
      clear hst hst2 ka
      have hno : c0 = false → c = false := fun h => by
        rw [Bool.eq_false_iff, ne_eq, Hc.out, h]; simp
      have Hno := Lib.hid hno
      clear hno
      cases sk
      · have Hf := Lib.hid (Hno.out (by rw [Hinv.out, Hst.out]; rfl))
        go_wp2_with fail
        refine Hs.out.mono ?_
        rintro e w2 ⟨rfl, hb2⟩
        go_wp2_with fail
        go_ret
        exact ⟨by rw [Hf.out]; rfl, below_on hB2 hb2 (Nat.le_refl _)⟩
      · by_cases e1 : x1 < last
        · have Hf := Lib.hid (Hno.out (by rw [Hinv.out, Hst.out, decide_eq_false (p := last ≤ x1) (by omega)]; rfl))
          go_wp2_with fail
          refine Hs.out.mono ?_
          rintro e w2 ⟨rfl, hb2⟩
          obtain ⟨q0, q1, q2⟩ := hcw _ hb2
          go_wp2_with fail
          go_ret
          exact ⟨by rw [Hf.out]; rfl, below_on hB2 hb2 (Nat.le_refl _)⟩
        · by_cases e2 : x2 = 3
          · subst e2
            cases mk
            · have Hf := Lib.hid (Hno.out (by rw [Hinv.out, Hst.out]; simp))
              go_wp2_with fail
              refine Hs.out.mono ?_
              rintro e w2 ⟨rfl, hb2⟩
              obtain ⟨q0, q1, q2⟩ := hcw _ hb2
              have hB3 := below_on hB2 hb2 (Nat.le_refl _)
              have Hm2 := Lib.hid (Hm.out w2 (hd0.below hB3))
              go_wp2_with fail
              refine Hm2.out.mono ?_
              rintro e w3 ⟨⟨v3, rfl⟩, hb3⟩
              go_wp2_with fail
              go_ret
              exact ⟨by rw [Hf.out]; rfl, below_on hB3 hb3 (Nat.le_refl _)⟩
            · have Hgo : Hid (c0 = entB x1 ((el.map Ep.e).drop (i + 1))) := by show _ = _; rw [Hinv.out, Hst.out, decide_eq_true (p := last ≤ x1) (by omega)]; simp
              have Hgo2 : Hid (lt = lastT x1 ((el.map Ep.e).drop (i + 1))) := by show _ = _; rw [Hlt2.out, Hst2.out]
              go_wp2_with fail
              refine Hs.out.mono ?_
              rintro e w2 ⟨rfl, hb2⟩
              obtain ⟨q0, q1, q2⟩ := hcw _ hb2
              have hB3 := below_on hB2 hb2 (Nat.le_refl _)
              have Hm2 := Lib.hid (Hm.out w2 (hd0.below hB3))
              go_wp2_with fail
              refine Hm2.out.mono ?_
              rintro e w3 ⟨⟨v3, rfl⟩, hb3⟩
              have hb3' := below_on hb2 hb3 (Nat.le_refl _)
              obtain ⟨r0, r1, r2⟩ := hcw _ hb3'
              go_wp2_with fail
              go_roundw
              case rel => exact ⟨i + 1, x1, rfl, by simp, by omega, Hgo, Hgo2, below_on (below_on hB hba (Nat.le_refl _)) hb3' (Nat.le_refl _)⟩
              case measure => simp [intOf]; omega
          · have e2b : (x2 == 3) = false := by simpa using e2
            have Hgo : Hid (c0 = entB x1 ((el.map Ep.e).drop (i + 1))) := by show _ = _; rw [Hinv.out, Hst.out, decide_eq_true (p := last ≤ x1) (by omega)]; simp [e2]
            have Hgo2 : Hid (lt = lastT x1 ((el.map Ep.e).drop (i + 1))) := by show _ = _; rw [Hlt2.out, Hst2.out]
            clear e2
            go_wp2_with fail
            refine Hs.out.mono ?_
            rintro e w2 ⟨rfl, hb2⟩
            obtain ⟨q0, q1, q2⟩ := hcw _ hb2
            go_wp2_with fail
            go_roundw
            case rel => exact ⟨i + 1, x1, rfl, by simp, by omega, Hgo, Hgo2, below_on (below_on hB hba (Nat.le_refl _)) hb2 (Nat.le_refl _)⟩
            case measure => simp [intOf]; omega
    · have hii : i = el.length := by omega
      subst hii
      have Ht : Hid (c0 = true) := by show _ = _; rw [Hinv.out, List.drop_eq_nil_of_le (by simp)]; rfl
      have Hl : Hid (lt = last) := by show _ = _; rw [Hlt2.out, List.drop_eq_nil_of_le (by simp)]; rfl
      have Hc2 : Hid (c = true ↔ (el.length ≤ 8 ∧ last ≤ term ∧ index ≤ 576460752303423488 ∧ index + (el.length : Nat) ≤ 576460752303423488)) := by show _ ↔ _; rw [Hc.out, Ht.out, Hl.out]; simp
      have k2 := (hB.block _ z1).trans K1.out
      have p3 : wr.cell? ⟨w.heap.size, 3, none⟩ = some (.int .u64 term) := block_cell k2 3
      have p4 : wr.cell? ⟨w.heap.size, 4, none⟩ = some (.int .u64 index) := block_cell k2 4
      have p10 : wr.cell? ⟨w.heap.size, 10, none⟩ = some (.slice eo el.length ec) := block_cell k2 10
      have u1 : IntKind.u64.wrap (el.length : Int) = (el.length : Int) := IntWalk.u64_in _ (by omega)
      clear Hc Ht Hl Hinv Hlt2 HC0 HLT
      by_cases q1 : el.length ≤ 8
      · have q1' : (el.length : Int) ≤ 8 := by omega
        by_cases q2 : last ≤ term
        · by_cases q3 : index ≤ 576460752303423488
          · have u2 : IntKind.u64.wrap (index + (el.length : Int)) = index + (el.length : Int) := IntWalk.u64_in _ (by omega)
            by_cases q4 : index + (el.length : Int) ≤ 576460752303423488
            · have Hf : Hid (c = true) := by show _ = _; rw [Hc2.out]; exact ⟨q1, q2, q3, q4⟩
              go_wp2_with fail
              go_ret
              exact ⟨by rw [Hf.out]; rfl, hBw⟩
            · have Hf : Hid (c = false) := by show _ = _; rw [Bool.eq_false_iff, ne_eq, Hc2.out]; rintro ⟨_, _, _, h⟩; exact q4 h
              go_wp2_with fail
              go_ret
              exact ⟨by rw [Hf.out]; rfl, hBw⟩
          · have Hf : Hid (c = false) := by show _ = _; rw [Bool.eq_false_iff, ne_eq, Hc2.out]; rintro ⟨_, _, h, _⟩; exact q3 h
            go_wp2_with fail
            go_ret
            exact ⟨by rw [Hf.out]; rfl, hBw⟩
        · have Hf : Hid (c = false) := by show _ = _; rw [Bool.eq_false_iff, ne_eq, Hc2.out]; rintro ⟨_, h, _, _⟩; exact q2 h
          go_wp2_with fail
          go_ret
          exact ⟨by rw [Hf.out]; rfl, hBw⟩
      · have q1' : ¬ (el.length : Int) ≤ 8 := by omega
        have Hf : Hid (c = false) := by show _ = _; rw [Bool.eq_false_iff, ne_eq, Hc2.out]; rintro ⟨h, _, _, _⟩; exact q1 h
        go_wp2_with fail
        go_ret
        exact ⟨by rw [Hf.out]; rfl, hBw⟩
end Go.Proofs.Ytbmkgcoolofmpaa
namespace Go.Proofs.Ytbmkgcoolofmpaa
set_option linter.unusedVariables false
set_option linter.unusedSimpArgs false
set_option linter.unusedSectionVars false
open Go Go.RowKit
structure WL (P : Program) (ops : Array Oper) (Q : Exit → Act → World → Prop) (l : List Oper) (a : Act) (w : World) : Prop where
  out : wpList P ops Q l a w
theorem WL.skip {P : Program} {ops : Array Oper} {Q : Exit → Act → World → Prop} {o : Oper} {rest : List Oper} {a : Act} {w : World} (hw : Region.wanted o (yielded ops a.tmps) = false) (hk : WL P ops Q rest (a.put o.dst undef) w) : WL P ops Q (o :: rest) a w :=
  ⟨wpList_step fun K hK => by simp only [hw, Bool.false_eq_true, if_false]; exact hK _ _ hk.out⟩
theorem WL.val {P : Program} {ops : Array Oper} {Q : Exit → Act → World → Prop} {o : Oper} {rest : List Oper} {a : Act} {w : World} {v : Value} (hw : Region.wanted o (yielded ops a.tmps) = true) (h : (execOp a.eval o).run P w = .ok (.value v) w) (hk : WL P ops Q rest (a.put o.dst v) w) : WL P ops Q (o :: rest) a w :=
  ⟨wpList_step fun K hK => by
    simp only [hw, if_true]
    unfold Oper.wp
    rw [h]
    exact hK _ _ hk.out⟩
theorem WL.nil {P : Program} {ops : Array Oper} {Q : Exit → Act → World → Prop} {a : Act} {w : World} (h : Q .normal a w) : WL P ops Q [] a w := ⟨wpList_nil h⟩
theorem WL.any {P : Program} {ops : Array Oper} {Q : Exit → Act → World → Prop} {o : Oper} {rest : List Oper} {a : Act} {w : World} (hw : Region.wanted o (yielded ops a.tmps) = true) (h : ∀ K : Act → World → Prop, Hid (∀ a w, WL P ops Q rest a w → K a w) → o.wp P a w K Q) : WL P ops Q (o :: rest) a w :=
  ⟨wpList_step fun K hK => by
    simp only [hw, if_true]
    exact h K (Lib.hid fun a w h => hK a w h.out)⟩
theorem WL.start {P : Program} {ops : Array Oper} {Q : Exit → Act → World → Prop} {id : Nat} {a : Act} {w : World} (h : WL P ops Q ops.toList a w) : (Code.region id ops false).wp P Q a w := wp_region_list h.out
end Go.Proofs.Ytbmkgcoolofmpaa
namespace Go.Proofs.Ytbmkgcoolofmpaa
set_option linter.unusedVariables false
set_option linter.unusedSimpArgs false
set_option linter.unusedSectionVars false
open Go Go.RowKit Go.Shelf
/-- are all fields that a kind has not zero? -/
def spareM (m : Ms) : Bool :=
  (decide (m.kind = 1 ∨ m.kind = 3 ∨ m.kind = 5 ∨ m.kind = 6) || decide (m.index = 0)) && (decide (m.kind = 1 ∨ m.kind = 3 ∨ m.kind = 5) || decide (m.logTerm = 0)) &&
  (decide (m.kind = 5) || decide (m.commit = 0)) && (decide (m.kind = 5 ∨ m.kind = 6 ∨ m.kind = 7) || decide (m.round = 0)) &&
  (decide (m.kind = 2 ∨ m.kind = 4 ∨ m.kind = 6) || !m.ok) && (decide (m.kind = 3) || !m.force) &&
  (decide (m.kind = 5) || decide (m.es.length = 0)) && (decide (m.kind = 7) || decide (m.sn = ⟨0, 0, [], []⟩))
theorem spareM_iff {m : Ms} : spareM m = true ↔ ((m.kind = 1 ∨ m.kind = 3 ∨ m.kind = 5 ∨ m.kind = 6) ∨ m.index = 0) ∧ ((m.kind = 1 ∨ m.kind = 3 ∨ m.kind = 5) ∨ m.logTerm = 0) ∧ (m.kind = 5 ∨ m.commit = 0) ∧ ((m.kind = 5 ∨ m.kind = 6 ∨ m.kind = 7) ∨ m.round = 0) ∧ ((m.kind = 2 ∨ m.kind = 4 ∨ m.kind = 6) ∨ m.ok = false) ∧ (m.kind = 3 ∨ m.force = false) ∧ (m.kind = 5 ∨ m.es.length = 0) ∧ (m.kind = 7 ∨ m.sn = ⟨0, 0, [], []⟩) := by
  simp only [spareM, Bool.and_eq_true, Bool.or_eq_true, decide_eq_true_eq, and_assoc, Bool.not_eq_true']
end Go.Proofs.Ytbmkgcoolofmpaa
namespace Go.Proofs.Ytbmkgcoolofmpaa
set_option linter.unusedVariables false
set_option linter.unusedSimpArgs false
set_option linter.unusedSectionVars false
open Go Go.RowKit Go.Shelf
/-- may a message be? (as the program asks) -/
def soundM (m : Ms) : Bool :=
  decide (1 ≤ m.kind ∧ m.kind ≤ 8 ∧ 0 ≤ m.frm ∧ m.frm ≤ 6 ∧ 0 ≤ m.dst ∧ m.dst ≤ 6 ∧ m.frm ≠ m.dst) &&
  decide (1 ≤ m.term ∧ m.term ≤ 1152921504606846976 ∧ m.commit ≤ 576460752303423488 ∧ m.round ≤ 1152921504606846976) && entM m &&
  (decide (m.kind ≠ 7) || (soundSn m.sn && decide (m.sn.term ≤ m.term))) && spareM m
theorem soundM_iff {m : Ms} : soundM m = true ↔ (1 ≤ m.kind ∧ m.kind ≤ 8 ∧ 0 ≤ m.frm ∧ m.frm ≤ 6 ∧ 0 ≤ m.dst ∧ m.dst ≤ 6 ∧ m.frm ≠ m.dst) ∧ (1 ≤ m.term ∧ m.term ≤ 1152921504606846976 ∧ m.commit ≤ 576460752303423488 ∧ m.round ≤ 1152921504606846976) ∧ entM m = true ∧ (m.kind ≠ 7 ∨ (soundSn m.sn = true ∧ m.sn.term ≤ m.term)) ∧ spareM m = true := by
  simp only [soundM, Bool.and_eq_true, Bool.or_eq_true, decide_eq_true_eq, and_assoc]
theorem row_ent (term : Int) (es : List En) : ∀ last : Int, (entB last es = true ∧ lastT last es ≤ term) ↔ (rowB last term es = true ∧ last ≤ term) := by
  induction es with
  | nil => intro last; simp [entB, lastT, rowB]
  | cons e r ih =>
    intro last
    have h := ih e.term
    simp only [entB, lastT, rowB, Bool.and_eq_true, decide_eq_true_eq, Bool.or_eq_true] at h ⊢
    constructor
    · rintro ⟨⟨⟨⟨h1, h2⟩, h3⟩, h4⟩, h5⟩
      obtain ⟨h6, h7⟩ := h.1 ⟨h4, h5⟩
      exact ⟨⟨⟨⟨⟨h1, h2⟩, h7⟩, h3⟩, h6⟩, by omega⟩
    · rintro ⟨⟨⟨⟨⟨h1, h2⟩, h7⟩, h3⟩, h6⟩, h8⟩
      obtain ⟨h4, h5⟩ := h.2 ⟨h6, h7⟩
      exact ⟨⟨⟨⟨h1, h2⟩, h3⟩, h4⟩, h5⟩
theorem entM_iff {m : Ms} : entM m = true ↔ m.logTerm ≤ m.term ∧ m.index ≤ 576460752303423488 ∧ m.es.length ≤ 8 ∧ rowB m.logTerm m.term m.es = true ∧ m.index + m.es.length ≤ 576460752303423488 := by
  have h := row_ent m.term m.es m.logTerm
  simp only [entM, Bool.and_eq_true, decide_eq_true_eq, and_assoc]
  constructor
  · rintro ⟨h1, h2, h3, h4, h5⟩
    obtain ⟨h6, h7⟩ := h.1 ⟨h1, h3⟩
    exact ⟨h7, h4, h2, h6, h5⟩
  · rintro ⟨h7, h4, h2, h6, h5⟩
    obtain ⟨h1, h3⟩ := h.2 ⟨h6, h7⟩
    exact ⟨h1, h2, h3, h4, h5⟩
/-- a message with the fields alone that its kind has -/
def plainM (m : Ms) : Ms :=
  ⟨m.kind, m.frm, m.dst, m.term, if m.kind = 1 ∨ m.kind = 3 ∨ m.kind = 5 ∨ m.kind = 6 then m.index else 0, if m.kind = 1 ∨ m.kind = 3 ∨ m.kind = 5 then m.logTerm else 0,
    if m.kind = 5 then m.commit else 0, if m.kind = 5 ∨ m.kind = 6 ∨ m.kind = 7 then m.round else 0, if m.kind = 2 ∨ m.kind = 4 ∨ m.kind = 6 then m.ok else false, if m.kind = 3 then m.force else false,
    if m.kind = 5 then m.es else [], if m.kind = 7 then m.sn else ⟨0, 0, [], []⟩⟩
theorem ite_own {α : Type} {p : Prop} [Decidable p] {x y : α} : x = (if p then x else y) ↔ (p ∨ x = y) := by
  by_cases h : p <;> simp [h]
theorem plainM_iff {m : Ms} : spareM m = true ↔ m = plainM m := by
  rw [spareM_iff]
  obtain ⟨kind, frm, dst, term, index, logTerm, commit, round, ok, force, es, sn⟩ := m
  simp only [plainM, Ms.mk.injEq, true_and, ite_own, List.length_eq_zero_iff]
end Go.Proofs.Ytbmkgcoolofmpaa
