/- frame.Each and frame.End: a range over a function. No statement of the seat is proved here. -/
import Derived.Test.YtlphpjgiaflfkaaFrameC
import Derived.Test.YtlphpjgiaflfkaaAux3
import Derived.RangeFuncNested
import Derived.RangeFuncBound
import Derived.RangeFuncCalls
import Derived.RangeFuncLeaves
import Derived.Shelf.Abstract
import Derived.Shelf.RegionOpen
import Derived.OwnWalkIn
import Derived.TacticsInMore
import Derived.LoopNIn
import Derived.LoopIn
namespace Go.Proofs.Ytlphpjgiaflfkaa
set_option linter.unusedVariables false
set_option linter.unusedSimpArgs false
set_option linter.unusedSectionVars false
open Go Go.RowKit Go.Shelf
attribute [local go_sem] Oper.semAt_some

namespace Fr
/-- the lengths of the bodies of the frames with which bytes begin -/
def bl : Nat → List UInt8 → List Nat
  | 0, _ => []
  | k + 1, l => if l = [] ∨ (take l).err ≠ 0 then [] else (take l).body.length :: bl k (l.drop (take l).n)
theorem take_n (l : List UInt8) (h : (take l).err = 0) : (take l).n = (take l).body.length + 8 ∧ (take l).n ≤ l.length ∧ (take l).body.length ≤ 65536 := by
  have hs : (size l).2 = 0 := by
    apply Classical.byContradiction
    intro hn
    rw [take_err l hn] at h
    exact hn h
  have ho : Crc.opened (l.take (size l).1) ≠ none := by
    intro hn
    rw [take_sum l hs hn] at h
    cases h
  obtain ⟨_, h2⟩ := take_yes l hs ho
  obtain ⟨a, b, c, d, e, f⟩ := size_ok l hs
  rw [h2]
  simp only [List.length_drop, List.length_take]
  omega
theorem bl_len : ∀ (k : Nat) (l : List UInt8), (bl k l).length ≤ k
  | 0, _ => by simp [bl]
  | k + 1, l => by
    unfold bl
    split
    · simp
    · have := bl_len k (l.drop (take l).n)
      simp; omega
theorem bl_fuel : ∀ (k k' : Nat) (l : List UInt8), l.length ≤ k → l.length ≤ k' → bl k l = bl k' l
  | 0, k', l, h, _ => by
    have : l = [] := List.eq_nil_of_length_eq_zero (by omega)
    subst this
    cases k' <;> simp [bl]
  | k + 1, 0, l, _, h => by
    have : l = [] := List.eq_nil_of_length_eq_zero (by omega)
    subst this
    simp [bl]
  | k + 1, k' + 1, l, h, h' => by
    unfold bl
    by_cases hc : l = [] ∨ (take l).err ≠ 0
    · rw [if_pos hc, if_pos hc]
    · rw [if_neg hc, if_neg hc]
      have he : (take l).err = 0 := by
        apply Classical.byContradiction
        intro hn; exact hc (.inr hn)
      obtain ⟨h1, h2, _⟩ := take_n l he
      rw [bl_fuel k k' _ (by simp; omega) (by simp; omega)]
end Fr

/-- what a frame's body is handed over as -/
structure Fm where
  kind : UInt8
  ao : Option Addr
  n : Nat
  cap : Nat
  hn : n ≤ 65536
def encFm (x : Fm) : Array Value := #[.int .u8 (x.kind.toNat : Nat), .slice x.ao x.n x.cap]
/-- bytes in blocks below n0 -/
def BsLow (n0 : Nat) (w : World) (ao : Option Addr) (cap : Nat) (l : List UInt8) : Prop := Bs w ao cap l ∧ (0 < l.length → ∀ b off s, ao = some ⟨b, off, s⟩ → b < n0)
theorem BsLow.below {n0 : Nat} {w w' : World} {ao : Option Addr} {cap : Nat} {l : List UInt8} (h : BsLow n0 w ao cap l) (hB : Below n0 w w') : BsLow n0 w' ao cap l :=
  ⟨⟨h.1.len, h.1.le, h.1.max, h.1.none, fun j u hu => by
    obtain ⟨b, off, e, hc⟩ := h.1.cell j u hu
    exact ⟨b, off, e, (hB.cell (p := ⟨b, off + j, none⟩) (h.2 (by cases l with | nil => simp at hu | cons c l => simp) _ _ _ e)).trans hc⟩⟩, h.2⟩
theorem bs_low {w : World} {ao : Option Addr} {cap : Nat} {l : List UInt8} (h : Bs w ao cap l) : 0 < l.length → ∀ b off s, ao = some ⟨b, off, s⟩ → b < w.heap.size := by
  intro h0 b off s e
  obtain ⟨b', off', e', hc⟩ := h.get 0 h0
  rw [e] at e'
  cases e'
  exact cell?_lt hc

set_option maxRecDepth 100000 in
set_option maxHeartbeats 2000000 in
theorem each1_in (l Bn n0 : Nat) (ao : Option Addr) (cap : Nat) (b : List UInt8) (hl : b.length ≤ 10000000) (J Jx : List Fm → World → Prop) (W : World) (hJ : AbidesFrom W.heap.size J)
    (hY : ∀ pre x W1, J pre W1 → pre.length < b.length + 1 → YieldAt Fence.wide (2 - 1) Try.prog l (encFm x) W1 fun e W' =>
      (e = .returned (.bool true) ∧ J (pre ++ [x]) W' ∧ Below n0 W1 W') ∨ (e = .returned (.bool false) ∧ Jx (pre ++ [x]) W'))
    (hBn : W.cell? ⟨Bn, 0, none⟩ = some (.slice ao b.length cap)) (hb : BsLow n0 W ao cap b) (hn0 : n0 ≤ W.heap.size) (h0 : J [] W) :
    CallsIn Fence.wide 2 Try.prog 80 #[.func (.yield l) #[] #[], .pointer (some ⟨Bn, 0, none⟩)] W fun e W' => (∃ v, e = .returned v) ∧
      ((∃ ys : List Fm, ys.map (·.n) = Fr.bl b.length b ∧ J ys W') ∨ (∃ pre : List Fm, pre.map (·.n) <+: Fr.bl b.length b ∧ Jx pre W')) := by
  refine callsIn_of_wp Try.func80 rfl trivial ?_ rfl
  simp only [Try.ntmps80, List.size_toArray, List.length_cons, List.length_nil, Nat.reduceAdd, Nat.reduceSub, Array.replicate_succ, Array.replicate_zero, List.push_toArray, List.append_toArray, List.nil_append, List.cons_append]
  gi_wp2
  gi_loopw [3] (fun v wr => ∃ (pre : List Fm) (r : List UInt8) (ar : Option Addr) (cr : Nat), v = .slice ar r.length cr ∧ BsLow n0 wr ar cr r ∧ r.length ≤ b.length ∧ Fr.bl b.length b = pre.map (·.n) ++ Fr.bl r.length r ∧ J pre wr ∧ n0 ≤ wr.heap.size ∧ W.heap.size ≤ wr.heap.size)
    (fun v _ => match v with | .slice _ n _ => n | _ => 0)
  case atStart => exact ⟨[], b, ao, cap, rfl, hb, Nat.le_refl _, rfl, h0, hn0, Nat.le_refl _⟩
  case round =>
    obtain ⟨pre, r, ar, cr, rfl, hr, hrl, hbl, hJr, hn1, hn2⟩ := hrel
    by_cases hr0 : r.length = 0
    · have hre : r = [] := List.eq_nil_of_length_eq_zero hr0
      subst hre
      gi_wp2
      go_end0
      exact ⟨⟨_, rfl⟩, .inl ⟨pre, by rw [hbl]; simp [Fr.bl], hJr⟩⟩
    · have hrp : (0 : Int) < (r.length : Int) := by omega
      have hpl : pre.length < b.length + 1 := by
        have h1 := Fr.bl_len b.length b
        have h2 := congrArg List.length hbl
        simp at h2
        omega
      have Hbl := Lib.hid hbl
      clear hbl hr0
      gi_wp2_with fail
      refine ⟨trivial, ?_⟩
      refine (callsIn_wide.2 (take_any ar cr r wr (by omega) hr.1)).mono ?_
      rintro e w2 ⟨ab, cb, rfl, hb2, hB2⟩
      have hJ2 : J pre w2 := hJ pre wr w2 none hJr (grown_below hB2) (fun r e => by cases e)
      have hr2 := hr.below (hB2.mono hn1)
      have hz2 := hB2.size
      by_cases he : (Fr.take r).err = 0
      · obtain ⟨n1, n2, n3⟩ := Fr.take_n r he
        have hstep : Fr.bl r.length r = (Fr.take r).body.length :: Fr.bl (r.length - (Fr.take r).n) (r.drop (Fr.take r).n) := by
          have e1 : Fr.bl r.length r = Fr.bl (r.length - 1 + 1) r := by rw [show r.length - 1 + 1 = r.length from by omega]
          rw [e1, Fr.bl, if_neg (by simp only [not_or, Classical.not_not]; exact ⟨fun h => by subst h; simp at hrp, he⟩), Fr.bl_fuel (r.length - 1) (r.length - (Fr.take r).n) _ (by simp; omega) (by simp)]
        have hcut := Sl.cut hr2.1 (Fr.take r).n r.length n2 (Nat.le_refl _) (by decide)
        rw [he]
        obtain ⟨m, hm⟩ : ∃ m, m = (Fr.take r).n := ⟨_, rfl⟩
        obtain ⟨bl, hbl⟩ : ∃ x, x = (Fr.take r).body.length := ⟨_, rfl⟩
        obtain ⟨kd, hkd⟩ : ∃ x, x = (Fr.take r).kind := ⟨_, rfl⟩
        rw [← hm] at n1 n2 hstep hcut ⊢
        rw [← hbl] at n1 n3 hstep ⊢
        rw [← hkd]
        clear hm hbl hkd
        obtain ⟨fn, tmps, assign, body, hy, hR⟩ := hY pre ⟨kd, ab, bl, cb, n3⟩ w2 hJ2 hpl
        simp only [encFm] at hy hR
        have hsl := fun w => run_slice_sl (P := Try.prog) (w := w) Try.underlying22 (e := 5) (size := 1) (by kernel_rfl) ar r.length cr (some (.int .i64 (m : Int))) none m r.length (.inl rfl) (.inr ⟨rfl, rfl⟩) n2 hr2.1.le
        obtain ⟨an, han⟩ : ∃ an, an = (if cr = m then ar else Option.map (fun x => x.add (m * 1)) ar) := ⟨_, rfl⟩
        have hlow : ∀ b off s, an = some ⟨b, off, s⟩ → b < n0 := by
          intro b' off' s' e
          rw [han] at e
          split at e
          · exact hr2.2 (by omega) _ _ _ e
          · cases har : ar with
            | none => rw [har] at e; cases e
            | some a0 =>
              obtain ⟨b0, o0, s0⟩ := a0
              rw [har] at e
              simp [Addr.add] at e
              have := hr2.2 (by omega) _ _ _ har
              split at e <;> simp_all
        have hnew : BsLow n0 w2 an (cr - m) (r.drop m) := by
          refine ⟨?_, fun _ => hlow⟩
          unfold Bs
          rw [han, show (r.drop m).length = r.length - m from by simp]
          simpa [List.map_drop, List.take_of_length_le] using hcut
        rw [← han] at hsl
        rw [show (((0 : Nat) : Int)) = 0 from rfl]
        have Hnew := Lib.hid hnew
        have Hst := Lib.hid hstep
        have N1 := Lib.hid n1
        have m8 : 8 ≤ m := by omega
        have hmr : (m : Int) ≤ (r.length : Int) := by omega
        clear han hcut hnew hstep n1 he hlow
        gi_wp2_with fail
        refine hR.mono ?_
        rintro e W3 (⟨rfl, hJ3, hk3⟩ | ⟨rfl, hJx3⟩)
        · gi_wp2_with fail
          go_roundw
          case rel =>
            refine ⟨pre ++ [⟨kd, ab, bl, cb, n3⟩], r.drop m, an, cr - m, by simp, Hnew.out.below hk3, by simp; omega, ?_, hJ3, Nat.le_trans hn1 (Nat.le_trans hz2 hk3.size), Nat.le_trans hn2 (Nat.le_trans hz2 hk3.size)⟩
            rw [Hbl.out, Hst.out]
            simp
          case measure => simp; omega
        · gi_wp2_with fail
          refine bodyPost_ret (results_none rfl _ _ _) rfl ?_
          refine ⟨⟨_, rfl⟩, .inr ⟨pre ++ [⟨kd, ab, bl, cb, n3⟩], ?_, hJx3⟩⟩
          rw [Hbl.out, Hst.out]
          exact ⟨Fr.bl (r.length - m) (r.drop m), by simp⟩
      · have hne : (((Fr.take r).err : Int) != 0) = true := by simp; omega
        have hend : Fr.bl r.length r = [] := by
          have e1 : Fr.bl r.length r = Fr.bl (r.length - 1 + 1) r := by rw [show r.length - 1 + 1 = r.length from by omega]
          rw [e1, Fr.bl, if_pos (.inr he)]
        have Hend := Lib.hid hend
        obtain ⟨er, her⟩ : ∃ er, er = (Fr.take r).err := ⟨_, rfl⟩
        rw [← her] at hne ⊢
        clear her he hend
        gi_wp2_with fail
        refine ⟨fun _ h => (by cases h), ?_⟩
        gi_wp2_with fail
        refine bodyPost_ret (results_none rfl _ _ _) rfl ?_
        exact ⟨⟨_, rfl⟩, .inl ⟨pre, by rw [Hbl.out, Hend.out]; simp, hJ2⟩⟩

theorem each1_stops (Bn n0 : Nat) (ao : Option Addr) (cap : Nat) (b : List UInt8) (hl : b.length ≤ 10000000) (w : World) (hBs : Bn < w.heap.size) (hn0 : n0 ≤ w.heap.size) (hc : w.cell? ⟨Bn, 0, none⟩ = some (.slice ao b.length cap)) (hb : BsLow n0 w ao cap b) :
    SeqStopsK Fence.wide 2 Try.prog 80 #[.pointer (some ⟨Bn, 0, none⟩)] encFm (Below n0) (fun ys => ys.map (·.n) = Fr.bl b.length b) (fun pre => pre.map (·.n) <+: Fr.bl b.length b) (b.length + 1) w :=
  fun l J Jx W hW hJ _ hY h0 => each1_in l Bn n0 ao cap b hl J Jx W hJ hY ((hW.cell (p := ⟨Bn, 0, none⟩) hBs).trans hc) (hb.below (hW.mono hn0)) (Nat.le_trans hn0 hW.size) h0

def sum8 : List Nat → Nat
  | [] => 0
  | x :: l => x + 8 + sum8 l
theorem sum8_snoc (l : List Nat) (x : Nat) : sum8 (l ++ [x]) = sum8 l + (x + 8) := by
  induction l with
  | nil => simp [sum8]
  | cons y l ih => simp only [List.cons_append, sum8, ih]; omega
theorem sum8_le (l : List Nat) (h : ∀ x ∈ l, x ≤ 65536) : sum8 l ≤ l.length * 70000 := by
  induction l with
  | nil => simp [sum8]
  | cons y l ih =>
    have := ih fun x hx => h x (by simp [hx])
    have := h y (by simp)
    simp only [sum8, List.length_cons]; omega
/-- where frames end -/
def Fr.endAt (l : List UInt8) : Nat := sum8 (Fr.bl l.length l)
theorem Fr.sum_le : ∀ (k : Nat) (l : List UInt8), sum8 (Fr.bl k l) ≤ l.length
  | 0, _ => by simp [Fr.bl, sum8]
  | k + 1, l => by
    unfold Fr.bl
    split
    · simp [sum8]
    · rename_i h
      have he : (Fr.take l).err = 0 := by
        apply Classical.byContradiction
        intro hn; exact h (.inr hn)
      obtain ⟨h1, h2, _⟩ := Fr.take_n l he
      have := Fr.sum_le k (l.drop (Fr.take l).n)
      simp at this
      simp only [sum8]; omega

set_option maxRecDepth 100000 in
theorem each_any (ao : Option Addr) (n cap : Nat) (w : World) : CallsIn Fence.wide 2 Try.prog 39 #[.slice ao n cap] w fun e w' => e = .returned (.func (.func 80) #[] #[.pointer (some ⟨w.heap.size, 0, none⟩)]) ∧ w' = w.alloc (.cells #[.slice ao n cap] 22) := by
  refine callsIn_wide.2 ?_
  have hmf : ∀ (fn : Fn) (first cap : Array Value) (w : World), (Instr.makeFunc fn first cap).run Try.prog w = .ok (.func fn first cap) w := fun _ _ _ _ => rfl
  go_enter Try.func39, Try.ntmps39
  go_wp2
  go_ret
  exact ⟨rfl, rfl⟩

/-- what End answers -/
def EndIs (w : World) (l : List UInt8) (e : Ending) (w' : World) : Prop :=
  e = .returned (.tuple #[.int .i64 (Fr.endAt l : Nat), .int .i64 ((if Fr.endAt l < l.length then (Fr.take (l.drop (Fr.endAt l))).err else 0 : Nat) : Int)]) ∧ Below w.heap.size w w'

end Go.Proofs.Ytlphpjgiaflfkaa
