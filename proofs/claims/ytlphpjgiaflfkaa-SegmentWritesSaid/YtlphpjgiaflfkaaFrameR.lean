/- The frames with which bytes begin: frame.Each in full. No statement of the seat is proved here. -/
import Derived.Test.YtlphpjgiaflfkaaFrameE
import Derived.Test.YtlphpjgiaflfkaaGood
namespace Go.Proofs.Ytlphpjgiaflfkaa
set_option linter.unusedVariables false
set_option linter.unusedSimpArgs false
set_option linter.unusedSectionVars false
open Go Go.RowKit Go.Shelf
attribute [local go_sem] Oper.semAt_some

namespace Fr
/-- kind and body of the frames with which bytes begin -/
def rows : Nat → List UInt8 → List (UInt8 × List UInt8)
  | 0, _ => []
  | k + 1, l => if l = [] ∨ (take l).err ≠ 0 then [] else ((take l).kind, (take l).body) :: rows k (l.drop (take l).n)
theorem rows_bl : ∀ (k : Nat) (l : List UInt8), (rows k l).map (·.2.length) = bl k l
  | 0, _ => by simp [rows, bl]
  | k + 1, l => by
    unfold rows bl
    split
    · simp
    · simp [rows_bl k]
theorem rows_fuel : ∀ (k k' : Nat) (l : List UInt8), l.length ≤ k → l.length ≤ k' → rows k l = rows k' l
  | 0, k', l, h, _ => by
    have : l = [] := List.eq_nil_of_length_eq_zero (by omega)
    subst this
    cases k' <;> simp [rows]
  | k + 1, 0, l, _, h => by
    have : l = [] := List.eq_nil_of_length_eq_zero (by omega)
    subst this
    simp [rows]
  | k + 1, k' + 1, l, h, h' => by
    unfold rows
    by_cases hc : l = [] ∨ (take l).err ≠ 0
    · rw [if_pos hc, if_pos hc]
    · rw [if_neg hc, if_neg hc]
      have he : (take l).err = 0 := by
        apply Classical.byContradiction
        intro hn; exact hc (.inr hn)
      obtain ⟨h1, h2, _⟩ := take_n l he
      rw [rows_fuel k k' _ (by simp; omega) (by simp; omega)]
def all (l : List UInt8) : List (UInt8 × List UInt8) := rows l.length l
theorem all_end (l : List UInt8) (h : l = [] ∨ (take l).err ≠ 0) : all l = [] := by
  unfold all
  cases l with
  | nil => rfl
  | cons c l => rw [List.length_cons, rows, if_pos h]
theorem all_step (l : List UInt8) (h0 : l ≠ []) (he : (take l).err = 0) : all l = ((take l).kind, (take l).body) :: all (l.drop (take l).n) := by
  unfold all
  cases l with
  | nil => exact absurd rfl h0
  | cons c l =>
    obtain ⟨h1, h2, _⟩ := take_n _ he
    rw [List.length_cons, rows, if_neg (by simp only [not_or, Classical.not_not]; exact ⟨h0, he⟩)]
    congr 1
    exact rows_fuel _ _ _ (by simp at h2 ⊢; omega) (by simp)
theorem all_len (l : List UInt8) : (all l).length ≤ l.length := by
  have h := congrArg List.length (rows_bl l.length l)
  have h2 := bl_len l.length l
  simp at h
  unfold all
  omega
theorem endAt_all (l : List UInt8) : endAt l = sum8 ((all l).map (·.2.length)) := by
  unfold endAt all
  rw [rows_bl]
theorem endAt_end (l : List UInt8) (h : l = [] ∨ (take l).err ≠ 0) : endAt l = 0 := by rw [endAt_all, all_end l h]; rfl
theorem endAt_step (l : List UInt8) (h0 : l ≠ []) (he : (take l).err = 0) : endAt l = (take l).n + endAt (l.drop (take l).n) := by
  have := (take_n l he).1
  rw [endAt_all, all_step l h0 he, endAt_all, List.map_cons, sum8]
  simp only
  omega
end Fr

/-- what a frame's body is handed over as -/
structure Fb where
  kind : UInt8
  ao : Option Addr
  cap : Nat
  body : List UInt8
  hn : body.length ≤ 65536
def Fb.key (x : Fb) : UInt8 × List UInt8 := (x.kind, x.body)
def encFb (x : Fb) : Array Value := #[.int .u8 (x.kind.toNat : Nat), .slice x.ao x.body.length x.cap]
/-- it is the next frame of the bytes, and lies in memory -/
def FbGood (b : List UInt8) (pre : List Fb) (x : Fb) (w : World) : Prop := Bs w x.ao x.cap x.body ∧ (pre ++ [x]).map Fb.key <+: Fr.all b
theorem cell_putLoop {w : World} {l : Nat} {o o' : Loop} {a : Addr} {v : Value} (h : w.heap[l]? = some (.loop o)) (hc : w.cell? a = some v) : (w.putObj l (.loop o')).cell? a = some v := by
  refine cell_kept hc (grownBy_putObj' _ l (.loop o')) (fun r e => ?_)
  cases e
  exact ⟨_, h, rfl⟩
theorem FbGood.put (b : List UInt8) (pre : List Fb) (x : Fb) (w : World) (l : Nat) (o o' : Loop) (h : FbGood b pre x w) (hl : w.heap[l]? = some (.loop o)) : FbGood b pre x (w.putObj l (.loop o')) :=
  ⟨⟨h.1.len, h.1.le, h.1.max, h.1.none, fun j u hu => by
    obtain ⟨p, off, e, hc⟩ := h.1.cell j u hu
    exact ⟨p, off, e, cell_putLoop hl hc⟩⟩, h.2⟩

set_option maxRecDepth 100000 in
set_option maxHeartbeats 2000000 in
theorem each2_in (l Bn n0 : Nat) (ao : Option Addr) (cap : Nat) (b : List UInt8) (hl : b.length ≤ 10000000) (J Jx : List Fb → World → Prop) (W : World) (hJ : ∀ pre A B, J pre A → Below A.heap.size A B → J pre B)
    (hY : ∀ pre x W1, J pre W1 → pre.length < b.length + 1 → FbGood b pre x W1 → YieldAt Fence.wide (2 - 1) Try.prog l (encFb x) W1 fun e W' =>
      (e = .returned (.bool true) ∧ J (pre ++ [x]) W' ∧ Below n0 W1 W') ∨ (e = .returned (.bool false) ∧ Jx (pre ++ [x]) W'))
    (hBn : W.cell? ⟨Bn, 0, none⟩ = some (.slice ao b.length cap)) (hb : BsLow n0 W ao cap b) (hn0 : n0 ≤ W.heap.size) (h0 : J [] W) :
    CallsIn Fence.wide 2 Try.prog 80 #[.func (.yield l) #[] #[], .pointer (some ⟨Bn, 0, none⟩)] W fun e W' => (∃ v, e = .returned v) ∧
      ((∃ ys : List Fb, ys.map Fb.key = Fr.all b ∧ J ys W') ∨ (∃ pre : List Fb, pre.map Fb.key <+: Fr.all b ∧ Jx pre W')) := by
  refine callsIn_of_wp Try.func80 rfl trivial ?_ rfl
  simp only [Try.ntmps80, List.size_toArray, List.length_cons, List.length_nil, Nat.reduceAdd, Nat.reduceSub, Array.replicate_succ, Array.replicate_zero, List.push_toArray, List.append_toArray, List.nil_append, List.cons_append]
  gi_wp2
  gi_loopw [3] (fun v wr => ∃ (pre : List Fb) (r : List UInt8) (ar : Option Addr) (cr : Nat), v = .slice ar r.length cr ∧ BsLow n0 wr ar cr r ∧ r.length ≤ b.length ∧ Fr.all b = pre.map Fb.key ++ Fr.all r ∧ J pre wr ∧ n0 ≤ wr.heap.size ∧ W.heap.size ≤ wr.heap.size)
    (fun v _ => match v with | .slice _ n _ => n | _ => 0)
  case atStart => exact ⟨[], b, ao, cap, rfl, hb, Nat.le_refl _, rfl, h0, hn0, Nat.le_refl _⟩
  case round =>
    obtain ⟨pre, r, ar, cr, rfl, hr, hrl, hbl, hJr, hn1, hn2⟩ := hrel
    by_cases hr0 : r.length = 0
    · have hre : r = [] := List.eq_nil_of_length_eq_zero hr0
      subst hre
      gi_wp2
      go_end0
      exact ⟨⟨_, rfl⟩, .inl ⟨pre, by rw [hbl, Fr.all_end [] (.inl rfl), List.append_nil], hJr⟩⟩
    · have hrp : (0 : Int) < (r.length : Int) := by omega
      have hre : r ≠ [] := fun h => hr0 (by rw [h]; rfl)
      have hpl : pre.length < b.length + 1 := by
        have h1 := Fr.all_len b
        have h2 := congrArg List.length hbl
        simp at h2
        omega
      have Hbl := Lib.hid hbl
      clear hbl hr0
      gi_wp2_with fail
      refine ⟨trivial, ?_⟩
      refine (callsIn_wide.2 (take_any ar cr r wr (by omega) hr.1)).mono ?_
      rintro e w2 ⟨ab, cb, rfl, hb2, hB2⟩
      have hJ2 : J pre w2 := hJ pre wr w2 hJr hB2
      have hr2 := hr.below (hB2.mono hn1)
      have hz2 := hB2.size
      by_cases he : (Fr.take r).err = 0
      · obtain ⟨n1, n2, n3⟩ := Fr.take_n r he
        have hstep := Fr.all_step r hre he
        have hcut := Sl.cut hr2.1 (Fr.take r).n r.length n2 (Nat.le_refl _) (by decide)
        rw [he]
        obtain ⟨m, hm⟩ : ∃ m, m = (Fr.take r).n := ⟨_, rfl⟩
        obtain ⟨bd, hbd⟩ : ∃ x, x = (Fr.take r).body := ⟨_, rfl⟩
        obtain ⟨kd, hkd⟩ : ∃ x, x = (Fr.take r).kind := ⟨_, rfl⟩
        rw [← hm] at n1 n2 hstep hcut ⊢
        rw [← hbd] at n1 n3 hstep hb2 ⊢
        rw [← hkd] at hstep ⊢
        clear hm hbd hkd
        have hgood : FbGood b pre ⟨kd, ab, cb, bd, n3⟩ w2 := ⟨hb2, by rw [Hbl.out, hstep]; exact ⟨Fr.all (r.drop m), by simp [Fb.key]⟩⟩
        obtain ⟨fn, tmps, assign, body, hy, hR⟩ := hY pre ⟨kd, ab, cb, bd, n3⟩ w2 hJ2 hpl hgood
        simp only [encFb] at hy hR
        have hsl := fun w => run_slice_sl (P := Try.prog) (w := w) Try.underlying22 (e := 5) (size := 1) (by kernel_rfl) ar r.length cr (some (.int .i64 (m : Int))) none m r.length (.inl rfl) (.inr ⟨rfl, rfl⟩) n2 hr2.1.le
        obtain ⟨an, han⟩ : ∃ an, an = (if cr = m then ar else Option.map (fun x => x.add (m * 1)) ar) := ⟨_, rfl⟩
        have hlow : ∀ b off s, an = some ⟨b, off, s⟩ → b < n0 := by
          intro b' off' s' e
          rw [han] at e
          split at e
          · exact hr2.2 (by omega) _ _ _ e
          · cases har : ar with
            | none => rw [har] at e; cases e
            | some a0 =>
              obtain ⟨b0, o0, s0⟩ := a0
              rw [har] at e
              simp [Addr.add] at e
              have := hr2.2 (by omega) _ _ _ har
              split at e <;> simp_all
        have hnew : BsLow n0 w2 an (cr - m) (r.drop m) := by
          refine ⟨?_, fun _ => hlow⟩
          unfold Bs
          rw [han, show (r.drop m).length = r.length - m from by simp]
          simpa [List.map_drop, List.take_of_length_le] using hcut
        rw [← han] at hsl
        rw [show (((0 : Nat) : Int)) = 0 from rfl]
        have Hnew := Lib.hid hnew
        have Hst := Lib.hid hstep
        have N1 := Lib.hid n1
        have m8 : 8 ≤ m := by omega
        have hmr : (m : Int) ≤ (r.length : Int) := by omega
        clear han hcut hnew hstep n1 he hlow hgood
        gi_wp2_with fail
        refine hR.mono ?_
        rintro e W3 (⟨rfl, hJ3, hk3⟩ | ⟨rfl, hJx3⟩)
        · gi_wp2_with fail
          go_roundw
          case rel =>
            refine ⟨pre ++ [⟨kd, ab, cb, bd, n3⟩], r.drop m, an, cr - m, by simp, Hnew.out.below hk3, by simp; omega, ?_, hJ3, Nat.le_trans hn1 (Nat.le_trans hz2 hk3.size), Nat.le_trans hn2 (Nat.le_trans hz2 hk3.size)⟩
            rw [Hbl.out, Hst.out]
            simp [Fb.key]
          case measure => simp; omega
        · gi_wp2_with fail
          refine bodyPost_ret (results_none rfl _ _ _) rfl ?_
          refine ⟨⟨_, rfl⟩, .inr ⟨pre ++ [⟨kd, ab, cb, bd, n3⟩], ?_, hJx3⟩⟩
          rw [Hbl.out, Hst.out]
          exact ⟨Fr.all (r.drop m), by simp [Fb.key]⟩
      · have hne : (((Fr.take r).err : Int) != 0) = true := by simp; omega
        have Hend := Lib.hid (Fr.all_end r (.inr he))
        obtain ⟨er, her⟩ : ∃ er, er = (Fr.take r).err := ⟨_, rfl⟩
        rw [← her] at hne ⊢
        clear her he
        gi_wp2_with fail
        refine ⟨fun _ h => (by cases h), ?_⟩
        gi_wp2_with fail
        refine bodyPost_ret (results_none rfl _ _ _) rfl ?_
        exact ⟨⟨_, rfl⟩, .inl ⟨pre, by rw [Hbl.out, Hend.out]; simp, hJ2⟩⟩
theorem each2_good (Bn n0 : Nat) (ao : Option Addr) (cap : Nat) (b : List UInt8) (hl : b.length ≤ 10000000) (w : World) (hBs : Bn < w.heap.size) (hn0 : n0 ≤ w.heap.size) (hc : w.cell? ⟨Bn, 0, none⟩ = some (.slice ao b.length cap)) (hb : BsLow n0 w ao cap b) :
    SeqGood 2 80 #[.pointer (some ⟨Bn, 0, none⟩)] encFb (FbGood b) n0 (fun ys => ys.map Fb.key = Fr.all b) (fun pre => pre.map Fb.key <+: Fr.all b) (b.length + 1) w :=
  fun l J Jx W hW hJ _ hY h0 => each2_in l Bn n0 ao cap b hl J Jx W hJ hY ((hW.cell (p := ⟨Bn, 0, none⟩) hBs).trans hc) (hb.below (hW.mono hn0)) (Nat.le_trans hn0 hW.size) h0
end Go.Proofs.Ytlphpjgiaflfkaa
