/- Contracts of frame.Take, Whole, of the reference's Take, and of lives. No statement of the seat is proved here. -/
import Derived.Test.YtlphpjgiaflfkaaFrame
import Derived.Test.YtlphpjgiaflfkaaAux2
import Derived.Deep.RegionLaw
import Derived.Deep.DeepCutAuto
import Derived.RegionTactic
import Derived.ChangeAlike
namespace Go.Proofs.Ytlphpjgiaflfkaa
set_option linter.unusedVariables false
set_option linter.unusedSimpArgs false
set_option linter.unusedSectionVars false
open Go Go.RowKit

/-- what Take answers -/
def TakeIs (w : World) (l : List UInt8) (e : Ending) (w' : World) : Prop :=
  ∃ ab cb, e = .returned (.tuple #[.int .u8 ((Fr.take l).kind.toNat : Nat), .slice ab (Fr.take l).body.length cb, .int .i64 ((Fr.take l).n : Nat), .int .i64 ((Fr.take l).err : Nat)]) ∧ Bs w' ab cb (Fr.take l).body ∧ Below w.heap.size w w'

theorem heap_drewN (n : Nat) (w : World) : (w.drewN n).heap = w.heap := rfl
theorem Bs.of_heap {w w' : World} {ao : Option Addr} {cap : Nat} {l : List UInt8} (h : Bs w' ao cap l) (e : w'.heap = w.heap) : Bs w ao cap l :=
  ⟨h.len, h.le, h.max, h.none, fun j u hu => by
    obtain ⟨b, off, e1, hc⟩ := h.cell j u hu
    exact ⟨b, off, e1, by rw [← hc]; simp only [World.cell?, e]⟩⟩
theorem bs_nil {w : World} : Bs w none 0 [] := ⟨by simp, by simp, by decide, fun _ => rfl, fun j u hu => by simp at hu⟩
theorem takeIs_bad {w w' : World} {l : List UInt8} {k : Nat} (h : Fr.take l = ⟨0, [], 0, k⟩) (hb : Below w.heap.size w w') : TakeIs w l (.returned (.tuple #[.int .u8 0, .slice none 0 0, .int .i64 0, .int .i64 (k : Nat)])) w' := by
  unfold TakeIs; rw [h]; exact ⟨none, 0, rfl, bs_nil, hb⟩
theorem takeIs_ok {w w' : World} {l body : List UInt8} {k : UInt8} {n : Nat} {ab : Option Addr} {cb : Nat} (h : Fr.take l = ⟨k, body, n, 0⟩) (hb : Bs w' ab cb body) (hbel : Below w.heap.size w w') :
    TakeIs w l (.returned (.tuple #[.int .u8 (k.toNat : Nat), .slice ab body.length cb, .int .i64 (n : Nat), .int .i64 0])) w' := by
  unfold TakeIs; rw [h]; exact ⟨ab, cb, rfl, hb, hbel⟩

set_option maxHeartbeats 1000000 in
theorem take_any (ao : Option Addr) (cap : Nat) (l : List UInt8) (w : World) (hl : l.length ≤ 70000000000000) (hb : Bs w ao cap l) :
    Calls Try.prog 81 #[.slice ao l.length cap] w (TakeIs w l) := by
  obtain ⟨n, k, hs⟩ : ∃ n k, Fr.size l = (n, k) := ⟨_, _, rfl⟩
  by_cases hk : k = 0
  · subst hk
    have h5 := Fr.size_ok l (by rw [hs])
    have hno := fun h => Fr.take_sum l (by rw [hs]) h
    have hye := fun h => Fr.take_yes l (by rw [hs]) h
    rw [hs] at h5 hno hye
    obtain ⟨h5, _, _, h6, h7, h8⟩ := h5
    simp only at h7 h8 hno hye
    have hn8 : 8 ≤ n := by omega
    clear h6 h7
    have Hno := Lib.hid hno
    have Hye := Lib.hid hye
    clear hno hye
    have Hs := Lib.hid hs
    clear hs
    go_enter Try.func81, Try.ntmps81
    go_wp2_with fail
    refine (size_any ao cap l w hl hb).mono ?_
    rintro e w1 ⟨rfl, hB1⟩
    rw [Hs.out]
    go_wp2_with ((with_reducible show wpList _ _ _ (⟨_, Op.slice _ (.tmp 17) _ _ _, _, _, _, _⟩ :: _) _ _); refine wpl_slice_bs rfl (.tmp 17) none (some (.tmp 18)) 22 5 rfl Try.underlying22 sizeU8 _ _ l rfl (hb.below hB1) 0 n (.inr ⟨rfl, rfl⟩) (.inl ⟨_, rfl, ?_⟩) ?_ ?_ ?_; rfl; omega; omega; intro ao2 cap2 l2 hl2 hlen2 hb2; have hle2 : l2.length ≤ 70000000000000 := (by omega); clear hlen2)
    have hl2' : l2 = l.take n := hl2.out
    cases ho : Crc.opened l2 with
    | none =>
      have Hf := Lib.hid (Hno.out (by rw [← hl2']; exact ho))
      have Ho := Lib.hid ho
      clear ho hl2'
      refine (open_none ao2 cap2 l2 w1 hle2 hb2 Ho.out).mono ?_
      rintro e w2 ⟨rfl, hB2⟩
      go_wp2_with fail
      refine bodyPost_ret (v := .tuple #[.int .u8 0, .slice none 0 0, .int .i64 0, .int .i64 22]) (by simp [results, Try.results81, go_sem]) rfl ?_
      exact takeIs_bad (k := 22) Hf.out (below_on hB1 hB2 (Nat.le_refl _))
    | some own =>
      obtain ⟨e1, e2⟩ := Hye.out (by rw [← hl2', ho]; simp)
      have eo : own = l.take (n - 3) := by rw [← hl2', ho] at e1; simpa using e1
      rw [← eo] at e2
      have hol : own.length = n - 3 := by rw [eo, List.length_take]; omega
      have ho5 : 5 ≤ own.length := by omega
      have hk : l.getD 1 0 = own[1]'(Nat.lt_of_lt_of_le (by decide) ho5) := by
        simp only [eo, List.getElem_take]
        rw [List.getD, List.getElem?_eq_getElem (by omega)]; rfl
      rw [hk] at e2
      have Ho := Lib.hid ho
      have He := Lib.hid e2
      have hoL : own.length ≤ 70000000000000 := by omega
      clear ho hl2' e1 e2 eo hol hk
      refine (open_yes ao2 cap2 l2 own w1 hle2 hb2 Ho.out).mono ?_
      rintro e w2 ⟨a3, c3, rfl, hf3⟩
      have hb3 := Bs.of_own hf3.own
      have hB2 := below_on hB1 hf3.bel (Nat.le_refl _)
      clear hf3
      obtain ⟨b, off, rfl, k1⟩ := hb3.get 1 (by omega)
      have hlc := hb3.le
      have hcut := Sl.cut hb3 5 own.length ho5 (Nat.le_refl _) (by decide)
      have h5i : (5 : Int) ≤ (own.length : Int) := by omega
      go_wp2_with fail
      go_quiet (fail)
      have hcut' : Bs w2 (if c3 = 5 then some ⟨b, off, none⟩ else some ⟨b, off + 5, none⟩) (c3 - 5) (own.drop 5) := by
        unfold Bs
        rw [List.length_drop]
        have ht : (own.map u8).take own.length = own.map u8 := List.take_of_length_le (by simp)
        simpa [List.map_drop, Addr.add_none, ht] using hcut
      clear hcut
      generalize (if c3 = 5 then (some ⟨b, off, none⟩ : Option Addr) else some ⟨b, off + 5, none⟩) = ax at *
      have hld : own.length - 5 = (own.drop 5).length := by simp
      rw [hld]
      clear hld
      go_wp2
      refine bodyPost_ret (v := .tuple #[.int .u8 own[1].toNat, .slice ax (own.drop 5).length (c3 - 5), .int .i64 n, .int .i64 0]) (by simp [results, Try.results81, go_sem]) rfl ?_
      exact takeIs_ok He.out (hcut'.below (below_drewN (Below.refl _ _) _)) (below_drewN hB2 _)
  · have Hf := Lib.hid (Fr.take_err l (by rw [hs]; exact hk))
    rw [hs] at Hf
    have Hs := Lib.hid hs
    have hkb : ((k : Int) != 0) = true := by simp; omega
    clear hs
    go_enter Try.func81, Try.ntmps81
    go_wp2_with fail
    refine (size_any ao cap l w hl hb).mono ?_
    rintro e w1 ⟨rfl, hB1⟩
    rw [Hs.out]
    go_wp2_with fail
    refine bodyPost_ret (v := .tuple #[.int .u8 0, .slice none 0 0, .int .i64 0, .int .i64 k]) (by simp [results, Try.results81, go_sem]) rfl ?_
    exact takeIs_bad Hf.out hB1

set_option maxHeartbeats 1000000 in
theorem whole_any (ao : Option Addr) (cap : Nat) (l : List UInt8) (w : World) (hl : l.length ≤ 70000000000000) (hb : Bs w ao cap l) :
    Calls Try.prog 72 #[.slice ao l.length cap] w fun e w' => Below w.heap.size w w' ∧
      (((Fr.take l).err = 0 ∧ (Fr.take l).n = l.length ∧ ∃ ab cb, e = .returned (.tuple #[.int .u8 ((Fr.take l).kind.toNat : Nat), .slice ab (Fr.take l).body.length cb, .bool true]) ∧ Bs w' ab cb (Fr.take l).body) ∨
        (¬ ((Fr.take l).err = 0 ∧ (Fr.take l).n = l.length) ∧ e = .returned (.tuple #[.int .u8 0, .slice none 0 0, .bool false]))) := by
  have hbl : (Fr.take l).body.length ≤ l.length := by
    unfold Fr.take
    split
    · simp
    · split
      · simp
      · rename_i own ho
        obtain ⟨e, _⟩ := Fr.opened_take _ _ ho
        rw [e]; simp only [List.length_drop, List.length_take]; omega
  generalize hT : Fr.take l = T at *
  obtain ⟨k, body, n, err⟩ := T
  simp only at hbl ⊢
  have HT := Lib.hid hT
  clear hT
  have three : ((err : Int) != 0) = true ∧ err ≠ 0 ∨ ((err : Int) != 0) = false ∧ err = 0 ∧ ((n : Int) != l.length) = true ∧ n ≠ l.length ∨ ((err : Int) != 0) = false ∧ err = 0 ∧ ((n : Int) != l.length) = false ∧ n = l.length := by
    by_cases h1 : err = 0
    · by_cases h2 : n = l.length
      · exact .inr (.inr ⟨by simp [h1], h1, by simp [h2], h2⟩)
      · exact .inr (.inl ⟨by simp [h1], h1, by simp; omega, h2⟩)
    · exact .inl ⟨by simp; omega, h1⟩
  rcases three with ⟨t1, f1⟩ | ⟨t1, f1, t2, f2⟩ | ⟨t1, f1, t2, f2⟩
  · have F1 := Lib.hid f1
    clear f1
    go_enter Try.func72, Try.ntmps72
    go_wp2_with fail
    refine (take_any ao cap l w hl hb).mono ?_
    unfold TakeIs
    rw [HT.out]
    rintro e w1 ⟨ab, cb, rfl, hb1, hB1⟩
    go_wp2_with fail
    refine bodyPost_ret (v := .tuple #[.int .u8 0, .slice none 0 0, .bool false]) (by simp [results, Try.results72, go_sem]) rfl ?_
    exact ⟨hB1, .inr ⟨fun h => F1.out h.1, rfl⟩⟩
  · have F2 := Lib.hid f2
    have F1 := Lib.hid f1
    clear f1 f2
    go_enter Try.func72, Try.ntmps72
    go_wp2_with fail
    refine (take_any ao cap l w hl hb).mono ?_
    unfold TakeIs
    rw [HT.out]
    rintro e w1 ⟨ab, cb, rfl, hb1, hB1⟩
    go_wp2_with fail
    refine bodyPost_ret (v := .tuple #[.int .u8 0, .slice none 0 0, .bool false]) (by simp [results, Try.results72, go_sem]) rfl ?_
    exact ⟨hB1, .inr ⟨fun h => F2.out h.2, rfl⟩⟩
  · have F2 := Lib.hid f2
    have F1 := Lib.hid f1
    clear f1 f2
    go_enter Try.func72, Try.ntmps72
    go_wp2_with fail
    refine (take_any ao cap l w hl hb).mono ?_
    unfold TakeIs
    rw [HT.out]
    rintro e w1 ⟨ab, cb, rfl, hb1, hB1⟩
    go_wp2_with fail
    refine (clone_any ab cb body w1 (by omega) hb1).mono ?_
    rintro e w2 ⟨a2, c2, rfl, hf2⟩
    go_wp2_with fail
    refine bodyPost_ret (v := .tuple #[.int .u8 k.toNat, .slice a2 body.length c2, .bool true]) (by simp [results, Try.results72, go_sem]) rfl ?_
    exact ⟨below_on hB1 hf2.bel (Nat.le_refl _), .inl ⟨F1.out, F2.out, _, _, rfl, Bs.of_own hf2.own⟩⟩

set_option maxHeartbeats 1000000 in
theorem refTake_any (ao : Option Addr) (cap : Nat) (l : List UInt8) (w : World) (hl : l.length ≤ 70000000000000) (hb : Bs w ao cap l) :
    Calls Try.prog 42 #[.slice ao l.length cap] w (TakeIs w l) := by
  by_cases h0 : l.length = 0
  · have hs : Fr.size l = (0, 23) := by unfold Fr.size; rw [if_pos h0]
    have Hf := Lib.hid (Fr.take_err l (by rw [hs]; simp))
    rw [hs] at Hf
    clear hs
    go_enter Try.func42, Try.ntmps42
    go_wp2
    refine bodyPost_ret (v := .tuple #[.int .u8 0, .slice none 0 0, .int .i64 0, .int .i64 23]) (by simp [results, Try.results42, go_sem]) rfl ?_
    exact takeIs_bad (k := 23) Hf.out (Below.refl _ _)
  obtain ⟨b, off, rfl, c0⟩ := hb.get 0 (by omega)
  rw [Nat.add_zero] at c0
  have hg0 : l.getD 0 0 = l[0] := by simp [List.getD, List.getElem?_eq_getElem (show 0 < l.length by omega)]
  by_cases h1 : l[0] = 102
  case neg =>
    have hs : Fr.size l = (0, 20) := by unfold Fr.size; rw [if_neg h0, if_pos (by rw [hg0]; exact h1)]
    have Hf := Lib.hid (Fr.take_err l (by rw [hs]; simp))
    rw [hs] at Hf
    have t1 : ((l[0].toNat : Int) != 102) = true := u8_ne h1
    clear hs hg0 h1
    go_enter Try.func42, Try.ntmps42
    go_wp2
    refine bodyPost_ret (v := .tuple #[.int .u8 0, .slice none 0 0, .int .i64 0, .int .i64 20]) (by simp [results, Try.results42, go_sem]) rfl ?_
    exact takeIs_bad (k := 20) Hf.out (Below.refl _ _)
  have t1 : ((l[0].toNat : Int) != 102) = false := u8_eq h1
  by_cases h2 : l.length < 2
  · have hs : Fr.size l = (0, 23) := by unfold Fr.size; rw [if_neg h0, if_neg (by rw [hg0]; simpa using h1), if_pos h2]
    have Hf := Lib.hid (Fr.take_err l (by rw [hs]; simp))
    rw [hs] at Hf
    clear hs hg0 h1
    go_enter Try.func42, Try.ntmps42
    go_wp2
    refine bodyPost_ret (v := .tuple #[.int .u8 0, .slice none 0 0, .int .i64 0, .int .i64 23]) (by simp [results, Try.results42, go_sem]) rfl ?_
    exact takeIs_bad (k := 23) Hf.out (Below.refl _ _)
  have c1 := hb.all 1 (by omega)
  have hg1 : l.getD 1 0 = l[1] := by simp [List.getD, List.getElem?_eq_getElem (show 1 < l.length by omega)]
  by_cases h3 : l[1] = 0
  · have hs : Fr.size l = (0, 20) := by unfold Fr.size; rw [if_neg h0, if_neg (by rw [hg0]; simpa using h1), if_neg h2, if_pos (by rw [hg1]; exact h3)]
    have Hf := Lib.hid (Fr.take_err l (by rw [hs]; simp))
    rw [hs] at Hf
    have t2 : ((l[1].toNat : Int) == 0) = true := by rw [h3]; rfl
    clear hs hg0 hg1 h1 h3
    go_enter Try.func42, Try.ntmps42
    go_wp2
    refine bodyPost_ret (v := .tuple #[.int .u8 0, .slice none 0 0, .int .i64 0, .int .i64 20]) (by simp [results, Try.results42, go_sem]) rfl ?_
    exact takeIs_bad (k := 20) Hf.out (Below.refl _ _)
  have t2 := kind_ne h3
  by_cases h4 : l.length < 5
  · have hs : Fr.size l = (0, 23) := by unfold Fr.size; rw [if_neg h0, if_neg (by rw [hg0]; simpa using h1), if_neg h2, if_neg (by rw [hg1]; exact h3), if_pos h4]
    have Hf := Lib.hid (Fr.take_err l (by rw [hs]; simp))
    rw [hs] at Hf
    clear hs hg0 hg1 h1 h3
    go_enter Try.func42, Try.ntmps42
    go_wp2
    refine bodyPost_ret (v := .tuple #[.int .u8 0, .slice none 0 0, .int .i64 0, .int .i64 23]) (by simp [results, Try.results42, go_sem]) rfl ?_
    exact takeIs_bad (k := 23) Hf.out (Below.refl _ _)
  have c2 := hb.all 2 (by omega)
  have c3 := hb.all 3 (by omega)
  have c4 := hb.all 4 (by omega)
  have b2 := l[2].toNat_lt
  have b3 := l[3].toNat_lt
  have b4 := l[4].toNat_lt
  have hx : Crc.num (l.getD 2 0) (l.getD 3 0) (l.getD 4 0) = l[2].toNat * 65536 + l[3].toNat * 256 + l[4].toNat := by
    simp [List.getD, List.getElem?_eq_getElem (show 2 < l.length by omega), List.getElem?_eq_getElem (show 3 < l.length by omega), List.getElem?_eq_getElem (show 4 < l.length by omega), Crc.num]
  have hsz : Fr.size l = if 65536 < Crc.num (l.getD 2 0) (l.getD 3 0) (l.getD 4 0) then (0, 20)
      else if l.length < Crc.num (l.getD 2 0) (l.getD 3 0) (l.getD 4 0) + 8 then (0, 23) else (Crc.num (l.getD 2 0) (l.getD 3 0) (l.getD 4 0) + 8, 0) := by
    unfold Fr.size
    rw [if_neg h0, if_neg (by rw [hg0]; simpa using h1), if_neg h2, if_neg (by rw [hg1]; exact h3), if_neg h4]
  have hxs : (l[2].toNat : Int) * (65536 : Int) + (l[3].toNat : Int) * (256 : Int) + (l[4].toNat : Int) = ((Crc.num (l.getD 2 0) (l.getD 3 0) (l.getD 4 0) : Nat) : Int) := by rw [hx]; omega
  have hno := fun h => Fr.take_sum l h
  have hye := fun h => Fr.take_yes l h
  have hre := fun h => Fr.rebuilt l h
  rw [hg1] at hye hre
  clear hg0 hg1 h1 h3
  generalize Crc.num (l.getD 2 0) (l.getD 3 0) (l.getD 4 0) = x at *
  have hxl : x < 16777216 := by omega
  have Hxs := Lib.hid hxs
  clear hxs hx
  by_cases hbig : 65536 < x
  · rw [if_pos hbig] at hsz
    have Hf := Lib.hid (Fr.take_err l (by rw [hsz]; simp))
    rw [hsz] at Hf
    clear hsz hno hye hre
    go_enter Try.func42, Try.ntmps42
    go_wp2
    go_quiet (fail)
    rw [Hxs.out]
    go_wp2
    refine bodyPost_ret (v := .tuple #[.int .u8 0, .slice none 0 0, .int .i64 0, .int .i64 20]) (by simp [results, Try.results42, go_sem]) rfl ?_
    exact takeIs_bad (k := 20) Hf.out (below_drewN (Below.refl _ _) _)
  rw [if_neg hbig] at hsz
  by_cases hshort : l.length < x + 8
  · rw [if_pos hshort] at hsz
    have Hf := Lib.hid (Fr.take_err l (by rw [hsz]; simp))
    rw [hsz] at Hf
    clear hsz hno hye hre
    go_enter Try.func42, Try.ntmps42
    go_wp2
    go_quiet (fail)
    rw [Hxs.out]
    go_wp2
    refine bodyPost_ret (v := .tuple #[.int .u8 0, .slice none 0 0, .int .i64 0, .int .i64 23]) (by simp [results, Try.results42, go_sem]) rfl ?_
    exact takeIs_bad (k := 23) Hf.out (below_drewN (Below.refl _ _) _)
  rw [if_neg hshort] at hsz
  have hno := hno (by rw [hsz])
  have hye := hye (by rw [hsz])
  have hre := hre (by rw [hsz])
  rw [hsz] at hno hye hre
  simp only [Nat.add_sub_cancel] at hno hye hre
  rw [show x + 8 - 3 = x + 5 from by omega] at hye hre
  have hcap := hb.le
  have hxc : ((x : Int) + 8) ≤ cap := by omega
  obtain ⟨body, hbody⟩ : ∃ body, body = (l.take (x + 5)).drop 5 := ⟨_, rfl⟩
  rw [← hbody] at hye hre
  have hblen : body.length = x := by rw [hbody, List.length_drop, List.length_take]; omega
  have hcv0 : ∀ W, Below w.heap.size w W → (convert 22 9 (.slice (some ⟨b, off, none⟩) (x + 8) cap)).run Try.prog W = .ok (.string ⟨(l.take (x + 8)).toArray⟩) W := fun W hW => by
    have := conv_any ((hb.take (x + 8) (by omega)).below hW)
    rw [List.length_take, Nat.min_eq_left (by omega)] at this
    exact this
  have hb65 : body.length ≤ 65536 := by omega
  have Hcv0 := Lib.hid hcv0
  have Hbody := Lib.hid hbody
  clear hbody hblen hsz hcv0
  obtain ⟨k, hk⟩ : ∃ k, k = l[1] := ⟨_, rfl⟩
  rw [← hk] at c1 t2 hye hre
  have hcw := fun W (a : Option Addr) c h => conv_any (w := W) (ao := a) (cap := c) (l := Crc.sealed (l.take (x + 5))) h
  generalize hsl : Crc.sealed (l.take (x + 5)) = sl at *
  generalize hfl : l.take (x + 8) = fl at *
  clear hk
  have hsf : Crc.opened fl = none ∨ Crc.opened fl ≠ none := by cases Crc.opened fl <;> simp
  have hS : (Crc.opened fl = none → sl ≠ fl) ∧ (Crc.opened fl ≠ none → sl = fl) := by
    refine ⟨fun h e => ?_, fun h => ?_⟩
    · rw [← e, ← hsl, Crc.opened_sealed] at h; cases h
    · obtain ⟨h1, _⟩ := hye h
      have h2 := Crc.opened_sealed (l.take (x + 5))
      rw [← h1, hsl] at h2
      exact (Crc.opened_inj _ _ h2 h)
  have Hre := Lib.hid hre
  have Hno := Lib.hid hno
  have Hye := Lib.hid hye
  have HS := Lib.hid hS
  clear hno hye hre hS hsl hfl
  go_enter Try.func42, Try.ntmps42
  go_wp2
  go_quiet (fail)
  rw [Hxs.out]
  have hN : ∀ n, Below w.heap.size w (w.drewN n) := fun n => below_drewN (Below.refl _ _) _
  clear c2 c3 c4 b2 b3 b4
  go_wp2_with ((with_reducible show wpList _ _ _ (⟨_, Op.slice _ (.tmp 48) _ _ _, _, _, _, _⟩ :: _) _ _); refine wpl_slice_bs rfl (.tmp 48) (some (.const (.int .i64 5))) (some (.tmp 50)) 22 5 rfl Try.underlying22 sizeU8 _ _ l rfl (hb.below (hN _)) 5 (x + 5) (.inl ⟨_, rfl, ?_⟩) (.inl ⟨_, rfl, ?_⟩) ?_ ?_ ?_; rfl; rfl; omega; omega; intro ao7 cap7 l7 hl7 hlen7 hb7; obtain rfl : l7 = body := hl7.out.trans Hbody.out.symm; clear hlen7)
  have hB0 := hN nq
  have hB1 : Below w.heap.size w (w.drewN nq).drew := hB0.drew
  have k1 := fun W (h : Below w.heap.size w W) => (h.cell (p := ⟨b, off + 1, none⟩) (cell?_lt c1)).trans c1
  have hcv := Hcv0.out
  have w1 : IntKind.i64.wrap ((x : Int) + 8) = (x : Int) + 8 := IntWalk.i64_in _ (by omega)
  have w2 : (0 : Int) ≤ (x : Int) + 8 := by omega
  have w3 : ((x : Int) + 8).toNat = x + 8 := by omega
  go_cut [63] (fun s wx => s = .bool (sl != fl) ∧ Below w.heap.size w wx)
  case first =>
    go_region_with (first | (go_at_call 46; refine (bytes_any k ao7 cap7 l7 _ (hb7.below (Below.refl _ _).drew) hb65).mono ?_; rintro e w3 ⟨a3, c3, rfl, hf3⟩; rw [Hre.out] at hf3 ⊢; have hbs3 := Bs.of_own hf3.own; have hbel3 := below_on hB1 hf3.bel (Nat.le_refl _)))
    all_goals (go_wp2_with fail; go_meet; exact ⟨rfl, hbel3⟩)
  case rest =>
    obtain ⟨rfl, hB4⟩ := hcut
    have hb7' := (hb7.of_heap (heap_drewN _ _)).below hB4
    have k1 := (hB4.cell (p := ⟨b, off + 1, none⟩) (cell?_lt c1)).trans c1
    have hBx := hB4
    clear hb7 w1 w2 w3 hcv c1
    by_cases hfn : Crc.opened fl = none
    · have hne : (sl != fl) = true := by simpa using HS.out.1 hfn
      have Hf := Lib.hid (Hno.out hfn)
      clear hfn hsf
      rw [hne]
      go_wp2
      refine bodyPost_ret (v := .tuple #[.int .u8 0, .slice none 0 0, .int .i64 0, .int .i64 22]) (by simp [results, Try.results42, go_sem]) rfl ?_
      exact takeIs_bad (k := 22) Hf.out hB4
    · have hne : (sl != fl) = false := by simpa using HS.out.2 hfn
      obtain ⟨_, hf⟩ := Hye.out hfn
      have Hf := Lib.hid hf
      clear hfn hsf hf
      rw [hne]
      go_wp2
      have w1 : IntKind.i64.wrap ((x : Int) + 8) = (x : Int) + 8 := IntWalk.i64_in _ (by omega)
      have l1 : (1 : Int) < (l.length : Int) := by omega
      have hbz : b < wc.heap.size := cell?_lt k1
      have hBd : Below wc.heap.size wc (wc.drew.alloc (.cells #[] 5)) := (Below.refl _ _).drew.alloc (Nat.le_refl _) _
      have HBd := Lib.hid hBd
      clear hBd
      go_region_law (refine step_append_bs rfl (.tmp 67) (.tmp 68) 22 rfl wc.heap.size 5 infoU8 Try.underlying22 _ _ [] rfl (own_empty wc.drew wc.heap.size _ 1 (Nat.le_refl _)) _ _ l7 rfl (hb7'.below HBd.out) ?_ ?_ ?_; (simp; omega); simp; intro ao8 cap8 l8 w8 hl8 hown8 hg8; have hB8 := below_app HBd.out hg8 (own_empty wc.drew wc.heap.size _ 1 (Nat.le_refl _)) (Nat.le_refl _) HBd.out.size; have k8 := (hB8.cell (p := ⟨b, off + 1, none⟩) hbz).trans k1)
      all_goals go_wp2
      all_goals
        obtain rfl : l8 = l7 := hl8.out
        refine bodyPost_ret (v := .tuple #[.int .u8 k.toNat, .slice ao8 l8.length cap8, .int .i64 ((x : Int) + 8), .int .i64 0]) (by simp [results, Try.results42, go_sem]) rfl ?_
        exact takeIs_ok (n := x + 8) Hf.out (Bs.of_own hown8) (below_on hB4 hB8 (Nat.le_refl _))
end Go.Proofs.Ytlphpjgiaflfkaa
