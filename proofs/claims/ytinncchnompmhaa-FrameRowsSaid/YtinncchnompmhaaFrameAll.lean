/- The reference's All: all frames with which bytes begin. No statement of the seat is proved here. -/
import Derived.Test.YtinncchnompmhaaFrameR
namespace Go.Proofs.Ytinncchnompmhaa
set_option linter.unusedVariables false
set_option linter.unusedSimpArgs false
set_option linter.unusedSectionVars false
open Go Go.RowKit Go.Shelf

def frCells (x : UInt8 × List UInt8) : List Value := [.int .u8 (x.1.toNat : Nat), .string ⟨x.2.toArray⟩]
theorem infoFr : (Try.prog.info? 57).map (fun i => (i.zero, i.size, i.bytes)) = some (some (.agg #[.int .u8 0, .string ⟨#[]⟩]), 2, 24) := by kernel_rfl
theorem frCells_len (l : List (UInt8 × List UInt8)) : ∀ r ∈ l.map frCells, r.length = 2 := by
  intro r hr; obtain ⟨x, _, rfl⟩ := List.mem_map.1 hr; rfl
def AllIs (w : World) (b : List UInt8) (e : Ending) (w' : World) : Prop :=
  ∃ ar cr, e = .returned (.tuple #[.slice ar (Fr.all b).length cr, .int .i64 (Fr.endAt b : Nat), .int .i64 ((if Fr.endAt b < b.length then (Fr.take (b.drop (Fr.endAt b))).err else 0 : Nat) : Int)]) ∧ Rw w' 57 2 ar (Fr.all b).length cr ((Fr.all b).map frCells) ∧ Below w.heap.size w w'
set_option maxRecDepth 100000 in
set_option maxHeartbeats 2000000 in
theorem refAll_any (ao : Option Addr) (cap : Nat) (b : List UInt8) (w : World) (hl : b.length ≤ 1000000) (hb : Bs w ao cap b) :
    Calls Try.prog 28 #[.slice ao b.length cap] w (AllIs w b) := by
  go_enter Try.func28, Try.ntmps28
  go_wp2_with fail
  go_loopw [5, 6] (fun v u wr => ∃ (m : Nat) (out : List (UInt8 × List UInt8)), u = .int .i64 (m : Int) ∧ m ≤ b.length ∧ Hid (Fr.all b = out ++ Fr.all (b.drop m) ∧ Fr.endAt b = m + Fr.endAt (b.drop m)) ∧ wr.ownsRow w.heap.size 57 2 v out.length (out.map frCells).flatten ∧ Below w.heap.size w wr)
    (fun _ u _ => b.length - (intOf u).toNat)
  case atStart => exact ⟨0, [], rfl, Nat.zero_le _, Lib.hid ⟨rfl, by simp⟩, World.ownsRow_nil _ _ _ _, Below.refl _ _⟩
  case round =>
    obtain ⟨m, out, rfl, hm, Hinv, hown, hB⟩ := hrel
    obtain ⟨ar, cr, rfl⟩ := own_slice hown
    have hbw := hb.below hB
    by_cases hlt : m < b.length
    · have i0 : (0 : Int) ≤ (m : Int) := by omega
      have i1 : (m : Int) < (b.length : Int) := by omega
      have hne : b.drop m ≠ [] := fun h => by have := congrArg List.length h; simp at this; omega
      go_wp2_with ((with_reducible show wpList _ _ _ (⟨_, Op.slice _ (.tmp 16) _ _ _, _, _, _, _⟩ :: _) _ _); refine wpl_slice_bs rfl (.tmp 16) (some (.tmp 17)) none 25 5 rfl Try.underlying25 sizeU8 _ _ b rfl hbw m b.length (.inl ⟨_, rfl, rfl⟩) (.inr ⟨rfl, rfl⟩) hm (Nat.le_refl _) ?_; intro ao2 cap2 l2 hl2 hlen2 hb2; have hle2 : l2.length ≤ 1000000 := (by omega); clear hlen2)
      have e2 : l2 = b.drop m := by rw [hl2.out, List.take_length]
      refine (refTake_any ao2 cap2 l2 wr (by omega) hb2).mono ?_
      rintro e w2 ⟨ab, cb, rfl, hb3, hB2⟩
      by_cases he : (Fr.take l2).err = 0
      · obtain ⟨n1, n2, n3⟩ := Fr.take_n l2 he
        have hst := Fr.all_step l2 (by rw [e2]; exact hne) he
        have hse := Fr.endAt_step l2 (by rw [e2]; exact hne) he
        rw [he]
        have hal : out.length + 1 ≤ b.length := by
          have h1 := Fr.all_len b
          rw [Hinv.out.1, ← e2, hst] at h1
          simp at h1
          omega
        obtain ⟨n, hn⟩ : ∃ n, n = (Fr.take l2).n := ⟨_, rfl⟩
        obtain ⟨bd, hbd⟩ : ∃ x, x = (Fr.take l2).body := ⟨_, rfl⟩
        obtain ⟨kd, hkd⟩ : ∃ x, x = (Fr.take l2).kind := ⟨_, rfl⟩
        rw [← hn] at n1 n2 hst hse ⊢
        rw [← hbd] at n1 n3 hst hb3 ⊢
        rw [← hkd] at hst ⊢
        have Hinv2 : Hid (Fr.all b = (out ++ [(kd, bd)]) ++ Fr.all (b.drop (m + n)) ∧ Fr.endAt b = (m + n) + Fr.endAt (b.drop (m + n))) := by
          refine Lib.hid ⟨?_, ?_⟩
          · rw [Hinv.out.1, ← e2, hst, e2, List.drop_drop]; simp
          · rw [Hinv.out.2, ← e2, hse, e2, List.drop_drop]; omega
        have hmn : m + n ≤ b.length := by have := congrArg List.length e2; simp at this; omega
        have n8 : 8 ≤ n := by omega
        have h1 : (m : Int) + (n : Int) ≤ 10000000 := by omega
        have w0 : IntKind.i64.wrap ((m : Int) + (n : Int)) = ((m + n : Nat) : Int) := by rw [IntWalk.i64_in _ (by omega)]; simp
        clear hn hbd hkd hst hse n1 n2 he e2 hl2 hne
        have cv := conv_any hb3
        have hown2 := own_below hown hB2
        have hz2 := hB2.size
        have hz0 := hB.size
        have hbase : w.heap.size ≤ w2.heap.size := Nat.le_trans hz0 hz2
        have hB3 := below_on hB hB2 (Nat.le_refl _)
        rw [show ((0 : Nat) : Int) = 0 from rfl]
        go_wp2_with (at_builtin; refine wpl_append_one rfl (.tmp 29) (.tmp 34) 50 rfl w.heap.size 57 infoFr Try.underlying50 rfl (by decide) _ out.length (out.map frCells) rfl (hown2.alloc _) _ 1 (frCells (kd, bd)) rfl rfl (news_at _ rfl) (by simp [frCells, Value.oneCell']) ?_ ?_ ?_ ?_; omega; (unfold maxLen; omega); (simp; omega); intro g4 c4 w4 hown4 hg4 hlie)
        go_roundw
        case rel =>
          refine ⟨m + n, out ++ [(kd, bd)], rfl, hmn, Hinv2, ?_, ?_⟩
          · simpa using hown4
          · exact below_app (hB3.alloc hB3.size _) hg4 (hown2.alloc _) (Nat.le_refl _) (by simp; omega)
        case measure => simp [intOf]; omega
      · have hne2 : (((Fr.take l2).err : Int) != 0) = true := by simp; omega
        have hal : Fr.all b = out := by rw [Hinv.out.1, ← e2, Fr.all_end l2 (.inr he)]; simp
        have hen : Fr.endAt b = m := by rw [Hinv.out.2, ← e2, Fr.endAt_end l2 (.inr he)]; simp
        have Hal := Lib.hid hal
        have Hen := Lib.hid hen
        have Her : Hid ((if Fr.endAt b < b.length then (Fr.take (b.drop (Fr.endAt b))).err else 0) = (Fr.take l2).err) := Lib.hid (by rw [hen, if_pos hlt, e2])
        obtain ⟨er, her⟩ : ∃ er, er = (Fr.take l2).err := ⟨_, rfl⟩
        rw [← her] at hne2 Her ⊢
        clear her he hal hen e2
        go_wp2_with fail
        go_ret3
        refine ⟨ar, cr, ?_, ?_, below_on hB hB2 (Nat.le_refl _)⟩
        · rw [Hal.out, Her.out, Hen.out]; rfl
        · rw [Hal.out]; exact Rw.of_own (own_below hown hB2) (by simp) (frCells_len _)
    · have hm' : m = b.length := by omega
      subst hm'
      have hal : Fr.all b = out := by rw [Hinv.out.1, List.drop_length]; simp [Fr.all_end [] (.inl rfl)]
      have hen : Fr.endAt b = b.length := by rw [Hinv.out.2, List.drop_length, Fr.endAt_end [] (.inl rfl)]; simp
      have Hal := Lib.hid hal
      have Hen := Lib.hid hen
      clear hal hen
      go_wp2_with fail
      go_ret3
      refine ⟨ar, cr, ?_, ?_, hB⟩
      · rw [Hal.out, Hen.out, if_neg (by omega)]; rfl
      · rw [Hal.out]; exact Rw.of_own hown (by simp) (frCells_len _)
end Go.Proofs.Ytinncchnompmhaa
