/- The walk of the law FrameTorn. -/
import Derived.Test.YtinncchnompmhaaFrameE
namespace Go.Proofs.Ytinncchnompmhaa
set_option linter.unusedVariables false
set_option linter.unusedSimpArgs false
set_option linter.unusedSectionVars false
open Go Go.RowKit

namespace Fr
theorem size_torn (kind : UInt8) (body : List UInt8) (m : Nat) (hk : kind ≠ 0) (hb : body.length ≤ 65536) (hm : m < body.length + 8) : size ((wrapped kind body).take m) = (0, 23) := by
  have hl : ((wrapped kind body).take m).length = m := by rw [List.length_take, wrapped_length]; omega
  obtain ⟨r, hr⟩ := wrapped_at kind body []
  rw [List.append_nil] at hr
  have hn := num_hdr body.length (by omega)
  unfold size
  rw [hl, hr]
  match m, hm with
  | 0, _ => rfl
  | 1, _ => simp
  | 2, _ => simp [hk]
  | 3, _ => simp [hk]
  | 4, _ => simp [hk]
  | m + 5, hm =>
    simp only [List.take_succ_cons, List.getD_cons_zero, List.getD_cons_succ, hn]
    rw [if_neg (by omega), if_neg (by simp), if_neg (by omega), if_neg hk, if_neg (by omega), if_neg (by omega), if_pos (by omega)]
theorem take_torn (kind : UInt8) (body : List UInt8) (m : Nat) (hk : kind ≠ 0) (hb : body.length ≤ 65536) (hm : m < body.length + 8) : take ((wrapped kind body).take m) = ⟨0, [], 0, 23⟩ := by
  have hs := size_torn kind body m hk hb hm
  rw [take_err _ (by rw [hs]; decide), hs]
theorem end_torn (k1 : UInt8) (first : List UInt8) (T : List UInt8) (hk : k1 ≠ 0) (hb : first.length ≤ 65536) (hT : (take T).err ≠ 0) : endAt (wrapped k1 first ++ T) = first.length + 8 := by
  have hl : (wrapped k1 first ++ T).length = (first.length + 7 + T.length) + 1 := by rw [List.length_append, wrapped_length]; omega
  have h0 : wrapped k1 first ++ T ≠ [] := by intro e; rw [e] at hl; simp at hl
  have ht := take_wrapped k1 first T hk hb
  unfold endAt
  rw [hl, bl, if_neg (by rw [ht]; simp [h0]), ht]
  simp only
  have hd : (wrapped k1 first ++ T).drop (first.length + 8) = T := by rw [← wrapped_length k1 first]; exact List.drop_left
  rw [hd]
  have : bl (first.length + 7 + T.length) T = [] := by
    rw [show first.length + 7 + T.length = (first.length + 6 + T.length) + 1 from by omega, bl, if_pos (.inr hT)]
  rw [this]
  simp [sum8]
end Fr

theorem own_low {w : World} {base e size n cap : Nat} {ao : Option Addr} {xs : List Value} (h : w.ownsRow base e size (.slice ao n cap) n xs) : ∀ p off s, ao = some ⟨p, off, s⟩ → p < w.heap.size := by
  intro p off s hao
  rcases h.2 with ⟨h2, _⟩ | ⟨g, cap', cur, hv, hrest⟩
  · simp only [Value.slice.injEq] at h2; rw [h2.1] at hao; cases hao
  · simp only [Value.slice.injEq] at hv
    rw [hv.1] at hao
    cases hao
    exact (Array.getElem?_eq_some_iff.1 hrest.2.1).1

theorem frameTorn_far (k : Int) (ao1 : Option Addr) (cap1 : Nat) (a : List UInt8) (ao2 : Option Addr) (cap2 : Nat) (b : List UInt8) (cut : Int) (w : World) (h : 1000 < b.length ∨ ¬ 1000 < b.length ∧ 1000 < a.length) :
    Calls Try.prog 11 #[.int .u8 k, .slice ao1 a.length cap1, .slice ao2 b.length cap2, .int .u16 cut] w fun e w' => e = .returned (.bool true) ∧ Below w.heap.size w w' := by
  rcases h with h | ⟨h, h2⟩
  all_goals
    go_enter Try.func11, Try.ntmps11
    go_wp2_with (go_at_call 22; refine (flives_any _).mono ?_; rintro e w1 ⟨rfl, hb1⟩)
    go_ret
    exact ⟨rfl, hb1⟩

theorem frameTorn_zero (ao1 : Option Addr) (cap1 : Nat) (a : List UInt8) (ao2 : Option Addr) (cap2 : Nat) (b : List UInt8) (cut : Int) (w : World) (ha : Bs w ao1 cap1 a) (h1 : ¬ 1000 < b.length) (h2 : ¬ 1000 < a.length) :
    Calls Try.prog 11 #[.int .u8 0, .slice ao1 a.length cap1, .slice ao2 b.length cap2, .int .u16 cut] w fun e w' => e = .returned (.bool true) ∧ Below w.heap.size w w' := by
  have hw : ∀ w, Calls Try.prog 23 #[.int .u8 0, .slice ao2 b.length cap2] w fun e w' => e = .returned (.tuple #[.slice none 0 0, .int .i64 2]) ∧ w = w' := fun w => wrap_nil 0 ao2 cap2 b w rfl
  have hwr := wrap_one ao1 cap1 a w ha (by omega)
  generalize Fr.wrapped 1 a = W at *
  have Hw := Lib.hid hw
  have Hwr := Lib.hid hwr
  clear hw hwr
  go_enter Try.func11, Try.ntmps11
  go_wp2_with fail
  refine Hwr.out.mono ?_
  rintro e w1 ⟨a1, c1, rfl, hf1⟩
  go_wp2_with fail
  refine (Hw.out _).mono ?_
  rintro e w1 ⟨rfl, rfl⟩
  go_wp2_with fail
  refine (flives_any _).mono ?_
  rintro e w2 ⟨rfl, hb2⟩
  go_wp2_with fail
  go_ret
  exact ⟨rfl, below_on hf1.bel hb2 (Nat.le_refl _)⟩

theorem end_is (ao : Option Addr) (cap : Nat) (b : List UInt8) (w : World) (hl : b.length ≤ 1000000) (hb : Bs w ao cap b) (n err : Nat) (h1 : Fr.endAt b = n) (h2 : (if n < b.length then (Fr.take (b.drop n)).err else 0) = err) :
    Calls Try.prog 30 #[.slice ao b.length cap] w fun e w' => e = .returned (.tuple #[.int .i64 (n : Int), .int .i64 (err : Int)]) ∧ Below w.heap.size w w' := by
  refine (end_any ao cap b w hl hb).mono fun e w' h => ?_
  unfold EndIs at h
  rw [h1, h2] at h
  exact h

set_option maxRecDepth 100000 in
set_option maxHeartbeats 2000000 in
theorem frameTorn_near (kind : UInt8) (hk : kind ≠ 0) (ao1 : Option Addr) (cap1 : Nat) (a : List UInt8) (ao2 : Option Addr) (cap2 : Nat) (b : List UInt8) (cut : Nat) (w : World) (ha : Bs w ao1 cap1 a) (hb : Bs w ao2 cap2 b) (h1 : ¬ 1000 < b.length) (h2 : ¬ 1000 < a.length) (hcu : cut ≤ 65535) :
    Calls Try.prog 11 #[.int .u8 kind.toNat, .slice ao1 a.length cap1, .slice ao2 b.length cap2, .int .u16 cut] w fun e w' => e = .returned (.bool true) ∧ Below w.heap.size w w' := by
  have hkb := kind_ne hk
  obtain ⟨m, hm⟩ : ∃ m, m = cut % (b.length + 8) := ⟨_, rfl⟩
  have hmlt : m < b.length + 8 := by rw [hm]; exact Nat.mod_lt _ (by omega)
  have hwr1 := wrap_one ao1 cap1 a w ha (by omega)
  have hwr2 := fun W (h : Bs W ao2 cap2 b) => wrap_ok kind ao2 cap2 b W h hk (by omega)
  have hl1 : (Fr.wrapped 1 a).length = a.length + 8 := Fr.wrapped_length 1 a
  have hl2 : (Fr.wrapped kind b).length = b.length + 8 := Fr.wrapped_length kind b
  have htk := Fr.take_torn kind b m hk (by omega) hmlt
  have hen := Fr.end_torn 1 a ((Fr.wrapped kind b).take m) (by decide) (by omega) (by rw [htk]; decide)
  have hdr : (Fr.wrapped 1 a ++ (Fr.wrapped kind b).take m).drop (a.length + 8) = (Fr.wrapped kind b).take m := by rw [← hl1]; exact List.drop_left
  generalize Fr.wrapped kind b = B at *
  generalize Fr.wrapped 1 a = A at *
  rw [← hl1] at hen hdr
  have hmB : (cut : Int) % (B.length : Int) = (m : Int) := by rw [hm, hl2]; exact (Int.natCast_emod _ _).symm
  have herr : (if A.length < (A ++ B.take m).length then (Fr.take ((A ++ B.take m).drop A.length)).err else 0) = if m = 0 then 0 else 23 := by
    rw [hdr, htk]
    by_cases h0 : m = 0
    · simp [h0]
    · rw [if_pos (by simp; omega), if_neg h0]
  have hA : A.length ≤ 1008 := by omega
  have hB8 : 8 ≤ B.length := by omega
  have hB : B.length ≤ 1008 := by omega
  have hmB2 : m < B.length := by omega
  have Hwr1 := Lib.hid hwr1
  have Hwr2 := Lib.hid hwr2
  have Htk := Lib.hid htk
  have Hen := Lib.hid hen
  have Herr := Lib.hid herr
  have HmB := Lib.hid hmB
  clear hwr1 hwr2 htk hen herr hmB hdr hl1 hl2 hm hmlt
  go_enter Try.func11, Try.ntmps11
  go_wp2_with fail
  refine Hwr1.out.mono ?_
  rintro e w1 ⟨a1, c1, rfl, hf1⟩
  have hB1 := hf1.bel
  have hA1 := Bs.of_own hf1.own
  clear hf1
  go_wp2_with fail
  refine (Hwr2.out w1 (hb.below hB1)).mono ?_
  rintro e w2 ⟨a2, c2, rfl, hf2⟩
  have hB2 := below_on hB1 hf2.bel (Nat.le_refl _)
  have hA2 := hA1.below hf2.bel
  have hBs2 := Bs.of_own hf2.own
  have hc2 := hBs2.le
  obtain ⟨g, rfl⟩ : ∃ g, a2 = some ⟨g, 0, none⟩ := by
    rcases hf2.own.2 with ⟨_, hn⟩ | ⟨g, cap', cur, hv, _⟩
    · omega
    · simp only [Value.slice.injEq] at hv
      exact ⟨g, hv.1⟩
  clear hf2
  have hmB := HmB.out
  obtain ⟨T, hT⟩ : ∃ T, T = B.take m := ⟨_, rfl⟩
  have hTl : T.length = m := by rw [hT, List.length_take]; omega
  rw [← hT] at Htk Hen Herr
  have hTb : Bs w2 (some ⟨g, 0, none⟩) c2 T := by rw [hT]; exact hBs2.take m (by omega)
  have ht := take_is (some ⟨g, 0, none⟩) c2 T w2 (by omega) hTb 0 [] 0 23 Htk.out
  rw [hTl] at ht
  have Ht := Lib.hid ht
  have hmc : (m : Int) ≤ (c2 : Int) := by omega
  clear ht hT
  go_wp2_with fail
  simp only [hmB]
  refine Ht.out.mono ?_
  rintro e w3 ⟨a3, c3, rfl, hb3, hB3'⟩
  have hB3 := below_on hB2 hB3' (Nat.le_refl _)
  have hA3 := hA2.below hB3'
  have hT3 := hTb.below hB3'
  clear hb3 hmB hcu
  go_wp2_with fail
  obtain ⟨er, her⟩ : ∃ er, er = (if m = 0 then 0 else 23 : Nat) := ⟨_, rfl⟩
  rw [← her] at Herr
  have Her := Lib.hid her
  clear her
  go_cut [18, 19] (fun x y wx => x = .int .i64 (A.length : Int) ∧ y = .int .i64 (er : Int) ∧ Below w3.heap.size w3 wx)
  case first =>
    have hnew : Below w3.heap.size w3 (w3.drew.alloc (.cells #[] 5)) := (Below.refl _ _).drew.alloc (Nat.le_refl _) _
    have Hnew := Lib.hid hnew
    clear hnew
    go_region_law (first
      | (refine step_append_bs rfl (.tmp 70) (.tmp 71) 25 rfl w3.heap.size 5 infoU8 Try.underlying25 _ _ [] rfl (own_empty w3.drew w3.heap.size _ 1 (Nat.le_refl _)) _ _ A rfl (hA3.below Hnew.out) ?_ ?_ ?_; (simp; omega); simp; intro ao8 cap8 l8 w8 hl8 hown8 hg8; have hB8 := below_app Hnew.out hg8 (own_empty w3.drew w3.heap.size _ 1 (Nat.le_refl _)) (Nat.le_refl _) Hnew.out.size; have hs8 : l8.length ≤ 2000 := (by rw [hl8.out]; simp; omega); have hl8' := Lib.hid hl8)
      | (refine step_append_bs rfl (.tmp 72) (.tmp 75) 25 rfl w3.heap.size 5 infoU8 Try.underlying25 _ _ l8 rfl hown8 _ _ T (by simp [Act.eval, Act.put, hTl]) (hT3.below hB8) ?_ ?_ ?_; omega; exact hB8.size; intro ao9 cap9 l9 w9 hl9 hown9 hg9; have hB9 := below_app hB8 hg9 hown8 (Nat.le_refl _) hB8.size)
      | (go_simp; go_at_call 30; refine (end_is ao9 cap9 l9 w9 (by rw [hl9.out, List.length_append]; omega) (Bs.of_own hown9) A.length er (by rw [hl9.out, hl8.out]; exact Hen.out) (by rw [hl9.out, hl8.out]; exact Herr.out)).mono ?_; rintro e w10 ⟨rfl, hB10'⟩; have hB10 := below_on hB9 hB10' (Nat.le_refl _)))
    all_goals
      go_wp2_with fail
      go_meet
      exact ⟨rfl, rfl, hB10⟩
  case rest =>
    obtain ⟨rfl, rfl, hB4⟩ := hcut
    by_cases h0 : m = 0
    · subst h0
      obtain rfl : er = 0 := Her.out
      go_wp2_with fail
      refine (flives_any _).mono ?_
      rintro e w6 ⟨rfl, hB6⟩
      go_wp2_with fail
      go_ret
      exact ⟨ret_bool (by simp), below_on (below_on hB3 hB4 (Nat.le_refl _)) hB6 (Nat.le_refl _)⟩
    · have h1 : ((m : Int) == 0) = false := by simp; omega
      obtain rfl : er = 23 := by rw [Her.out, if_neg h0]
      clear h0
      go_wp2_with fail
      refine (flives_any _).mono ?_
      rintro e w6 ⟨rfl, hB6⟩
      go_wp2_with fail
      go_ret
      exact ⟨ret_bool (by simp), below_on (below_on hB3 hB4 (Nat.le_refl _)) hB6 (Nat.le_refl _)⟩

theorem frameTorn_walk (k : Int) (ao1 : Option Addr) (cap1 : Nat) (a : List UInt8) (ao2 : Option Addr) (cap2 : Nat) (b : List UInt8) (cut : Int) (w : World) (k0 : 0 ≤ k) (k1 : k ≤ 255) (ha : Bs w ao1 cap1 a) (hb : Bs w ao2 cap2 b) (c0 : 0 ≤ cut) (c1 : cut ≤ 65535) :
    Calls Try.prog 11 #[.int .u8 k, .slice ao1 a.length cap1, .slice ao2 b.length cap2, .int .u16 cut] w fun e w' => e = .returned (.bool true) ∧ Below w.heap.size w w' := by
  by_cases h1 : 1000 < b.length
  · exact frameTorn_far k ao1 cap1 a ao2 cap2 b cut w (.inl h1)
  by_cases h2 : 1000 < a.length
  · exact frameTorn_far k ao1 cap1 a ao2 cap2 b cut w (.inr ⟨h1, h2⟩)
  obtain ⟨kind, rfl⟩ := u8_of k k0 k1
  obtain ⟨c, rfl⟩ : ∃ c : Nat, cut = c := ⟨cut.toNat, by omega⟩
  by_cases hk : kind = 0
  · subst hk
    exact frameTorn_zero ao1 cap1 a ao2 cap2 b c w ha h1 h2
  · exact frameTorn_near kind hk ao1 cap1 a ao2 cap2 b c w ha hb h1 h2 (by omega)
end Go.Proofs.Ytinncchnompmhaa
