/- Lemmas for DeadlineBytes (Tm3). No statement of the seat is proved here. -/
import Derived.Test.YtedlplkomfiahaaT5
import Derived.Test.YtedlplkomfiahaaT8
namespace Go.Proofs.Ytedlplkomfiahaa
set_option linter.unusedVariables false
set_option linter.unusedSimpArgs false
set_option linter.unusedSectionVars false
open Go Go.RowKit
def th0 : Th := ⟨0, 0, 0⟩
def SymOk (P A B Q : List Th) : Prop := ∀ (a m b : Nat) (W0 W : World) (base g n cap : Nat), n ≤ 1000000 → a = P.length → m = P.length + A.length → b = P.length + A.length + B.length →
    SR thT W0 W base g n cap (P ++ (A ++ (B ++ Q))) →
    Calls Try.prog 105 #[.slice (some ⟨g, 0, none⟩) n cap, .int .i64 (a : Nat), .int .i64 (m : Nat), .int .i64 (b : Nat), .func (.func 80) #[] #[]] W fun e W' => e = .returned (.tuple #[]) ∧ SR thT W0 W' base g n cap (P ++ (Sta.mg thLe A B ++ Q))
theorem gen_c (a m b la lb md n0 p s0 r0 c : Nat) (hm : m = a + la) (hb : b = m + lb) (hmd : md = (a + b) / 2) (hn0 : n0 = md + m) (hp : p = n0 - 1) (h0 : (md < m ∧ s0 = n0 - b ∧ r0 = md) ∨ (m ≤ md ∧ s0 = a ∧ r0 = m)) (hla : 2 ≤ la) (hlb : 2 ≤ lb) (h1 : s0 ≤ c) (h2 : c < r0) :
    a ≤ c ∧ c < m ∧ c - a < la ∧ m ≤ p - c ∧ p - c < b ∧ p - c - m < lb ∧ c ≤ p := by
  refine ⟨?_, ?_, ?_, ?_, ?_, ?_, ?_⟩ <;> rcases h0 with ⟨_, _, _⟩ | ⟨_, _, _⟩ <;> omega
theorem gen_st (a m b la lb md n0 p s0 r0 st e : Nat) (hm : m = a + la) (hb : b = m + lb) (hmd : md = (a + b) / 2) (hn0 : n0 = md + m) (hp : p = n0 - 1) (h0 : (md < m ∧ s0 = n0 - b ∧ r0 = md) ∨ (m ≤ md ∧ s0 = a ∧ r0 = m)) (hla : 2 ≤ la) (hlb : 2 ≤ lb) (h1 : s0 ≤ st) (h2 : st ≤ r0) (he : e = n0 - st) :
    a ≤ st ∧ st ≤ m ∧ m ≤ e ∧ e ≤ b ∧ st ≤ n0 ∧ md = a + (st - a) + (e - m) ∧ e = md + (la - (st - a)) ∧ (a < st → e < b → s0 < st) ∧ (st < m → m < e → st < r0) ∧ p - st - m = e - m - 1 ∧ (a < st → p - (st - 1) - m = e - m) := by
  refine ⟨?_, ?_, ?_, ?_, ?_, ?_, ?_, ?_, ?_, ?_, ?_⟩ <;> rcases h0 with ⟨_, _, _⟩ | ⟨_, _, _⟩ <;> omega
theorem gen_n (a m b la lb md n0 p s0 r0 n pl ql : Nat) (hm : m = a + la) (hb : b = m + lb) (hmd : md = (a + b) / 2) (hn0 : n0 = md + m) (hp : p = n0 - 1) (h0 : (md < m ∧ s0 = n0 - b ∧ r0 = md) ∨ (m ≤ md ∧ s0 = a ∧ r0 = m)) (hla : 2 ≤ la) (hlb : 2 ≤ lb) (ha : a = pl) (hq : pl + (la + (lb + ql)) = n) (hn : n ≤ 1000000) :
    s0 ≤ r0 ∧ r0 ≤ 1000000 ∧ b ≤ n ∧ n0 ≤ 2000000 ∧ (md < m → n0 = s0 + b) ∧ n0 = p + 1 ∧ m ≤ n ∧ md ≤ n ∧ a ≤ n := by
  refine ⟨?_, ?_, ?_, ?_, ?_, ?_, ?_, ?_, ?_⟩ <;> rcases h0 with ⟨_, _, _⟩ | ⟨_, _, _⟩ <;> omega
theorem gen_fin (a m b la lb md n0 p s0 r0 n st e s t : Nat) (hm : m = a + la) (hb : b = m + lb) (hmd : md = (a + b) / 2) (hla : 2 ≤ la) (hlb : 2 ≤ lb) (y1 : a ≤ st) (y2 : st ≤ m) (y3 : m ≤ e) (y4 : e ≤ b) (y6 : md = a + (st - a) + (e - m)) (y7 : e = md + (la - (st - a))) (hs : s = st - a) (ht : t = e - m) :
    s ≤ la ∧ t ≤ lb ∧ st = a + s ∧ m = a + s + (la - s) ∧ e = a + s + (la - s) + t ∧ md = a + s + t ∧ md = a + (s + t) ∧ e = a + (s + t) + (la - s) ∧ b = a + (s + t) + (la - s) + (lb - t) ∧ (st < m → 0 < la - s) ∧ (m < e → 0 < t) ∧ (a < st → 0 < s) ∧ (st < md → 0 < t) ∧ (md < e → 0 < la - s) ∧ (e < b → 0 < lb - t) ∧ s + t < la + lb ∧ (la - s) + (lb - t) < la + lb ∧ (¬ st < m → la - s = 0) ∧ (¬ m < e → t = 0) ∧ (¬ a < st → s = 0) ∧ (¬ st < md → t = 0) ∧ (¬ md < e → la - s = 0) ∧ (¬ e < b → lb - t = 0) ∧ (0 < s → a < st) ∧ (0 < t → m < e) ∧ (t < lb → e < b) ∧ (s < la → st < m) ∧ st - 1 - a = s - 1 := by
  refine ⟨?_, ?_, ?_, ?_, ?_, ?_, ?_, ?_, ?_, ?_, ?_, ?_, ?_, ?_, ?_, ?_, ?_, ?_, ?_, ?_, ?_, ?_, ?_, ?_, ?_, ?_, ?_, ?_⟩ <;> omega
/-- the numbers ahead of the search -/
structure GenN (a m b la lb md n0 p s0 r0 n : Nat) : Prop where
  h0 : (md < m ∧ s0 = n0 - b ∧ r0 = md) ∨ (m ≤ md ∧ s0 = a ∧ r0 = m)
  w1 : wrap64 ((m : Int) - (a : Int)) = (la : Int)
  c1 : ((la : Int) == 1) = false
  w2 : wrap64 ((b : Int) - (m : Int)) = (lb : Int)
  c2 : ((lb : Int) == 1) = false
  w3 : wrap64 ((md : Int) + (m : Int)) = (n0 : Int)
  w4 : wrap64 ((n0 : Int) - 1) = (p : Int)
  w5 : md < m → wrap64 ((n0 : Int) - (b : Int)) = (s0 : Int)
  nums : s0 ≤ r0 ∧ r0 ≤ 1000000 ∧ b ≤ n ∧ n0 ≤ 2000000 ∧ (md < m → n0 = s0 + b) ∧ n0 = p + 1 ∧ m ≤ n ∧ md ≤ n ∧ a ≤ n
  cc : ∀ c, s0 ≤ c → c < r0 → a ≤ c ∧ c < m ∧ c - a < la ∧ m ≤ p - c ∧ p - c < b ∧ p - c - m < lb ∧ c ≤ p
  ss : ∀ st e, s0 ≤ st → st ≤ r0 → e = n0 - st → a ≤ st ∧ st ≤ m ∧ m ≤ e ∧ e ≤ b ∧ st ≤ n0 ∧ md = a + (st - a) + (e - m) ∧ e = md + (la - (st - a)) ∧ (a < st → e < b → s0 < st) ∧ (st < m → m < e → st < r0) ∧ p - st - m = e - m - 1 ∧ (a < st → p - (st - 1) - m = e - m)
  ll : 2 ≤ la ∧ 2 ≤ lb
  mb : m = a + la ∧ b = m + lb ∧ md = (a + b) / 2 ∧ n0 = md + m ∧ p = n0 - 1 ∧ a ≤ 1000000 ∧ b ≤ 1000000
theorem gen_all (a m b la lb n pl ql : Nat) (ha : a = pl) (hm : m = pl + la) (hb : b = pl + la + lb) (hla : 2 ≤ la) (hlb : 2 ≤ lb) (hq : pl + (la + (lb + ql)) = n) (hn : n ≤ 1000000) :
    ∃ md n0 p s0 r0, GenN a m b la lb md n0 p s0 r0 n := by
  obtain ⟨md, hmd⟩ : ∃ md, md = (a + b) / 2 := ⟨_, rfl⟩
  obtain ⟨n0, hn0⟩ : ∃ n0, n0 = md + m := ⟨_, rfl⟩
  obtain ⟨p, hp⟩ : ∃ p, p = n0 - 1 := ⟨_, rfl⟩
  have hm' : m = a + la := by omega
  have hb' : b = m + lb := by omega
  obtain ⟨s0, r0, h0⟩ : ∃ s0 r0, (md < m ∧ s0 = n0 - b ∧ r0 = md) ∨ (m ≤ md ∧ s0 = a ∧ r0 = m) := by
    by_cases hx : md < m
    · exact ⟨_, _, .inl ⟨hx, rfl, rfl⟩⟩
    · exact ⟨_, _, .inr ⟨by omega, rfl, rfl⟩⟩
  have hN := gen_n a m b la lb md n0 p s0 r0 n pl ql hm' hb' hmd hn0 hp h0 hla hlb ha hq hn
  obtain ⟨q1, q2, q3, q4, q5, q6, q7, q8, q9⟩ := id hN
  refine ⟨md, n0, p, s0, r0, h0, w_sub m a la n (by omega) q7 (by omega), by simp; omega, w_sub b m lb n (by omega) q3 (by omega), by simp; omega, w_add md m n0 2000000 hn0 q4 (by omega), w_sub n0 1 p 2000000 q6 q4 (by omega), fun hx => w_sub n0 b s0 2000000 (q5 hx) q4 (by omega), hN, fun c => gen_c a m b la lb md n0 p s0 r0 c hm' hb' hmd hn0 hp h0 hla hlb, fun st e => gen_st a m b la lb md n0 p s0 r0 st e hm' hb' hmd hn0 hp h0 hla hlb, ⟨hla, hlb⟩, hm', hb', hmd, hn0, hp, ?_, ?_⟩
  · exact Nat.le_trans q9 hn
  · exact Nat.le_trans q3 hn
theorem getD_of (l : List Th) (i : Nat) (h : i < l.length) : l.getD i th0 = l[i] := by simp [List.getD, List.getElem?_eq_getElem h]
theorem up_D (l : List Th) (h : thUp l) (i j : Nat) (hij : i ≤ j) (hj : j < l.length) : thLe (l.getD i th0) (l.getD j th0) = true := by
  rw [getD_of l i (by omega), getD_of l j hj]
  exact up_le l h i j hij hj
/-- what the search keeps -/
theorem gen_mono (A B : List Th) (hA : thUp A) (hB : thUp B) (i i' j j' : Nat) (h1 : i ≤ i') (h2 : i' < A.length) (h3 : j' ≤ j) (h4 : j < B.length) (h : thLe (A.getD i' th0) (B.getD j' th0) = true) : thLe (A.getD i th0) (B.getD j th0) = true :=
  thLe_trans _ _ _ (up_D A hA i i' h1 h2) (thLe_trans _ _ _ h (up_D B hB j' j h3 h4))
/-- what follows the k-th step of a code that is a row of steps -/
def codeFrom : Nat → Code → Code
  | k+1, .seq _ b => codeFrom k b
  | _, c => c
def bodyFrom (k : Nat) (f : Func) : Code := match f.body with | some c => codeFrom k c | none => .skip
theorem k_of {P : Program} {K : Act → World → Prop} {c : Code} {Q : Exit → Act → World → Prop} {a : Act} {w : World} (hK : ∀ a w, Code.wp P c Q a w → K a w) (h : Code.wp P c Q a w) : K a w := hK a w h
set_option maxRecDepth 1000000 in
set_option maxHeartbeats 32000000 in
/-- what follows the rotation -/
theorem symMerge_tail2 (P A B Q A1 A2 B1 B2 : List Th) (a m b : Nat) (W0 : World) (base g n cap md n0 p st e : Nat)
    (Hsym1 : Hid (∀ W, a < st → st < md → SR thT W0 W base g n cap (P ++ (A1 ++ (B1 ++ (A2 ++ (B2 ++ Q))))) → Calls Try.prog 105 #[.slice (some ⟨g, 0, none⟩) n cap, .int .i64 (a : Nat), .int .i64 (st : Nat), .int .i64 (md : Nat), .func (.func 80) #[] #[]] W fun e W' => e = .returned (.tuple #[]) ∧ SR thT W0 W' base g n cap (P ++ (Sta.mg thLe A1 B1 ++ (A2 ++ (B2 ++ Q))))))
    (Hsym2 : Hid (∀ W, md < e → e < b → SR thT W0 W base g n cap ((P ++ Sta.mg thLe A1 B1) ++ (A2 ++ (B2 ++ Q))) → Calls Try.prog 105 #[.slice (some ⟨g, 0, none⟩) n cap, .int .i64 (md : Nat), .int .i64 (e : Nat), .int .i64 (b : Nat), .func (.func 80) #[] #[]] W fun e W' => e = .returned (.tuple #[]) ∧ SR thT W0 W' base g n cap ((P ++ Sta.mg thLe A1 B1) ++ (Sta.mg thLe A2 B2 ++ Q))))
    (Hz3 : Hid (¬ a < st → A1 = [])) (Hz4 : Hid (¬ st < md → B1 = [])) (Hz5 : Hid (¬ md < e → A2 = [])) (Hz6 : Hid (¬ e < b → B2 = []))
    (Hpart : Hid (Sta.mg thLe A B = Sta.mg thLe A1 B1 ++ Sta.mg thLe A2 B2)) (wc : World) (hr2 : SR thT W0 wc base g n cap (P ++ (A1 ++ (B1 ++ (A2 ++ (B2 ++ Q))))))
    (u5 u6 u7 u8 u9 u10 u11 u12 u13 u14 u15 u16 u17 u23 u25 u26 u27 u28 u29 u30 u31 u32 u33 u34 u35 u36 u37 u38 u39 u40 u41 u42 u43 u44 u45 u46 u47 u48 u49 u50 u51 u52 u53 u54 u55 u56 u57 u58 u59 u60 u61 u62 u63 u64 u65 u66 u67 u68 u69 u70 u71 u72 u73 u74 u75 u76 u77 u78 u79 u80 u81 u82 u83 u84 u85 u86 u87 u88 u89 u90 u91 u92 u93 u94 u95 u96 u97 u98 u99 u100 u101 u102 u103 u104 u105 u106 u107 u108 u109 u110 u111 u112 u113 u114 u115 u116 u117 u118 u119 u120 u121 u122 u123 u124 u125 u126 u127 u128 u129 u130 u131 u132 u133 u134 u135 u136 u137 u138 u139 u140 u141 u142 u143 u144 u145 u146 u147 u148 u149 u150 u151 u152 u153 u154 u155 u156 u157 u158 u159 u160 u161 u162 u163 u164 u165 u166 u167 u168 u169 u170 u171 u172 u173 u174 u175 u176 u177 u178 u179 u180 u181 u182 u183 u184 u185 u186 u187 u188 u189 u190 u191 u192 u193 u194 u195 u196 u197 u198 u199 u200 u201 u202 u203 u204 u205 u206 u207 u208 u209 u210 u211 u212 u213 u214 u215 u216 u217 u218 u219 : Value) :
    Code.wp Try.prog (bodyFrom 10 Try.f105) (bodyPost Try.prog Try.f105 fun e W' => e = .returned (.tuple #[]) ∧ SR thT W0 W' base g n cap (P ++ (Sta.mg thLe A B ++ Q)))
      { tmps := #[.slice (some ⟨g, 0, none⟩) n cap, .int .i64 (a : Nat), .int .i64 (m : Nat), .int .i64 (b : Nat), .func (.func 80) #[] #[], u5, u6, u7, u8, u9, u10, u11, u12, u13, u14, u15, u16, u17, .int .i64 (md : Nat), .int .i64 (n0 : Nat), .int .i64 (st : Nat), .int .i64 (st : Nat), .int .i64 (p : Nat), u23, .int .i64 (e : Nat), u25, u26, u27, u28, u29, u30, u31, u32, u33, u34, u35, u36, u37, u38, u39, u40, u41, u42, u43, u44, u45, u46, u47, u48, u49, u50, u51, u52, u53, u54, u55, u56, u57, u58, u59, u60, u61, u62, u63, u64, u65, u66, u67, u68, u69, u70, u71, u72, u73, u74, u75, u76, u77, u78, u79, u80, u81, u82, u83, u84, u85, u86, u87, u88, u89, u90, u91, u92, u93, u94, u95, u96, u97, u98, u99, u100, u101, u102, u103, u104, u105, u106, u107, u108, u109, u110, u111, u112, u113, u114, u115, u116, u117, u118, u119, u120, u121, u122, u123, u124, u125, u126, u127, u128, u129, u130, u131, u132, u133, u134, u135, u136, u137, u138, u139, u140, u141, u142, u143, u144, u145, u146, u147, u148, u149, u150, u151, u152, u153, u154, u155, u156, u157, u158, u159, u160, u161, u162, u163, u164, u165, u166, u167, u168, u169, u170, u171, u172, u173, u174, u175, u176, u177, u178, u179, u180, u181, u182, u183, u184, u185, u186, u187, u188, u189, u190, u191, u192, u193, u194, u195, u196, u197, u198, u199, u200, u201, u202, u203, u204, u205, u206, u207, u208, u209, u210, u211, u212, u213, u214, u215, u216, u217, u218, u219], defers := [] } wc := by
  conv => arg 2; simp only [bodyFrom, codeFrom, Try.f105]
  conv => arg 4; dsimp only
  have Hr2 := Lib.hid hr2
  clear hr2
  go_upto_region 41 with fail
  obtain ⟨cb2, hcb⟩ : ∃ c : Bool, c = (decide (a < st) && decide (st < md)) := ⟨_, rfl⟩
  have HT : Hid (cb2 = true → a < st ∧ st < md) := by show _ → _; intro h; rw [hcb] at h; simpa using h
  have HF : Hid (cb2 = false → ¬ a < st ∨ ¬ st < md) := by
    show _ → _
    intro h
    rw [hcb] at h
    by_cases h1 : a < st
    · right; intro h2; simp [h1, h2] at h
    · exact .inl h1
  have Hcb := Lib.hid hcb
  clear hcb
  go_cut [24, 199] (fun z v wx => z = .int .i64 (e : Nat) ∧ v = .bool cb2 ∧ wx = wc)
  case first =>
    by_cases h1 : a < st
    · have z1 : (a : Int) < (st : Int) := by omega
      by_cases h2 : st < md
      · have z2 : (st : Int) < (md : Int) := by omega
        have hv : cb2 = true := by rw [Hcb.out]; simp [h1, h2]
        have Hv := Lib.hid hv
        clear h1 h2 hv
        go_wp2_with fail
        go_meet
        exact ⟨by first | rfl | rw [w7], by rw [Hv.out], rfl⟩
      · have z2 : ¬ (st : Int) < (md : Int) := by omega
        have hv : cb2 = false := by rw [Hcb.out]; simp [h2]
        have Hv := Lib.hid hv
        clear h1 h2 hv
        go_wp2_with fail
        go_meet
        exact ⟨by first | rfl | rw [w7], by rw [Hv.out], rfl⟩
    · have z1 : ¬ (a : Int) < (st : Int) := by omega
      have hv : cb2 = false := by rw [Hcb.out]; simp [h1]
      have Hv := Lib.hid hv
      clear h1 hv
      go_wp2_with fail
      go_meet
      exact ⟨by first | rfl | rw [w7], by rw [Hv.out], rfl⟩
  case rest =>
    obtain ⟨rfl, rfl, hwc⟩ := hcut
    have hwc2 := hwc.symm
    clear hwc Hcb
    subst hwc2
    go_upto_if 199 with fail
    go_cut [24] (fun v wx => v = .int .i64 (e : Nat) ∧ SR thT W0 wx base g n cap (P ++ (Sta.mg thLe A1 B1 ++ (A2 ++ (B2 ++ Q)))))
    case first =>
      cases cb2 with
      | true =>
        have hst := Hsym1.out _ (HT.out rfl).1 (HT.out rfl).2 Hr2.out
        have Hst := Lib.hid hst
        clear hst
        go_wp2_with fail
        refine Hst.out.mono ?_
        rintro e' W2 ⟨rfl, hr3⟩
        go_wp2_with fail
        go_meet
        exact ⟨rfl, hr3⟩
      | false =>
        have hfin : P ++ (A1 ++ (B1 ++ (A2 ++ (B2 ++ Q)))) = P ++ (Sta.mg thLe A1 B1 ++ (A2 ++ (B2 ++ Q))) := by
          rcases HF.out rfl with h | h
          · rw [Hz3.out h, Sta.mg_nil]; simp
          · rw [Hz4.out h, Sta.mg_nil']; simp
        have hr3 := Hr2.out
        rw [hfin] at hr3
        have Hr3 := Lib.hid hr3
        clear hfin hr3
        go_wp2_with fail
        go_meet
        exact ⟨rfl, Hr3.out⟩
    case rest =>
      obtain ⟨rfl, hr3⟩ := hcut
      rw [← List.append_assoc P] at hr3
      have Hr3 := Lib.hid hr3
      have hgoal : P ++ (Sta.mg thLe A B ++ Q) = (P ++ Sta.mg thLe A1 B1) ++ (Sta.mg thLe A2 B2 ++ Q) := by rw [Hpart.out]; simp
      have Hgoal := Lib.hid hgoal
      clear hgoal hr3 HT HF
      go_upto_region 43 with fail
      obtain ⟨cb3, hcb⟩ : ∃ c : Bool, c = (decide (md < e) && decide (e < b)) := ⟨_, rfl⟩
      have HT : Hid (cb3 = true → md < e ∧ e < b) := by show _ → _; intro h; rw [hcb] at h; simpa using h
      have HF : Hid (cb3 = false → ¬ md < e ∨ ¬ e < b) := by
        show _ → _
        intro h
        rw [hcb] at h
        by_cases h1 : md < e
        · right; intro h2; simp [h1, h2] at h
        · exact .inl h1
      have Hcb := Lib.hid hcb
      clear hcb
      go_cut [24, 213] (fun z v wx => z = .int .i64 (e : Nat) ∧ v = .bool cb3 ∧ wx = wc)
      case first =>
        by_cases h1 : md < e
        · have z1 : (md : Int) < (e : Int) := by omega
          by_cases h2 : e < b
          · have z2 : (e : Int) < (b : Int) := by omega
            have hv : cb3 = true := by rw [Hcb.out]; simp [h1, h2]
            have Hv := Lib.hid hv
            clear h1 h2 hv
            go_wp2_with fail
            go_meet
            exact ⟨by first | rfl | rw [w7], by rw [Hv.out], rfl⟩
          · have z2 : ¬ (e : Int) < (b : Int) := by omega
            have hv : cb3 = false := by rw [Hcb.out]; simp [h2]
            have Hv := Lib.hid hv
            clear h1 h2 hv
            go_wp2_with fail
            go_meet
            exact ⟨by first | rfl | rw [w7], by rw [Hv.out], rfl⟩
        · have z1 : ¬ (md : Int) < (e : Int) := by omega
          have hv : cb3 = false := by rw [Hcb.out]; simp [h1]
          have Hv := Lib.hid hv
          clear h1 hv
          go_wp2_with fail
          go_meet
          exact ⟨by first | rfl | rw [w7], by rw [Hv.out], rfl⟩
      case rest =>
        obtain ⟨rfl, rfl, hwc⟩ := hcut
        have hwc2 := hwc.symm
        clear hwc Hcb
        subst hwc2
        go_upto_if 213 with fail
        cases cb3 with
        | true =>
          have hst := Hsym2.out _ (HT.out rfl).1 (HT.out rfl).2 Hr3.out
          have Hst := Lib.hid hst
          clear hst
          go_wp2_with fail
          refine Hst.out.mono ?_
          rintro e' W2 ⟨rfl, hr4⟩
          go_wp2_with fail
          refine bodyPost_end (results_none rfl _ _ _) rfl ?_
          rw [Hgoal.out]
          exact ⟨rfl, hr4⟩
        | false =>
          have hfin : (P ++ Sta.mg thLe A1 B1) ++ (A2 ++ (B2 ++ Q)) = (P ++ Sta.mg thLe A1 B1) ++ (Sta.mg thLe A2 B2 ++ Q) := by
            rcases HF.out rfl with h | h
            · rw [Hz5.out h, Sta.mg_nil]; simp
            · rw [Hz6.out h, Sta.mg_nil']; simp
          have hr4 := Hr3.out
          rw [hfin, ← Hgoal.out] at hr4
          have Hr4 := Lib.hid hr4
          clear hfin hr4
          go_wp2_with fail
          refine bodyPost_end (results_none rfl _ _ _) rfl ?_
          exact ⟨rfl, Hr4.out⟩
set_option maxRecDepth 1000000 in
set_option maxHeartbeats 32000000 in
/-- what follows the search -/
theorem symMerge_tail (P A B Q : List Th) (ih : ∀ P' A' B' Q', A'.length + B'.length < A.length + B.length → 0 < A'.length → 0 < B'.length → thUp A' → thUp B' → SymOk P' A' B' Q')
    (a m b : Nat) (W0 W : World) (base g n cap la lb md n0 p s0 r0 : Nat) (HG : Hid (GenN a m b la lb md n0 p s0 r0 n)) (Ha : Hid (a = P.length)) (Hm : Hid (m = P.length + A.length)) (Hb : Hid (b = P.length + A.length + B.length)) (Hla : Hid (la = A.length)) (Hlb : Hid (lb = B.length)) (Hlen : Hid (P.length + (la + (lb + Q.length)) = n)) (Hn : Hid (n ≤ 1000000)) (HA : Hid (thUp A)) (HB : Hid (thUp B)) (wr : World) (st : Nat) (hs1 : s0 ≤ st)
    (hlo : Hid (∀ (c : Nat), s0 ≤ c → c < st → thLe (A.getD (c - a) th0) (B.getD (p - c - m) th0) = true)) (hr : SR thT W0 wr base g n cap (P ++ (A ++ (B ++ Q)))) (hs3 : st ≤ r0)
    (hhi : Hid (∀ (c : Nat), st ≤ c → c < r0 → thLe (A.getD (c - a) th0) (B.getD (p - c - m) th0) = false))
    (u5 u6 u7 u8 u9 u10 u11 u12 u13 u14 u15 u16 u17 u23 u24 u25 u26 u27 u28 u29 u30 u31 u32 u33 u34 u35 u36 u37 u38 u39 u40 u41 u42 u43 u44 u45 u46 u47 u48 u49 u50 u51 u52 u53 u54 u55 u56 u57 u58 u59 u60 u61 u62 u63 u64 u65 u66 u67 u68 u69 u70 u71 u72 u73 u74 u75 u76 u77 u78 u79 u80 u81 u82 u83 u84 u85 u86 u87 u88 u89 u90 u91 u92 u93 u94 u95 u96 u97 u98 u99 u100 u101 u102 u103 u104 u105 u106 u107 u108 u109 u110 u111 u112 u113 u114 u115 u116 u117 u118 u119 u120 u121 u122 u123 u124 u125 u126 u127 u128 u129 u130 u131 u132 u133 u134 u135 u136 u137 u138 u139 u140 u141 u142 u143 u144 u145 u146 u147 u148 u149 u150 u151 u152 u153 u154 u155 u156 u157 u158 u159 u160 u161 u162 u163 u164 u165 u166 u167 u168 u169 u170 u171 u172 u173 u174 u175 u176 u177 u178 u179 u180 u181 u182 u183 u184 u185 u186 u187 u188 u189 u190 u191 u192 u193 u194 u195 u196 u197 u198 u199 u200 u201 u202 u203 u204 u205 u206 u207 u208 u209 u210 u211 u212 u213 u214 u215 u216 u217 u218 u219 : Value) :
    Code.wp Try.prog (bodyFrom 8 Try.f105) (bodyPost Try.prog Try.f105 fun e W' => e = .returned (.tuple #[]) ∧ SR thT W0 W' base g n cap (P ++ (Sta.mg thLe A B ++ Q)))
      { tmps := #[.slice (some ⟨g, 0, none⟩) n cap, .int .i64 (a : Nat), .int .i64 (m : Nat), .int .i64 (b : Nat), .func (.func 80) #[] #[], u5, u6, u7, u8, u9, u10, u11, u12, u13, u14, u15, u16, u17, .int .i64 (md : Nat), .int .i64 (n0 : Nat), .int .i64 (st : Nat), .int .i64 (st : Nat), .int .i64 (p : Nat), u23, u24, u25, u26, u27, u28, u29, u30, u31, u32, u33, u34, u35, u36, u37, u38, u39, u40, u41, u42, u43, u44, u45, u46, u47, u48, u49, u50, u51, u52, u53, u54, u55, u56, u57, u58, u59, u60, u61, u62, u63, u64, u65, u66, u67, u68, u69, u70, u71, u72, u73, u74, u75, u76, u77, u78, u79, u80, u81, u82, u83, u84, u85, u86, u87, u88, u89, u90, u91, u92, u93, u94, u95, u96, u97, u98, u99, u100, u101, u102, u103, u104, u105, u106, u107, u108, u109, u110, u111, u112, u113, u114, u115, u116, u117, u118, u119, u120, u121, u122, u123, u124, u125, u126, u127, u128, u129, u130, u131, u132, u133, u134, u135, u136, u137, u138, u139, u140, u141, u142, u143, u144, u145, u146, u147, u148, u149, u150, u151, u152, u153, u154, u155, u156, u157, u158, u159, u160, u161, u162, u163, u164, u165, u166, u167, u168, u169, u170, u171, u172, u173, u174, u175, u176, u177, u178, u179, u180, u181, u182, u183, u184, u185, u186, u187, u188, u189, u190, u191, u192, u193, u194, u195, u196, u197, u198, u199, u200, u201, u202, u203, u204, u205, u206, u207, u208, u209, u210, u211, u212, u213, u214, u215, u216, u217, u218, u219], defers := [] } wr := by
  conv => arg 2; simp only [bodyFrom, codeFrom, Try.f105]
  conv => arg 4; dsimp only
  obtain ⟨e, he⟩ : ∃ e, e = n0 - st := ⟨_, rfl⟩
  obtain ⟨y1, y2, y3, y4, y5, y6, y7, y8, y9, y10, y11⟩ := HG.out.ss st e hs1 hs3 he
  have hnn := HG.out.nums
  have w7 : wrap64 ((n0 : Int) - (st : Int)) = (e : Int) := w_sub n0 st e 2000000 (by rw [he]; exact (Nat.sub_add_cancel y5).symm) hnn.2.2.2.1 (by decide)
  obtain ⟨s, hs⟩ : ∃ s : Nat, s = st - a := ⟨_, rfl⟩
  obtain ⟨t, ht⟩ : ∃ t, t = e - m := ⟨_, rfl⟩
  have hmb := HG.out.mb
  obtain ⟨v1, v2, v3, v4, v5, v6, v7, v8, v9, v10, v11, v12, v13, v14, v15, v16, v17, v18, v19, v20, v21, v22, v23, v24, v25, v26, v27, v28⟩ := gen_fin a m b la lb md n0 p s0 r0 n st e s t hmb.1 hmb.2.1 hmb.2.2.1 HG.out.ll.1 HG.out.ll.2 y1 y2 y3 y4 y6 y7 hs ht
  have hsl : s ≤ A.length := by rw [← Hla.out]; exact v1
  have htl : t ≤ B.length := by rw [← Hlb.out]; exact v2
  have hpart := Sta.mg_part thLe thLe_trans A B HA.out HB.out s t hsl htl (fun h1 h2 => by
    have k1 : a < st := v24 h1
    have k2 : s0 < st := y8 k1 (v26 (by rw [Hlb.out]; exact h2))
    have k3 := hlo.out (st - 1) (Nat.le_sub_one_of_lt k2) (Nat.sub_lt (Nat.lt_of_le_of_lt (Nat.zero_le _) k1) (by decide))
    have k4 := y11 k1
    rw [k4, ← ht, v28, getD_of A (s - 1) (Nat.lt_of_lt_of_le (Nat.sub_lt h1 (by decide)) hsl), getD_of B t h2] at k3
    exact k3) (fun h1 h2 => by
    have k1 : m < e := v25 h2
    have k2 : st < r0 := y9 (v27 (by rw [Hla.out]; exact h1)) k1
    have k3 := hhi.out st (Nat.le_refl _) k2
    rw [y10, ← ht, ← hs, getD_of A s h1, getD_of B (t - 1) (Nat.lt_of_lt_of_le (Nat.sub_lt h2 (by decide)) htl)] at k3
    exact k3)
  obtain ⟨A1, hA1⟩ : ∃ A1, A1 = A.take s := ⟨_, rfl⟩
  obtain ⟨A2, hA2⟩ : ∃ A2, A2 = A.drop s := ⟨_, rfl⟩
  obtain ⟨B1, hB1⟩ : ∃ B1, B1 = B.take t := ⟨_, rfl⟩
  obtain ⟨B2, hB2⟩ : ∃ B2, B2 = B.drop t := ⟨_, rfl⟩
  have lA1 : A1.length = s := by rw [hA1, List.length_take]; exact Nat.min_eq_left hsl
  have lA2 : A2.length = la - s := by rw [hA2, List.length_drop, Hla.out]
  have lB1 : B1.length = t := by rw [hB1, List.length_take]; exact Nat.min_eq_left htl
  have lB2 : B2.length = lb - t := by rw [hB2, List.length_drop, Hlb.out]
  have uA1 : thUp A1 := by rw [hA1]; exact HA.out.sublist (List.take_sublist _ _)
  have uA2 : thUp A2 := by rw [hA2]; exact HA.out.sublist (List.drop_sublist _ _)
  have uB1 : thUp B1 := by rw [hB1]; exact HB.out.sublist (List.take_sublist _ _)
  have uB2 : thUp B2 := by rw [hB2]; exact HB.out.sublist (List.drop_sublist _ _)
  have hsplit : P ++ (A ++ (B ++ Q)) = P ++ (A1 ++ (A2 ++ (B1 ++ (B2 ++ Q)))) := by
    rw [hA1, hA2, hB1, hB2, ← List.append_assoc (B.take t), List.take_append_drop, ← List.append_assoc (A.take s), List.take_append_drop]
  rw [← hA1, ← hA2, ← hB1, ← hB2] at hpart
  rw [hsplit] at hr
  have Hpart := Lib.hid hpart
  -- the three calls' contracts
  have hn62 : n ≤ 4611686018427387904 := Nat.le_trans Hn.out (by decide)
  have hrot := fun (h1 : st < m) (h2 : m < e) => rotate_any (P ++ A1) A2 B1 (B2 ++ Q) st m e (.func (.func 80) #[] #[]) W0 wr base g n cap hn62 (by rw [List.length_append, lA1, ← Ha.out]; exact v3) (by rw [List.length_append, lA1, lA2, ← Ha.out]; exact v4) (by rw [List.length_append, lA1, lA2, lB1, ← Ha.out]; exact v5) (by rw [lA2]; exact v10 h1) (by rw [lB1]; exact v11 h2) (by rw [List.append_assoc]; exact hr)
  have hsym1 := fun W (h1 : a < st) (h2 : st < md) (hw : SR thT W0 W base g n cap (P ++ (A1 ++ (B1 ++ (A2 ++ (B2 ++ Q)))))) => ih P A1 B1 (A2 ++ (B2 ++ Q)) (by rw [lA1, lB1, ← Hla.out, ← Hlb.out]; exact v16) (by rw [lA1]; exact v12 h1) (by rw [lB1]; exact v13 h2) uA1 uB1 a st md W0 W base g n cap Hn.out Ha.out (by rw [lA1, ← Ha.out]; exact v3) (by rw [lA1, lB1, ← Ha.out]; exact v6) hw
  have hsym2 := fun W (h1 : md < e) (h2 : e < b) (hw : SR thT W0 W base g n cap ((P ++ Sta.mg thLe A1 B1) ++ (A2 ++ (B2 ++ Q)))) => ih (P ++ Sta.mg thLe A1 B1) A2 B2 Q (by rw [lA2, lB2, ← Hla.out, ← Hlb.out]; exact v17) (by rw [lA2]; exact v14 h1) (by rw [lB2]; exact v15 h2) uA2 uB2 md e b W0 W base g n cap Hn.out (by rw [List.length_append, Sta.mg_len, lA1, lB1, ← Ha.out]; exact v7) (by rw [List.length_append, Sta.mg_len, lA1, lB1, lA2, ← Ha.out]; exact v8) (by rw [List.length_append, Sta.mg_len, lA1, lB1, lA2, lB2, ← Ha.out]; exact v9) hw
  have hz1 : ¬ st < m → A2 = [] := fun h => List.eq_nil_of_length_eq_zero (by rw [lA2]; exact v18 h)
  have hz2 : ¬ m < e → B1 = [] := fun h => List.eq_nil_of_length_eq_zero (by rw [lB1]; exact v19 h)
  have hz3 : ¬ a < st → A1 = [] := fun h => List.eq_nil_of_length_eq_zero (by rw [lA1]; exact v20 h)
  have hz4 : ¬ st < md → B1 = [] := fun h => List.eq_nil_of_length_eq_zero (by rw [lB1]; exact v21 h)
  have hz5 : ¬ md < e → A2 = [] := fun h => List.eq_nil_of_length_eq_zero (by rw [lA2]; exact v22 h)
  have hz6 : ¬ e < b → B2 = [] := fun h => List.eq_nil_of_length_eq_zero (by rw [lB2]; exact v23 h)
  have Hrot := Lib.hid hrot
  have Hsym1 := Lib.hid hsym1
  have Hsym2 := Lib.hid hsym2
  have Hz1 := Lib.hid hz1
  have Hz2 := Lib.hid hz2
  have Hz3 := Lib.hid hz3
  have Hz4 := Lib.hid hz4
  have Hz5 := Lib.hid hz5
  have Hz6 := Lib.hid hz6
  have Hr := Lib.hid hr
  clear hn62 v1 v2 v3 v4 v5 v6 v7 v8 v9 v10 v11 v12 v13 v14 v15 v16 v17 v18 v19 v20 v21 v22 v23 v24 v25 v26 v27 v28
  clear hs1 hs3 hlo hhi y1 y2 y3 y4 y5 y6 y7 y8 y9 y10 y11 hnn he hs ht hmb hsl htl hpart hA1 hA2 hB1 hB2 lA1 lA2 lB1 lB2 uA1 uA2 uB1 uB2 hsplit hrot hsym1 hsym2 hz1 hz2 hz3 hz4 hz5 hz6 hr
  go_upto_region 39 with fail
  obtain ⟨cb1, hcb⟩ : ∃ c : Bool, c = (decide (st < m) && decide (m < e)) := ⟨_, rfl⟩
  have HT : Hid (cb1 = true → st < m ∧ m < e) := by show _ → _; intro h; rw [hcb] at h; simpa using h
  have HF : Hid (cb1 = false → ¬ st < m ∨ ¬ m < e) := by
    show _ → _
    intro h
    rw [hcb] at h
    by_cases h1 : st < m
    · right; intro h2; simp [h1, h2] at h
    · exact .inl h1
  have Hcb := Lib.hid hcb
  clear hcb
  go_cut [24, 185] (fun z v wx => z = .int .i64 (e : Nat) ∧ v = .bool cb1 ∧ wx = wr)
  case first =>
    by_cases h1 : st < m
    · have z1 : (st : Int) < (m : Int) := by omega
      by_cases h2 : m < e
      · have z2 : (m : Int) < (e : Int) := by omega
        have hv : cb1 = true := by rw [Hcb.out]; simp [h1, h2]
        have Hv := Lib.hid hv
        clear h1 h2 hv
        go_wp2_with fail
        go_meet
        exact ⟨by first | rfl | rw [w7], by rw [Hv.out], rfl⟩
      · have z2 : ¬ (m : Int) < (e : Int) := by omega
        have hv : cb1 = false := by rw [Hcb.out]; simp [h2]
        have Hv := Lib.hid hv
        clear h1 h2 hv
        go_wp2_with fail
        go_meet
        exact ⟨by first | rfl | rw [w7], by rw [Hv.out], rfl⟩
    · have z1 : ¬ (st : Int) < (m : Int) := by omega
      have hv : cb1 = false := by rw [Hcb.out]; simp [h1]
      have Hv := Lib.hid hv
      clear h1 hv
      go_wp2_with fail
      go_meet
      exact ⟨by first | rfl | rw [w7], by rw [Hv.out], rfl⟩
  case rest =>
    obtain ⟨rfl, rfl, hwc⟩ := hcut
    have hwc2 := hwc.symm
    clear hwc Hcb
    subst hwc2
    go_upto_if 185 with fail
    go_cut [24] (fun v wx => v = .int .i64 (e : Nat) ∧ SR thT W0 wx base g n cap (P ++ (A1 ++ (B1 ++ (A2 ++ (B2 ++ Q))))))
    case first =>
      cases cb1 with
      | true =>
        have hst := Hrot.out (HT.out rfl).1 (HT.out rfl).2
        have Hst := Lib.hid hst
        clear hst
        go_wp2_with fail
        refine Hst.out.mono ?_
        rintro e' W2 ⟨rfl, hr2⟩
        go_wp2_with fail
        go_meet
        exact ⟨by first | rfl | rw [w7], by rw [List.append_assoc] at hr2; exact hr2⟩
      | false =>
        have hfin : P ++ (A1 ++ (A2 ++ (B1 ++ (B2 ++ Q)))) = P ++ (A1 ++ (B1 ++ (A2 ++ (B2 ++ Q)))) := by
          rcases HF.out rfl with h | h
          · rw [Hz1.out h]; simp
          · rw [Hz2.out h]; simp
        have hr2 := Hr.out
        rw [hfin] at hr2
        have Hr2 := Lib.hid hr2
        clear hfin hr2
        go_wp2_with fail
        go_meet
        exact ⟨by first | rfl | rw [w7], Hr2.out⟩
    case rest =>
      obtain ⟨rfl, hr2⟩ := hcut
      refine k_of (by assumption) ?_
      exact symMerge_tail2 P A B Q A1 A2 B1 B2 a m b W0 base g n cap md n0 p st e Hsym1 Hsym2 Hz3 Hz4 Hz5 Hz6 Hpart wc hr2 _ _ _ _ _ _ _ _ _ _ _ _ _ _ _ _ _ _ _ _ _ _ _ _ _ _ _ _ _ _ _ _ _ _ _ _ _ _ _ _ _ _ _ _ _ _ _ _ _ _ _ _ _ _ _ _ _ _ _ _ _ _ _ _ _ _ _ _ _ _ _ _ _ _ _ _ _ _ _ _ _ _ _ _ _ _ _ _ _ _ _ _ _ _ _ _ _ _ _ _ _ _ _ _ _ _ _ _ _ _ _ _ _ _ _ _ _ _ _ _ _ _ _ _ _ _ _ _ _ _ _ _ _ _ _ _ _ _ _ _ _ _ _ _ _ _ _ _ _ _ _ _ _ _ _ _ _ _ _ _ _ _ _ _ _ _ _ _ _ _ _ _ _ _ _ _ _ _ _ _ _ _ _ _ _ _ _ _ _ _ _ _ _ _ _ _ _ _ _ _ _ _ _ _ _ _ _ _ _
end Go.Proofs.Ytedlplkomfiahaa
