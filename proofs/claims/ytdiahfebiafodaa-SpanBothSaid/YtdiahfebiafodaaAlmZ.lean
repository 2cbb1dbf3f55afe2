/- AlmanacFree's walk. No statement of the seat is proved here. -/
import Derived.Test.YtdiahfebiafodaaAlmY
import Derived.Test.YtdiahfebiafodaaAlmL
namespace Go.Proofs.Ytdiahfebiafodaa
set_option linter.unusedVariables false
set_option linter.unusedSimpArgs false
set_option linter.unusedSectionVars false
open Go Go.RowKit Go.Shelf

/-- the function that AlmanacFree hands over -/
def stretch (k c x y : Int) : Int := IntKind.i64.wrap (IntKind.i64.wrap (IntKind.i64.wrap (y - x) * k) + c)
theorem stretch_any (B1 B2 : Nat) (k c x y : Int) (hk0 : -128 ≤ k) (hk1 : k ≤ 127) (hc0 : -128 ≤ c) (hc1 : c ≤ 127) (W : World) (h1 : W.cell? ⟨B1, 0, none⟩ = some (.int .i8 k)) (h2 : W.cell? ⟨B2, 0, none⟩ = some (.int .i8 c)) :
    Calls Try.prog 22 #[.int .i64 x, .int .i64 y, .pointer (some ⟨B1, 0, none⟩), .pointer (some ⟨B2, 0, none⟩)] W fun e W' => e = .returned (.int .i64 (stretch k c x y)) ∧ Below W.heap.size W W' := by
  have hw1 : IntKind.i64.wrap k = k := IntWalk.i64_in _ (by omega)
  have hw2 : IntKind.i64.wrap c = c := IntWalk.i64_in _ (by omega)
  unfold stretch
  go_enter Try.func22, Try.ntmps22
  go_wp2
  go_ret
  exact ⟨by first | rfl | (simp only [IntWalk.i64_left]; rfl) | simp [hw1, hw2], Below.refl _ _⟩

set_option maxRecDepth 10000 in
set_option maxHeartbeats 1000000 in
theorem almanacFree_walk (ao : Option Addr) (cap : Nat) (l : List Sp) (f t k c : Int) (w : World) (hs : Sps w ao cap l) (hok : SpOk l) (f0 : -9223372036854775808 ≤ f) (f1 : f ≤ 9223372036854775807) (t0 : -9223372036854775808 ≤ t) (t1 : t ≤ 9223372036854775807)
    (k0 : -128 ≤ k) (k1 : k ≤ 127) (c0 : -128 ≤ c) (c1 : c ≤ 127) :
    Calls Try.prog 4 #[.slice ao l.length cap, .int .i64 f, .int .i64 t, .int .i8 k, .int .i8 c] w fun e w' => e = .returned (.bool true) ∧ Below w.heap.size w w' := by
  have hm := hs.max
  have hle := hs.le
  unfold maxLen at hm
  have hB0 : Below w.heap.size w ((w.alloc (.cells #[.int .i8 k] 38)).alloc (.cells #[.int .i8 c] 38)) := below_on (below_new _ _) (below_new _ _) (Nat.le_refl _)
  have hs0 := hs.below hB0
  have b1 : ((w.alloc (.cells #[.int .i8 k] 38)).alloc (.cells #[.int .i8 c] 38)).cell? ⟨w.heap.size, 0, none⟩ = some (.int .i8 k) := by
    rw [(below_new _ _).cell (by simp)]; exact cell?_new _ _ _ _ _
  have b2 : ((w.alloc (.cells #[.int .i8 k] 38)).alloc (.cells #[.int .i8 c] 38)).cell? ⟨w.heap.size + 1, 0, none⟩ = some (.int .i8 c) := by
    have := cell?_new (w.alloc (.cells #[.int .i8 k] 38)) #[.int .i8 c] 38 (0, 0) 0
    rw [World.size_alloc] at this
    exact this
  by_cases hl : 100 < l.length
  · go_enter Try.func4, Try.ntmps4
    go_wp2_with fail
    refine (lives9_any _).mono ?_
    rintro e w1 ⟨rfl, hb1⟩
    go_wp2_with fail
    go_ret
    exact ⟨rfl, below_on hB0 hb1 (Nat.le_refl _)⟩
  · have hrow := refRow_any ao cap l _ hs0
    by_cases h0 : rowErr l = 0
    · rw [h0] at hrow
      have hlost := fun (w' : World) (h1 : w'.cell? ⟨w.heap.size, 0, none⟩ = some (.int .i8 k)) (h2 : w'.cell? ⟨w.heap.size + 1, 0, none⟩ = some (.int .i8 c)) v (hv : Alm w' v l) =>
        lost_any 22 #[.pointer (some ⟨w.heap.size, 0, none⟩), .pointer (some ⟨w.heap.size + 1, 0, none⟩)] (stretch k c) (enters_of Try.func22 (by kernel_rfl) rfl) v l f t w' (by omega) hv
          (fun W x y hW => stretch_any _ _ k c x y k0 k1 c0 c1 W ((hW.cell (cell?_lt h1)).trans h1) ((hW.cell (cell?_lt h2)).trans h2))
      have hnew := fun w' (h : Sps w' ao cap l) => new_any ao cap l w' h
      have hreff := fun w' (h : Sps w' ao cap l) => refFree_any ao cap l f t w' h0 h
      have hfree := fun w' pa (h : Alm w' (.pointer pa) l) => free_any pa f t l w' h0 h
      have hrl := fun w' (h : Sps w' ao cap l) => refLost_any ao cap l f t k c w' (by omega) h
      have hrs : lostK k c (cutL l f t) 0 = sumL (stretch k c) (cutL l f t) 0 := lostK_sum k c (cutL l f t) 0
      rw [hrs] at hrl
      obtain ⟨S, hS⟩ : ∃ S, S = sumL (stretch k c) (cutL l f t) 0 := ⟨_, rfl⟩
      obtain ⟨Fr, hFr⟩ : ∃ Fr, Fr = freeL l f t := ⟨_, rfl⟩
      rw [← hS] at hlost hrl
      rw [← hFr] at hreff hfree
      have hwk : IntKind.i64.wrap k = k := IntWalk.i64_in _ (by omega)
      have hwc : IntKind.i64.wrap c = c := IntWalk.i64_in _ (by omega)
      clear hS hFr hrs
      go_enter Try.func4, Try.ntmps4
      go_wp2_with fail
      refine hrow.mono ?_
      rintro e w1 ⟨rfl, hb1⟩
      have hs1 := hs0.below hb1
      have B1 := below_on hB0 hb1 (Nat.le_refl _)
      have p1 := (hb1.cell (cell?_lt b1)).trans b1
      have p2 := (hb1.cell (cell?_lt b2)).trans b2
      go_wp2_with fail
      refine (hnew w1 hs1).mono ?_
      rintro e w2 ⟨⟨v, rfl, hv, -⟩, hb2⟩
      obtain ⟨hA, g, rfl⟩ := hv h0
      have hs2 := hs1.below hb2
      have B2 := below_on B1 hb2 (Nat.le_refl _)
      have p1 := (hb2.cell (cell?_lt p1)).trans p1
      have p2 := (hb2.cell (cell?_lt p2)).trans p2
      rw [h0]
      clear hv h0
      go_wp2_with fail
      refine (hfree w2 _ hA).mono ?_
      rintro e w3 ⟨⟨ao3, cap3, rfl, hs3⟩, hb3⟩
      have hsl := hs2.below hb3
      have hA3 := hA.below hb3
      have B3 := below_on B2 hb3 (Nat.le_refl _)
      have p1 := (hb3.cell (cell?_lt p1)).trans p1
      have p2 := (hb3.cell (cell?_lt p2)).trans p2
      go_wp2_with fail
      refine (hlost w3 p1 p2 _ hA3).mono ?_
      rintro e w4 ⟨rfl, hb4⟩
      have hsl4 := hsl.below hb4
      have hA4 := hA3.below hb4
      have hs4 := hs3.below hb4
      have B4 := below_on B3 hb4 (Nat.le_refl _)
      have p1 := (hb4.cell (cell?_lt p1)).trans p1
      have p2 := (hb4.cell (cell?_lt p2)).trans p2
      go_wp2_with fail
      refine (hreff w4 hsl4).mono ?_
      rintro e w5 ⟨⟨ao5, cap5, rfl, hs5⟩, hb5⟩
      go_wp2_with fail
      refine (same_any ao3 ao5 cap3 cap5 Fr Fr w5 (hs4.below hb5) hs5).mono ?_
      rintro e w6 ⟨rfl, hb6⟩
      have hdd : decide (Fr = Fr) = true := by simp
      rw [hdd]
      have hb46 := below_on hb5 hb6 (Nat.le_refl _)
      have hsl6 := hsl4.below hb46
      have hA6 := hA4.below hb46
      have B6 := below_on B4 hb46 (Nat.le_refl _)
      have p1 := (hb46.cell (cell?_lt p1)).trans p1
      have p2 := (hb46.cell (cell?_lt p2)).trans p2
      go_wp2_with fail
      refine (hrl w6 hsl6).mono ?_
      rintro e w7 ⟨rfl, hb7⟩
      go_wp2_with fail
      refine (lost_nil _ f t w7).mono ?_
      rintro e w8 ⟨rfl, hb8⟩
      go_wp2_with fail
      refine (lives9_any _).mono ?_
      rintro e w9 ⟨rfl, hb9⟩
      go_wp2_with fail
      go_ret
      exact ⟨rfl, below_on (below_on (below_on B6 hb7 (Nat.le_refl _)) hb8 (Nat.le_refl _)) hb9 (Nat.le_refl _)⟩
    · obtain ⟨er, her⟩ : ∃ er, er = rowErr l := ⟨_, rfl⟩
      rw [← her] at hrow h0
      have h1 : (((er : Nat) : Int) != 0) = true := by simp; omega
      clear her
      go_enter Try.func4, Try.ntmps4
      go_wp2_with fail
      refine hrow.mono ?_
      rintro e w1 ⟨rfl, hb1⟩
      go_wp2_with fail
      refine (lives9_any _).mono ?_
      rintro e w2 ⟨rfl, hb2⟩
      go_wp2_with fail
      go_ret
      exact ⟨rfl, below_on (below_on hB0 hb1 (Nat.le_refl _)) hb2 (Nat.le_refl _)⟩
end Go.Proofs.Ytdiahfebiafodaa
