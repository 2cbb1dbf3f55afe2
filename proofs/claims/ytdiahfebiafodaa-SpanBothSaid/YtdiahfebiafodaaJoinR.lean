/- The reference's Join: contract. No statement of the seat is proved here. -/
import Derived.Test.YtdiahfebiafodaaJoinL
import Derived.Test.YtdiahfebiafodaaBothR
namespace Go.Proofs.Ytdiahfebiafodaa
set_option linter.unusedVariables false
set_option linter.unusedSimpArgs false
set_option linter.unusedSectionVars false
open Go Go.RowKit Go.Shelf
open Go.Sort (grow)

/-- what the reference's Join answers -/
def RefIs (l L : List Sp) : Prop := (l.any bad = true → L = []) ∧ (l.any bad = false → ∃ e, Upto l L e ∧ ∀ s ∈ l, s.a ≤ e)
theorem ref_is {l L M : List Sp} (h : RefIs l L) (hJ : JoinIs l M) : L = M := by
  cases hb : l.any bad with
  | true => rw [h.1 hb, hJ.1 hb]
  | false =>
    obtain ⟨e, h1, h2⟩ := h.2 hb
    exact h1.all h2 hb hJ
/-- .. under way -/
def Under (l out : List Sp) (e : Int) : Prop := Upto l out e ∧ ((out = [] ∧ e = -1) ∨ ∃ o p, out = o ++ [(⟨p, e⟩ : Sp)])
/-- the first that begins behind e, among the first i -/
def Least (l : List Sp) (e : Int) (i : Nat) (at_ : Int) : Prop :=
  (at_ = -1 ∧ ∀ m (hm : m < l.length), m < i → l[m].a ≤ e) ∨ ∃ j, ∃ hj : j < l.length, at_ = (j : Int) ∧ j < i ∧ e < l[j].a ∧ ∀ m (hm : m < l.length), m < i → e < l[m].a → l[j].a ≤ l[m].a

theorem filter_less (l : List Sp) (e q : Int) (s : Sp) (hs : s ∈ l) (h1 : e < s.a) (h2 : s.a ≤ q) : (l.filter fun u => decide (q < u.a)).length + 1 ≤ (l.filter fun u => decide (e < u.a)).length := by
  have mono : ∀ l : List Sp, (l.filter fun u => decide (q < u.a)).length ≤ (l.filter fun u => decide (e < u.a)).length := by
    intro l
    induction l with
    | nil => simp
    | cons u l ih =>
      simp only [List.filter_cons]
      by_cases g : q < u.a
      · have g2 : e < u.a := by omega
        simp [g, g2]; exact ih
      · by_cases g2 : e < u.a
        · simp [g, g2]; omega
        · simp [g, g2]; exact ih
  induction l with
  | nil => cases hs
  | cons u l ih =>
    simp only [List.filter_cons]
    rcases List.mem_cons.1 hs with rfl | hs
    · have g : ¬ q < s.a := by omega
      have := mono l
      simp [g, h1]; exact this
    · have := ih hs
      by_cases g : q < u.a
      · have g2 : e < u.a := by omega
        simp [g, g2]; omega
      · by_cases g2 : e < u.a
        · simp [g, g2]; omega
        · simp [g, g2]; omega
/-- each second from x to q is some span's that begins between them -/
def Cov (l : List Sp) (x q : Int) : Prop := ∀ t, x ≤ t → t < q → ∃ u ∈ l, x ≤ u.a ∧ u.a ≤ q ∧ u.a ≤ t ∧ t < u.b
def cellI (w : World) (g : Nat) : Int := match w.cell? ⟨g, 1, none⟩ with
  | some (.int _ n) => n
  | _ => 0
def boolI (v : Value) : Int := match v with
  | .bool true => 1
  | _ => 0
set_option maxRecDepth 10000 in
set_option maxHeartbeats 4000000 in
theorem refJoin_any (ao : Option Addr) (cap : Nat) (l : List Sp) (w : World) (hl : l.length ≤ 1000) (hs : Sps w ao cap l) :
    Calls Try.prog 42 #[.slice ao l.length cap] w fun e w' => (∃ L ao' cap', e = .returned (.slice ao' L.length cap') ∧ Sps w' ao' cap' L ∧ RefIs l L) ∧ Below w.heap.size w w' := by
  go_enter Try.func42, Try.ntmps42
  go_wp2_with fail
  go_loopw [4] (fun u wr => ∃ (i : Nat), u = .int .i64 i ∧ i ≤ l.length ∧ Hid (l.any bad = (l.drop i).any bad) ∧ Below w.heap.size w wr) (fun u _ => l.length - (intOf u).toNat)
  case atStart => exact ⟨0, rfl, Nat.zero_le _, rfl, Below.refl _ _⟩
  case round =>
    obtain ⟨i, rfl, hi, hbd, hb⟩ := hrel
    by_cases hlt : i < l.length
    · obtain ⟨b, off, rfl, c0, c1⟩ := (hs.below hb).get i hlt
      have Hba := Lib.hid (any_at l i hlt)
      obtain ⟨s, hsd⟩ : ∃ s, s = l[i] := ⟨_, rfl⟩
      rw [← hsd] at c0 c1 Hba
      clear hsd
      have hrt := fun W => refRight_any s W
      rw [show bad s = !s.right from rfl] at Hba
      obtain ⟨r, hr⟩ : ∃ r, r = s.right := ⟨_, rfl⟩
      rw [← hr] at hrt Hba
      clear hr
      obtain ⟨x, y⟩ := s
      unfold spVal at hrt
      simp only at c0 c1 hrt
      go_wp2_with fail
      refine (hrt _).mono ?_
      rintro e w2 ⟨rfl, hb2⟩
      cases r with
      | false =>
        have hbt : l.any bad = true := by rw [hbd.out, Hba.out]; rfl
        go_wp2_with fail
        go_ret
        exact ⟨⟨[], none, 0, rfl, Sps.nil _, fun _ => rfl, fun h => (by rw [hbt] at h; cases h)⟩, below_on hb hb2 (Nat.le_refl _)⟩
      | true =>
        have hbd2 : Hid (l.any bad = (l.drop (i + 1)).any bad) := by show l.any bad = _; rw [hbd.out, Hba.out]; simp
        clear Hba hbd
        go_wp2_with fail
        go_roundw
        case rel => exact ⟨i + 1, by simp, by omega, hbd2, below_on hb hb2 (Nat.le_refl _)⟩
        case measure => simp [intOf]; omega
    · have hi' : i = l.length := by omega
      subst hi'
      have hbf : l.any bad = false := by rw [hbd.out, List.drop_length]; rfl
      have hr := bad_none hbf
      have hu0 : Under l [] (-1) := ⟨upto_nil l hr, .inl ⟨rfl, rfl⟩⟩
      clear hbd
      go_wp2_with fail
      go_loopw [3] (fun v wr2 => ∃ (out : List Sp) (e : Int), Under l out e ∧ out.length ≤ l.length ∧ v = v ∧ wr2.ownsRow w.heap.size 30 2 v out.length (out.map spCells).flatten ∧ Below w.heap.size w wr2 ∧ (l.filter fun s => decide (e < s.a)).length + out.length ≤ l.length ∧ v.ownBlock = v.ownBlock) (fun v _ => l.length - (match v with | .slice _ n _ => n | _ => 0))
      case atStart => exact ⟨[], -1, hu0, Nat.zero_le _, rfl, own_nil _ _ _ _, hb, by simpa using List.length_filter_le _ _, rfl⟩
      case round =>
        obtain ⟨out, e, hU, hol, -, hown, hb1, hcnt, -⟩ := hrel
        obtain ⟨oa, oc, rfl⟩ := own_slice hown
        obtain ⟨n, hn⟩ : ∃ n, n = out.length := ⟨_, rfl⟩
        rw [← hn] at hown ⊢
        have Hn := Lib.hid hn
        clear hn
        go_wp2_with fail
        go_loopw [5, 6] (fun v u wr2 => ∃ (i : Nat) (av : Int), v = .int .i64 av ∧ u = .int .i64 i ∧ i ≤ l.length ∧ Hid (Least l e i av) ∧ Below wr.heap.size wr wr2) (fun v u _ => l.length - (intOf u).toNat)
        case atStart => exact ⟨0, -1, rfl, rfl, Nat.zero_le _, .inl ⟨rfl, fun m _ h => absurd h (Nat.not_lt_zero _)⟩, Below.refl _ _⟩
        case round =>
          obtain ⟨i, av, rfl, rfl, hi, hL, hb2⟩ := hrel
          have hbw := below_on hb1 hb2 (Nat.le_refl _)
          by_cases hlt : i < l.length
          · obtain ⟨b, off, rfl, c0, -⟩ := (hs.below hbw).get i hlt
            have hx0 := (right_lt (hr _ (List.getElem_mem hlt))).2.1
            obtain ⟨x, hx⟩ : ∃ x, x = l[i].a := ⟨_, rfl⟩
            rw [← hx] at c0 hx0
            have hown2 := own_below hown hb2
            go_wp2_with fail
            go_cut [7] (fun v7 wx => v7 = .bool (decide (e < x)) ∧ Below wr.heap.size wr wx)
            case first =>
              rcases hU.2 with ⟨rfl, rfl⟩ | ⟨o, p, rfl⟩
              · obtain rfl : n = 0 := Hn.out
                refine wp_region_quiet_below (by kernel_rfl) (by kernel_rfl) (WQ.out ?_)
                refine WQ.val (by rfl) (.slice oa 0 oc) (fun _ => rfl) ?_
                simp only [Act.put, List.setIfInBounds_toArray, List.set_cons_zero, List.set_cons_succ]
                refine WQ.grown (by kernel_rfl) (.int .i64 0) (fun d os => by go_simp) ?_
                simp only [Act.put, List.setIfInBounds_toArray, List.set_cons_zero, List.set_cons_succ]
                refine WQ.val (by rfl) (.bool true) (fun _ => rfl) ?_
                simp only [Act.put, List.setIfInBounds_toArray, List.set_cons_zero, List.set_cons_succ]
                refine WQ.val (by rfl) (.bool true) (fun _ => rfl) ?_
                simp only [Act.put, List.setIfInBounds_toArray, List.set_cons_zero, List.set_cons_succ]
                refine WQ.skip (by rfl) ?_
                simp only [Act.put, List.setIfInBounds_toArray, List.set_cons_zero, List.set_cons_succ]
                refine WQ.skip (by rfl) ?_
                simp only [Act.put, List.setIfInBounds_toArray, List.set_cons_zero, List.set_cons_succ]
                refine WQ.skip (by rfl) ?_
                simp only [Act.put, List.setIfInBounds_toArray, List.set_cons_zero, List.set_cons_succ]
                refine WQ.skip (by rfl) ?_
                simp only [Act.put, List.setIfInBounds_toArray, List.set_cons_zero, List.set_cons_succ]
                refine WQ.skip (by rfl) ?_
                simp only [Act.put, List.setIfInBounds_toArray, List.set_cons_zero, List.set_cons_succ]
                refine WQ.skip (by rfl) ?_
                simp only [Act.put, List.setIfInBounds_toArray, List.set_cons_zero, List.set_cons_succ]
                refine WQ.skip (by rfl) ?_
                simp only [Act.put, List.setIfInBounds_toArray, List.set_cons_zero, List.set_cons_succ]
                refine WQ.skip (by rfl) ?_
                simp only [Act.put, List.setIfInBounds_toArray, List.set_cons_zero, List.set_cons_succ]
                refine WQ.skip (by rfl) ?_
                simp only [Act.put, List.setIfInBounds_toArray, List.set_cons_zero, List.set_cons_succ]
                refine WQ.skip (by rfl) ?_
                simp only [Act.put, List.setIfInBounds_toArray, List.set_cons_zero, List.set_cons_succ]
                refine WQ.skip (by rfl) ?_
                simp only [Act.put, List.setIfInBounds_toArray, List.set_cons_zero, List.set_cons_succ]
                refine WQ.skip (by rfl) ?_
                simp only [Act.put, List.setIfInBounds_toArray, List.set_cons_zero, List.set_cons_succ]
                refine WQ.skip (by rfl) ?_
                simp only [Act.put, List.setIfInBounds_toArray, List.set_cons_zero, List.set_cons_succ]
                refine WQ.val (by rfl) (.bool true) (fun _ => rfl) ?_
                simp only [Act.put, List.setIfInBounds_toArray, List.set_cons_zero, List.set_cons_succ]
                refine WQ.val (by rfl) (.bool true) (fun _ => rfl) ?_
                simp only [Act.put, List.setIfInBounds_toArray, List.set_cons_zero, List.set_cons_succ]
                refine WQ.nil ?_
                intro _ hw'
                obtain ⟨⟨dq, osq⟩, hw''⟩ := hw'
                subst hw''
                go_wp2_with fail
                go_meet
                exact ⟨by rw [show decide ((-1 : Int) < x) = true by simp; omega], below_regrown _ dq osq⟩
              · obtain rfl : n = o.length + 1 := by rw [Hn.out]; simp
                have hol2 : o.length + 1 ≤ l.length := by simpa using hol
                obtain ⟨g, cg, he, hg1, hg2⟩ := hown2.form (Nat.succ_pos _)
                simp only [Value.slice.injEq, true_and] at he
                obtain ⟨rfl, rfl⟩ := he
                have hd1 : wr.cell? ⟨g, o.length * 2 + 1, none⟩ = some (.int .i64 e) := by
                  rw [hown2.cellAt (o.length * 2 + 1) (by omega)]
                  have := sps_flat (o ++ [(⟨p, e⟩ : Sp)]) o.length 1 (by simp) (by decide)
                  rw [this]; simp [spCells]
                have hw1 : IntKind.i64.wrap ((o.length : Int) + 1 - 1) = (o.length : Int) := by rw [show (o.length : Int) + 1 - 1 = (o.length : Int) by omega]; exact IntWalk.i64_in _ (by omega)
                have hw2 : ((o.length : Int) + 1 == 0) = false := by simp; omega
                go_quiet (fail)
                go_wp2_with fail
                go_meet
                exact ⟨by simp [hx], ⟨rfl, rfl, rfl, by simp [World.drewN], fun k hk => rfl⟩⟩
            case rest =>
              obtain ⟨rfl, hb3⟩ := hcut
              have hbw3 := below_on hbw hb3 (Nat.le_refl _)
              have c0 := (hb3.cell (cell?_lt c0)).trans c0
              by_cases hex : e < x
              · have e1 : decide (e < x) = true := by simpa using hex
                rw [e1]
                rcases hL.out with ⟨rfl, hno⟩ | ⟨j, hj, rfl, hji, hje, hjm⟩
                · go_wp2_with fail
                  refine wp_region_quiet_below (by kernel_rfl) (by kernel_rfl) (WQ.out ?_)
                  refine WQ.val (by rfl) (.bool true) (fun _ => rfl) ?_
                  simp only [Act.put, List.setIfInBounds_toArray, List.set_cons_zero, List.set_cons_succ]
                  refine WQ.val (by rfl) (.bool true) (fun _ => rfl) ?_
                  simp only [Act.put, List.setIfInBounds_toArray, List.set_cons_zero, List.set_cons_succ]
                  refine WQ.val (by rfl) (.int .i64 (-1)) (fun _ => rfl) ?_
                  simp only [Act.put, List.setIfInBounds_toArray, List.set_cons_zero, List.set_cons_succ]
                  refine WQ.val (by rfl) (.bool true) (fun _ => rfl) ?_
                  simp only [Act.put, List.setIfInBounds_toArray, List.set_cons_zero, List.set_cons_succ]
                  refine WQ.val (by rfl) (.bool true) (fun _ => rfl) ?_
                  simp only [Act.put, List.setIfInBounds_toArray, List.set_cons_zero, List.set_cons_succ]
                  refine WQ.skip (by rfl) ?_
                  simp only [Act.put, List.setIfInBounds_toArray, List.set_cons_zero, List.set_cons_succ]
                  refine WQ.skip (by rfl) ?_
                  simp only [Act.put, List.setIfInBounds_toArray, List.set_cons_zero, List.set_cons_succ]
                  refine WQ.skip (by rfl) ?_
                  simp only [Act.put, List.setIfInBounds_toArray, List.set_cons_zero, List.set_cons_succ]
                  refine WQ.skip (by rfl) ?_
                  simp only [Act.put, List.setIfInBounds_toArray, List.set_cons_zero, List.set_cons_succ]
                  refine WQ.skip (by rfl) ?_
                  simp only [Act.put, List.setIfInBounds_toArray, List.set_cons_zero, List.set_cons_succ]
                  refine WQ.skip (by rfl) ?_
                  simp only [Act.put, List.setIfInBounds_toArray, List.set_cons_zero, List.set_cons_succ]
                  refine WQ.skip (by rfl) ?_
                  simp only [Act.put, List.setIfInBounds_toArray, List.set_cons_zero, List.set_cons_succ]
                  refine WQ.skip (by rfl) ?_
                  simp only [Act.put, List.setIfInBounds_toArray, List.set_cons_zero, List.set_cons_succ]
                  refine WQ.skip (by rfl) ?_
                  simp only [Act.put, List.setIfInBounds_toArray, List.set_cons_zero, List.set_cons_succ]
                  refine WQ.skip (by rfl) ?_
                  simp only [Act.put, List.setIfInBounds_toArray, List.set_cons_zero, List.set_cons_succ]
                  refine WQ.skip (by rfl) ?_
                  simp only [Act.put, List.setIfInBounds_toArray, List.set_cons_zero, List.set_cons_succ]
                  refine WQ.val (by rfl) (.bool true) (fun _ => rfl) ?_
                  simp only [Act.put, List.setIfInBounds_toArray, List.set_cons_zero, List.set_cons_succ]
                  refine WQ.val (by rfl) (.bool true) (fun _ => rfl) ?_
                  simp only [Act.put, List.setIfInBounds_toArray, List.set_cons_zero, List.set_cons_succ]
                  refine WQ.nil ?_
                  intro _ hw'
                  obtain ⟨⟨dq, osq⟩, hw''⟩ := hw'
                  subst hw''
                  go_wp2_with fail
                  go_roundw
                  case rel => exact ⟨i + 1, (i : Int), rfl, by simp, by omega, .inr ⟨i, hlt, rfl, by omega, by rw [← hx]; exact hex, fun m hm hmi hme => (by
                    by_cases g : m = i
                    · subst g; exact Int.le_refl _
                    · have := hno m hm (by omega); omega)⟩, below_on (below_on hb2 hb3 (Nat.le_refl _)) (below_regrown _ dq osq) (Nat.le_refl _)⟩
                  case measure => simp [intOf]; omega
                · obtain ⟨b', off', e', d0, -⟩ := (hs.below hbw3).get j hj
                  simp only [Option.some.injEq, Addr.mk.injEq] at e'
                  obtain ⟨rfl, rfl, -⟩ := e'
                  obtain ⟨z, hz⟩ : ∃ z, z = l[j].a := ⟨_, rfl⟩
                  rw [← hz] at d0 hje hjm
                  have hj0 : ¬ (j : Int) < 0 := by omega
                  have hjl : (j : Int) < (l.length : Int) := by omega
                  have hj1 : (0 : Int) ≤ (j : Int) := by omega
                  have HX := Lib.hid hx
                  have HZ := Lib.hid hz
                  clear hx hz
                  by_cases hxz : x < z
                  · go_wp2_with fail
                    go_quiet (fail)
                    go_wp2_with fail
                    go_roundw
                    case rel => exact ⟨i + 1, (i : Int), rfl, by simp, by omega, .inr ⟨i, hlt, rfl, by omega, by rw [← HX.out]; exact hex, fun m hm hmi hme => (by
                      by_cases g : m = i
                      · subst g; exact Int.le_refl _
                      · have := hjm m hm (by omega) hme
                        rw [← HX.out]; omega)⟩, below_on (below_on hb2 hb3 (Nat.le_refl _)) ⟨rfl, rfl, rfl, by simp [World.drewN], fun k hk => rfl⟩ (Nat.le_refl _)⟩
                    case measure => simp [intOf]; omega
                  · go_wp2_with fail
                    go_quiet (fail)
                    go_wp2_with fail
                    go_roundw
                    case rel => exact ⟨i + 1, (j : Int), rfl, by simp, by omega, .inr ⟨j, hj, rfl, by omega, by rw [← HZ.out]; exact hje, fun m hm hmi hme => (by
                      by_cases g : m = i
                      · subst g; rw [← HZ.out, ← HX.out]; omega
                      · rw [← HZ.out]; exact hjm m hm (by omega) hme)⟩, below_on (below_on hb2 hb3 (Nat.le_refl _)) ⟨rfl, rfl, rfl, by simp [World.drewN], fun k hk => rfl⟩ (Nat.le_refl _)⟩
                    case measure => simp [intOf]; omega
              · have e1 : decide (e < x) = false := by simpa using hex
                rw [e1]
                go_wp2_with fail
                refine wp_region_quiet_below (by kernel_rfl) (by kernel_rfl) (WQ.out ?_)
                refine WQ.val (by rfl) (.bool false) (fun _ => rfl) ?_
                simp only [Act.put, List.setIfInBounds_toArray, List.set_cons_zero, List.set_cons_succ]
                refine WQ.val (by rfl) (.bool false) (fun _ => rfl) ?_
                simp only [Act.put, List.setIfInBounds_toArray, List.set_cons_zero, List.set_cons_succ]
                refine WQ.skip (by rfl) ?_
                simp only [Act.put, List.setIfInBounds_toArray, List.set_cons_zero, List.set_cons_succ]
                refine WQ.skip (by rfl) ?_
                simp only [Act.put, List.setIfInBounds_toArray, List.set_cons_zero, List.set_cons_succ]
                refine WQ.skip (by rfl) ?_
                simp only [Act.put, List.setIfInBounds_toArray, List.set_cons_zero, List.set_cons_succ]
                refine WQ.skip (by rfl) ?_
                simp only [Act.put, List.setIfInBounds_toArray, List.set_cons_zero, List.set_cons_succ]
                refine WQ.skip (by rfl) ?_
                simp only [Act.put, List.setIfInBounds_toArray, List.set_cons_zero, List.set_cons_succ]
                refine WQ.skip (by rfl) ?_
                simp only [Act.put, List.setIfInBounds_toArray, List.set_cons_zero, List.set_cons_succ]
                refine WQ.skip (by rfl) ?_
                simp only [Act.put, List.setIfInBounds_toArray, List.set_cons_zero, List.set_cons_succ]
                refine WQ.skip (by rfl) ?_
                simp only [Act.put, List.setIfInBounds_toArray, List.set_cons_zero, List.set_cons_succ]
                refine WQ.skip (by rfl) ?_
                simp only [Act.put, List.setIfInBounds_toArray, List.set_cons_zero, List.set_cons_succ]
                refine WQ.skip (by rfl) ?_
                simp only [Act.put, List.setIfInBounds_toArray, List.set_cons_zero, List.set_cons_succ]
                refine WQ.skip (by rfl) ?_
                simp only [Act.put, List.setIfInBounds_toArray, List.set_cons_zero, List.set_cons_succ]
                refine WQ.skip (by rfl) ?_
                simp only [Act.put, List.setIfInBounds_toArray, List.set_cons_zero, List.set_cons_succ]
                refine WQ.skip (by rfl) ?_
                simp only [Act.put, List.setIfInBounds_toArray, List.set_cons_zero, List.set_cons_succ]
                refine WQ.skip (by rfl) ?_
                simp only [Act.put, List.setIfInBounds_toArray, List.set_cons_zero, List.set_cons_succ]
                refine WQ.skip (by rfl) ?_
                simp only [Act.put, List.setIfInBounds_toArray, List.set_cons_zero, List.set_cons_succ]
                refine WQ.val (by rfl) (.bool false) (fun _ => rfl) ?_
                simp only [Act.put, List.setIfInBounds_toArray, List.set_cons_zero, List.set_cons_succ]
                refine WQ.nil ?_
                intro _ hw'
                obtain ⟨⟨dq, osq⟩, hw''⟩ := hw'
                subst hw''
                go_wp2_with fail
                go_roundw
                case rel => exact ⟨i + 1, av, rfl, by simp, by omega, (by
                  rcases hL.out with ⟨h1, h2⟩ | ⟨j, hj, h1, h2, h3, h4⟩
                  · exact .inl ⟨h1, fun m hm hmi => (by
                      by_cases g : m = i
                      · subst g; omega
                      · exact h2 m hm (by omega))⟩
                  · exact .inr ⟨j, hj, h1, by omega, h3, fun m hm hmi hme => (by
                      by_cases g : m = i
                      · subst g; omega
                      · exact h4 m hm (by omega) hme)⟩), below_on (below_on hb2 hb3 (Nat.le_refl _)) (below_regrown _ dq osq) (Nat.le_refl _)⟩
                case measure => simp [intOf]; omega
          · have hi' : i = l.length := by omega
            subst hi'
            have hown2 := own_below hown hb2
            rcases hL.out with ⟨rfl, hno⟩ | ⟨j, hj, rfl, hji, hje, hjm⟩
            · go_wp2_with fail
              go_ret
              have hn := Hn.out
              refine ⟨⟨out, oa, oc, by rw [← hn]; rfl, ?_, fun h => (by rw [hbf] at h; cases h), fun _ => ⟨e, hU.1, fun s hs => ?_⟩⟩, hbw⟩
              · rw [hn] at hown2
                exact Sps.of_own hown2
              · obtain ⟨m, hm, rfl⟩ := List.getElem_of_mem hs
                exact hno m hm hm
            · have hj0 : ¬ (j : Int) < 0 := by omega
              have hjl : (j : Int) < (l.length : Int) := by omega
              have hj1 : (0 : Int) ≤ (j : Int) := by omega
              obtain ⟨b, off, rfl, c0, c1⟩ := (hs.below hbw).get j hj
              have hsr := hr _ (List.getElem_mem hj)
              have hmem := List.getElem_mem hj
              obtain ⟨s, hsd⟩ : ∃ s, s = l[j] := ⟨_, rfl⟩
              rw [← hsd] at c0 c1 hje hsr hmem
              simp only [← hsd] at hjm
              clear hsd
              obtain ⟨x, y⟩ := s
              simp only at c0 c1 hje hjm
              go_wp2_with fail
              have hs0 := hU.1
              have hsx := right_lt hsr
              simp only at hsx
              obtain ⟨g8, hg8⟩ : ∃ g8, g8 = wr.heap.size := ⟨_, rfl⟩
              have hblk0 : (wr.alloc (.cells #[.int .i64 x, .int .i64 y] 30)).heap[g8]? = some (.cells #[.int .i64 x, .int .i64 y] 30 (0, 0)) := by rw [hg8]; exact heap_new2 _ _
              have hBa : Below wr.heap.size wr (wr.alloc (.cells #[.int .i64 x, .int .i64 y] 30)) := below_new _ _
              have hcov0 : Cov l x y := fun t h1 h2 => ⟨⟨x, y⟩, hmem, Int.le_refl _, by simp only; omega, h1, h2⟩
              have hjm2 : ∀ u ∈ l, e < u.a → x ≤ u.a := fun u hu h => by
                obtain ⟨m, hm, rfl⟩ := List.getElem_of_mem hu
                exact hjm m hm hm h
              have hgo : ∀ k, (Value.slice oa n oc).ownBlock = some k → k ≠ g8 := fun k hk => by
                have := (hown2.lt k hk).2; omega
              have Hcnt := Lib.hid hcnt
              clear hL hjm hcnt
              rw [← hg8]
              have Hg8 := Lib.hid hg8
              clear hg8
              go_loopw [9] (fun v wr2 => ∃ (q : Int) (ag : Bool), v = .bool ag ∧ wr2.heap[g8]? = some (.cells #[.int .i64 x, .int .i64 q] 30 (0, 0)) ∧ y ≤ q ∧ q ≤ 1125899906842624 ∧ Cov l x q ∧ (ag = false → ∀ m (hm : m < l.length), x ≤ l[m].a → l[m].a ≤ q → l[m].b ≤ q) ∧ Below wr.heap.size wr wr2)
                (fun v wr2 => ((1125899906842624 - cellI wr2 g8) * 2 + boolI v).toNat)
              case atStart => exact ⟨y, true, rfl, hblk0, Int.le_refl _, hsx.2.2, hcov0, fun h => (by cases h), hBa⟩
              case round =>
                obtain ⟨q, ag, rfl, hblk, hyq, hqH, hcov, hcl, hb3⟩ := hrel
                have hci : cellI wr g8 = q := by unfold cellI; rw [block_cell hblk 1]; rfl
                cases ag with
                | false =>
                  have hownW := own_below hown2 hb3
                  have hBW := below_on hbw hb3 (Nat.le_refl _)
                  have hzW := hBW.size
                  have q0 := block_cell hblk 0
                  have q1 := block_cell hblk 1
                  simp at q0 q1
                  have hn := Hn.out
                  have hfl := filter_less l e q ⟨x, y⟩ hmem hje (by simp only; omega)
                  have hcn := Hcnt.out
                  have hstep := hs0.step (s := ⟨x, q⟩) (right_of (by simp only; omega) hsx.2.1 hqH) hje hjm2 (fun u hu h1 h2 => (by
                    obtain ⟨m, hm, rfl⟩ := List.getElem_of_mem hu
                    exact hcl rfl m hm h1 h2)) hcov
                  have Hst := Lib.hid hstep
                  have HN := Lib.hid hn
                  rw [hn] at hownW
                  have hno : n ≤ 1000 := by omega
                  clear hstep hcov hcl hcov0 hjm2
                  go_wp2_with (at_builtin; refine wpl_append_one rfl (.tmp 114) (.tmp 116) 22 rfl w.heap.size 30 infoSp Try.underlying22 rfl (by decide) (.slice oa n oc) out.length (out.map spCells) rfl ?_ _ 1 (spCells ⟨x, q⟩) rfl rfl (news_at _ rfl) (sp_one _) ?_ ?_ ?_ ?_; (rw [hn]; exact hownW.alloc _); omega; (unfold maxLen; omega); (simp; omega); intro g4 c4 w5 hown5 hg5 hlie; have hc5 := (below_app (hBW.alloc hzW _) hg5 (by rw [hn]; exact hownW.alloc _) (Nat.le_refl _) (by simp; omega)))
                  go_roundw
                  case rel =>
                    refine ⟨out ++ [(⟨x, q⟩ : Sp)], q, ⟨Hst.out, .inr ⟨out, x, rfl⟩⟩, by simp; omega, trivial, by simpa using hown5, hc5, by simp; omega, trivial⟩
                  case measure => simp; omega
                | true =>
                  have hg9 := Nat.le_of_lt (Array.getElem?_eq_some_iff.1 hblk).1
                  have hwg : w.heap.size ≤ g8 := by have := hbw.size; have := Hg8.out; omega
                  go_wp2_with fail
                  go_loopw [9, 10] (fun v u wr3 => ∃ (i : Nat) (q2 : Int) (ag2 : Bool), v = .bool ag2 ∧ u = .int .i64 i ∧ i ≤ l.length ∧ wr3.heap[g8]? = some (.cells #[.int .i64 x, .int .i64 q2] 30 (0, 0)) ∧ q ≤ q2 ∧ q2 ≤ 1125899906842624 ∧ Cov l x q2 ∧
                      (ag2 = false → q2 = q ∧ ∀ m (hm : m < l.length), m < i → x ≤ l[m].a → l[m].a ≤ q → l[m].b ≤ q) ∧ (ag2 = true → q < q2) ∧ Below g8 wr wr3) (fun v u _ => l.length - (intOf u).toNat)
                  case atStart => exact ⟨0, q, false, rfl, rfl, Nat.zero_le _, hblk, Int.le_refl _, hqH, hcov, fun _ => ⟨rfl, fun m _ h => absurd h (Nat.not_lt_zero _)⟩, fun h => (by cases h), Below.refl _ _⟩
                  case round =>
                    obtain ⟨i, q2, ag2, rfl, rfl, hi, hblk, z1, z2, hcov, z3, z4, hb4⟩ := hrel
                    have hBW4 := (below_on hbw hb3 (Nat.le_refl _)).trans (hb4.mono hwg)
                    have kx := block_cell hblk 0
                    have kq := block_cell hblk 1
                    have kf := block_free hblk 1
                    simp at kx kq
                    by_cases hlt : i < l.length
                    · obtain ⟨b', off', e', c0, c1⟩ := (hs.below hBW4).get i hlt
                      simp only [Option.some.injEq, Addr.mk.injEq] at e'
                      obtain ⟨rfl, rfl, -⟩ := e'
                      have hmu := List.getElem_mem hlt
                      have hui := hr _ (List.getElem_mem hlt)
                      obtain ⟨ua, hua⟩ : ∃ z, z = l[i].a := ⟨_, rfl⟩
                      obtain ⟨ub, hub⟩ : ∃ z, z = l[i].b := ⟨_, rfl⟩
                      have hur := right_lt hui
                      rw [← hua, ← hub] at hur
                      rw [← hua] at c0
                      rw [← hub] at c1
                      have HA := Lib.hid hua
                      have HB := Lib.hid hub
                      have HU : Hid (∃ u ∈ l, u.a = ua ∧ u.b = ub) := ⟨_, hmu, hua.symm, hub.symm⟩
                      clear hua hub hmu hui
                      have r0 := cell_regrown c0
                      have r1 := cell_regrown c1
                      have rx := cell_regrown kx
                      have rq := cell_regrown kq
                      by_cases hxa : x ≤ ua
                      · by_cases haq : ua ≤ q2
                        · by_cases hbq : q2 < ub
                          · go_wp2_with fail
                            go_quiet (fail)
                            go_wp2_with fail
                            go_roundw
                            case rel =>
                              refine ⟨i + 1, ub, true, rfl, by simp, by omega, ?_, by omega, hur.2.2, ?_, fun h => (by cases h), fun _ => by omega, ?_⟩
                              · have := block_set (w := wr.drewN nq) hblk 1 (.int .i64 ub)
                                rw [this]; rfl
                              · intro t h1 h2
                                by_cases g : t < q2
                                · obtain ⟨u, hu, a1, a2, a3, a4⟩ := hcov t h1 g
                                  exact ⟨u, hu, a1, by omega, a3, a4⟩
                                · obtain ⟨u, hu, a1, a2⟩ := HU.out
                                  exact ⟨u, hu, by omega, by omega, by omega, by omega⟩
                              · have hbx := below_on hb4 (w2 := wr.drewN nq) ⟨rfl, rfl, rfl, by simp [World.drewN], fun k hk => rfl⟩ hg9
                                exact hbx.setCell (p := ⟨g8, 1, none⟩) (Nat.le_refl _) _
                            case measure => simp [intOf]; omega
                          · go_wp2_with fail
                            go_quiet (fail)
                            go_wp2_with fail
                            go_roundw
                            case rel =>
                              refine ⟨i + 1, q2, ag2, rfl, by simp, by omega, hblk, z1, z2, hcov, fun h => ⟨(z3 h).1, fun m hm hmi h1 h2 => ?_⟩, z4, below_on hb4 ⟨rfl, rfl, rfl, by simp [World.drewN], fun k hk => rfl⟩ hg9⟩
                              by_cases g : m = i
                              · subst g
                                have k1 := HA.out
                                have k3 := HB.out
                                have k2 := (z3 h).1
                                omega
                              · exact (z3 h).2 m hm (by omega) h1 h2
                            case measure => simp [intOf]; omega
                        · go_wp2_with fail
                          refine wp_region_quiet_below (by kernel_rfl) (by kernel_rfl) (WQ.out ?_)
                          refine WQ.val (by rfl) (.slice (some ⟨b, off, none⟩) l.length cap) (fun _ => rfl) ?_
                          simp only [Act.put, List.setIfInBounds_toArray, List.set_cons_zero, List.set_cons_succ]
                          refine WQ.val (by rfl) (.int .i64 (i : Nat)) (fun _ => rfl) ?_
                          simp only [Act.put, List.setIfInBounds_toArray, List.set_cons_zero, List.set_cons_succ]
                          refine WQ.grown (by kernel_rfl) (.pointer (some ⟨b, off + i * 2, none⟩)) (fun d os => by go_simp) ?_
                          simp only [Act.put, List.setIfInBounds_toArray, List.set_cons_zero, List.set_cons_succ]
                          refine WQ.grown (by kernel_rfl) (.pointer (some ⟨b, off + i * 2, none⟩)) (fun d os => by go_simp) ?_
                          simp only [Act.put, List.setIfInBounds_toArray, List.set_cons_zero, List.set_cons_succ]
                          refine WQ.grown (by kernel_rfl) (.int .i64 ua) (fun d os => by go_simp) ?_
                          simp only [Act.put, List.setIfInBounds_toArray, List.set_cons_zero, List.set_cons_succ]
                          refine WQ.grown (by kernel_rfl) (.pointer (some ⟨g8, 0, none⟩)) (fun d os => by go_simp) ?_
                          simp only [Act.put, List.setIfInBounds_toArray, List.set_cons_zero, List.set_cons_succ]
                          refine WQ.grown (by kernel_rfl) (.int .i64 x) (fun d os => by go_simp) ?_
                          simp only [Act.put, List.setIfInBounds_toArray, List.set_cons_zero, List.set_cons_succ]
                          refine WQ.grown (by kernel_rfl) (.bool true) (fun d os => by go_simp) ?_
                          simp only [Act.put, List.setIfInBounds_toArray, List.set_cons_zero, List.set_cons_succ]
                          refine WQ.val (by rfl) (.bool true) (fun _ => rfl) ?_
                          simp only [Act.put, List.setIfInBounds_toArray, List.set_cons_zero, List.set_cons_succ]
                          refine WQ.val (by rfl) (.slice (some ⟨b, off, none⟩) l.length cap) (fun _ => rfl) ?_
                          simp only [Act.put, List.setIfInBounds_toArray, List.set_cons_zero, List.set_cons_succ]
                          refine WQ.val (by rfl) (.int .i64 (i : Nat)) (fun _ => rfl) ?_
                          simp only [Act.put, List.setIfInBounds_toArray, List.set_cons_zero, List.set_cons_succ]
                          refine WQ.grown (by kernel_rfl) (.pointer (some ⟨b, off + i * 2, none⟩)) (fun d os => by go_simp) ?_
                          simp only [Act.put, List.setIfInBounds_toArray, List.set_cons_zero, List.set_cons_succ]
                          refine WQ.grown (by kernel_rfl) (.pointer (some ⟨b, off + i * 2, none⟩)) (fun d os => by go_simp) ?_
                          simp only [Act.put, List.setIfInBounds_toArray, List.set_cons_zero, List.set_cons_succ]
                          refine WQ.grown (by kernel_rfl) (.int .i64 ua) (fun d os => by go_simp) ?_
                          simp only [Act.put, List.setIfInBounds_toArray, List.set_cons_zero, List.set_cons_succ]
                          refine WQ.grown (by kernel_rfl) (.pointer (some ⟨g8, 1, none⟩)) (fun d os => by go_simp) ?_
                          simp only [Act.put, List.setIfInBounds_toArray, List.set_cons_zero, List.set_cons_succ]
                          refine WQ.grown (by kernel_rfl) (.int .i64 q2) (fun d os => by go_simp) ?_
                          simp only [Act.put, List.setIfInBounds_toArray, List.set_cons_zero, List.set_cons_succ]
                          refine WQ.grown (by kernel_rfl) (.bool false) (fun d os => by go_simp) ?_
                          simp only [Act.put, List.setIfInBounds_toArray, List.set_cons_zero, List.set_cons_succ]
                          refine WQ.val (by rfl) (.bool false) (fun _ => rfl) ?_
                          simp only [Act.put, List.setIfInBounds_toArray, List.set_cons_zero, List.set_cons_succ]
                          refine WQ.val (by rfl) (.bool false) (fun _ => rfl) ?_
                          simp only [Act.put, List.setIfInBounds_toArray, List.set_cons_zero, List.set_cons_succ]
                          refine WQ.skip (by rfl) ?_
                          simp only [Act.put, List.setIfInBounds_toArray, List.set_cons_zero, List.set_cons_succ]
                          refine WQ.skip (by rfl) ?_
                          simp only [Act.put, List.setIfInBounds_toArray, List.set_cons_zero, List.set_cons_succ]
                          refine WQ.skip (by rfl) ?_
                          simp only [Act.put, List.setIfInBounds_toArray, List.set_cons_zero, List.set_cons_succ]
                          refine WQ.skip (by rfl) ?_
                          simp only [Act.put, List.setIfInBounds_toArray, List.set_cons_zero, List.set_cons_succ]
                          refine WQ.skip (by rfl) ?_
                          simp only [Act.put, List.setIfInBounds_toArray, List.set_cons_zero, List.set_cons_succ]
                          refine WQ.skip (by rfl) ?_
                          simp only [Act.put, List.setIfInBounds_toArray, List.set_cons_zero, List.set_cons_succ]
                          refine WQ.skip (by rfl) ?_
                          simp only [Act.put, List.setIfInBounds_toArray, List.set_cons_zero, List.set_cons_succ]
                          refine WQ.skip (by rfl) ?_
                          simp only [Act.put, List.setIfInBounds_toArray, List.set_cons_zero, List.set_cons_succ]
                          refine WQ.val (by rfl) (.bool false) (fun _ => rfl) ?_
                          simp only [Act.put, List.setIfInBounds_toArray, List.set_cons_zero, List.set_cons_succ]
                          refine WQ.nil ?_
                          intro _ hw'
                          obtain ⟨⟨dq, osq⟩, hw''⟩ := hw'
                          subst hw''
                          go_wp2_with fail
                          go_roundw
                          case rel =>
                            refine ⟨i + 1, q2, ag2, rfl, by simp, by omega, ((below_regrown _ dq osq).block _ (Array.getElem?_eq_some_iff.1 hblk).1).trans hblk, z1, z2, hcov, fun h => ⟨(z3 h).1, fun m hm hmi h1 h2 => ?_⟩, z4, below_on hb4 (below_regrown _ dq osq) hg9⟩
                            by_cases g : m = i
                            · subst g
                              have k1 := HA.out
                              have k2 := (z3 h).1
                              omega
                            · exact (z3 h).2 m hm (by omega) h1 h2
                          case measure => simp [intOf]; omega
                      · go_wp2_with fail
                        refine wp_region_quiet_below (by kernel_rfl) (by kernel_rfl) (WQ.out ?_)
                        refine WQ.val (by rfl) (.slice (some ⟨b, off, none⟩) l.length cap) (fun _ => rfl) ?_
                        simp only [Act.put, List.setIfInBounds_toArray, List.set_cons_zero, List.set_cons_succ]
                        refine WQ.val (by rfl) (.int .i64 (i : Nat)) (fun _ => rfl) ?_
                        simp only [Act.put, List.setIfInBounds_toArray, List.set_cons_zero, List.set_cons_succ]
                        refine WQ.grown (by kernel_rfl) (.pointer (some ⟨b, off + i * 2, none⟩)) (fun d os => by go_simp) ?_
                        simp only [Act.put, List.setIfInBounds_toArray, List.set_cons_zero, List.set_cons_succ]
                        refine WQ.grown (by kernel_rfl) (.pointer (some ⟨b, off + i * 2, none⟩)) (fun d os => by go_simp) ?_
                        simp only [Act.put, List.setIfInBounds_toArray, List.set_cons_zero, List.set_cons_succ]
                        refine WQ.grown (by kernel_rfl) (.int .i64 ua) (fun d os => by go_simp) ?_
                        simp only [Act.put, List.setIfInBounds_toArray, List.set_cons_zero, List.set_cons_succ]
                        refine WQ.grown (by kernel_rfl) (.pointer (some ⟨g8, 0, none⟩)) (fun d os => by go_simp) ?_
                        simp only [Act.put, List.setIfInBounds_toArray, List.set_cons_zero, List.set_cons_succ]
                        refine WQ.grown (by kernel_rfl) (.int .i64 x) (fun d os => by go_simp) ?_
                        simp only [Act.put, List.setIfInBounds_toArray, List.set_cons_zero, List.set_cons_succ]
                        refine WQ.grown (by kernel_rfl) (.bool false) (fun d os => by go_simp) ?_
                        simp only [Act.put, List.setIfInBounds_toArray, List.set_cons_zero, List.set_cons_succ]
                        refine WQ.val (by rfl) (.bool false) (fun _ => rfl) ?_
                        simp only [Act.put, List.setIfInBounds_toArray, List.set_cons_zero, List.set_cons_succ]
                        refine WQ.skip (by rfl) ?_
                        simp only [Act.put, List.setIfInBounds_toArray, List.set_cons_zero, List.set_cons_succ]
                        refine WQ.skip (by rfl) ?_
                        simp only [Act.put, List.setIfInBounds_toArray, List.set_cons_zero, List.set_cons_succ]
                        refine WQ.skip (by rfl) ?_
                        simp only [Act.put, List.setIfInBounds_toArray, List.set_cons_zero, List.set_cons_succ]
                        refine WQ.skip (by rfl) ?_
                        simp only [Act.put, List.setIfInBounds_toArray, List.set_cons_zero, List.set_cons_succ]
                        refine WQ.skip (by rfl) ?_
                        simp only [Act.put, List.setIfInBounds_toArray, List.set_cons_zero, List.set_cons_succ]
                        refine WQ.skip (by rfl) ?_
                        simp only [Act.put, List.setIfInBounds_toArray, List.set_cons_zero, List.set_cons_succ]
                        refine WQ.skip (by rfl) ?_
                        simp only [Act.put, List.setIfInBounds_toArray, List.set_cons_zero, List.set_cons_succ]
                        refine WQ.skip (by rfl) ?_
                        simp only [Act.put, List.setIfInBounds_toArray, List.set_cons_zero, List.set_cons_succ]
                        refine WQ.val (by rfl) (.bool false) (fun _ => rfl) ?_
                        simp only [Act.put, List.setIfInBounds_toArray, List.set_cons_zero, List.set_cons_succ]
                        refine WQ.val (by rfl) (.bool false) (fun _ => rfl) ?_
                        simp only [Act.put, List.setIfInBounds_toArray, List.set_cons_zero, List.set_cons_succ]
                        refine WQ.skip (by rfl) ?_
                        simp only [Act.put, List.setIfInBounds_toArray, List.set_cons_zero, List.set_cons_succ]
                        refine WQ.skip (by rfl) ?_
                        simp only [Act.put, List.setIfInBounds_toArray, List.set_cons_zero, List.set_cons_succ]
                        refine WQ.skip (by rfl) ?_
                        simp only [Act.put, List.setIfInBounds_toArray, List.set_cons_zero, List.set_cons_succ]
                        refine WQ.skip (by rfl) ?_
                        simp only [Act.put, List.setIfInBounds_toArray, List.set_cons_zero, List.set_cons_succ]
                        refine WQ.skip (by rfl) ?_
                        simp only [Act.put, List.setIfInBounds_toArray, List.set_cons_zero, List.set_cons_succ]
                        refine WQ.skip (by rfl) ?_
                        simp only [Act.put, List.setIfInBounds_toArray, List.set_cons_zero, List.set_cons_succ]
                        refine WQ.skip (by rfl) ?_
                        simp only [Act.put, List.setIfInBounds_toArray, List.set_cons_zero, List.set_cons_succ]
                        refine WQ.skip (by rfl) ?_
                        simp only [Act.put, List.setIfInBounds_toArray, List.set_cons_zero, List.set_cons_succ]
                        refine WQ.val (by rfl) (.bool false) (fun _ => rfl) ?_
                        simp only [Act.put, List.setIfInBounds_toArray, List.set_cons_zero, List.set_cons_succ]
                        refine WQ.nil ?_
                        intro _ hw'
                        obtain ⟨⟨dq, osq⟩, hw''⟩ := hw'
                        subst hw''
                        go_wp2_with fail
                        go_roundw
                        case rel =>
                          refine ⟨i + 1, q2, ag2, rfl, by simp, by omega, ((below_regrown _ dq osq).block _ (Array.getElem?_eq_some_iff.1 hblk).1).trans hblk, z1, z2, hcov, fun h => ⟨(z3 h).1, fun m hm hmi h1 h2 => ?_⟩, z4, below_on hb4 (below_regrown _ dq osq) hg9⟩
                          by_cases g : m = i
                          · subst g
                            have k1 := HA.out
                            have k2 := (z3 h).1
                            omega
                          · exact (z3 h).2 m hm (by omega) h1 h2
                        case measure => simp [intOf]; omega
                    · have hi' : i = l.length := by omega
                      subst hi'
                      have hci2 : cellI wr g8 = q2 := by unfold cellI; rw [kq]
                      go_wp2_with fail
                      go_roundw
                      case rel =>
                        refine ⟨q2, ag2, rfl, hblk, by omega, z2, hcov, fun h m hm h1 h2 => ?_, ?_⟩
                        · obtain ⟨k1, k2⟩ := z3 h
                          subst k1
                          exact k2 m hm hm h1 h2
                        · exact hb3.trans (hb4.mono (Nat.le_of_eq Hg8.out.symm))
                      case measure =>
                        rw [hci2]
                        cases ag2 with
                        | true => have := z4 rfl; simp [boolI]; omega
                        | false => have := (z3 rfl).1; simp [boolI]; omega
end Go.Proofs.Ytdiahfebiafodaa
