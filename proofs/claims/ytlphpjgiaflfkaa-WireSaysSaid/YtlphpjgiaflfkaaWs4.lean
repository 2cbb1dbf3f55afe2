/- Lemmas for WireSays (Sm Qv Sh Sd Sw). No statement of the seat is proved here. -/
import Derived.Maps.OwnIn
import Derived.Deep.RegionLaw
import Derived.Deep.DeepCutAuto
import Derived.RegionTactic
import Derived.ChangeAlike
import Derived.Lib.AppendStr
import Derived.Scope
import Derived.Test.YtlphpjgiaflfkaaWs1
import Derived.Test.YtlphpjgiaflfkaaWs3
namespace Go.Proofs.Ytlphpjgiaflfkaa
set_option linter.unusedVariables false
set_option linter.unusedSimpArgs false
set_option linter.unusedSectionVars false
open Go Go.RowKit Go.Shelf
set_option maxRecDepth 100000 in
set_option maxHeartbeats 1000000 in
theorem bytesEqual_any (ao1 ao2 : Option Addr) (c1 c2 : Nat) (d1 d2 : List UInt8) (w : World) (h1 : Bs w ao1 c1 d1) (h2 : Bs w ao2 c2 d2) :
    Calls Try.prog 65 #[.slice ao1 d1.length c1, .slice ao2 d2.length c2] w fun e w' => e = .returned (.bool (d1 == d2)) ∧ w = w' := by
  have cv1 := conv_any h1
  have cv2 := conv_any h2
  go_enter Try.func65, Try.ntmps65
  go_wp2_with fail
  go_ret
  exact ⟨ret_bool (by simp), rfl⟩
set_option maxRecDepth 100000 in
set_option maxHeartbeats 2000000 in
theorem sameOne_any (x1 x2 y1 y2 : Int) (xa ya : Option Addr) (xc yc : Nat) (xd yd : List UInt8) (w : World) (h1 : Bs w xa xc xd) (h2 : Bs w ya yc yd) :
    Calls Try.prog 64 #[.agg #[.int .u64 x1, .int .i64 x2, .slice xa xd.length xc], .agg #[.int .u64 y1, .int .i64 y2, .slice ya yd.length yc]] w fun e w' => e = .returned (.bool (decide ((⟨x1, x2, xd⟩ : En) = ⟨y1, y2, yd⟩))) ∧ Below w.heap.size w w' := by
  obtain ⟨c, hc⟩ : ∃ c, c = decide ((⟨x1, x2, xd⟩ : En) = ⟨y1, y2, yd⟩) := ⟨_, rfl⟩
  rw [← hc]
  have Hc := Lib.hid hc
  clear hc
  have heq := fun W hW1 hW2 => bytesEqual_any xa ya xc yc xd yd W hW1 hW2
  have hB2 : Below w.heap.size w ((w.alloc (.cells #[.int .u64 x1, .int .i64 x2, .slice xa xd.length xc] 38)).alloc (.cells #[.int .u64 y1, .int .i64 y2, .slice ya yd.length yc] 38)) := (below_new w _).alloc (by simp) _
  have g1 := h1.below hB2
  have g2 := h2.below hB2
  by_cases e1 : x1 = y1
  · have e1b : (x1 == y1) = true := by simp [e1]
    by_cases e2 : x2 = y2
    · have e2b : (x2 == y2) = true := by simp [e2]
      have Hcc : Hid (c = (xd == yd)) := by
        show _ = _
        rw [Hc.out, e1, e2]
        by_cases e3 : xd = yd <;> simp [e3]
      have Heq := Lib.hid (heq _ g1 g2)
      clear e1 e2 heq
      go_enter Try.func64, Try.ntmps64
      go_wp2_with fail
      refine Heq.out.mono ?_
      rintro e w2 ⟨rfl, rfl⟩
      go_wp2_with fail
      go_ret
      exact ⟨by rw [Hcc.out]; rfl, hB2⟩
    · have e2b : (x2 == y2) = false := by simp [e2]
      have Hcc : Hid (c = false) := by
        show _ = _
        rw [Hc.out]
        simp [e2]
      clear e1 e2 heq
      go_enter Try.func64, Try.ntmps64
      go_wp2_with fail
      go_ret
      exact ⟨by rw [Hcc.out]; rfl, hB2⟩
  · have e1b : (x1 == y1) = false := by simp [e1]
    have Hcc : Hid (c = false) := by
      show _ = _
      rw [Hc.out]
      simp [e1]
    clear e1 heq
    go_enter Try.func64, Try.ntmps64
    go_wp2_with fail
    go_ret
    exact ⟨by rw [Hcc.out]; rfl, hB2⟩
set_option maxRecDepth 100000 in
set_option maxHeartbeats 4000000 in
theorem equalFunc_any (ao1 ao2 : Option Addr) (c1 c2 : Nat) (l1 l2 : List Ep) (w : World) (h1 : Ens w ao1 c1 l1) (h2 : Ens w ao2 c2 l2) (hl1 : l1.length ≤ 1000000) (hl2 : l2.length ≤ 1000000) :
    Calls Try.prog 63 #[.slice ao1 l1.length c1, .slice ao2 l2.length c2, .func (.func 64) #[] #[]] w fun e w' => e = .returned (.bool (decide (l1.map Ep.e = l2.map Ep.e))) ∧ Below w.heap.size w w' := by
  obtain ⟨c, hc⟩ : ∃ c, c = decide (l1.map Ep.e = l2.map Ep.e) := ⟨_, rfl⟩
  rw [← hc]
  have Hc := Lib.hid hc
  clear hc
  by_cases hlen : l1.length = l2.length
  · have hlb : ((l1.length : Int) != (l2.length : Int)) = false := by simp [hlen]
    have Hlen := Lib.hid hlen
    clear hlen
    go_enter Try.func63, Try.ntmps63
    go_wp2_with fail
    go_loopw [17] (fun u wr => ∃ i : Nat, u = .int .i64 (i : Nat) ∧ i ≤ l1.length ∧ Hid ((l1.map Ep.e).take i = (l2.map Ep.e).take i) ∧ Below w.heap.size w wr) (fun u _ => l1.length - (intOf u).toNat)
    case atStart => exact ⟨0, rfl, Nat.zero_le _, Lib.hid (by simp), Below.refl _ _⟩
    case round =>
      obtain ⟨i, rfl, hi, Hinv, hB⟩ := hrel
      by_cases hlt : i < l1.length
      · have hlt2 : i < l2.length := by have := Hlen.out; omega
        have g1 := h1.below hB
        have g2 := h2.below hB
        obtain ⟨b1, o1, rfl, p0, p1, p2⟩ := g1.get i hlt
        obtain ⟨b2, o2, rfl, q0, q1, q2⟩ := g2.get i hlt2
        have hd1 := g1.data _ (List.getElem_mem hlt)
        have hd2 := g2.data _ (List.getElem_mem hlt2)
        have hne : l1[i].e ≠ l2[i].e → c = false := fun h => by
          rw [Hc.out]
          simp only [decide_eq_false_iff_not]
          intro he
          apply h
          have e3 : (l1.map Ep.e)[i]'(by simpa using hlt) = (l2.map Ep.e)[i]'(by simpa using hlt2) := by simp only [he]
          simpa using e3
        have heq : l1[i].e = l2[i].e → (l1.map Ep.e).take (i + 1) = (l2.map Ep.e).take (i + 1) := fun h => take_next (by simpa using hlt) (by simpa using hlt2) Hinv.out (by simpa using h)
        obtain ⟨x, hx⟩ : ∃ x, x = l1[i] := ⟨_, rfl⟩
        obtain ⟨y, hy⟩ : ∃ y, y = l2[i] := ⟨_, rfl⟩
        rw [← hx] at p0 p1 p2 hd1 hne heq
        rw [← hy] at q0 q1 q2 hd2 hne heq
        clear hx hy
        obtain ⟨⟨x1, x2, xd⟩, xa, xc⟩ := x
        obtain ⟨⟨y1, y2, yd⟩, ya, yc⟩ := y
        simp only at p0 p1 p2 q0 q1 q2 hd1 hd2 hne heq
        have i0 : (0 : Int) ≤ (i : Int) := by omega
        have i1 : (i : Int) < (l1.length : Int) := by omega
        have i2 : (i : Int) < (l2.length : Int) := by omega
        have hz := hB.size
        have hB2 : Below wr.heap.size wr ((wr.alloc (.cells #[.int .u64 x1, .int .i64 x2, .slice xa xd.length xc] 38)).alloc (.cells #[.int .u64 y1, .int .i64 y2, .slice ya yd.length yc] 38)) := (below_new wr _).alloc (by simp) _
        have hba := below_new wr (.cells #[.int .u64 x1, .int .i64 x2, .slice xa xd.length xc] 38)
        have q0 := (hba.cell (p := ⟨b2, o2 + i * 3, none⟩) (cell?_lt q0)).trans q0
        have q1 := (hba.cell (p := ⟨b2, o2 + i * 3 + 1, none⟩) (cell?_lt q1)).trans q1
        have q2 := (hba.cell (p := ⟨b2, o2 + i * 3 + 2, none⟩) (cell?_lt q2)).trans q2
        have hsm := sameOne_any x1 x2 y1 y2 xa ya xc yc xd yd _ (hd1.below hB2) (hd2.below hB2)
        have hBB := below_on hB hB2 (Nat.le_refl _)
        by_cases he : (⟨x1, x2, xd⟩ : En) = ⟨y1, y2, yd⟩
        · have Hgo := Lib.hid (heq he)
          rw [decide_eq_true he] at hsm
          have Hsm := Lib.hid hsm
          clear hsm he hne heq hd1 hd2 g1 g2 hB2
          go_wp2_with fail
          refine Hsm.out.mono ?_
          rintro e w2 ⟨rfl, hB3⟩
          go_wp2_with fail
          go_roundw
          case rel => exact ⟨i + 1, by simp, by omega, Hgo, below_on hBB hB3 (Nat.le_refl _)⟩
          case measure => simp [intOf]; omega
        · have Hgo := Lib.hid (hne he)
          rw [decide_eq_false he] at hsm
          have Hsm := Lib.hid hsm
          clear hsm he hne heq hd1 hd2 g1 g2 hB2
          go_wp2_with fail
          refine Hsm.out.mono ?_
          rintro e w2 ⟨rfl, hB3⟩
          go_wp2_with fail
          go_ret
          exact ⟨by rw [Hgo.out]; rfl, below_on hBB hB3 (Nat.le_refl _)⟩
      · have hii : i = l1.length := by omega
        subst hii
        have hfin : Hid (c = true) := by
          show _ = _
          rw [Hc.out, decide_eq_true_eq]
          have h3 := Hinv.out
          rw [List.take_of_length_le (by simp), List.take_of_length_le (by rw [Hlen.out]; simp)] at h3
          exact h3
        go_wp2_with fail
        go_ret
        exact ⟨by rw [hfin.out]; rfl, hB⟩
  · have hlb : ((l1.length : Int) != (l2.length : Int)) = true := by simp; omega
    have hfin : Hid (c = false) := by
      show _ = _
      rw [Hc.out]
      simp only [decide_eq_false_iff_not]
      intro h3
      exact hlen (by simpa using congrArg List.length h3)
    clear hlen
    go_enter Try.func63, Try.ntmps63
    go_wp2_with fail
    go_ret
    exact ⟨by rw [hfin.out]; rfl, Below.refl _ _⟩
set_option maxRecDepth 100000 in
set_option maxHeartbeats 4000000 in
theorem segSame_any (ao1 ao2 : Option Addr) (c1 c2 : Nat) (l1 l2 : List Ep) (w : World) (h1 : Ens w ao1 c1 l1) (h2 : Ens w ao2 c2 l2) (hl1 : l1.length ≤ 1000000) (hl2 : l2.length ≤ 1000000) :
    Calls Try.prog 30 #[.slice ao1 l1.length c1, .slice ao2 l2.length c2] w fun e w' => e = .returned (.bool (decide (l1.map Ep.e = l2.map Ep.e))) ∧ Below w.heap.size w w' := by
  have H := Lib.hid (equalFunc_any ao1 ao2 c1 c2 l1 l2 w h1 h2 hl1 hl2)
  go_enter Try.func30, Try.ntmps30
  go_wp2_with fail
  refine H.out.mono ?_
  rintro e w1 ⟨rfl, hB⟩
  go_wp2_with fail
  go_ret
  exact ⟨rfl, hB⟩
end Go.Proofs.Ytlphpjgiaflfkaa
namespace Go.Proofs.Ytlphpjgiaflfkaa
set_option linter.unusedVariables false
set_option linter.unusedSimpArgs false
set_option linter.unusedSectionVars false
open Go Go.RowKit Go.Shelf
theorem Us.lit {w : World} (xs : List Nat) (cs : Array Value) (T : TypeId) (hcs : cs.toList = xs.map fun n : Nat => Value.int .u64 (n : Int)) (hm : xs.length ≤ 1000) :
    Us (w.alloc (.cells cs T)) (some ⟨w.heap.size, 0, .none⟩) xs.length xs :=
  ⟨by simp, by omega, by unfold maxLen; omega, by simp, fun j u hu => ⟨_, 0, rfl, by
    rw [cell?_new, Nat.zero_add, ← Array.getElem?_toList, hcs]; exact hu⟩⟩
theorem infoUB1 : (Try.prog.info? 5).map (fun i => (i.zero, i.size, i.bytes)) = some (some (.int .u8 0), 1, 1) := by kernel_rfl
set_option maxRecDepth 100000 in
set_option maxHeartbeats 1000000 in
theorem wraw_any {W : World} {base p : Nat} {v : Value} {l d : List UInt8} {g cd : Nat} (h : Wr W base p v l) (hd : Bs W (some ⟨g, 0, none⟩) cd d) (hl : l.length + d.length ≤ 1099511627776) :
    Calls Try.prog 96 #[.pointer (some ⟨p, 0, none⟩), .slice (some ⟨g, 0, none⟩) d.length cd] W (Wrote base p v (l ++ d) W) := by
  have c0 : W.cell? ⟨p, 0, none⟩ = some v := block_cell h.blk 0
  have f0 := block_free h.blk 0
  have hpz := (Array.getElem?_eq_some_iff.1 h.blk).1
  obtain ⟨i0, hi, hz0, hz1, hz2⟩ := info_parts infoUB1
  have hnews : ∀ j u, (d.map u8)[j]? = some u → W.cell? ((⟨g, 0, none⟩ : Addr).add j) = some u := by
    intro j u hu
    obtain ⟨b, off, e, hc⟩ := hd.cell j u hu
    simp only [Option.some.injEq, Addr.mk.injEq] at e
    obtain ⟨rfl, rfl, -⟩ := e
    rw [Addr.add_none]; exact hc
  have Happ := Lib.hid (fun (v' : Value) (W2 : World) ho hg hv => h.app (W1 := W) (W2 := W2) (v' := v') (l' := l ++ d) (Below.refl _ _) ho hg hv)
  have hs1 : l.length + d.length ≤ maxLen := by unfold maxLen; omega
  have hown := h.own
  have hsz := h.sz
  have hbase : base ≤ W.heap.size := hsz
  have hdl : (d.map u8).length = d.length * 1 := by simp
  have hu8 := u8_one d
  have Hn := Lib.hid hnews
  have Hl := Lib.hid hl
  obtain ⟨m, hm⟩ : ∃ m, m = d.length := ⟨_, rfl⟩
  rw [← hm] at hs1 hdl hl ⊢
  have Hm := Lib.hid hm
  have hbytes : (l.length + m) * 1 ≤ 140737488355328 := by omega
  clear hm hnews hl Hl hd h
  go_enter Try.func96, Try.ntmps96
  go_wp2_with (at_builtin; refine wpList_append_own_at _ rfl (.tmp 10) (.tmp 11) 22 rfl base 5 i0 (.int .u8 0) 1 1 Try.underlying22 hi hz0 hz1 hz2 rfl (by decide) v l.length (l.map u8) rfl hown ⟨g, 0, none⟩ m cd (d.map u8) rfl hdl Hn.out hu8 hs1 hbytes hbase ?_; intro v' W2 hown' hgrow _ hat; obtain ⟨r1, r2, r3, r4⟩ := Happ.out v' W2 (by rw [List.length_append, ← Hm.out, List.map_append]; exact hown') hgrow (fun k hk => by rcases hat with e | e; exact .inl (e ▸ hk); exact .inr (by rw [e] at hk; cases hk; exact Nat.le_refl _)); have d0 : W2.cell? ⟨p, 0, none⟩ = some v := block_cell r1 0; have d1 := block_free r1 0; obtain ⟨a2, k2, rfl⟩ := own_slice hown')
  refine bodyPost_ret (v := .tuple #[]) (by simp [results, Try.results96, go_sem]) rfl ?_
  exact ⟨rfl, _, r2, r3, r4⟩
set_option maxRecDepth 100000 in
set_option maxHeartbeats 2000000 in
theorem wtext_any {W : World} {base p : Nat} {v : Value} {l d : List UInt8} (h : Wr W base p v l) (hl : l.length + d.length ≤ 1000000000) :
    Calls Try.prog 69 #[.pointer (some ⟨p, 0, none⟩), .string ⟨d.toArray⟩] W (Wrote base p v (l ++ (numB d.length ++ d)) W) := by
  have hsz : (⟨d.toArray⟩ : ByteArray).size = d.length := by simp [ByteArray.size]
  have w0 : IntKind.u64.wrap (d.length : Int) = (d.length : Int) := IntWalk.u64_in _ (by omega)
  have hpz := (Array.getElem?_eq_some_iff.1 h.blk).1
  have hvz := h.own.lt
  have hdl : d.length < 2 ^ 64 := by omega
  have hnl := numB_len d.length hdl
  have hns : numsB [d.length] = numB d.length := by simp [numsB]
  obtain ⟨W1, hW1⟩ : ∃ W1, W1 = W.alloc (.cells #[.int .u64 (d.length : Int)] 24) := ⟨_, rfl⟩
  have hus : Us W1 (some ⟨W.heap.size, 0, none⟩) 1 [d.length] := by rw [hW1]; exact Us.lit [d.length] #[.int .u64 (d.length : Int)] _ rfl (by simp)
  have hB1 : Below W.heap.size W W1 := by rw [hW1]; exact below_new _ _
  have hnum := num_any [d.length] (by simpa using hdl) (some ⟨W.heap.size, 0, none⟩) 1 (h.below hB1) (by simp; omega) hus (fun a e => by cases e; exact ⟨by simp only; omega, fun e => by have := (hvz _ e).2; simp only at this; omega⟩)
  rw [hns] at hnum
  have Hnum := Lib.hid hnum
  have hF1 := (FrO.refl W.heap.size p v W).below hB1 (Nat.le_refl _)
  have hz1 := hB1.size
  clear hnum hus hns hdl
  go_enter Try.func69, Try.ntmps69
  go_wp2_with fail
  rw [← hW1]
  clear hW1
  refine Hnum.out.mono ?_
  rintro e W2 ⟨rfl, v2, hwr2, hfr2, hv2⟩
  have hF2 := hF1.next hfr2 hz1 (fun k hk => .inl hk)
  have hV2 : ∀ k, v2.ownBlock = some k → v.ownBlock = some k ∨ W.heap.size ≤ k := fun k hk => (hv2 k hk).imp_right (fun x => by omega)
  obtain ⟨cd, W3, hcv, hb3, hB3, -⟩ := bytes_of d (by unfold maxLen; omega) W2
  have hwr3 := hwr2.below hB3
  have hF3 := hF2.below hB3 hF2.size
  have hraw := wraw_any hwr3 hb3 (by simp; omega)
  have Hraw := Lib.hid hraw
  have hsz3 := hF3.size
  clear hraw hb3 hwr3 hwr2 hfr2 hv2 Hnum
  go_wp2_with fail
  refine Hraw.out.mono ?_
  rintro e W4 ⟨rfl, v4, hwr4, hfr4, hv4⟩
  go_wp2_with fail
  refine bodyPost_ret (v := .tuple #[]) (by simp [results, Try.results69, go_sem]) rfl ?_
  refine ⟨rfl, v4, by rw [← List.append_assoc]; exact hwr4, hF3.next hfr4 hsz3 hV2, fun k hk => ?_⟩
  rcases hv4 k hk with e | e
  · exact hV2 k e
  · exact .inr (by omega)
end Go.Proofs.Ytlphpjgiaflfkaa
namespace Go.Proofs.Ytlphpjgiaflfkaa
set_option linter.unusedVariables false
set_option linter.unusedSimpArgs false
set_option linter.unusedSectionVars false
open Go Go.RowKit Go.Shelf
/-- a new writer -/
theorem Wr.new (w : World) : Wr (w.alloc (.cells #[.slice none 0 0] 99)) w.heap.size w.heap.size (.slice none 0 0) [] :=
  ⟨heap_alloc_new _ _, World.ownsRow_nil _ _ _ _, Nat.le_refl _, by simp [Value.ownBlock], by simp⟩
theorem Wr.below_of {w W W' : World} {base p : Nat} {v : Value} {l : List UInt8} (h : Wr W base p v l) (hf : FrO W.heap.size p v W W') (hb : Below w.heap.size w W) (hp : w.heap.size ≤ base) : Below w.heap.size w W' :=
  hf.below_of hb hb.size (Nat.le_trans hp h.le) (fun k e => Nat.le_trans hp (h.own.lt k e).1)
end Go.Proofs.Ytlphpjgiaflfkaa
namespace Go.Proofs.Ytlphpjgiaflfkaa
set_option linter.unusedVariables false
set_option linter.unusedSimpArgs false
set_option linter.unusedSectionVars false
open Go Go.RowKit Go.Shelf
attribute [local go_sem] Oper.semAt_some
theorem blk_turned {A B : World} {row : Option Nat} {k : Nat} {cs : Array Value} {T : TypeId} {m : Nat × Nat} (h : A.heap[k]? = some (.cells cs T m)) (hg : A.grownBy B row) (hr : ∀ r, row = some r → ∃ o : Obj, A.heap[r]? = some o ∧ o.isCells = false) : B.heap[k]? = some (.cells cs T m) :=
  (hg.block k (Array.getElem?_eq_some_iff.1 h).1 (fun e => by
    obtain ⟨o, ho, hc⟩ := hr k e.symm
    rw [ho] at h
    cases h
    cases hc)).trans h
theorem elem?_cells {w : World} {b : Nat} {T : TypeId} (h : elem? w b = some T) : ∃ cs m, w.heap[b]? = some (.cells cs T m) := by
  unfold elem? at h
  split at h
  · rename_i cs t m hh
    simp only [Option.some.injEq] at h
    subst h
    exact ⟨cs, m, hh⟩
  · cases h
theorem EnsO.turned {A B : World} {row : Option Nat} {base : Nat} {v : Value} {l : List Ep} (h : EnsO A base v l) (hg : A.grownBy B row) (hr : ∀ r, row = some r → ∃ o : Obj, A.heap[r]? = some o ∧ o.isCells = false) : EnsO B base v l := by
  refine ⟨?_, fun x hx => (h.data x hx).kept fun b hb => ?_⟩
  · cases hv : row with
    | none => rw [hv] at hg; exact own_below h.own ((Below.refl A.heap.size A).grown hg (Nat.le_refl _) (fun k e => by cases e))
    | some r =>
      rw [hv] at hg
      refine h.own.kept hg (.inr fun e => ?_)
      obtain ⟨o, ho, hc⟩ := hr r hv
      obtain ⟨cs, m, hh⟩ := elem?_cells (own_elemE h.own r e)
      rw [ho] at hh
      cases hh
      cases hc
  · obtain ⟨cs, m, hh⟩ := elem?_cells hb
    exact (blk_turned hh hg hr).trans hh.symm
/-- what Read holds -/
structure SegAt (w : World) (A : Nat) (s : SegS) (v : Value) (l : List Ep) (W : World) : Prop where
  k2 : W.heap[A]? = some (.cells #[.int .u64 (s.first : Nat)] 24 (0, 0))
  k3 : W.heap[A + 1]? = some (.cells #[v] 25 (0, 0))
  k4 : W.heap[A + 1 + 1]? = some (.cells #[.int .i64 (s.good : Nat)] 3 (0, 0))
  ens : EnsO W A v l
  el : l.map Ep.e = s.l
  bel : Below A w W
theorem SegAt.turned {w : World} {A : Nat} {s : SegS} {v : Value} {l : List Ep} {X Y : World} {row : Option Nat} (h : SegAt w A s v l X) (hA : A ≤ w.heap.size) (hg : X.grownBy Y row) (hr : ∀ r, row = some r → A ≤ r ∧ ∃ o : Obj, X.heap[r]? = some o ∧ o.isCells = false) : SegAt w A s v l Y :=
  ⟨blk_turned h.k2 hg fun r e => (hr r e).2, blk_turned h.k3 hg fun r e => (hr r e).2, blk_turned h.k4 hg fun r e => (hr r e).2, h.ens.turned hg fun r e => (hr r e).2, h.el, h.bel.grown hg (Nat.le_trans hA h.bel.size) fun k e => (hr k e).1⟩
theorem SegAt.below {w : World} {A : Nat} {s : SegS} {v : Value} {l : List Ep} {X Y : World} (h : SegAt w A s v l X) (hA : A ≤ w.heap.size) (hb : Below X.heap.size X Y) : SegAt w A s v l Y := h.turned (row := none) hA (grown_below hb) fun r e => by cases e
theorem SegAt.lt {w : World} {A : Nat} {s : SegS} {v : Value} {l : List Ep} {X : World} (h : SegAt w A s v l X) : A + 1 + 1 < X.heap.size := (Array.getElem?_eq_some_iff.1 h.k4).1
/-- one entry more -/
theorem SegAt.push {w : World} {A : Nat} {s : SegS} {v v' : Value} {l : List Ep} {x : Ep} {X Y : World} (h : SegAt w A s v l X) (hA : A ≤ w.heap.size) (ho : Y.ownsRow A 38 3 v' (l.length + 1) (l.map epCells ++ [epCells x]).flatten) (hg : X.grownBy Y v.ownBlock) (hx : BsT X x.ao x.cap x.e.data) :
    SegAt w A ⟨s.first, s.l ++ [x.e], s.good⟩ v' (l ++ [x]) (Y.setCell ⟨A + 1, 0, none⟩ v') ∧ Y.heap[A + 1]? = some (.cells #[v] 25 (0, 0)) ∧ KeepsOthers X (Y.setCell ⟨A + 1, 0, none⟩ v') ∧ Below A X (Y.setCell ⟨A + 1, 0, none⟩ v') := by
  have hlt := h.lt
  have hz := hg.size
  have hne : ∀ k T cs m, X.heap[k]? = some (.cells cs T m) → T ≠ 38 → v.ownBlock ≠ some k := fun k T cs m hk hT e => by
    have := own_elemE h.ens.own k e
    rw [elem?_of hk] at this
    exact hT (by simpa using this)
  have g2 := (hg.block _ (by omega) (fun e => hne _ _ _ _ h.k2 (by decide) e.symm)).trans h.k2
  have g3 := (hg.block _ (by omega) (fun e => hne _ _ _ _ h.k3 (by decide) e.symm)).trans h.k3
  have g4 := (hg.block _ (by omega) (fun e => hne _ _ _ _ h.k4 (by decide) e.symm)).trans h.k4
  have hg' : Y.grownBy (Y.setCell ⟨A + 1, 0, none⟩ v') (some (A + 1)) := grown_set _ _ _ _
  have hens := h.ens.push ho hg hx
  have hb : Below A X Y := (Below.refl A X).grown hg (by omega) (fun k e => (h.ens.own.lt k e).1)
  have hb2 : Below A X (Y.setCell ⟨A + 1, 0, none⟩ v') := hb.grown hg' (by omega) (fun k e => by cases e; omega)
  have hko : KeepsOthers X Y := KeepsOthers.of_grownBy hg fun j o e hj => by
    obtain ⟨cs, m, hh⟩ := elem?_cells (own_elemE h.ens.own j e)
    rw [hj] at hh
    cases hh
    rfl
  refine ⟨⟨(hg'.block _ (by omega) (by simp <;> omega)).trans g2, ?_, (hg'.block _ (by omega) (by simp <;> omega)).trans g4, hens.grown hg' (elem?_of g3) (by decide) (by decide), by simp [h.el], h.bel.trans hb2⟩, g3, hko.trans (KeepsOthers.setCell _ _ _), hb2⟩
  have := block_set g3 0 v'
  simpa using this
end Go.Proofs.Ytlphpjgiaflfkaa
namespace Go.Proofs.Ytlphpjgiaflfkaa
set_option linter.unusedVariables false
set_option linter.unusedSimpArgs false
set_option linter.unusedSectionVars false
open Go Go.RowKit Go.Shelf
def LightP (l : List Ep) : Prop := (∀ x ∈ l, x.e.data.length ≤ 5000) ∧ l.length ≤ 60
instance (l : List Ep) : Decidable (LightP l) := by unfold LightP; exact inferInstance
end Go.Proofs.Ytlphpjgiaflfkaa
