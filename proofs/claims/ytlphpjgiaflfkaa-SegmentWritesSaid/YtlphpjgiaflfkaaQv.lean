/- quill's Writer.Raw and Text. No statement of the seat is proved here. -/
import Derived.Test.YtlphpjgiaflfkaaQt
import Derived.Maps.OwnIn
namespace Go.Proofs.Ytlphpjgiaflfkaa
set_option linter.unusedVariables false
set_option linter.unusedSimpArgs false
set_option linter.unusedSectionVars false
open Go Go.RowKit Go.Shelf

theorem Us.lit {w : World} (xs : List Nat) (cs : Array Value) (T : TypeId) (hcs : cs.toList = xs.map fun n : Nat => Value.int .u64 (n : Int)) (hm : xs.length ≤ 1000) :
    Us (w.alloc (.cells cs T)) (some ⟨w.heap.size, 0, .none⟩) xs.length xs :=
  ⟨by simp, by omega, by unfold maxLen; omega, by simp, fun j u hu => ⟨_, 0, rfl, by
    rw [cell?_new, Nat.zero_add, ← Array.getElem?_toList, hcs]; exact hu⟩⟩
theorem infoUB1 : (Try.prog.info? 5).map (fun i => (i.zero, i.size, i.bytes)) = some (some (.int .u8 0), 1, 1) := by kernel_rfl
set_option maxRecDepth 100000 in
set_option maxHeartbeats 1000000 in
theorem wraw_any {W : World} {base p : Nat} {v : Value} {l d : List UInt8} {g cd : Nat} (h : Wr W base p v l) (hd : Bs W (some ⟨g, 0, none⟩) cd d) (hl : l.length + d.length ≤ 1099511627776) :
    Calls Try.prog 96 #[.pointer (some ⟨p, 0, none⟩), .slice (some ⟨g, 0, none⟩) d.length cd] W (Wrote base p v (l ++ d) W) := by
  have c0 : W.cell? ⟨p, 0, none⟩ = some v := block_cell h.blk 0
  have f0 := block_free h.blk 0
  have hpz := (Array.getElem?_eq_some_iff.1 h.blk).1
  obtain ⟨i0, hi, hz0, hz1, hz2⟩ := info_parts infoUB1
  have hnews : ∀ j u, (d.map u8)[j]? = some u → W.cell? ((⟨g, 0, none⟩ : Addr).add j) = some u := by
    intro j u hu
    obtain ⟨b, off, e, hc⟩ := hd.cell j u hu
    simp only [Option.some.injEq, Addr.mk.injEq] at e
    obtain ⟨rfl, rfl, -⟩ := e
    rw [Addr.add_none]; exact hc
  have Happ := Lib.hid (fun (v' : Value) (W2 : World) ho hg hv => h.app (W1 := W) (W2 := W2) (v' := v') (l' := l ++ d) (Below.refl _ _) ho hg hv)
  have hs1 : l.length + d.length ≤ maxLen := by unfold maxLen; omega
  have hown := h.own
  have hsz := h.sz
  have hbase : base ≤ W.heap.size := hsz
  have hdl : (d.map u8).length = d.length * 1 := by simp
  have hu8 := u8_one d
  have Hn := Lib.hid hnews
  have Hl := Lib.hid hl
  obtain ⟨m, hm⟩ : ∃ m, m = d.length := ⟨_, rfl⟩
  rw [← hm] at hs1 hdl hl ⊢
  have Hm := Lib.hid hm
  have hbytes : (l.length + m) * 1 ≤ 140737488355328 := by omega
  clear hm hnews hl Hl hd h
  go_enter Try.func96, Try.ntmps96
  go_wp2_with (at_builtin; refine wpList_append_own_at _ rfl (.tmp 10) (.tmp 11) 22 rfl base 5 i0 (.int .u8 0) 1 1 Try.underlying22 hi hz0 hz1 hz2 rfl (by decide) v l.length (l.map u8) rfl hown ⟨g, 0, none⟩ m cd (d.map u8) rfl hdl Hn.out hu8 hs1 hbytes hbase ?_; intro v' W2 hown' hgrow _ hat; obtain ⟨r1, r2, r3, r4⟩ := Happ.out v' W2 (by rw [List.length_append, ← Hm.out, List.map_append]; exact hown') hgrow (fun k hk => by rcases hat with e | e; exact .inl (e ▸ hk); exact .inr (by rw [e] at hk; cases hk; exact Nat.le_refl _)); have d0 : W2.cell? ⟨p, 0, none⟩ = some v := block_cell r1 0; have d1 := block_free r1 0; obtain ⟨a2, k2, rfl⟩ := own_slice hown')
  refine bodyPost_ret (v := .tuple #[]) (by simp [results, Try.results96, go_sem]) rfl ?_
  exact ⟨rfl, _, r2, r3, r4⟩
set_option maxRecDepth 100000 in
set_option maxHeartbeats 2000000 in
theorem wtext_any {W : World} {base p : Nat} {v : Value} {l d : List UInt8} (h : Wr W base p v l) (hl : l.length + d.length ≤ 1000000000) :
    Calls Try.prog 69 #[.pointer (some ⟨p, 0, none⟩), .string ⟨d.toArray⟩] W (Wrote base p v (l ++ (numB d.length ++ d)) W) := by
  have hsz : (⟨d.toArray⟩ : ByteArray).size = d.length := by simp [ByteArray.size]
  have w0 : IntKind.u64.wrap (d.length : Int) = (d.length : Int) := IntWalk.u64_in _ (by omega)
  have hpz := (Array.getElem?_eq_some_iff.1 h.blk).1
  have hvz := h.own.lt
  have hdl : d.length < 2 ^ 64 := by omega
  have hnl := numB_len d.length hdl
  have hns : numsB [d.length] = numB d.length := by simp [numsB]
  obtain ⟨W1, hW1⟩ : ∃ W1, W1 = W.alloc (.cells #[.int .u64 (d.length : Int)] 24) := ⟨_, rfl⟩
  have hus : Us W1 (some ⟨W.heap.size, 0, none⟩) 1 [d.length] := by rw [hW1]; exact Us.lit [d.length] #[.int .u64 (d.length : Int)] _ rfl (by simp)
  have hB1 : Below W.heap.size W W1 := by rw [hW1]; exact below_new _ _
  have hnum := num_any [d.length] (by simpa using hdl) (some ⟨W.heap.size, 0, none⟩) 1 (h.below hB1) (by simp; omega) hus (fun a e => by cases e; exact ⟨by simp only; omega, fun e => by have := (hvz _ e).2; simp only at this; omega⟩)
  rw [hns] at hnum
  have Hnum := Lib.hid hnum
  have hF1 := (FrO.refl W.heap.size p v W).below hB1 (Nat.le_refl _)
  have hz1 := hB1.size
  clear hnum hus hns hdl
  go_enter Try.func69, Try.ntmps69
  go_wp2_with fail
  rw [← hW1]
  clear hW1
  refine Hnum.out.mono ?_
  rintro e W2 ⟨rfl, v2, hwr2, hfr2, hv2⟩
  have hF2 := hF1.next hfr2 hz1 (fun k hk => .inl hk)
  have hV2 : ∀ k, v2.ownBlock = some k → v.ownBlock = some k ∨ W.heap.size ≤ k := fun k hk => (hv2 k hk).imp_right (fun x => by omega)
  obtain ⟨cd, W3, hcv, hb3, hB3, -⟩ := bytes_of d (by unfold maxLen; omega) W2
  have hwr3 := hwr2.below hB3
  have hF3 := hF2.below hB3 hF2.size
  have hraw := wraw_any hwr3 hb3 (by simp; omega)
  have Hraw := Lib.hid hraw
  have hsz3 := hF3.size
  clear hraw hb3 hwr3 hwr2 hfr2 hv2 Hnum
  go_wp2_with fail
  refine Hraw.out.mono ?_
  rintro e W4 ⟨rfl, v4, hwr4, hfr4, hv4⟩
  go_wp2_with fail
  refine bodyPost_ret (v := .tuple #[]) (by simp [results, Try.results69, go_sem]) rfl ?_
  refine ⟨rfl, v4, by rw [← List.append_assoc]; exact hwr4, hF3.next hfr4 hsz3 hV2, fun k hk => ?_⟩
  rcases hv4 k hk with e | e
  · exact hV2 k e
  · exact .inr (by omega)
end Go.Proofs.Ytlphpjgiaflfkaa
