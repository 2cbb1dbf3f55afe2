/- The calls of the box and of the reference, each in one contract for all ways, from a sound state. No statement of the seat is proved here. -/
import Derived.Test.YtdcinhnplcipoaaObPl
import Derived.Test.YtdcinhnplcipoaaObPd
import Derived.Test.YtdcinhnplcipoaaObY
import Derived.Test.YtdcinhnplcipoaaObTk
namespace Go.Proofs.Ytdcinhnplcipoaa
set_option linter.unusedVariables false
set_option linter.unusedSimpArgs false
set_option linter.unusedSectionVars false
open Go Go.RowKit Go.Shelf

def BRes (base b : Nat) (v : Value) (last' : Int) (l' : List No) (V : Value) (W : World) (e : Ending) (W' : World) : Prop :=
  e = .returned V ∧ ∃ v', Bx W' base b last' v' l' ∧ Fr2 W.heap.size b v W W' ∧ (∀ k, v'.ownBlock = some k → v.ownBlock = some k ∨ W.heap.size ≤ k)
def RRes (l : List No) (last' : Int) (l' : List No) (ao : Option Addr) (mk : Value → Value) (W : World) (e : Ending) (W' : World) : Prop :=
  ∃ ao' cap', e = .returned (mk (.agg #[.int .u64 last', .slice ao' l'.length cap'])) ∧ Ns W' ao' cap' l' ∧ (0 < l'.length → ∀ a, ao' = some a → (ao = some a ∧ 0 < l.length) ∨ W.heap.size ≤ a.block) ∧ Below W.heap.size W W'

def tryOut (l : List No) (id now : Int) : List No × No × Int :=
  if h : placeN l id < l.length then (if tryErr l[placeN l id] now = 0 then (l.set (placeN l id) (tryN l[placeN l id] now), tryN l[placeN l id] now, 0) else (l, noZ, (tryErr l[placeN l id] now : Nat))) else (l, noZ, 31)
def ackOut (l : List No) (id : Int) : List No × No × Int :=
  if h : placeN l id < l.length then (if ackBad l[placeN l id] = false then (l.set (placeN l id) (setSt l[placeN l id] 2), setSt l[placeN l id] 2, 0) else (l, noZ, 33)) else (l, noZ, 31)
def putOut (last : Int) (l : List No) (n : No) (now : Int) : Int × List No × Int × Int :=
  if putErr last l n now = 0 then (last + 1, roomL l ++ [putN last n now], last + 1, 0) else (last, l, 0, (putErr last l n now : Nat))

theorem sound_len {top : Int} {l : List No} (h : soundS top l = true) : l.length ≤ 128 := (soundS_iff.1 h).2.1
theorem sound_at {top : Int} {l : List No} (h : soundS top l = true) (i : Nat) (hi : i < l.length) : fitsN l[i] = true ∧ 0 ≤ l[i].tr ∧ 0 ≤ l[i].nx := by
  obtain ⟨h1, h2⟩ := soundF_get l i hi (soundS_iff.1 h).2.2
  have h3 := stands_iff.1 h2
  exact ⟨h1, h3.1, h3.2.2.1⟩

theorem sound_tryOut {top : Int} {l : List No} (id now : Int) (h : soundS top l = true) : soundS top (tryOut l id now).1 = true := by
  unfold tryOut
  split
  · rename_i hp
    split
    · rename_i he; exact sound_try _ hp now h he
    · exact h
  · exact h
theorem sound_ackOut {top : Int} {l : List No} (id : Int) (h : soundS top l = true) : soundS top (ackOut l id).1 = true := by
  unfold ackOut
  split
  · rename_i hp
    split
    · rename_i he; exact sound_ack _ hp h he
    · exact h
  · exact h
theorem sound_putOut {top : Int} {l : List No} (n : No) (now : Int) (h0 : 0 ≤ top) (h : soundS top l = true) : 0 ≤ (putOut top l n now).1 ∧ soundS (putOut top l n now).1 (putOut top l n now).2.1 = true := by
  unfold putOut
  split
  · rename_i he; exact ⟨by simp only; omega, sound_put n now h0 h he⟩
  · exact ⟨h0, h⟩

theorem bres_same {W W' : World} {base b : Nat} {last : Int} {v V : Value} {l : List No} (h : Bx W base b last v l) (hb : Below W.heap.size W W') : BRes base b v last l V W (.returned V) W' :=
  ⟨rfl, v, h.below hb, Fr2.below hb (Nat.le_refl _), fun k hk => .inl hk⟩
theorem try_res {W : World} {base b : Nat} {last : Int} {v : Value} {l : List No} (id now : Int) (h : Bx W base b last v l) (hs : soundS last l = true) :
    Calls Try.prog 11 #[.pointer (some ⟨b, 0, none⟩), .int .u64 id, .int .i64 now] W (BRes base b v last (tryOut l id now).1 (.tuple #[noVal (tryOut l id now).2.1, .int .i64 (tryOut l id now).2.2]) W) := by
  have hn : l.length ≤ 1000000 := by have := sound_len hs; omega
  unfold tryOut
  by_cases hp : placeN l id < l.length
  · rw [dif_pos hp]
    obtain ⟨h1, h2, h3⟩ := sound_at hs _ hp
    by_cases he : tryErr l[placeN l id] now = 0
    · rw [if_pos he]
      refine (try_ok id now hn h hp he h1 h2 h3).mono ?_
      rintro e W' ⟨rfl, hb, hf⟩
      exact ⟨rfl, v, hb, hf, fun k hk => .inl hk⟩
    · rw [if_neg he]
      refine (try_bad id now hn h hp he).mono ?_
      rintro e W' ⟨rfl, hb⟩
      exact bres_same h hb
  · rw [dif_neg hp]
    refine (try_none id now hn h hp).mono ?_
    rintro e W' ⟨rfl, hb⟩
    exact bres_same h hb
theorem ack_res {W : World} {base b : Nat} {last : Int} {v : Value} {l : List No} (id : Int) (h : Bx W base b last v l) (hs : soundS last l = true) :
    Calls Try.prog 12 #[.pointer (some ⟨b, 0, none⟩), .int .u64 id] W (BRes base b v last (ackOut l id).1 (.tuple #[noVal (ackOut l id).2.1, .int .i64 (ackOut l id).2.2]) W) := by
  have hn : l.length ≤ 1000000 := by have := sound_len hs; omega
  unfold ackOut
  by_cases hp : placeN l id < l.length
  · rw [dif_pos hp]
    by_cases he : ackBad l[placeN l id] = false
    · rw [if_pos he]
      refine (ack_ok id hn h hp he).mono ?_
      rintro e W' ⟨rfl, hb, hf⟩
      exact ⟨rfl, v, hb, hf, fun k hk => .inl hk⟩
    · rw [if_neg he]
      refine (ack_bad id hn h hp (by simpa using he)).mono ?_
      rintro e W' ⟨rfl, hb⟩
      exact bres_same h hb
  · rw [dif_neg hp]
    refine (ack_none id hn h hp).mono ?_
    rintro e W' ⟨rfl, hb⟩
    exact bres_same h hb
theorem put_res {W : World} {base b : Nat} {last : Int} {v : Value} {l : List No} (n : No) (now : Int) (h : Bx W base b last v l) (hs : soundS last l = true) (h0 : 0 ≤ last) :
    Calls Try.prog 9 #[.pointer (some ⟨b, 0, none⟩), noVal n, .int .i64 now] W (BRes base b v (putOut last l n now).1 (putOut last l n now).2.1 (.tuple #[.int .u64 (putOut last l n now).2.2.1, .int .i64 (putOut last l n now).2.2.2]) W) := by
  have hn := sound_len hs
  unfold putOut
  by_cases he : putErr last l n now = 0
  · rw [if_pos he]
    have he2 := he
    unfold putErr at he2
    split at he2
    · cases he2
    · rename_i g1
      split at he2
      · cases he2
      · rename_i g2
        split at he2
        · cases he2
        · rename_i g3
          simp only [Bool.or_eq_true, Bool.not_eq_true', not_or, Bool.not_eq_false] at g1
          refine (put_ok n now hn (fun hc => ?_) h g1.1 g1.2 h0 (by omega)).mono ?_
          · have hle : restN l ≤ l.length := List.findIdx_le_length
            rcases Nat.lt_or_ge (restN l) 128 with hlt | hge
            · exact hlt
            · exact absurd ⟨by omega, by show restN l = _; omega⟩ g3
          · rintro e W' ⟨v', rfl, hb, hf, ho⟩
            exact ⟨rfl, v', hb, hf, ho⟩
  · rw [if_neg he]
    refine (put_bad n now (by omega) h he).mono ?_
    rintro e W' ⟨rfl, hb⟩
    exact bres_same h hb

theorem rres_same {W W' : World} {last : Int} {ao : Option Addr} {cap : Nat} {l : List No} {mk : Value → Value} (hs : Ns W ao cap l) (hb : Below W.heap.size W W') : RRes l last l ao mk W (.returned (mk (.agg #[.int .u64 last, .slice ao l.length cap]))) W' :=
  ⟨ao, cap, rfl, hs.below hb, fun h0 a ha => .inl ⟨ha, h0⟩, hb⟩
theorem rres_new {W W' : World} {last : Int} {ao ao' : Option Addr} {cap' : Nat} {l l0 : List No} {mk : Value → Value} (hs : W'.ownsRow W.heap.size 24 9 (.slice ao' l.length cap') l.length (l.map noCells).flatten) (hb : Below W.heap.size W W') : RRes l0 last l ao mk W (.returned (mk (.agg #[.int .u64 last, .slice ao' l.length cap']))) W' :=
  ⟨ao', cap', rfl, Ns.of_own hs, fun _ a ha => .inr (by subst ha; exact (hs.lt a.block rfl).1), hb⟩
theorem refTry_res (last id now : Int) (ao : Option Addr) (cap : Nat) (l : List No) (w : World) (hs : Ns w ao cap l) (hS : soundS last l = true) :
    Calls Try.prog 50 #[.agg #[.int .u64 last, .slice ao l.length cap], .int .u64 id, .int .i64 now] w (RRes l last (tryOut l id now).1 ao (fun s => .tuple #[s, noVal (tryOut l id now).2.1, .int .i64 (tryOut l id now).2.2]) w) := by
  have hn : l.length ≤ 1000000 := by have := sound_len hS; omega
  unfold tryOut
  by_cases hp : placeN l id < l.length
  · rw [dif_pos hp]
    obtain ⟨h1, h2, h3⟩ := sound_at hS _ hp
    by_cases he : tryErr l[placeN l id] now = 0
    · rw [if_pos he]
      refine (refTry_ok last id now ao cap l w hs hn hp he h1 h2 h3).mono ?_
      rintro e W' ⟨ao', cap', rfl, ho, hb⟩
      exact rres_new (mk := fun s => .tuple #[s, noVal (tryN l[placeN l id] now), .int .i64 0]) ho hb
    · rw [if_neg he]
      refine (refTry_bad last id now ao cap l w hs hn hp he).mono ?_
      rintro e W' ⟨rfl, hb⟩
      exact rres_same (mk := fun s => .tuple #[s, noVal noZ, .int .i64 (tryErr l[placeN l id] now : Nat)]) hs hb
  · rw [dif_neg hp]
    refine (refTry_none last id now ao cap l w hs hn hp).mono ?_
    rintro e W' ⟨rfl, hb⟩
    exact rres_same (mk := fun s => .tuple #[s, noVal noZ, .int .i64 31]) hs hb
theorem refAck_res (last id : Int) (ao : Option Addr) (cap : Nat) (l : List No) (w : World) (hs : Ns w ao cap l) (hS : soundS last l = true) :
    Calls Try.prog 51 #[.agg #[.int .u64 last, .slice ao l.length cap], .int .u64 id] w (RRes l last (ackOut l id).1 ao (fun s => .tuple #[s, noVal (ackOut l id).2.1, .int .i64 (ackOut l id).2.2]) w) := by
  have hn : l.length ≤ 1000000 := by have := sound_len hS; omega
  unfold ackOut
  by_cases hp : placeN l id < l.length
  · rw [dif_pos hp]
    by_cases he : ackBad l[placeN l id] = false
    · rw [if_pos he]
      refine (refAck_ok last id ao cap l w hs hn hp he).mono ?_
      rintro e W' ⟨ao', cap', rfl, ho, hb⟩
      exact rres_new (mk := fun s => .tuple #[s, noVal (setSt l[placeN l id] 2), .int .i64 0]) ho hb
    · rw [if_neg he]
      refine (refAck_bad last id ao cap l w hs hn hp (by simpa using he)).mono ?_
      rintro e W' ⟨rfl, hb⟩
      exact rres_same (mk := fun s => .tuple #[s, noVal noZ, .int .i64 33]) hs hb
  · rw [dif_neg hp]
    refine (refAck_none last id ao cap l w hs hn hp).mono ?_
    rintro e W' ⟨rfl, hb⟩
    exact rres_same (mk := fun s => .tuple #[s, noVal noZ, .int .i64 31]) hs hb
theorem refPut_res (last now : Int) (ao : Option Addr) (cap : Nat) (l : List No) (n : No) (w : World) (hs : Ns w ao cap l) (hS : soundS last l = true) (h0 : 0 ≤ last) :
    Calls Try.prog 55 #[.agg #[.int .u64 last, .slice ao l.length cap], noVal n, .int .i64 now] w (RRes l (putOut last l n now).1 (putOut last l n now).2.1 ao (fun s => .tuple #[s, .int .u64 (putOut last l n now).2.2.1, .int .i64 (putOut last l n now).2.2.2]) w) := by
  have hn := sound_len hS
  unfold putOut
  by_cases he : putErr last l n now = 0
  · rw [if_pos he]
    refine (refPut_ok last now ao cap l n w hs hn h0 he).mono ?_
    rintro e W' ⟨ao', cap', rfl, ho, hb⟩
    exact rres_new (mk := fun s => .tuple #[s, .int .u64 (last + 1), .int .i64 0]) ho hb
  · rw [if_neg he]
    refine (refPut_bad last now ao cap l n w hs hn he).mono ?_
    rintro e W' ⟨rfl, hb⟩
    exact rres_same (mk := fun s => .tuple #[s, .int .u64 0, .int .i64 (putErr last l n now : Nat)]) hs hb

/-- the reference's row lies apart from the box's -/
def Far (v : Value) (ao : Option Addr) (l : List No) : Prop := 0 < l.length → ∀ a, ao = some a → v.ownBlock ≠ some a.block
/-- behind the reference's call and the box's, the reference's row is kept, and lies apart -/
theorem both_kept {W W1 W2 : World} {base b : Nat} {last : Int} {v v' : Value} {l l' : List No} {ao ao' : Option Addr} {cap' : Nat} (h : Bx W base b last v l) (hfar : Far v ao l)
    (hb1 : Below W.heap.size W W1) (hns : Ns W1 ao' cap' l') (hao : 0 < l'.length → ∀ a, ao' = some a → (ao = some a ∧ 0 < l.length) ∨ W.heap.size ≤ a.block) (hf : Fr2 W1.heap.size b v W1 W2) (ho : ∀ k, v'.ownBlock = some k → v.ownBlock = some k ∨ W1.heap.size ≤ k) :
    Far v' ao' l' ∧ Ns W2 ao' cap' l' := by
  have key : ∀ a, ao' = some a → 0 < l'.length → a.block < W1.heap.size ∧ a.block ≠ b ∧ v.ownBlock ≠ some a.block := by
    rintro ⟨k, off, s⟩ ha h0
    obtain ⟨T, ht, hT⟩ := hns.typ k off s ha h0
    refine ⟨elem?_lt ht, fun e => ?_, fun e => ?_⟩
    · simp only at e
      subst e
      rw [elem?_of (h.below hb1).blk] at ht
      simp only [Option.some.injEq] at ht
      subst ht
      exact absurd hT (by decide)
    · simp only at e
      rcases hao h0 _ ha with ⟨h1, h2⟩ | h1
      · exact hfar h2 _ h1 e
      · have := (h.own.lt k e).2
        simp only at h1
        omega
  refine ⟨fun h0 a ha e => ?_, hns.kept fun k off s e h0 => ?_⟩
  · obtain ⟨k1, k2, k3⟩ := key a ha h0
    rcases ho _ e with h1 | h1
    · exact k3 h1
    · omega
  · obtain ⟨k1, k2, k3⟩ := key _ e h0
    exact hf.block k k1 k2 k3
def DoOk (base b : Nat) (v : Value) (ao : Option Addr) (l : List No) (last' : Int) (l' : List No) (W : World) (e : Ending) (W' : World) : Prop :=
  ∃ v' ao' cap', e = .returned (.tuple #[.agg #[.int .u64 last', .slice ao' l'.length cap'], .bool true]) ∧ Bx W' base b last' v' l' ∧ Ns W' ao' cap' l' ∧ Far v' ao' l' ∧ Fr2 W.heap.size b v W W' ∧ (∀ k, v'.ownBlock = some k → v.ownBlock = some k ∨ W.heap.size ≤ k) ∧ (0 < l'.length → ∀ a, ao' = some a → (ao = some a ∧ 0 < l.length) ∨ W.heap.size ≤ a.block)
theorem news3 {w W : World} {o1 o2 o3 : Obj} (hW : W = ((w.alloc o1).alloc o2).alloc o3) :
    W.heap[w.heap.size]? = some o1 ∧ W.heap[w.heap.size + 1]? = some o2 ∧ W.heap[w.heap.size + 1 + 1]? = some o3 ∧ W.heap.size = w.heap.size + 3 ∧ Below w.heap.size w W := by
  subst hW
  have e1 : (w.alloc o1).heap.size = w.heap.size + 1 := by simp
  have e2 : ((w.alloc o1).alloc o2).heap.size = w.heap.size + 1 + 1 := by simp
  refine ⟨(heap_alloc_old _ _ (by simp; try omega)).trans ((heap_alloc_old _ _ (by simp; try omega)).trans (heap_alloc_new _ _)), ?_, ?_, by simp, ((below_new _ _).alloc (by simp) _).alloc (by simp; try omega) _⟩
  · refine (heap_alloc_old _ _ (by simp; try omega)).trans ?_
    have := heap_alloc_new (w.alloc o1) o2
    rw [e1] at this
    exact this
  · have := heap_alloc_new ((w.alloc o1).alloc o2) o3
    rw [e2] at this
    exact this
theorem news2 {w W : World} {o1 o2 : Obj} (hW : W = (w.alloc o1).alloc o2) :
    W.heap[w.heap.size]? = some o1 ∧ W.heap[w.heap.size + 1]? = some o2 ∧ W.heap.size = w.heap.size + 2 ∧ Below w.heap.size w W := by
  subst hW
  have e1 : (w.alloc o1).heap.size = w.heap.size + 1 := by simp
  refine ⟨(heap_alloc_old _ _ (by simp; try omega)).trans (heap_alloc_new _ _), ?_, by simp, (below_new _ _).alloc (by simp) _⟩
  have := heap_alloc_new (w.alloc o1) o2
  rw [e1] at this
  exact this
theorem blk11 {w : World} {b : Nat} {v0 v1 v2 v3 v4 v5 v6 v7 v8 v9 v10 : Value} {T : TypeId} (h : w.heap[b]? = some (.cells #[v0, v1, v2, v3, v4, v5, v6, v7, v8, v9, v10] T (0, 0))) :
    w.cell? ⟨b, 0, none⟩ = some v0 ∧ w.cell? ⟨b, 1, none⟩ = some v1 ∧ w.cell? ⟨b, 2, none⟩ = some v2 ∧ w.cell? ⟨b, 3, none⟩ = some v3 ∧ w.cell? ⟨b, 4, none⟩ = some v4 ∧ w.cell? ⟨b, 5, none⟩ = some v5 ∧ w.cell? ⟨b, 6, none⟩ = some v6 ∧ w.cell? ⟨b, 7, none⟩ = some v7 ∧ w.cell? ⟨b, 8, none⟩ = some v8 ∧ w.cell? ⟨b, 9, none⟩ = some v9 ∧ w.cell? ⟨b, 10, none⟩ = some v10 :=
  ⟨block_cell h 0, block_cell h 1, block_cell h 2, block_cell h 3, block_cell h 4, block_cell h 5, block_cell h 6, block_cell h 7, block_cell h 8, block_cell h 9, block_cell h 10⟩
end Go.Proofs.Ytdcinhnplcipoaa
