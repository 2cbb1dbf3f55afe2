/- The calls of OutboxLimits in one contract each, with what the law's maps say. No statement of the seat is proved here. -/
import Derived.Test.YtdcinhnplcipoaaObLn
import Derived.Test.YtdcinhnplcipoaaObDu
namespace Go.Proofs.Ytdcinhnplcipoaa
set_option linter.unusedVariables false
set_option linter.unusedSimpArgs false
set_option linter.unusedSectionVars false
open Go Go.RowKit Go.Maps Go.Shelf

theorem wf_u64 {a : Int} (h0 : 0 ≤ a) (h1 : a ≤ 18446744073709551615) : (Lit.int .u64 a).wf = true := by
  have h : IntKind.u64.min = 0 := by kernel_rfl
  have h2 : IntKind.u64.max = 18446744073709551615 := by kernel_rfl
  simp only [Lit.wf, h, h2, h0, h1, decide_true, Bool.and_self]
theorem wf_i64 {a : Int} (h0 : 0 ≤ a) (h1 : a ≤ 9223372036854775807) : (Lit.int .i64 a).wf = true := by
  have h : IntKind.i64.min = -9223372036854775808 := by kernel_rfl
  have h2 : IntKind.i64.max = 9223372036854775807 := by kernel_rfl
  have h3 : (-9223372036854775808 : Int) ≤ a := by omega
  simp only [Lit.wf, h, h2, h3, h1, decide_true, Bool.and_self]
/-- the round's memory -/
structure LimAt (w wr : World) (B b bT bO : Nat) (last : Int) (v : Value) (l : List No) (nT nO : Nat) (T O : Int → Int) : Prop where
  bx : Bx wr B b last v l
  lim : Lim last l T O
  mt : Mp wr bT nT T
  mo : Mp wr bO nO O
  tb : bT ≠ b
  ob : bO ≠ b
  tob : bT ≠ bO
  bel : Below w.heap.size w wr
  lo : w.heap.size ≤ B
  tl : w.heap.size ≤ bT
  ol : w.heap.size ≤ bO
theorem LimAt.below {w wr w' : World} {B b bT bO nT nO : Nat} {last : Int} {v : Value} {l : List No} {T O : Int → Int} (h : LimAt w wr B b bT bO last v l nT nO T O) (hb : Below wr.heap.size wr w') : LimAt w w' B b bT bO last v l nT nO T O :=
  ⟨h.bx.below hb, h.lim, h.mt.below hb, h.mo.below hb, h.tb, h.ob, h.tob, below_on h.bel hb (Nat.le_refl _), h.lo, h.tl, h.ol⟩
theorem Bx.ne_map {W : World} {B b bT nT : Nat} {last : Int} {v : Value} {l : List No} {T : Int → Int} (h : Bx W B b last v l) (hm : Mp W bT nT T) : v.ownBlock ≠ some bT := fun e => hm.elem _ (own_elem h.own bT e)
/-- behind a call of the box -/
theorem LimAt.box {w wr w' : World} {B b bT bO nT nO : Nat} {last last' : Int} {v v' : Value} {l l' : List No} {T O : Int → Int} (h : LimAt w wr B b bT bO last v l nT nO T O) (hx : Bx w' B b last' v' l') (hf : Fr2 wr.heap.size b v wr w') :
    Mp w' bT nT T ∧ Mp w' bO nO O ∧ Below w.heap.size w w' :=
  ⟨h.mt.kept (hf.block bT h.mt.lt h.tb (h.bx.ne_map h.mt)), h.mo.kept (hf.block bO h.mo.lt h.ob (h.bx.ne_map h.mo)), h.bx.low hf h.bel h.lo⟩
theorem LimAt.into {w wr w' : World} {B b bT bO nT nO : Nat} {last last' : Int} {v v' : Value} {l l' : List No} {T O : Int → Int} (h : LimAt w wr B b bT bO last v l nT nO T O) (hx : Bx w' B b last' v' l') (hf : Fr2 wr.heap.size b v wr w') (hl : Lim last' l' T O) :
    LimAt w w' B b bT bO last' v' l' nT nO T O :=
  ⟨hx, hl, (h.box hx hf).1, (h.box hx hf).2.1, h.tb, h.ob, h.tob, (h.box hx hf).2.2, h.lo, h.tl, h.ol⟩
theorem LimAt.id_wf {w wr : World} {B b bT bO nT nO : Nat} {last : Int} {v : Value} {l : List No} {T O : Int → Int} (h : LimAt w wr B b bT bO last v l nT nO T O) (i : Nat) (hi : i < l.length) : (Lit.int .u64 l[i].id).wf = true := by
  have h0 := (soundF_ids l i hi (soundS_iff.1 h.lim.sound).2.2)
  have h1 := (soundS_iff.1 h.lim.sound).1
  exact wf_u64 (by omega) (by omega)
/-- a call that failed -/
def LimBad (wr : World) (V : Int → Value) (e : Ending) (w' : World) : Prop := ∃ c : Int, c ≠ 0 ∧ e = .returned (V c) ∧ Below wr.heap.size wr w'
def LimTry (w : World) (B b bT bO : Nat) (last : Int) (nT nO : Nat) (T O : Int → Int) (e : Ending) (w' : World) : Prop :=
  ∃ (n : No) (v' : Value) (l' : List No), e = .returned (.tuple #[noVal n, .int .i64 0]) ∧ Bx w' B b last v' l' ∧ Lim last l' (upd T n.id (T n.id + 1)) O ∧ Mp w' bT nT T ∧ Mp w' bO nO O ∧ Below w.heap.size w w' ∧ O n.id = 0 ∧ n.tr = T n.id + 1 ∧ n.tr ≤ n.rt ∧ 0 ≤ T n.id ∧ n.rt ≤ 8 ∧ (Lit.int .u64 n.id).wf = true
theorem try_lim {w wr : World} {B b bT bO nT nO : Nat} {last : Int} {v : Value} {l : List No} {T O : Int → Int} (h : LimAt w wr B b bT bO last v l nT nO T O) (id now : Int) :
    Calls Try.prog 11 #[.pointer (some ⟨b, 0, none⟩), .int .u64 id, .int .i64 now] wr (fun e w' => LimTry w B b bT bO last nT nO T O e w' ∨ LimBad wr (fun c => .tuple #[noVal noZ, .int .i64 c]) e w') := by
  have hn : l.length ≤ 1000000 := by have := sound_len h.lim.sound; omega
  by_cases hp : placeN l id < l.length
  · by_cases he : tryErr l[placeN l id] now = 0
    · obtain ⟨g1, g2, g3⟩ := sound_at h.lim.sound _ hp
      refine (try_ok id now hn h.bx hp he g1 g2 g3).mono ?_
      rintro e w' ⟨rfl, hx, hf⟩
      obtain ⟨h4, h5, h6, h7, h8⟩ := h.lim.try_ _ hp now he
      obtain ⟨m1, m2, m3⟩ := h.box hx hf
      simp only [fitsN, Bool.and_eq_true, decide_eq_true_eq] at g1
      have e1 : (tryN l[placeN l id] now).id = l[placeN l id].id := rfl
      have e2 : (tryN l[placeN l id] now).tr = l[placeN l id].tr + 1 := rfl
      have e3 : (tryN l[placeN l id] now).rt = l[placeN l id].rt := rfl
      refine .inl ⟨_, v, _, rfl, hx, ?_, m1, m2, m3, ?_, ?_, ?_, ?_, ?_, ?_⟩
      · rw [e1]; exact h4
      · rw [e1]; exact h5
      · rw [e1, e2]; omega
      · rw [e2, e3]; omega
      · rw [e1]; exact h7
      · rw [e3]; omega
      · rw [e1]; exact h.id_wf _ hp
    · refine (try_bad id now hn h.bx hp he).mono ?_
      rintro e w' ⟨rfl, hb⟩
      exact .inr ⟨_, by omega, rfl, hb⟩
  · refine (try_none id now hn h.bx hp).mono ?_
    rintro e w' ⟨rfl, hb⟩
    exact .inr ⟨31, by omega, rfl, hb⟩
def LimAck (w : World) (B b bT bO : Nat) (last : Int) (nT nO : Nat) (T O : Int → Int) (e : Ending) (w' : World) : Prop :=
  ∃ (n : No) (v' : Value) (l' : List No), e = .returned (.tuple #[noVal n, .int .i64 0]) ∧ Bx w' B b last v' l' ∧ Lim last l' T (upd O n.id 2) ∧ Mp w' bT nT T ∧ Mp w' bO nO O ∧ Below w.heap.size w w' ∧ O n.id = 0 ∧ (Lit.int .u64 n.id).wf = true
theorem ack_lim {w wr : World} {B b bT bO nT nO : Nat} {last : Int} {v : Value} {l : List No} {T O : Int → Int} (h : LimAt w wr B b bT bO last v l nT nO T O) (id : Int) :
    Calls Try.prog 12 #[.pointer (some ⟨b, 0, none⟩), .int .u64 id] wr (fun e w' => LimAck w B b bT bO last nT nO T O e w' ∨ LimBad wr (fun c => .tuple #[noVal noZ, .int .i64 c]) e w') := by
  have hn : l.length ≤ 1000000 := by have := sound_len h.lim.sound; omega
  by_cases hp : placeN l id < l.length
  · by_cases he : ackBad l[placeN l id] = false
    · refine (ack_ok id hn h.bx hp he).mono ?_
      rintro e w' ⟨rfl, hx, hf⟩
      obtain ⟨h4, h5⟩ := h.lim.ack _ hp he
      obtain ⟨m1, m2, m3⟩ := h.box hx hf
      have e1 : (setSt l[placeN l id] 2).id = l[placeN l id].id := rfl
      refine .inl ⟨_, v, _, rfl, hx, ?_, m1, m2, m3, ?_, ?_⟩
      · rw [e1]; exact h4
      · rw [e1]; exact h5
      · rw [e1]; exact h.id_wf _ hp
    · refine (ack_bad id hn h.bx hp (by simpa using he)).mono ?_
      rintro e w' ⟨rfl, hb⟩
      exact .inr ⟨33, by omega, rfl, hb⟩
  · refine (ack_none id hn h.bx hp).mono ?_
    rintro e w' ⟨rfl, hb⟩
    exact .inr ⟨31, by omega, rfl, hb⟩
def LimPut (w : World) (B b bT bO : Nat) (last : Int) (nT nO : Nat) (T O : Int → Int) (e : Ending) (w' : World) : Prop :=
  ∃ (v' : Value) (l' : List No), e = .returned (.tuple #[.int .u64 (last + 1), .int .i64 0]) ∧ LimAt w w' B b bT bO (last + 1) v' l' nT nO T O
theorem put_lim {w wr : World} {B b bT bO nT nO : Nat} {last : Int} {v : Value} {l : List No} {T O : Int → Int} (h : LimAt w wr B b bT bO last v l nT nO T O) (n : No) (now : Int) :
    Calls Try.prog 9 #[.pointer (some ⟨b, 0, none⟩), noVal n, .int .i64 now] wr (fun e w' => LimPut w B b bT bO last nT nO T O e w' ∨ LimBad wr (fun c => .tuple #[.int .u64 0, .int .i64 c]) e w') := by
  have hn : l.length ≤ 1000000 := by have := sound_len h.lim.sound; omega
  by_cases he : putErr last l n now = 0
  · refine (put_res n now h.bx h.lim.sound h.lim.low).mono ?_
    rintro e w' ⟨rfl, v', hx, hf, hv⟩
    unfold putOut at hx ⊢
    simp only [if_pos he] at hx ⊢
    exact .inl ⟨v', _, rfl, h.into hx hf (h.lim.put n now he)⟩
  · refine (put_bad n now hn h.bx he).mono ?_
    rintro e w' ⟨rfl, hb⟩
    exact .inr ⟨_, by omega, rfl, hb⟩
/-- the box has given up: the maps are behind -/
def LimTick (w wr : World) (B b bT bO : Nat) (last : Int) (l : List No) (nT nO : Nat) (T O : Int → Int) (ks : List Int) (e : Ending) (w' : World) : Prop :=
  ∃ (v' : Value) (l' : List No) (so : Option Addr) (sc : Nat), e = .returned (.slice so ks.length sc) ∧ ks.length ≤ 128 ∧ w'.ownsRow wr.heap.size 22 1 (.slice so ks.length sc) ks.length (ks.map uCell).flatten ∧ Bx w' B b last v' l' ∧ Lim last l' T (updL O ks) ∧ Mp w' bT nT T ∧ Mp w' bO nO O ∧ Below w.heap.size w w' ∧
    (∀ (j : Nat) (hj : j < ks.length), updL O (ks.take j) ks[j] = 0 ∧ (Lit.int .u64 ks[j]).wf = true)
theorem tick_lim {w wr : World} {B b bT bO nT nO : Nat} {last : Int} {v : Value} {l : List No} {T O : Int → Int} (h : LimAt w wr B b bT bO last v l nT nO T O) (now : Int) :
    Calls Try.prog 17 #[.pointer (some ⟨b, 0, none⟩), .int .i64 now] wr (fun e w' => ∃ ks, LimTick w wr B b bT bO last l nT nO T O ks e w') := by
  have hlen := sound_len h.lim.sound
  refine (tick_bx now (by omega) h.bx).mono ?_
  rintro e w' ⟨so, sc, rfl, ho, hx, hf⟩
  obtain ⟨m1, m2, m3⟩ := h.box hx hf
  have hle : (l.filter (spentB now)).length ≤ l.length := List.length_filter_le _ _
  have e1 : (ids (l.filter (spentB now))).length = (l.filter (spentB now)).length := by unfold ids; simp
  rw [← e1] at ho ⊢
  refine ⟨_, v, _, so, sc, rfl, by omega, ho, hx, h.lim.tick now, m1, m2, m3, fun j hj => ⟨h.lim.turn now j hj, ?_⟩⟩
  have hmem := List.getElem_mem hj
  obtain ⟨n, hn, e⟩ := List.mem_map.1 hmem
  obtain ⟨h1, -⟩ := List.mem_filter.1 hn
  obtain ⟨i, hi, rfl⟩ := List.mem_iff_getElem.1 h1
  have := h.id_wf i hi
  rw [e] at this
  exact this
/-- 'tries' was written -/
theorem LimTry.put {w w6 w7 : World} {B b bT bO nT nO : Nat} {last : Int} {v : Value} {l : List No} {T T' O : Int → Int} (hx : Bx w6 B b last v l) (hl : Lim last l T' O) (ht : Mp w6 bT nT T) (ho : Mp w6 bO nO O) (hb : Below w.heap.size w w6) (htb : bT ≠ b) (hob : bO ≠ b) (hto : bT ≠ bO) (hlo : w.heap.size ≤ B) (htl : w.heap.size ≤ bT) (hol : w.heap.size ≤ bO)
    (h7 : Mp w7 bT (nT + 1) T') (hg : w6.grownBy w7 (some bT)) : LimAt w w7 B b bT bO last v l (nT + 1) nO T' O :=
  ⟨hx.grown hg htb (hx.ne_map ht), hl, h7, ho.kept (hg.block bO ho.lt (by simp; omega)), htb, hob, hto, below_grown hb hg htl hb.size, hlo, htl, hol⟩
/-- 'over' was written -/
theorem LimAck.put {w w6 w7 : World} {B b bT bO nT nO : Nat} {last : Int} {v : Value} {l : List No} {T O O' : Int → Int} (hx : Bx w6 B b last v l) (hl : Lim last l T O') (ht : Mp w6 bT nT T) (ho : Mp w6 bO nO O) (hb : Below w.heap.size w w6) (htb : bT ≠ b) (hob : bO ≠ b) (hto : bT ≠ bO) (hlo : w.heap.size ≤ B) (htl : w.heap.size ≤ bT) (hol : w.heap.size ≤ bO)
    (h7 : Mp w7 bO (nO + 1) O') (hg : w6.grownBy w7 (some bO)) : LimAt w w7 B b bT bO last v l nT (nO + 1) T O' :=
  ⟨hx.grown hg hob (hx.ne_map ho), hl, ht.kept (hg.block bT ht.lt (by simp; omega)), h7, htb, hob, hto, below_grown hb hg hol hb.size, hlo, htl, hol⟩
/-- in the midst of a Tick's row -/
structure TickAt (w wy : World) (B b bT bO : Nat) (last : Int) (v : Value) (l : List No) (nT nO : Nat) (T O : Int → Int) (ks : List Int) (base : Nat) (so : Option Addr) (sc j : Nat) : Prop where
  row : wy.ownsRow base 22 1 (.slice so ks.length sc) ks.length (ks.map uCell).flatten
  bx : Bx wy B b last v l
  lim : Lim last l T (updL O ks)
  mt : Mp wy bT nT T
  mo : Mp wy bO (nO + j) (updL O (ks.take j))
  bel : Below w.heap.size w wy
theorem TickAt.get {w wy : World} {B b bT bO nT nO base sc j : Nat} {last : Int} {v : Value} {l : List No} {T O : Int → Int} {ks : List Int} {so : Option Addr} (h : TickAt w wy B b bT bO last v l nT nO T O ks base so sc j) (hj : j < ks.length) :
    ∃ g f, so = some ⟨g, f, none⟩ ∧ wy.cell? ⟨g, f + j, none⟩ = some (.int .u64 ks[j]) := sl_u (Sl.of_own h.row) j hj
theorem TickAt.put {w wy w' : World} {B b bT bO nT nO base sc j : Nat} {last : Int} {v : Value} {l : List No} {T O : Int → Int} {ks : List Int} {so : Option Addr} (h : TickAt w wy B b bT bO last v l nT nO T O ks base so sc j) (hj : j < ks.length)
    (hob : bO ≠ b) (hto : bT ≠ bO) (hol : w.heap.size ≤ bO) (hm : Mp w' bO (nO + j + 1) (upd (updL O (ks.take j)) ks[j] 3)) (hg : wy.grownBy w' (some bO)) : TickAt w w' B b bT bO last v l nT nO T O ks base so sc (j + 1) :=
  ⟨h.row.kept hg (.inr fun e => h.mo.elem _ (own_elem h.row bO e)), h.bx.grown hg hob (h.bx.ne_map h.mo), h.lim, h.mt.kept (hg.block bT h.mt.lt (by simp; omega)), by
    rw [List.take_succ_eq_append_getElem hj, ← updL_snoc]; exact hm, below_grown h.bel hg hol h.bel.size⟩
theorem TickAt.done {w wy : World} {B b bT bO nT nO base sc : Nat} {last : Int} {v : Value} {l : List No} {T O : Int → Int} {ks : List Int} {so : Option Addr} (h : TickAt w wy B b bT bO last v l nT nO T O ks base so sc ks.length)
    (htb : bT ≠ b) (hob : bO ≠ b) (hto : bT ≠ bO) (hlo : w.heap.size ≤ B) (htl : w.heap.size ≤ bT) (hol : w.heap.size ≤ bO) : LimAt w wy B b bT bO last v l nT (nO + ks.length) T (updL O ks) :=
  ⟨h.bx, h.lim, h.mt, by have := h.mo; rw [List.take_length] at this; exact this, htb, hob, hto, h.bel, hlo, htl, hol⟩
end Go.Proofs.Ytdcinhnplcipoaa
