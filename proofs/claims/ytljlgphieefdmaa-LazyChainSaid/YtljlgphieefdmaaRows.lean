/-
  No cell of these rows narrows 'for every input' (looked for: loops, veiled, ifaces, maps, wideKeys, modest, calm, conditions, laid).
  DERIVED. THE GIVEN ROWS OF THIS SEAT. 4 by the template 'for every input the law returns true; each argument reads behind the call as it read before'; 0 by the template 'total and deterministic' (their statements: YtljlgphieefdmaaTotals.lean).
  GIVEN WITH THE SEED: the statements are not yours to turn. If you find one false, say at which input.
  Laid BY PROGRAM, IN A SANDBOX (cutbox-rows.mjs): the forced cells as the released guide's own fill.sh prints them over the translation 474bb28484b225b6… (all of the seat's roots in one cut). By AI agents, Wed Nov 11 2026. No macro, syntax, notation, axiom, sorry.
-/
import Derived.Test.YtljlgphieefdmaaChecked
import GoSem.Claim
import GoSem.ClaimJoined
import GoSem.ClaimMapViews
import Derived.JoinedTies
import Derived.KernelRfl
namespace Go.Proofs.Ytljlgphieefdmaa
/- THE CELL 'sum', in the pinned program and in every row, IS THE sha256 OF THE DUMP (.gsa) THAT YtljlgphieefdmaaProg.lean LOADS. Nothing in Lean hashes anything: it is a label: what it is worth is what the hold of that sum in a sandbox is worth. -/
noncomputable def Try.pinned : Pinned := { name := "ytljlgphieefdmaa", sum := "474bb28484b225b6859921a80442b1228c971f0e1f3a595e311fa90c411b723d", checked := Try.checked }
namespace Rows
def none {H : Type} : Left H := { results := [], args := [] }

/-- 'curfewlaw04.LazyChain': WHATEVER THE INPUT: true; the input reads as it did. -/
def lazyChainSpec : ChangeSpec := { name := "lazyChain", fn := fun _ => fun
  | [d1, d2] => { results := [.lit (.bool true)], args := [d1, d2] }
  | _ => none }
def lazyChainRow : OpenClaim := { program := "ytljlgphieefdmaa", sum := "474bb28484b225b6859921a80442b1228c971f0e1f3a595e311fa90c411b723d", func := "curfew/curfewlaw04.LazyChain", spec := "lazyChain", inPlace := ["sync/atomic.LoadUint32", "sync/atomic.AddInt64", "sync/atomic.StoreUint32", "(*internal/sync.Mutex).Lock", "internal/race.Disable", "sync/atomic.CompareAndSwapInt32", "internal/race.Enable", "internal/race.Acquire", "(*internal/sync.Mutex).lockSlow", "internal/sync.runtime_canSpin", "internal/sync.runtime_doSpin", "internal/sync.throw", "internal/sync.runtime_nanotime", "internal/sync.runtime_SemacquireMutex", "sync/atomic.AddInt32", "(*internal/sync.Mutex).Unlock", "internal/race.ReleaseMerge", "(*internal/sync.Mutex).unlockSlow", "internal/sync.fatal", "internal/sync.runtime_Semrelease", "sync/atomic.LoadInt64"], unfollowed := true, recurses := true, apart := false }
def LazyChainSaid : Prop := lazyChainRow.holds Try.pinned (OpenSpec.ofChange lazyChainSpec)

/-- ITS FALSE NEIGHBOUR: 'it returns false'. Refute it at one input. -/
def lazyChainWrong : ChangeSpec := { name := "lazyChain", fn := fun _ => fun
  | [d1, d2] => { results := [.lit (.bool false)], args := [d1, d2] }
  | _ => none }
def LazyChainWrongFalsely : Prop := lazyChainRow.holds Try.pinned (OpenSpec.ofChange lazyChainWrong)

/-- 'curfewlaw04.LazyNobody': WHATEVER THE INPUT: true; the input reads as it did. -/
def lazyNobodySpec : ChangeSpec := { name := "lazyNobody", fn := fun _ => fun
  | [d] => { results := [.lit (.bool true)], args := [d] }
  | _ => none }
def lazyNobodyRow : OpenClaim := { program := "ytljlgphieefdmaa", sum := "474bb28484b225b6859921a80442b1228c971f0e1f3a595e311fa90c411b723d", func := "curfew/curfewlaw04.LazyNobody", spec := "lazyNobody", inPlace := ["sync/atomic.AddInt64", "sync/atomic.StoreUint32", "sync/atomic.LoadUint32", "(*internal/sync.Mutex).Lock", "internal/race.Disable", "sync/atomic.CompareAndSwapInt32", "internal/race.Enable", "internal/race.Acquire", "(*internal/sync.Mutex).lockSlow", "internal/sync.runtime_canSpin", "internal/sync.runtime_doSpin", "internal/sync.throw", "internal/sync.runtime_nanotime", "internal/sync.runtime_SemacquireMutex", "sync/atomic.AddInt32", "(*internal/sync.Mutex).Unlock", "internal/race.ReleaseMerge", "(*internal/sync.Mutex).unlockSlow", "internal/sync.fatal", "internal/sync.runtime_Semrelease", "sync/atomic.LoadInt64"], unfollowed := true, recurses := true, apart := false }
def LazyNobodySaid : Prop := lazyNobodyRow.holds Try.pinned (OpenSpec.ofChange lazyNobodySpec)

/-- ITS FALSE NEIGHBOUR: 'it returns false'. Refute it at one input. -/
def lazyNobodyWrong : ChangeSpec := { name := "lazyNobody", fn := fun _ => fun
  | [d] => { results := [.lit (.bool false)], args := [d] }
  | _ => none }
def LazyNobodyWrongFalsely : Prop := lazyNobodyRow.holds Try.pinned (OpenSpec.ofChange lazyNobodyWrong)

/-- 'curfewlaw04.LazySizes': WHATEVER THE INPUT: true; the input reads as it did. -/
def lazySizesSpec : ChangeSpec := { name := "lazySizes", fn := fun _ => fun
  | [d1, d2] => { results := [.lit (.bool true)], args := [d1, d2] }
  | _ => none }
def lazySizesRow : OpenClaim := { program := "ytljlgphieefdmaa", sum := "474bb28484b225b6859921a80442b1228c971f0e1f3a595e311fa90c411b723d", func := "curfew/curfewlaw04.LazySizes", spec := "lazySizes", inPlace := ["sync/atomic.LoadUint32", "sync/atomic.AddInt64", "sync/atomic.StoreUint32", "(*internal/sync.Mutex).Lock", "internal/race.Disable", "sync/atomic.CompareAndSwapInt32", "internal/race.Enable", "internal/race.Acquire", "(*internal/sync.Mutex).lockSlow", "internal/sync.runtime_canSpin", "internal/sync.runtime_doSpin", "internal/sync.throw", "internal/sync.runtime_nanotime", "internal/sync.runtime_SemacquireMutex", "sync/atomic.AddInt32", "(*internal/sync.Mutex).Unlock", "internal/race.ReleaseMerge", "(*internal/sync.Mutex).unlockSlow", "internal/sync.fatal", "internal/sync.runtime_Semrelease", "sync/atomic.LoadInt64"], unfollowed := true, recurses := true, apart := false }
def LazySizesSaid : Prop := lazySizesRow.holds Try.pinned (OpenSpec.ofChange lazySizesSpec)

/-- ITS FALSE NEIGHBOUR: 'it returns false'. Refute it at one input. -/
def lazySizesWrong : ChangeSpec := { name := "lazySizes", fn := fun _ => fun
  | [d1, d2] => { results := [.lit (.bool false)], args := [d1, d2] }
  | _ => none }
def LazySizesWrongFalsely : Prop := lazySizesRow.holds Try.pinned (OpenSpec.ofChange lazySizesWrong)

/-- 'curfewlaw04.LazyRows': WHATEVER THE INPUT: true; the input reads as it did. -/
def lazyRowsSpec : ChangeSpec := { name := "lazyRows", fn := fun _ => fun
  | [d1, d2] => { results := [.lit (.bool true)], args := [d1, d2] }
  | _ => none }
def lazyRowsRow : OpenClaim := { program := "ytljlgphieefdmaa", sum := "474bb28484b225b6859921a80442b1228c971f0e1f3a595e311fa90c411b723d", func := "curfew/curfewlaw04.LazyRows", spec := "lazyRows", inPlace := ["sync/atomic.LoadUint32", "sync/atomic.AddInt64", "sync/atomic.StoreUint32", "(*internal/sync.Mutex).Lock", "internal/race.Disable", "sync/atomic.CompareAndSwapInt32", "internal/race.Enable", "internal/race.Acquire", "(*internal/sync.Mutex).lockSlow", "internal/sync.runtime_canSpin", "internal/sync.runtime_doSpin", "internal/sync.throw", "internal/sync.runtime_nanotime", "internal/sync.runtime_SemacquireMutex", "sync/atomic.AddInt32", "(*internal/sync.Mutex).Unlock", "internal/race.ReleaseMerge", "(*internal/sync.Mutex).unlockSlow", "internal/sync.fatal", "internal/sync.runtime_Semrelease", "sync/atomic.LoadInt64"], unfollowed := true, recurses := true, apart := false }
def LazyRowsSaid : Prop := lazyRowsRow.holds Try.pinned (OpenSpec.ofChange lazyRowsSpec)

/-- ITS FALSE NEIGHBOUR: 'it returns false'. Refute it at one input. -/
def lazyRowsWrong : ChangeSpec := { name := "lazyRows", fn := fun _ => fun
  | [d1, d2] => { results := [.lit (.bool false)], args := [d1, d2] }
  | _ => none }
def LazyRowsWrongFalsely : Prop := lazyRowsRow.holds Try.pinned (OpenSpec.ofChange lazyRowsWrong)

/- THE SECOND FORM. 'bulk': how many values and letters a reading holds, each counted each time it is reached (what is shared counts as often as it is met; a slice's spare places count too). A statement '..UptoSaid' is the law's where the arguments, and the package variables that the reading takes, are together of bulk at most 1048576: NARROWER than '..Said'. Prove '..Said' where nothing that the law and all that it calls make is longer than what came in: it says more and counts as full. Else prove '..UptoSaid'. A law counts once. -/
mutual
def uptoBulk {H : Type} : DataW H → Nat
  | .lit (.string bytes) => bytes.length + 1
  | .lit _ => 1
  | .nil => 1
  | .ptr d => uptoBulk d + 1
  | .slice elems spare => uptoBulkAll elems + uptoBulkAll spare + 1
  | .agg parts => uptoBulkAll parts + 1
  | .iface _ d => uptoBulk d + 1
  | .map entries => uptoBulkEntries entries + 1
  | .held _ => 1
def uptoBulkAll {H : Type} : List (DataW H) → Nat
  | [] => 0
  | d :: r => uptoBulk d + uptoBulkAll r
def uptoBulkEntries {H : Type} : List (Lit × DataW H) → Nat
  | [] => 0
  | x :: r => uptoBulkEntry x + uptoBulkEntries r
def uptoBulkEntry {H : Type} : Lit × DataW H → Nat
  | (.string bytes, d) => bytes.length + uptoBulk d + 1
  | (_, d) => uptoBulk d + 1
 end
def uptoSmall : (H : Type) → List (DataW H) → Bool := fun _ ds => decide (uptoBulkAll ds ≤ 1048576)
def OpenSpec.upto (s : _root_.Go.ChangeSpec) : _root_.Go.OpenSpec := { _root_.Go.OpenSpec.ofChange s with cond := some uptoSmall }

/-- 'curfewlaw04.LazyChain', WHERE WHAT IT READS IS OF BULK AT MOST 1048576: true; the input reads as it did. -/
def lazyChainUptoRow : OpenClaim := { program := "ytljlgphieefdmaa", sum := "474bb28484b225b6859921a80442b1228c971f0e1f3a595e311fa90c411b723d", func := "curfew/curfewlaw04.LazyChain", spec := "lazyChain", inPlace := ["sync/atomic.LoadUint32", "sync/atomic.AddInt64", "sync/atomic.StoreUint32", "(*internal/sync.Mutex).Lock", "internal/race.Disable", "sync/atomic.CompareAndSwapInt32", "internal/race.Enable", "internal/race.Acquire", "(*internal/sync.Mutex).lockSlow", "internal/sync.runtime_canSpin", "internal/sync.runtime_doSpin", "internal/sync.throw", "internal/sync.runtime_nanotime", "internal/sync.runtime_SemacquireMutex", "sync/atomic.AddInt32", "(*internal/sync.Mutex).Unlock", "internal/race.ReleaseMerge", "(*internal/sync.Mutex).unlockSlow", "internal/sync.fatal", "internal/sync.runtime_Semrelease", "sync/atomic.LoadInt64"], unfollowed := true, recurses := true, apart := false, narrowed := true }
def LazyChainUptoSaid : Prop := lazyChainUptoRow.holds Try.pinned (OpenSpec.upto lazyChainSpec)

/-- 'curfewlaw04.LazyNobody', WHERE WHAT IT READS IS OF BULK AT MOST 1048576: true; the input reads as it did. -/
def lazyNobodyUptoRow : OpenClaim := { program := "ytljlgphieefdmaa", sum := "474bb28484b225b6859921a80442b1228c971f0e1f3a595e311fa90c411b723d", func := "curfew/curfewlaw04.LazyNobody", spec := "lazyNobody", inPlace := ["sync/atomic.AddInt64", "sync/atomic.StoreUint32", "sync/atomic.LoadUint32", "(*internal/sync.Mutex).Lock", "internal/race.Disable", "sync/atomic.CompareAndSwapInt32", "internal/race.Enable", "internal/race.Acquire", "(*internal/sync.Mutex).lockSlow", "internal/sync.runtime_canSpin", "internal/sync.runtime_doSpin", "internal/sync.throw", "internal/sync.runtime_nanotime", "internal/sync.runtime_SemacquireMutex", "sync/atomic.AddInt32", "(*internal/sync.Mutex).Unlock", "internal/race.ReleaseMerge", "(*internal/sync.Mutex).unlockSlow", "internal/sync.fatal", "internal/sync.runtime_Semrelease", "sync/atomic.LoadInt64"], unfollowed := true, recurses := true, apart := false, narrowed := true }
def LazyNobodyUptoSaid : Prop := lazyNobodyUptoRow.holds Try.pinned (OpenSpec.upto lazyNobodySpec)

/-- 'curfewlaw04.LazySizes', WHERE WHAT IT READS IS OF BULK AT MOST 1048576: true; the input reads as it did. -/
def lazySizesUptoRow : OpenClaim := { program := "ytljlgphieefdmaa", sum := "474bb28484b225b6859921a80442b1228c971f0e1f3a595e311fa90c411b723d", func := "curfew/curfewlaw04.LazySizes", spec := "lazySizes", inPlace := ["sync/atomic.LoadUint32", "sync/atomic.AddInt64", "sync/atomic.StoreUint32", "(*internal/sync.Mutex).Lock", "internal/race.Disable", "sync/atomic.CompareAndSwapInt32", "internal/race.Enable", "internal/race.Acquire", "(*internal/sync.Mutex).lockSlow", "internal/sync.runtime_canSpin", "internal/sync.runtime_doSpin", "internal/sync.throw", "internal/sync.runtime_nanotime", "internal/sync.runtime_SemacquireMutex", "sync/atomic.AddInt32", "(*internal/sync.Mutex).Unlock", "internal/race.ReleaseMerge", "(*internal/sync.Mutex).unlockSlow", "internal/sync.fatal", "internal/sync.runtime_Semrelease", "sync/atomic.LoadInt64"], unfollowed := true, recurses := true, apart := false, narrowed := true }
def LazySizesUptoSaid : Prop := lazySizesUptoRow.holds Try.pinned (OpenSpec.upto lazySizesSpec)

/-- 'curfewlaw04.LazyRows', WHERE WHAT IT READS IS OF BULK AT MOST 1048576: true; the input reads as it did. -/
def lazyRowsUptoRow : OpenClaim := { program := "ytljlgphieefdmaa", sum := "474bb28484b225b6859921a80442b1228c971f0e1f3a595e311fa90c411b723d", func := "curfew/curfewlaw04.LazyRows", spec := "lazyRows", inPlace := ["sync/atomic.LoadUint32", "sync/atomic.AddInt64", "sync/atomic.StoreUint32", "(*internal/sync.Mutex).Lock", "internal/race.Disable", "sync/atomic.CompareAndSwapInt32", "internal/race.Enable", "internal/race.Acquire", "(*internal/sync.Mutex).lockSlow", "internal/sync.runtime_canSpin", "internal/sync.runtime_doSpin", "internal/sync.throw", "internal/sync.runtime_nanotime", "internal/sync.runtime_SemacquireMutex", "sync/atomic.AddInt32", "(*internal/sync.Mutex).Unlock", "internal/race.ReleaseMerge", "(*internal/sync.Mutex).unlockSlow", "internal/sync.fatal", "internal/sync.runtime_Semrelease", "sync/atomic.LoadInt64"], unfollowed := true, recurses := true, apart := false, narrowed := true }
def LazyRowsUptoSaid : Prop := lazyRowsUptoRow.holds Try.pinned (OpenSpec.upto lazyRowsSpec)

end Rows
end Go.Proofs.Ytljlgphieefdmaa
