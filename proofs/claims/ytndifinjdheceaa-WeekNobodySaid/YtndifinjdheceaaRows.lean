/-
  No cell of these rows narrows 'for every input' (looked for: loops, veiled, ifaces, maps, wideKeys, modest, calm, conditions, laid).
  DERIVED. THE GIVEN ROWS OF THIS SEAT. 5 by the template 'for every input the law returns true; each argument reads behind the call as it read before'; 0 by the template 'total and deterministic' (their statements: YtndifinjdheceaaTotals.lean).
  GIVEN WITH THE SEED: the statements are not yours to turn. If you find one false, say at which input.
  Laid BY PROGRAM, IN A SANDBOX (cutbox-rows.mjs): the forced cells as the released guide's own fill.sh prints them over the translation b7d3a19b18d4d52c… (all of the seat's roots in one cut). By AI agents, Wed Nov 11 2026. No macro, syntax, notation, axiom, sorry.
-/
import Derived.Test.YtndifinjdheceaaChecked
import GoSem.Claim
import GoSem.ClaimJoined
import GoSem.ClaimMapViews
import Derived.JoinedTies
import Derived.KernelRfl
namespace Go.Proofs.Ytndifinjdheceaa
/- THE CELL 'sum', in the pinned program and in every row, IS THE sha256 OF THE DUMP (.gsa) THAT YtndifinjdheceaaProg.lean LOADS. Nothing in Lean hashes anything: it is a label: what it is worth is what the hold of that sum in a sandbox is worth. -/
noncomputable def Try.pinned : Pinned := { name := "ytndifinjdheceaa", sum := "b7d3a19b18d4d52cbe919aaee052be614552d55c8804de3b5b2ae924e6100f8a", checked := Try.checked }
namespace Rows
def none {H : Type} : Left H := { results := [], args := [] }

/-- 'curfewlaw08.WeekCounts': WHATEVER THE INPUT: true; the input reads as it did. -/
def weekCountsSpec : ChangeSpec := { name := "weekCounts", fn := fun _ => fun
  | [d1, d2, d3, d4] => { results := [.lit (.bool true)], args := [d1, d2, d3, d4] }
  | _ => none }
def weekCountsRow : OpenClaim := { program := "ytndifinjdheceaa", sum := "b7d3a19b18d4d52cbe919aaee052be614552d55c8804de3b5b2ae924e6100f8a", func := "curfew/curfewlaw08.WeekCounts", spec := "weekCounts", inPlace := ["sync/atomic.AddInt64", "sync/atomic.StoreUint32", "sync/atomic.LoadUint32", "(*internal/sync.Mutex).Lock", "internal/race.Disable", "sync/atomic.CompareAndSwapInt32", "internal/race.Enable", "internal/race.Acquire", "(*internal/sync.Mutex).lockSlow", "internal/sync.runtime_canSpin", "internal/sync.runtime_doSpin", "internal/sync.throw", "internal/sync.runtime_nanotime", "internal/sync.runtime_SemacquireMutex", "sync/atomic.AddInt32", "(*internal/sync.Mutex).Unlock", "internal/race.ReleaseMerge", "(*internal/sync.Mutex).unlockSlow", "internal/sync.fatal", "internal/sync.runtime_Semrelease"], unfollowed := true, recurses := true, apart := false }
def WeekCountsSaid : Prop := weekCountsRow.holds Try.pinned (OpenSpec.ofChange weekCountsSpec)

/-- ITS FALSE NEIGHBOUR: 'it returns false'. Refute it at one input. -/
def weekCountsWrong : ChangeSpec := { name := "weekCounts", fn := fun _ => fun
  | [d1, d2, d3, d4] => { results := [.lit (.bool false)], args := [d1, d2, d3, d4] }
  | _ => none }
def WeekCountsWrongFalsely : Prop := weekCountsRow.holds Try.pinned (OpenSpec.ofChange weekCountsWrong)

/-- 'curfewlaw08.WeekBack': WHATEVER THE INPUT: true; the input reads as it did. -/
def weekBackSpec : ChangeSpec := { name := "weekBack", fn := fun _ => fun
  | [d1, d2] => { results := [.lit (.bool true)], args := [d1, d2] }
  | _ => none }
def weekBackRow : OpenClaim := { program := "ytndifinjdheceaa", sum := "b7d3a19b18d4d52cbe919aaee052be614552d55c8804de3b5b2ae924e6100f8a", func := "curfew/curfewlaw08.WeekBack", spec := "weekBack", inPlace := ["sync/atomic.AddInt64", "sync/atomic.StoreUint32", "sync/atomic.LoadUint32", "(*internal/sync.Mutex).Lock", "internal/race.Disable", "sync/atomic.CompareAndSwapInt32", "internal/race.Enable", "internal/race.Acquire", "(*internal/sync.Mutex).lockSlow", "internal/sync.runtime_canSpin", "internal/sync.runtime_doSpin", "internal/sync.throw", "internal/sync.runtime_nanotime", "internal/sync.runtime_SemacquireMutex", "sync/atomic.AddInt32", "(*internal/sync.Mutex).Unlock", "internal/race.ReleaseMerge", "(*internal/sync.Mutex).unlockSlow", "internal/sync.fatal", "internal/sync.runtime_Semrelease"], unfollowed := true, recurses := true, apart := false }
def WeekBackSaid : Prop := weekBackRow.holds Try.pinned (OpenSpec.ofChange weekBackSpec)

/-- ITS FALSE NEIGHBOUR: 'it returns false'. Refute it at one input. -/
def weekBackWrong : ChangeSpec := { name := "weekBack", fn := fun _ => fun
  | [d1, d2] => { results := [.lit (.bool false)], args := [d1, d2] }
  | _ => none }
def WeekBackWrongFalsely : Prop := weekBackRow.holds Try.pinned (OpenSpec.ofChange weekBackWrong)

/-- 'curfewlaw08.WeekSteps': WHATEVER THE INPUT: true; the input reads as it did. -/
def weekStepsSpec : ChangeSpec := { name := "weekSteps", fn := fun _ => fun
  | [d1, d2] => { results := [.lit (.bool true)], args := [d1, d2] }
  | _ => none }
def weekStepsRow : OpenClaim := { program := "ytndifinjdheceaa", sum := "b7d3a19b18d4d52cbe919aaee052be614552d55c8804de3b5b2ae924e6100f8a", func := "curfew/curfewlaw08.WeekSteps", spec := "weekSteps", inPlace := ["sync/atomic.AddInt64", "sync/atomic.StoreUint32", "sync/atomic.LoadUint32", "(*internal/sync.Mutex).Lock", "internal/race.Disable", "sync/atomic.CompareAndSwapInt32", "internal/race.Enable", "internal/race.Acquire", "(*internal/sync.Mutex).lockSlow", "internal/sync.runtime_canSpin", "internal/sync.runtime_doSpin", "internal/sync.throw", "internal/sync.runtime_nanotime", "internal/sync.runtime_SemacquireMutex", "sync/atomic.AddInt32", "(*internal/sync.Mutex).Unlock", "internal/race.ReleaseMerge", "(*internal/sync.Mutex).unlockSlow", "internal/sync.fatal", "internal/sync.runtime_Semrelease"], unfollowed := true, recurses := true, apart := false }
def WeekStepsSaid : Prop := weekStepsRow.holds Try.pinned (OpenSpec.ofChange weekStepsSpec)

/-- ITS FALSE NEIGHBOUR: 'it returns false'. Refute it at one input. -/
def weekStepsWrong : ChangeSpec := { name := "weekSteps", fn := fun _ => fun
  | [d1, d2] => { results := [.lit (.bool false)], args := [d1, d2] }
  | _ => none }
def WeekStepsWrongFalsely : Prop := weekStepsRow.holds Try.pinned (OpenSpec.ofChange weekStepsWrong)

/-- 'curfewlaw08.WeekTells': WHATEVER THE INPUT: true; the input reads as it did. -/
def weekTellsSpec : ChangeSpec := { name := "weekTells", fn := fun _ => fun
  | [d1, d2] => { results := [.lit (.bool true)], args := [d1, d2] }
  | _ => none }
def weekTellsRow : OpenClaim := { program := "ytndifinjdheceaa", sum := "b7d3a19b18d4d52cbe919aaee052be614552d55c8804de3b5b2ae924e6100f8a", func := "curfew/curfewlaw08.WeekTells", spec := "weekTells", inPlace := ["sync/atomic.AddInt64", "sync/atomic.StoreUint32", "sync/atomic.LoadUint32", "(*internal/sync.Mutex).Lock", "internal/race.Disable", "sync/atomic.CompareAndSwapInt32", "internal/race.Enable", "internal/race.Acquire", "(*internal/sync.Mutex).lockSlow", "internal/sync.runtime_canSpin", "internal/sync.runtime_doSpin", "internal/sync.throw", "internal/sync.runtime_nanotime", "internal/sync.runtime_SemacquireMutex", "sync/atomic.AddInt32", "(*internal/sync.Mutex).Unlock", "internal/race.ReleaseMerge", "(*internal/sync.Mutex).unlockSlow", "internal/sync.fatal", "internal/sync.runtime_Semrelease"], unfollowed := true, recurses := true, apart := false }
def WeekTellsSaid : Prop := weekTellsRow.holds Try.pinned (OpenSpec.ofChange weekTellsSpec)

/-- ITS FALSE NEIGHBOUR: 'it returns false'. Refute it at one input. -/
def weekTellsWrong : ChangeSpec := { name := "weekTells", fn := fun _ => fun
  | [d1, d2] => { results := [.lit (.bool false)], args := [d1, d2] }
  | _ => none }
def WeekTellsWrongFalsely : Prop := weekTellsRow.holds Try.pinned (OpenSpec.ofChange weekTellsWrong)

/-- 'curfewlaw08.WeekNobody': WHATEVER THE INPUT: true; the input reads as it did. -/
def weekNobodySpec : ChangeSpec := { name := "weekNobody", fn := fun _ => fun
  | [d1, d2] => { results := [.lit (.bool true)], args := [d1, d2] }
  | _ => none }
def weekNobodyRow : OpenClaim := { program := "ytndifinjdheceaa", sum := "b7d3a19b18d4d52cbe919aaee052be614552d55c8804de3b5b2ae924e6100f8a", func := "curfew/curfewlaw08.WeekNobody", spec := "weekNobody", inPlace := ["sync/atomic.AddInt64", "sync/atomic.StoreUint32", "sync/atomic.LoadUint32", "(*internal/sync.Mutex).Lock", "internal/race.Disable", "sync/atomic.CompareAndSwapInt32", "internal/race.Enable", "internal/race.Acquire", "(*internal/sync.Mutex).lockSlow", "internal/sync.runtime_canSpin", "internal/sync.runtime_doSpin", "internal/sync.throw", "internal/sync.runtime_nanotime", "internal/sync.runtime_SemacquireMutex", "sync/atomic.AddInt32", "(*internal/sync.Mutex).Unlock", "internal/race.ReleaseMerge", "(*internal/sync.Mutex).unlockSlow", "internal/sync.fatal", "internal/sync.runtime_Semrelease"], unfollowed := true, recurses := true, apart := false }
def WeekNobodySaid : Prop := weekNobodyRow.holds Try.pinned (OpenSpec.ofChange weekNobodySpec)

/-- ITS FALSE NEIGHBOUR: 'it returns false'. Refute it at one input. -/
def weekNobodyWrong : ChangeSpec := { name := "weekNobody", fn := fun _ => fun
  | [d1, d2] => { results := [.lit (.bool false)], args := [d1, d2] }
  | _ => none }
def WeekNobodyWrongFalsely : Prop := weekNobodyRow.holds Try.pinned (OpenSpec.ofChange weekNobodyWrong)

/- THE SECOND FORM. 'bulk': how many values and letters a reading holds, each counted each time it is reached (what is shared counts as often as it is met; a slice's spare places count too). A statement '..UptoSaid' is the law's where the arguments, and the package variables that the reading takes, are together of bulk at most 1048576: NARROWER than '..Said'. Prove '..Said' where nothing that the law and all that it calls make is longer than what came in: it says more and counts as full. Else prove '..UptoSaid'. A law counts once. -/
mutual
def uptoBulk {H : Type} : DataW H → Nat
  | .lit (.string bytes) => bytes.length + 1
  | .lit _ => 1
  | .nil => 1
  | .ptr d => uptoBulk d + 1
  | .slice elems spare => uptoBulkAll elems + uptoBulkAll spare + 1
  | .agg parts => uptoBulkAll parts + 1
  | .iface _ d => uptoBulk d + 1
  | .map entries => uptoBulkEntries entries + 1
  | .held _ => 1
def uptoBulkAll {H : Type} : List (DataW H) → Nat
  | [] => 0
  | d :: r => uptoBulk d + uptoBulkAll r
def uptoBulkEntries {H : Type} : List (Lit × DataW H) → Nat
  | [] => 0
  | x :: r => uptoBulkEntry x + uptoBulkEntries r
def uptoBulkEntry {H : Type} : Lit × DataW H → Nat
  | (.string bytes, d) => bytes.length + uptoBulk d + 1
  | (_, d) => uptoBulk d + 1
 end
def uptoSmall : (H : Type) → List (DataW H) → Bool := fun _ ds => decide (uptoBulkAll ds ≤ 1048576)
def OpenSpec.upto (s : _root_.Go.ChangeSpec) : _root_.Go.OpenSpec := { _root_.Go.OpenSpec.ofChange s with cond := some uptoSmall }

/-- 'curfewlaw08.WeekCounts', WHERE WHAT IT READS IS OF BULK AT MOST 1048576: true; the input reads as it did. -/
def weekCountsUptoRow : OpenClaim := { program := "ytndifinjdheceaa", sum := "b7d3a19b18d4d52cbe919aaee052be614552d55c8804de3b5b2ae924e6100f8a", func := "curfew/curfewlaw08.WeekCounts", spec := "weekCounts", inPlace := ["sync/atomic.AddInt64", "sync/atomic.StoreUint32", "sync/atomic.LoadUint32", "(*internal/sync.Mutex).Lock", "internal/race.Disable", "sync/atomic.CompareAndSwapInt32", "internal/race.Enable", "internal/race.Acquire", "(*internal/sync.Mutex).lockSlow", "internal/sync.runtime_canSpin", "internal/sync.runtime_doSpin", "internal/sync.throw", "internal/sync.runtime_nanotime", "internal/sync.runtime_SemacquireMutex", "sync/atomic.AddInt32", "(*internal/sync.Mutex).Unlock", "internal/race.ReleaseMerge", "(*internal/sync.Mutex).unlockSlow", "internal/sync.fatal", "internal/sync.runtime_Semrelease"], unfollowed := true, recurses := true, apart := false, narrowed := true }
def WeekCountsUptoSaid : Prop := weekCountsUptoRow.holds Try.pinned (OpenSpec.upto weekCountsSpec)

/-- 'curfewlaw08.WeekBack', WHERE WHAT IT READS IS OF BULK AT MOST 1048576: true; the input reads as it did. -/
def weekBackUptoRow : OpenClaim := { program := "ytndifinjdheceaa", sum := "b7d3a19b18d4d52cbe919aaee052be614552d55c8804de3b5b2ae924e6100f8a", func := "curfew/curfewlaw08.WeekBack", spec := "weekBack", inPlace := ["sync/atomic.AddInt64", "sync/atomic.StoreUint32", "sync/atomic.LoadUint32", "(*internal/sync.Mutex).Lock", "internal/race.Disable", "sync/atomic.CompareAndSwapInt32", "internal/race.Enable", "internal/race.Acquire", "(*internal/sync.Mutex).lockSlow", "internal/sync.runtime_canSpin", "internal/sync.runtime_doSpin", "internal/sync.throw", "internal/sync.runtime_nanotime", "internal/sync.runtime_SemacquireMutex", "sync/atomic.AddInt32", "(*internal/sync.Mutex).Unlock", "internal/race.ReleaseMerge", "(*internal/sync.Mutex).unlockSlow", "internal/sync.fatal", "internal/sync.runtime_Semrelease"], unfollowed := true, recurses := true, apart := false, narrowed := true }
def WeekBackUptoSaid : Prop := weekBackUptoRow.holds Try.pinned (OpenSpec.upto weekBackSpec)

/-- 'curfewlaw08.WeekSteps', WHERE WHAT IT READS IS OF BULK AT MOST 1048576: true; the input reads as it did. -/
def weekStepsUptoRow : OpenClaim := { program := "ytndifinjdheceaa", sum := "b7d3a19b18d4d52cbe919aaee052be614552d55c8804de3b5b2ae924e6100f8a", func := "curfew/curfewlaw08.WeekSteps", spec := "weekSteps", inPlace := ["sync/atomic.AddInt64", "sync/atomic.StoreUint32", "sync/atomic.LoadUint32", "(*internal/sync.Mutex).Lock", "internal/race.Disable", "sync/atomic.CompareAndSwapInt32", "internal/race.Enable", "internal/race.Acquire", "(*internal/sync.Mutex).lockSlow", "internal/sync.runtime_canSpin", "internal/sync.runtime_doSpin", "internal/sync.throw", "internal/sync.runtime_nanotime", "internal/sync.runtime_SemacquireMutex", "sync/atomic.AddInt32", "(*internal/sync.Mutex).Unlock", "internal/race.ReleaseMerge", "(*internal/sync.Mutex).unlockSlow", "internal/sync.fatal", "internal/sync.runtime_Semrelease"], unfollowed := true, recurses := true, apart := false, narrowed := true }
def WeekStepsUptoSaid : Prop := weekStepsUptoRow.holds Try.pinned (OpenSpec.upto weekStepsSpec)

/-- 'curfewlaw08.WeekTells', WHERE WHAT IT READS IS OF BULK AT MOST 1048576: true; the input reads as it did. -/
def weekTellsUptoRow : OpenClaim := { program := "ytndifinjdheceaa", sum := "b7d3a19b18d4d52cbe919aaee052be614552d55c8804de3b5b2ae924e6100f8a", func := "curfew/curfewlaw08.WeekTells", spec := "weekTells", inPlace := ["sync/atomic.AddInt64", "sync/atomic.StoreUint32", "sync/atomic.LoadUint32", "(*internal/sync.Mutex).Lock", "internal/race.Disable", "sync/atomic.CompareAndSwapInt32", "internal/race.Enable", "internal/race.Acquire", "(*internal/sync.Mutex).lockSlow", "internal/sync.runtime_canSpin", "internal/sync.runtime_doSpin", "internal/sync.throw", "internal/sync.runtime_nanotime", "internal/sync.runtime_SemacquireMutex", "sync/atomic.AddInt32", "(*internal/sync.Mutex).Unlock", "internal/race.ReleaseMerge", "(*internal/sync.Mutex).unlockSlow", "internal/sync.fatal", "internal/sync.runtime_Semrelease"], unfollowed := true, recurses := true, apart := false, narrowed := true }
def WeekTellsUptoSaid : Prop := weekTellsUptoRow.holds Try.pinned (OpenSpec.upto weekTellsSpec)

/-- 'curfewlaw08.WeekNobody', WHERE WHAT IT READS IS OF BULK AT MOST 1048576: true; the input reads as it did. -/
def weekNobodyUptoRow : OpenClaim := { program := "ytndifinjdheceaa", sum := "b7d3a19b18d4d52cbe919aaee052be614552d55c8804de3b5b2ae924e6100f8a", func := "curfew/curfewlaw08.WeekNobody", spec := "weekNobody", inPlace := ["sync/atomic.AddInt64", "sync/atomic.StoreUint32", "sync/atomic.LoadUint32", "(*internal/sync.Mutex).Lock", "internal/race.Disable", "sync/atomic.CompareAndSwapInt32", "internal/race.Enable", "internal/race.Acquire", "(*internal/sync.Mutex).lockSlow", "internal/sync.runtime_canSpin", "internal/sync.runtime_doSpin", "internal/sync.throw", "internal/sync.runtime_nanotime", "internal/sync.runtime_SemacquireMutex", "sync/atomic.AddInt32", "(*internal/sync.Mutex).Unlock", "internal/race.ReleaseMerge", "(*internal/sync.Mutex).unlockSlow", "internal/sync.fatal", "internal/sync.runtime_Semrelease"], unfollowed := true, recurses := true, apart := false, narrowed := true }
def WeekNobodyUptoSaid : Prop := weekNobodyUptoRow.holds Try.pinned (OpenSpec.upto weekNobodySpec)

end Rows
end Go.Proofs.Ytndifinjdheceaa
