/-
  No cell of these rows narrows 'for every input' (looked for: loops, veiled, ifaces, maps, wideKeys, modest, calm, conditions, laid).
  DERIVED. THE GIVEN ROWS OF THIS SEAT. 3 by the template 'for every input the law returns true; each argument reads behind the call as it read before'; 0 by the template 'total and deterministic' (their statements: YtiboaafelabpfaaTotals.lean).
  GIVEN WITH THE SEED: the statements are not yours to turn. If you find one false, say at which input.
  Laid BY PROGRAM, IN A SANDBOX (cutbox-rows.mjs): the forced cells as the released guide's own fill.sh prints them over the translation f08a37341284da68… (all of the seat's roots in one cut). By AI agents, Wed Nov 11 2026. No macro, syntax, notation, axiom, sorry.
-/
import Derived.Test.YtiboaafelabpfaaChecked
import GoSem.Claim
import GoSem.ClaimJoined
import GoSem.ClaimMapViews
import Derived.JoinedTies
import Derived.KernelRfl
namespace Go.Proofs.Ytiboaafelabpfaa
/- THE CELL 'sum', in the pinned program and in every row, IS THE sha256 OF THE DUMP (.gsa) THAT YtiboaafelabpfaaProg.lean LOADS. Nothing in Lean hashes anything: it is a label: what it is worth is what the hold of that sum in a sandbox is worth. -/
noncomputable def Try.pinned : Pinned := { name := "ytiboaafelabpfaa", sum := "f08a37341284da6848d701eedce74f92f66023a044d1987500b31dee9048d3e9", checked := Try.checked }
namespace Rows
def none {H : Type} : Left H := { results := [], args := [] }

/-- 'curfewlaw33.ReadsPlays': WHATEVER THE INPUT: true; the input reads as it did. -/
def readsPlaysSpec : ChangeSpec := { name := "readsPlays", fn := fun _ => fun
  | [d] => { results := [.lit (.bool true)], args := [d] }
  | _ => none }
def readsPlaysRow : OpenClaim := { program := "ytiboaafelabpfaa", sum := "f08a37341284da6848d701eedce74f92f66023a044d1987500b31dee9048d3e9", func := "curfew/curfewlaw33.ReadsPlays", spec := "readsPlays", unfollowed := true, recurses := true, apart := false }
def ReadsPlaysSaid : Prop := readsPlaysRow.holds Try.pinned (OpenSpec.ofChange readsPlaysSpec)

/-- ITS FALSE NEIGHBOUR: 'it returns false'. Refute it at one input. -/
def readsPlaysWrong : ChangeSpec := { name := "readsPlays", fn := fun _ => fun
  | [d] => { results := [.lit (.bool false)], args := [d] }
  | _ => none }
def ReadsPlaysWrongFalsely : Prop := readsPlaysRow.holds Try.pinned (OpenSpec.ofChange readsPlaysWrong)

/-- 'curfewlaw33.ReadsOnce': WHATEVER THE INPUT: true; the input reads as it did. -/
def readsOnceSpec : ChangeSpec := { name := "readsOnce", fn := fun _ => fun
  | [d] => { results := [.lit (.bool true)], args := [d] }
  | _ => none }
def readsOnceRow : OpenClaim := { program := "ytiboaafelabpfaa", sum := "f08a37341284da6848d701eedce74f92f66023a044d1987500b31dee9048d3e9", func := "curfew/curfewlaw33.ReadsOnce", spec := "readsOnce", unfollowed := true, recurses := true, apart := false }
def ReadsOnceSaid : Prop := readsOnceRow.holds Try.pinned (OpenSpec.ofChange readsOnceSpec)

/-- ITS FALSE NEIGHBOUR: 'it returns false'. Refute it at one input. -/
def readsOnceWrong : ChangeSpec := { name := "readsOnce", fn := fun _ => fun
  | [d] => { results := [.lit (.bool false)], args := [d] }
  | _ => none }
def ReadsOnceWrongFalsely : Prop := readsOnceRow.holds Try.pinned (OpenSpec.ofChange readsOnceWrong)

/-- 'curfewlaw33.ReadsNobody': WHATEVER THE INPUT: true; the input reads as it did. -/
def readsNobodySpec : ChangeSpec := { name := "readsNobody", fn := fun _ => fun
  | [d1, d2] => { results := [.lit (.bool true)], args := [d1, d2] }
  | _ => none }
def readsNobodyRow : OpenClaim := { program := "ytiboaafelabpfaa", sum := "f08a37341284da6848d701eedce74f92f66023a044d1987500b31dee9048d3e9", func := "curfew/curfewlaw33.ReadsNobody", spec := "readsNobody", unfollowed := true, recurses := true, apart := false }
def ReadsNobodySaid : Prop := readsNobodyRow.holds Try.pinned (OpenSpec.ofChange readsNobodySpec)

/-- ITS FALSE NEIGHBOUR: 'it returns false'. Refute it at one input. -/
def readsNobodyWrong : ChangeSpec := { name := "readsNobody", fn := fun _ => fun
  | [d1, d2] => { results := [.lit (.bool false)], args := [d1, d2] }
  | _ => none }
def ReadsNobodyWrongFalsely : Prop := readsNobodyRow.holds Try.pinned (OpenSpec.ofChange readsNobodyWrong)

/- THE SECOND FORM. 'bulk': how many values and letters a reading holds, each counted each time it is reached (what is shared counts as often as it is met; a slice's spare places count too). A statement '..UptoSaid' is the law's where the arguments, and the package variables that the reading takes, are together of bulk at most 1048576: NARROWER than '..Said'. Prove '..Said' where nothing that the law and all that it calls make is longer than what came in: it says more and counts as full. Else prove '..UptoSaid'. A law counts once. -/
mutual
def uptoBulk {H : Type} : DataW H → Nat
  | .lit (.string bytes) => bytes.length + 1
  | .lit _ => 1
  | .nil => 1
  | .ptr d => uptoBulk d + 1
  | .slice elems spare => uptoBulkAll elems + uptoBulkAll spare + 1
  | .agg parts => uptoBulkAll parts + 1
  | .iface _ d => uptoBulk d + 1
  | .map entries => uptoBulkEntries entries + 1
  | .held _ => 1
def uptoBulkAll {H : Type} : List (DataW H) → Nat
  | [] => 0
  | d :: r => uptoBulk d + uptoBulkAll r
def uptoBulkEntries {H : Type} : List (Lit × DataW H) → Nat
  | [] => 0
  | x :: r => uptoBulkEntry x + uptoBulkEntries r
def uptoBulkEntry {H : Type} : Lit × DataW H → Nat
  | (.string bytes, d) => bytes.length + uptoBulk d + 1
  | (_, d) => uptoBulk d + 1
 end
def uptoSmall : (H : Type) → List (DataW H) → Bool := fun _ ds => decide (uptoBulkAll ds ≤ 1048576)
def OpenSpec.upto (s : _root_.Go.ChangeSpec) : _root_.Go.OpenSpec := { _root_.Go.OpenSpec.ofChange s with cond := some uptoSmall }

/-- 'curfewlaw33.ReadsPlays', WHERE WHAT IT READS IS OF BULK AT MOST 1048576: true; the input reads as it did. -/
def readsPlaysUptoRow : OpenClaim := { program := "ytiboaafelabpfaa", sum := "f08a37341284da6848d701eedce74f92f66023a044d1987500b31dee9048d3e9", func := "curfew/curfewlaw33.ReadsPlays", spec := "readsPlays", unfollowed := true, recurses := true, apart := false, narrowed := true }
def ReadsPlaysUptoSaid : Prop := readsPlaysUptoRow.holds Try.pinned (OpenSpec.upto readsPlaysSpec)

/-- 'curfewlaw33.ReadsOnce', WHERE WHAT IT READS IS OF BULK AT MOST 1048576: true; the input reads as it did. -/
def readsOnceUptoRow : OpenClaim := { program := "ytiboaafelabpfaa", sum := "f08a37341284da6848d701eedce74f92f66023a044d1987500b31dee9048d3e9", func := "curfew/curfewlaw33.ReadsOnce", spec := "readsOnce", unfollowed := true, recurses := true, apart := false, narrowed := true }
def ReadsOnceUptoSaid : Prop := readsOnceUptoRow.holds Try.pinned (OpenSpec.upto readsOnceSpec)

/-- 'curfewlaw33.ReadsNobody', WHERE WHAT IT READS IS OF BULK AT MOST 1048576: true; the input reads as it did. -/
def readsNobodyUptoRow : OpenClaim := { program := "ytiboaafelabpfaa", sum := "f08a37341284da6848d701eedce74f92f66023a044d1987500b31dee9048d3e9", func := "curfew/curfewlaw33.ReadsNobody", spec := "readsNobody", unfollowed := true, recurses := true, apart := false, narrowed := true }
def ReadsNobodyUptoSaid : Prop := readsNobodyUptoRow.holds Try.pinned (OpenSpec.upto readsNobodySpec)

end Rows
end Go.Proofs.Ytiboaafelabpfaa
