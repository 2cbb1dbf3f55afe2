/-
  No cell of these rows narrows 'for every input' (looked for: loops, veiled, ifaces, maps, wideKeys, modest, calm, conditions, laid).
  DERIVED. THE GIVEN ROWS OF THIS SEAT. 3 by the template 'for every input the law returns true; each argument reads behind the call as it read before'; 0 by the template 'total and deterministic' (their statements: YtbmkgcoolofmpaaTotals.lean).
  GIVEN WITH THE SEED: the statements are not yours to turn. If you find one false, say at which input.
  Laid BY PROGRAM, IN A SANDBOX (cutbox-rows.mjs): the forced cells as the released guide's own fill.sh prints them over the translation 02d2ab93013feac0… (all of the seat's roots in one cut). By AI agents, Wed Nov 11 2026. No macro, syntax, notation, axiom, sorry.
-/
import Derived.Test.YtbmkgcoolofmpaaChecked
import GoSem.Claim
import GoSem.ClaimJoined
import GoSem.ClaimMapViews
import Derived.JoinedTies
import Derived.KernelRfl
namespace Go.Proofs.Ytbmkgcoolofmpaa
/- THE CELL 'sum', in the pinned program and in every row, IS THE sha256 OF THE DUMP (.gsa) THAT YtbmkgcoolofmpaaProg.lean LOADS. Nothing in Lean hashes anything: it is a label: what it is worth is what the hold of that sum in a sandbox is worth. -/
noncomputable def Try.pinned : Pinned := { name := "ytbmkgcoolofmpaa", sum := "02d2ab93013feac0975f0d6a6335e96c631ead4a80cce378ee97292ec40a4fff", checked := Try.checked }
namespace Rows
def none {H : Type} : Left H := { results := [], args := [] }

/-- 'curfewlaw36.BagPlays': WHATEVER THE INPUT: true; the input reads as it did. -/
def bagPlaysSpec : ChangeSpec := { name := "bagPlays", fn := fun _ => fun
  | [d1, d2] => { results := [.lit (.bool true)], args := [d1, d2] }
  | _ => none }
def bagPlaysRow : OpenClaim := { program := "ytbmkgcoolofmpaa", sum := "02d2ab93013feac0975f0d6a6335e96c631ead4a80cce378ee97292ec40a4fff", func := "curfew/curfewlaw36.BagPlays", spec := "bagPlays", inPlace := ["slices.overlaps[curfew/bag.letter]"], unfollowed := true, recurses := true, apart := false }
def BagPlaysSaid : Prop := bagPlaysRow.holds Try.pinned (OpenSpec.ofChange bagPlaysSpec)

/-- ITS FALSE NEIGHBOUR: 'it returns false'. Refute it at one input. -/
def bagPlaysWrong : ChangeSpec := { name := "bagPlays", fn := fun _ => fun
  | [d1, d2] => { results := [.lit (.bool false)], args := [d1, d2] }
  | _ => none }
def BagPlaysWrongFalsely : Prop := bagPlaysRow.holds Try.pinned (OpenSpec.ofChange bagPlaysWrong)

/-- 'curfewlaw36.BagApart': WHATEVER THE INPUT: true; the input reads as it did. -/
def bagApartSpec : ChangeSpec := { name := "bagApart", fn := fun _ => fun
  | [d1, d2, d3] => { results := [.lit (.bool true)], args := [d1, d2, d3] }
  | _ => none }
def bagApartRow : OpenClaim := { program := "ytbmkgcoolofmpaa", sum := "02d2ab93013feac0975f0d6a6335e96c631ead4a80cce378ee97292ec40a4fff", func := "curfew/curfewlaw36.BagApart", spec := "bagApart", inPlace := ["slices.overlaps[curfew/bag.letter]", "maps.clone"], unfollowed := true, recurses := true, apart := false }
def BagApartSaid : Prop := bagApartRow.holds Try.pinned (OpenSpec.ofChange bagApartSpec)

/-- ITS FALSE NEIGHBOUR: 'it returns false'. Refute it at one input. -/
def bagApartWrong : ChangeSpec := { name := "bagApart", fn := fun _ => fun
  | [d1, d2, d3] => { results := [.lit (.bool false)], args := [d1, d2, d3] }
  | _ => none }
def BagApartWrongFalsely : Prop := bagApartRow.holds Try.pinned (OpenSpec.ofChange bagApartWrong)

/-- 'curfewlaw36.BagOnce': WHATEVER THE INPUT: true; the input reads as it did. -/
def bagOnceSpec : ChangeSpec := { name := "bagOnce", fn := fun _ => fun
  | [d] => { results := [.lit (.bool true)], args := [d] }
  | _ => none }
def bagOnceRow : OpenClaim := { program := "ytbmkgcoolofmpaa", sum := "02d2ab93013feac0975f0d6a6335e96c631ead4a80cce378ee97292ec40a4fff", func := "curfew/curfewlaw36.BagOnce", spec := "bagOnce", inPlace := ["slices.overlaps[curfew/bag.letter]"], unfollowed := true, recurses := true, apart := false }
def BagOnceSaid : Prop := bagOnceRow.holds Try.pinned (OpenSpec.ofChange bagOnceSpec)

/-- ITS FALSE NEIGHBOUR: 'it returns false'. Refute it at one input. -/
def bagOnceWrong : ChangeSpec := { name := "bagOnce", fn := fun _ => fun
  | [d] => { results := [.lit (.bool false)], args := [d] }
  | _ => none }
def BagOnceWrongFalsely : Prop := bagOnceRow.holds Try.pinned (OpenSpec.ofChange bagOnceWrong)

/- THE SECOND FORM. 'bulk': how many values and letters a reading holds, each counted each time it is reached (what is shared counts as often as it is met; a slice's spare places count too). A statement '..UptoSaid' is the law's where the arguments, and the package variables that the reading takes, are together of bulk at most 1048576: NARROWER than '..Said'. Prove '..Said' where nothing that the law and all that it calls make is longer than what came in: it says more and counts as full. Else prove '..UptoSaid'. A law counts once. -/
mutual
def uptoBulk {H : Type} : DataW H → Nat
  | .lit (.string bytes) => bytes.length + 1
  | .lit _ => 1
  | .nil => 1
  | .ptr d => uptoBulk d + 1
  | .slice elems spare => uptoBulkAll elems + uptoBulkAll spare + 1
  | .agg parts => uptoBulkAll parts + 1
  | .iface _ d => uptoBulk d + 1
  | .map entries => uptoBulkEntries entries + 1
  | .held _ => 1
def uptoBulkAll {H : Type} : List (DataW H) → Nat
  | [] => 0
  | d :: r => uptoBulk d + uptoBulkAll r
def uptoBulkEntries {H : Type} : List (Lit × DataW H) → Nat
  | [] => 0
  | x :: r => uptoBulkEntry x + uptoBulkEntries r
def uptoBulkEntry {H : Type} : Lit × DataW H → Nat
  | (.string bytes, d) => bytes.length + uptoBulk d + 1
  | (_, d) => uptoBulk d + 1
 end
def uptoSmall : (H : Type) → List (DataW H) → Bool := fun _ ds => decide (uptoBulkAll ds ≤ 1048576)
def OpenSpec.upto (s : _root_.Go.ChangeSpec) : _root_.Go.OpenSpec := { _root_.Go.OpenSpec.ofChange s with cond := some uptoSmall }

/-- 'curfewlaw36.BagPlays', WHERE WHAT IT READS IS OF BULK AT MOST 1048576: true; the input reads as it did. -/
def bagPlaysUptoRow : OpenClaim := { program := "ytbmkgcoolofmpaa", sum := "02d2ab93013feac0975f0d6a6335e96c631ead4a80cce378ee97292ec40a4fff", func := "curfew/curfewlaw36.BagPlays", spec := "bagPlays", inPlace := ["slices.overlaps[curfew/bag.letter]"], unfollowed := true, recurses := true, apart := false, narrowed := true }
def BagPlaysUptoSaid : Prop := bagPlaysUptoRow.holds Try.pinned (OpenSpec.upto bagPlaysSpec)

/-- 'curfewlaw36.BagApart', WHERE WHAT IT READS IS OF BULK AT MOST 1048576: true; the input reads as it did. -/
def bagApartUptoRow : OpenClaim := { program := "ytbmkgcoolofmpaa", sum := "02d2ab93013feac0975f0d6a6335e96c631ead4a80cce378ee97292ec40a4fff", func := "curfew/curfewlaw36.BagApart", spec := "bagApart", inPlace := ["slices.overlaps[curfew/bag.letter]", "maps.clone"], unfollowed := true, recurses := true, apart := false, narrowed := true }
def BagApartUptoSaid : Prop := bagApartUptoRow.holds Try.pinned (OpenSpec.upto bagApartSpec)

/-- 'curfewlaw36.BagOnce', WHERE WHAT IT READS IS OF BULK AT MOST 1048576: true; the input reads as it did. -/
def bagOnceUptoRow : OpenClaim := { program := "ytbmkgcoolofmpaa", sum := "02d2ab93013feac0975f0d6a6335e96c631ead4a80cce378ee97292ec40a4fff", func := "curfew/curfewlaw36.BagOnce", spec := "bagOnce", inPlace := ["slices.overlaps[curfew/bag.letter]"], unfollowed := true, recurses := true, apart := false, narrowed := true }
def BagOnceUptoSaid : Prop := bagOnceUptoRow.holds Try.pinned (OpenSpec.upto bagOnceSpec)

end Rows
end Go.Proofs.Ytbmkgcoolofmpaa
