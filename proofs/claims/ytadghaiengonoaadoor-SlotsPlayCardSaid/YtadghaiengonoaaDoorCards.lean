/-
  DERIVED. GIVEN WITH THE SEED: THE CARDS: each row of YtadghaiengonoaaDoorRows.lean that lists a variable, with what it lists TIED to the program's text (the seventh form; the later family's looks); each row that meets fmt, with fmt's text TOLD by the authors' own Lean function (tested against real Go, not proved from fmt's source: count such statements apart). THE CARD IS WHAT COUNTS. Prove the row's statement (the work); the ties are given (YtadghaiengonoaaDoorTie.lean); close each card by the builder's one call (the guide's Derived/Test/ToyasCard.lean, 'card_holds'). Laid BY PROGRAM, IN A SANDBOX (cutbox-door.mjs). By AI agents, Wed Nov 11 2026. No macro, syntax, notation, axiom, sorry.
-/
import Derived.Test.YtadghaiengonoaaDoorRows
import GoSem.ClaimSeven
namespace Go.Proofs.YtadghaiengonoaaDoor
namespace Rows

/-- THE TIED CARD OF 'curfewlaw11.SlotsSort'. -/
def slotsSortCard : Claim7 := { stood := { row := slotsSortRow, standIns := [], harness := (true, "abcd31f955835167c220e8fe9e98a1514272d70b94f0ff529e9980ed0b7339bd"), looks := false }, kinds := [], alts := [], laidByText := true, laidKinds := [.data], laidTests := true, laidLooks := .later }
def SlotsSortCardSaid : Prop := Claim7.holds Tryd.pinned (.plain (OpenSpec.ofChange slotsSortSpec)) slotsSortCard

/-- THE TIED CARD OF 'curfewlaw11.SlotsPlay'. -/
def slotsPlayCard : Claim7 := { stood := { row := slotsPlayRow, standIns := [], harness := (true, "abcd31f955835167c220e8fe9e98a1514272d70b94f0ff529e9980ed0b7339bd"), looks := false }, kinds := [], alts := [], laidByText := true, laidKinds := [.data], laidTests := true, laidLooks := .later }
def SlotsPlayCardSaid : Prop := Claim7.holds Tryd.pinned (.plain (OpenSpec.ofChange slotsPlaySpec)) slotsPlayCard

/-- THE TIED CARD OF 'curfewlaw11.SlotsNobody'. -/
def slotsNobodyCard : Claim7 := { stood := { row := slotsNobodyRow, standIns := [], harness := (true, "abcd31f955835167c220e8fe9e98a1514272d70b94f0ff529e9980ed0b7339bd"), looks := false }, kinds := [], alts := [], laidByText := true, laidKinds := [.data], laidTests := true, laidLooks := .later }
def SlotsNobodyCardSaid : Prop := Claim7.holds Tryd.pinned (.plain (OpenSpec.ofChange slotsNobodySpec)) slotsNobodyCard

/-- THE SECOND FORM's CARD OF 'curfewlaw11.SlotsSort'. -/
def slotsSortUptoCard : Claim7 := { stood := { row := slotsSortUptoRow, standIns := [], harness := (true, "abcd31f955835167c220e8fe9e98a1514272d70b94f0ff529e9980ed0b7339bd"), looks := false }, kinds := [], alts := [], laidByText := true, laidKinds := [.data], laidTests := true, laidLooks := .later }
def SlotsSortUptoCardSaid : Prop := Claim7.holds Tryd.pinned (.plain (OpenSpec.upto slotsSortSpec)) slotsSortUptoCard

/-- THE SECOND FORM's CARD OF 'curfewlaw11.SlotsPlay'. -/
def slotsPlayUptoCard : Claim7 := { stood := { row := slotsPlayUptoRow, standIns := [], harness := (true, "abcd31f955835167c220e8fe9e98a1514272d70b94f0ff529e9980ed0b7339bd"), looks := false }, kinds := [], alts := [], laidByText := true, laidKinds := [.data], laidTests := true, laidLooks := .later }
def SlotsPlayUptoCardSaid : Prop := Claim7.holds Tryd.pinned (.plain (OpenSpec.upto slotsPlaySpec)) slotsPlayUptoCard

/-- THE SECOND FORM's CARD OF 'curfewlaw11.SlotsNobody'. -/
def slotsNobodyUptoCard : Claim7 := { stood := { row := slotsNobodyUptoRow, standIns := [], harness := (true, "abcd31f955835167c220e8fe9e98a1514272d70b94f0ff529e9980ed0b7339bd"), looks := false }, kinds := [], alts := [], laidByText := true, laidKinds := [.data], laidTests := true, laidLooks := .later }
def SlotsNobodyUptoCardSaid : Prop := Claim7.holds Tryd.pinned (.plain (OpenSpec.upto slotsNobodySpec)) slotsNobodyUptoCard
end Rows
end Go.Proofs.YtadghaiengonoaaDoor
