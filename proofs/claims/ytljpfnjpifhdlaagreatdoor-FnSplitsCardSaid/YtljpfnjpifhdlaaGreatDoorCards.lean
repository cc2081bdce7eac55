/-
  DERIVED. GIVEN WITH THE SEED: THE CARDS: each row of YtljpfnjpifhdlaaGreatDoorRows.lean that lists a variable, with what it lists TIED to the program's text (the seventh form; the later family's looks); each row that meets fmt, with fmt's text TOLD by the authors' own Lean function (tested against real Go, not proved from fmt's source: count such statements apart). THE CARD IS WHAT COUNTS. Prove the row's statement (the work); the ties are given (YtljpfnjpifhdlaaGreatDoorTie.lean); close each card by the builder's one call (the guide's Derived/Test/ToyasCard.lean, 'card_holds'). Laid BY PROGRAM, IN A SANDBOX (cutbox-door.mjs). By AI agents, Wed Nov 11 2026. No macro, syntax, notation, axiom, sorry.
-/
import Derived.Test.YtljpfnjpifhdlaaGreatDoorRows
import GoSem.ClaimSeven
namespace Go.Proofs.YtljpfnjpifhdlaaGreatDoor
namespace Rows

/-- THE TIED CARD OF 'laws.FnPlus'. -/
def fnPlusCard : Claim7 := { stood := { row := fnPlusRow, standIns := [], harness := (true, "de816f09245a04e7ccf624d3de9b855a0de939dfb43ddcce94b8919223ce96ad"), looks := true }, kinds := [], alts := [], laidByText := true, laidKinds := [.data, .data, .data, .sentinel, .sentinel], laidTests := true, laidLooks := .later }
def FnPlusCardSaid : Prop := Claim7.holds Tryz.pinned (.plain (OpenSpec.ofChange fnPlusSpec)) fnPlusCard

/-- THE TIED CARD OF 'laws.FnSplits'. -/
def fnSplitsCard : Claim7 := { stood := { row := fnSplitsRow, standIns := [], harness := (true, "de816f09245a04e7ccf624d3de9b855a0de939dfb43ddcce94b8919223ce96ad"), looks := true }, kinds := [], alts := [], laidByText := true, laidKinds := [.data, .data, .data, .sentinel, .sentinel], laidTests := true, laidLooks := .later }
def FnSplitsCardSaid : Prop := Claim7.holds Tryz.pinned (.plain (OpenSpec.ofChange fnSplitsSpec)) fnSplitsCard

/-- THE SECOND FORM's CARD OF 'laws.FnPlus'. -/
def fnPlusUptoCard : Claim7 := { stood := { row := fnPlusUptoRow, standIns := [], harness := (true, "de816f09245a04e7ccf624d3de9b855a0de939dfb43ddcce94b8919223ce96ad"), looks := true }, kinds := [], alts := [], laidByText := true, laidKinds := [.data, .data, .data, .sentinel, .sentinel], laidTests := true, laidLooks := .later }
def FnPlusUptoCardSaid : Prop := Claim7.holds Tryz.pinned (.plain (OpenSpec.upto fnPlusSpec)) fnPlusUptoCard

/-- THE SECOND FORM's CARD OF 'laws.FnSplits'. -/
def fnSplitsUptoCard : Claim7 := { stood := { row := fnSplitsUptoRow, standIns := [], harness := (true, "de816f09245a04e7ccf624d3de9b855a0de939dfb43ddcce94b8919223ce96ad"), looks := true }, kinds := [], alts := [], laidByText := true, laidKinds := [.data, .data, .data, .sentinel, .sentinel], laidTests := true, laidLooks := .later }
def FnSplitsUptoCardSaid : Prop := Claim7.holds Tryz.pinned (.plain (OpenSpec.upto fnSplitsSpec)) fnSplitsUptoCard
end Rows
end Go.Proofs.YtljpfnjpifhdlaaGreatDoor
