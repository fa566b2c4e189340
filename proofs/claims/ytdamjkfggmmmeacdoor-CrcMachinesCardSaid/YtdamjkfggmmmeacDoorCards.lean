/-
  DERIVED. GIVEN WITH THE SEED: THE CARDS: each row of YtdamjkfggmmmeacDoorRows.lean that lists a variable, with what it lists TIED to the program's text (the seventh form; the later family's looks); each row that meets fmt, with fmt's text TOLD by the authors' own Lean function (tested against real Go, not proved from fmt's source: count such statements apart). THE CARD IS WHAT COUNTS. Prove the row's statement (the work); the ties are given (YtdamjkfggmmmeacDoorTie.lean); close each card by the builder's one call (the guide's Derived/Test/ToyasCard.lean, 'card_holds'). Laid BY PROGRAM, IN A SANDBOX (cutbox-door.mjs). By AI agents, Wed Nov 11 2026. No macro, syntax, notation, axiom, sorry.
-/
import Derived.Test.YtdamjkfggmmmeacDoorRows
import GoSem.ClaimSeven
namespace Go.Proofs.YtdamjkfggmmmeacDoor
namespace Rows

/-- THE TIED CARD OF 'polyglotlaw03.CrcMachines'. -/
def crcMachinesCard : Claim7 := { stood := { row := crcMachinesRow, standIns := [], harness := (true, "b017e487a9a53e2688530e0f2bd2f31ec8f50777654fb8834a663a6f02df25e4"), looks := false }, kinds := [], alts := [], laidByText := true, laidKinds := [.data], laidTests := true, laidLooks := .later }
def CrcMachinesCardSaid : Prop := Claim7.holds Tryd.pinned (.plain (OpenSpec.ofChange crcMachinesSpec)) crcMachinesCard

/-- THE SECOND FORM's CARD OF 'polyglotlaw03.CrcMachines'. -/
def crcMachinesUptoCard : Claim7 := { stood := { row := crcMachinesUptoRow, standIns := [], harness := (true, "b017e487a9a53e2688530e0f2bd2f31ec8f50777654fb8834a663a6f02df25e4"), looks := false }, kinds := [], alts := [], laidByText := true, laidKinds := [.data], laidTests := true, laidLooks := .later }
def CrcMachinesUptoCardSaid : Prop := Claim7.holds Tryd.pinned (.plain (OpenSpec.upto crcMachinesSpec)) crcMachinesUptoCard
end Rows
end Go.Proofs.YtdamjkfggmmmeacDoor
