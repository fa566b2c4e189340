/-
  DERIVED. GIVEN WITH THE SEED: THE CARDS: each row of YtdamjkfggmmmeaaDoorRows.lean that lists a variable, with what it lists TIED to the program's text (the seventh form; the later family's looks); each row that meets fmt, with fmt's text TOLD by the authors' own Lean function (tested against real Go, not proved from fmt's source: count such statements apart). THE CARD IS WHAT COUNTS. Prove the row's statement (the work); the ties are given (YtdamjkfggmmmeaaDoorTie.lean); close each card by the builder's one call (the guide's Derived/Test/ToyasCard.lean, 'card_holds'). Laid BY PROGRAM, IN A SANDBOX (cutbox-door.mjs). By AI agents, Wed Nov 11 2026. No macro, syntax, notation, axiom, sorry.
-/
import Derived.Test.YtdamjkfggmmmeaaDoorRows
import GoSem.ClaimSeven
namespace Go.Proofs.YtdamjkfggmmmeaaDoor
namespace Rows

/-- THE TIED CARD OF 'polyglotlaw03.CrcSums'. -/
def crcSumsCard : Claim7 := { stood := { row := crcSumsRow, standIns := [], harness := (true, "22a0e86e6b270023bd503d458e4cae5714d6ee5051ef503a9b5a82c01792e0fa"), looks := false }, kinds := [], alts := [], laidByText := true, laidKinds := [.data], laidTests := true, laidLooks := .later }
def CrcSumsCardSaid : Prop := Claim7.holds Tryd.pinned (.plain (OpenSpec.ofChange crcSumsSpec)) crcSumsCard

/-- THE TIED CARD OF 'polyglotlaw03.CrcTurned'. -/
def crcTurnedCard : Claim7 := { stood := { row := crcTurnedRow, standIns := [], harness := (true, "22a0e86e6b270023bd503d458e4cae5714d6ee5051ef503a9b5a82c01792e0fa"), looks := false }, kinds := [], alts := [], laidByText := true, laidKinds := [.data], laidTests := true, laidLooks := .later }
def CrcTurnedCardSaid : Prop := Claim7.holds Tryd.pinned (.plain (OpenSpec.ofChange crcTurnedSpec)) crcTurnedCard

/-- THE TIED CARD OF 'polyglotlaw03.CrcTails'. -/
def crcTailsCard : Claim7 := { stood := { row := crcTailsRow, standIns := [], harness := (true, "22a0e86e6b270023bd503d458e4cae5714d6ee5051ef503a9b5a82c01792e0fa"), looks := false }, kinds := [], alts := [], laidByText := true, laidKinds := [.data], laidTests := true, laidLooks := .later }
def CrcTailsCardSaid : Prop := Claim7.holds Tryd.pinned (.plain (OpenSpec.ofChange crcTailsSpec)) crcTailsCard

/-- THE SECOND FORM's CARD OF 'polyglotlaw03.CrcSums'. -/
def crcSumsUptoCard : Claim7 := { stood := { row := crcSumsUptoRow, standIns := [], harness := (true, "22a0e86e6b270023bd503d458e4cae5714d6ee5051ef503a9b5a82c01792e0fa"), looks := false }, kinds := [], alts := [], laidByText := true, laidKinds := [.data], laidTests := true, laidLooks := .later }
def CrcSumsUptoCardSaid : Prop := Claim7.holds Tryd.pinned (.plain (OpenSpec.upto crcSumsSpec)) crcSumsUptoCard

/-- THE SECOND FORM's CARD OF 'polyglotlaw03.CrcTurned'. -/
def crcTurnedUptoCard : Claim7 := { stood := { row := crcTurnedUptoRow, standIns := [], harness := (true, "22a0e86e6b270023bd503d458e4cae5714d6ee5051ef503a9b5a82c01792e0fa"), looks := false }, kinds := [], alts := [], laidByText := true, laidKinds := [.data], laidTests := true, laidLooks := .later }
def CrcTurnedUptoCardSaid : Prop := Claim7.holds Tryd.pinned (.plain (OpenSpec.upto crcTurnedSpec)) crcTurnedUptoCard

/-- THE SECOND FORM's CARD OF 'polyglotlaw03.CrcTails'. -/
def crcTailsUptoCard : Claim7 := { stood := { row := crcTailsUptoRow, standIns := [], harness := (true, "22a0e86e6b270023bd503d458e4cae5714d6ee5051ef503a9b5a82c01792e0fa"), looks := false }, kinds := [], alts := [], laidByText := true, laidKinds := [.data], laidTests := true, laidLooks := .later }
def CrcTailsUptoCardSaid : Prop := Claim7.holds Tryd.pinned (.plain (OpenSpec.upto crcTailsSpec)) crcTailsUptoCard
end Rows
end Go.Proofs.YtdamjkfggmmmeaaDoor
