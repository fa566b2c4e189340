/-
  NARROWER THAN 'FOR EVERY INPUT', by the rows' own cells (each row's printed sentence says how): CrcSums: laid · CrcTurned: laid · CrcTails: laid.
  DERIVED. THE GIVEN ROWS OF THIS SEAT. 3 by the template 'for every input the law returns true; each argument reads behind the call as it read before'; 0 by the template 'total and deterministic' (their statements: YtdamjkfggmmmeaaDoorTotals.lean).
  GIVEN WITH THE SEED: the statements are not yours to turn. If you find one false, say at which input.
  Laid BY PROGRAM, IN A SANDBOX (cutbox-rows.mjs): the forced cells as the released guide's own fill.sh prints them over the translation d0201cd78b3826e7… (all of the seat's roots in one cut). By AI agents, Wed Nov 11 2026. No macro, syntax, notation, axiom, sorry.
-/
import Derived.Test.YtdamjkfggmmmeaaDoorChecked
import GoSem.Claim
import GoSem.ClaimJoined
import GoSem.ClaimMapViews
import Derived.JoinedTies
import Derived.KernelRfl
namespace Go.Proofs.YtdamjkfggmmmeaaDoor
/- THE CELL 'sum', in the pinned program and in every row, IS THE sha256 OF THE DUMP (.gsa) THAT YtdamjkfggmmmeaaDoorProg.lean LOADS. Nothing in Lean hashes anything: it is a label: what it is worth is what the hold of that sum in a sandbox is worth. -/
noncomputable def Tryd.pinned : Pinned := { name := "ytdamjkfggmmmeaadoor", sum := "d0201cd78b3826e775046145bc5ce6a6c7899e153a2e24a3464c6f6397dbbca3", checked := Tryd.checked }
namespace Rows
def none {H : Type} : Left H := { results := [], args := [] }

/- WHAT THE LISTED PACKAGE-LEVEL VARIABLES READ AS WHEN THE CALL BEGINS. Each datum BY PROGRAM (the guide's laid-datum.mjs) off the statement by which the dump's own 'gosem.cut.vars' lays the variable. In a bare row this is a premise. The card (YtdamjkfggmmmeaaDoorCards.lean) ties it to the program's text. -/
def laid_polyglot_crc_halves {H : Type} : DataW H := .agg [.lit (.int .u32 0), .lit (.int .u32 79764919), .lit (.int .u32 159529838), .lit (.int .u32 222504665), .lit (.int .u32 319059676), .lit (.int .u32 398814059), .lit (.int .u32 445009330), .lit (.int .u32 507990021), .lit (.int .u32 638119352), .lit (.int .u32 583659535), .lit (.int .u32 797628118), .lit (.int .u32 726387553), .lit (.int .u32 890018660), .lit (.int .u32 835552979), .lit (.int .u32 1015980042), .lit (.int .u32 944750013)]

/-- 'polyglotlaw03.CrcSums': WHATEVER THE INPUT: true; the input reads as it did. -/
def crcSumsSpec : ChangeSpec := { name := "crcSums", fn := fun _ => fun
  | [d1, d2] => { results := [.lit (.bool true)], args := [d1, d2] }
  | _ => none }
def crcSumsRow : OpenClaim := { program := "ytdamjkfggmmmeaadoor", sum := "d0201cd78b3826e775046145bc5ce6a6c7899e153a2e24a3464c6f6397dbbca3", func := "polyglot/polyglotlaw03.CrcSums", spec := "crcSums", named := ["polyglot/crc.halves"], apart := false, laid := [("polyglot/crc.halves", laid_polyglot_crc_halves)] }
def CrcSumsSaid : Prop := crcSumsRow.holds Tryd.pinned (OpenSpec.ofChange crcSumsSpec)

/-- ITS FALSE NEIGHBOUR: 'it returns false'. Refute it at one input. -/
def crcSumsWrong : ChangeSpec := { name := "crcSums", fn := fun _ => fun
  | [d1, d2] => { results := [.lit (.bool false)], args := [d1, d2] }
  | _ => none }
def CrcSumsWrongFalsely : Prop := crcSumsRow.holds Tryd.pinned (OpenSpec.ofChange crcSumsWrong)

/-- 'polyglotlaw03.CrcTurned': WHATEVER THE INPUT: true; the input reads as it did. -/
def crcTurnedSpec : ChangeSpec := { name := "crcTurned", fn := fun _ => fun
  | [d1, d2, d3] => { results := [.lit (.bool true)], args := [d1, d2, d3] }
  | _ => none }
def crcTurnedRow : OpenClaim := { program := "ytdamjkfggmmmeaadoor", sum := "d0201cd78b3826e775046145bc5ce6a6c7899e153a2e24a3464c6f6397dbbca3", func := "polyglot/polyglotlaw03.CrcTurned", spec := "crcTurned", named := ["polyglot/crc.halves"], apart := false, laid := [("polyglot/crc.halves", laid_polyglot_crc_halves)] }
def CrcTurnedSaid : Prop := crcTurnedRow.holds Tryd.pinned (OpenSpec.ofChange crcTurnedSpec)

/-- ITS FALSE NEIGHBOUR: 'it returns false'. Refute it at one input. -/
def crcTurnedWrong : ChangeSpec := { name := "crcTurned", fn := fun _ => fun
  | [d1, d2, d3] => { results := [.lit (.bool false)], args := [d1, d2, d3] }
  | _ => none }
def CrcTurnedWrongFalsely : Prop := crcTurnedRow.holds Tryd.pinned (OpenSpec.ofChange crcTurnedWrong)

/-- 'polyglotlaw03.CrcTails': WHATEVER THE INPUT: true; the input reads as it did. -/
def crcTailsSpec : ChangeSpec := { name := "crcTails", fn := fun _ => fun
  | [d1, d2] => { results := [.lit (.bool true)], args := [d1, d2] }
  | _ => none }
def crcTailsRow : OpenClaim := { program := "ytdamjkfggmmmeaadoor", sum := "d0201cd78b3826e775046145bc5ce6a6c7899e153a2e24a3464c6f6397dbbca3", func := "polyglot/polyglotlaw03.CrcTails", spec := "crcTails", named := ["polyglot/crc.halves"], apart := false, laid := [("polyglot/crc.halves", laid_polyglot_crc_halves)] }
def CrcTailsSaid : Prop := crcTailsRow.holds Tryd.pinned (OpenSpec.ofChange crcTailsSpec)

/-- ITS FALSE NEIGHBOUR: 'it returns false'. Refute it at one input. -/
def crcTailsWrong : ChangeSpec := { name := "crcTails", fn := fun _ => fun
  | [d1, d2] => { results := [.lit (.bool false)], args := [d1, d2] }
  | _ => none }
def CrcTailsWrongFalsely : Prop := crcTailsRow.holds Tryd.pinned (OpenSpec.ofChange crcTailsWrong)

/- THE SECOND FORM. 'bulk': how many values and letters a reading holds, each counted each time it is reached (what is shared counts as often as it is met; a slice's spare places count too). A statement '..UptoSaid' is the law's where the arguments, and the package variables that the reading takes, are together of bulk at most 1048576: NARROWER than '..Said'. Prove '..Said' where nothing that the law and all that it calls make is longer than what came in: it says more and counts as full. Else prove '..UptoSaid'. A law counts once. -/
mutual
def uptoBulk {H : Type} : DataW H → Nat
  | .lit (.string bytes) => bytes.length + 1
  | .lit _ => 1
  | .nil => 1
  | .ptr d => uptoBulk d + 1
  | .slice elems spare => uptoBulkAll elems + uptoBulkAll spare + 1
  | .agg parts => uptoBulkAll parts + 1
  | .iface _ d => uptoBulk d + 1
  | .map entries => uptoBulkEntries entries + 1
  | .held _ => 1
def uptoBulkAll {H : Type} : List (DataW H) → Nat
  | [] => 0
  | d :: r => uptoBulk d + uptoBulkAll r
def uptoBulkEntries {H : Type} : List (Lit × DataW H) → Nat
  | [] => 0
  | x :: r => uptoBulkEntry x + uptoBulkEntries r
def uptoBulkEntry {H : Type} : Lit × DataW H → Nat
  | (.string bytes, d) => bytes.length + uptoBulk d + 1
  | (_, d) => uptoBulk d + 1
 end
def uptoSmall : (H : Type) → List (DataW H) → Bool := fun _ ds => decide (uptoBulkAll ds ≤ 1048576)
def OpenSpec.upto (s : _root_.Go.ChangeSpec) : _root_.Go.OpenSpec := { _root_.Go.OpenSpec.ofChange s with cond := some uptoSmall }

/-- 'polyglotlaw03.CrcSums', WHERE WHAT IT READS IS OF BULK AT MOST 1048576: true; the input reads as it did. -/
def crcSumsUptoRow : OpenClaim := { program := "ytdamjkfggmmmeaadoor", sum := "d0201cd78b3826e775046145bc5ce6a6c7899e153a2e24a3464c6f6397dbbca3", func := "polyglot/polyglotlaw03.CrcSums", spec := "crcSums", named := ["polyglot/crc.halves"], apart := false, laid := [("polyglot/crc.halves", laid_polyglot_crc_halves)], narrowed := true }
def CrcSumsUptoSaid : Prop := crcSumsUptoRow.holds Tryd.pinned (OpenSpec.upto crcSumsSpec)

/-- 'polyglotlaw03.CrcTurned', WHERE WHAT IT READS IS OF BULK AT MOST 1048576: true; the input reads as it did. -/
def crcTurnedUptoRow : OpenClaim := { program := "ytdamjkfggmmmeaadoor", sum := "d0201cd78b3826e775046145bc5ce6a6c7899e153a2e24a3464c6f6397dbbca3", func := "polyglot/polyglotlaw03.CrcTurned", spec := "crcTurned", named := ["polyglot/crc.halves"], apart := false, laid := [("polyglot/crc.halves", laid_polyglot_crc_halves)], narrowed := true }
def CrcTurnedUptoSaid : Prop := crcTurnedUptoRow.holds Tryd.pinned (OpenSpec.upto crcTurnedSpec)

/-- 'polyglotlaw03.CrcTails', WHERE WHAT IT READS IS OF BULK AT MOST 1048576: true; the input reads as it did. -/
def crcTailsUptoRow : OpenClaim := { program := "ytdamjkfggmmmeaadoor", sum := "d0201cd78b3826e775046145bc5ce6a6c7899e153a2e24a3464c6f6397dbbca3", func := "polyglot/polyglotlaw03.CrcTails", spec := "crcTails", named := ["polyglot/crc.halves"], apart := false, laid := [("polyglot/crc.halves", laid_polyglot_crc_halves)], narrowed := true }
def CrcTailsUptoSaid : Prop := crcTailsUptoRow.holds Tryd.pinned (OpenSpec.upto crcTailsSpec)

end Rows
end Go.Proofs.YtdamjkfggmmmeaaDoor
