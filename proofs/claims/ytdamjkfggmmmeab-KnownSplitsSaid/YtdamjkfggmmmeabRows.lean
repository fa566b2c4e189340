/-
  No cell of these rows narrows 'for every input' (looked for: loops, veiled, ifaces, maps, wideKeys, modest, calm, conditions, laid).
  DERIVED. THE GIVEN ROWS OF THIS SEAT. 7 by the template 'for every input the law returns true; each argument reads behind the call as it read before'; 0 by the template 'total and deterministic' (their statements: YtdamjkfggmmmeabTotals.lean).
  GIVEN WITH THE SEED: the statements are not yours to turn. If you find one false, say at which input.
  Laid BY PROGRAM, IN A SANDBOX (cutbox-rows.mjs): the forced cells as the released guide's own fill.sh prints them over the translation 93b5ccc1fe991d50… (all of the seat's roots in one cut). By AI agents, Wed Nov 11 2026. No macro, syntax, notation, axiom, sorry.
-/
import Derived.Test.YtdamjkfggmmmeabChecked
import GoSem.Claim
import GoSem.ClaimJoined
import GoSem.ClaimMapViews
import Derived.JoinedTies
import Derived.KernelRfl
namespace Go.Proofs.Ytdamjkfggmmmeab
/- THE CELL 'sum', in the pinned program and in every row, IS THE sha256 OF THE DUMP (.gsa) THAT YtdamjkfggmmmeabProg.lean LOADS. Nothing in Lean hashes anything: it is a label: what it is worth is what the hold of that sum in a sandbox is worth. -/
noncomputable def Try.pinned : Pinned := { name := "ytdamjkfggmmmeab", sum := "93b5ccc1fe991d50e560f8adf19c3ffb1191c2e2ed3941ba51216c6f636d8188", checked := Try.checked }
namespace Rows
def none {H : Type} : Left H := { results := [], args := [] }

/-- 'polyglotlaw01.OctetBack': WHATEVER THE INPUT: true; the input reads as it did. -/
def octetBackSpec : ChangeSpec := { name := "octetBack", fn := fun _ => fun
  | [d1, d2, d3] => { results := [.lit (.bool true)], args := [d1, d2, d3] }
  | _ => none }
def octetBackRow : OpenClaim := { program := "ytdamjkfggmmmeab", sum := "93b5ccc1fe991d50e560f8adf19c3ffb1191c2e2ed3941ba51216c6f636d8188", func := "polyglot/polyglotlaw01.OctetBack", spec := "octetBack", apart := false }
def OctetBackSaid : Prop := octetBackRow.holds Try.pinned (OpenSpec.ofChange octetBackSpec)

/-- ITS FALSE NEIGHBOUR: 'it returns false'. Refute it at one input. -/
def octetBackWrong : ChangeSpec := { name := "octetBack", fn := fun _ => fun
  | [d1, d2, d3] => { results := [.lit (.bool false)], args := [d1, d2, d3] }
  | _ => none }
def OctetBackWrongFalsely : Prop := octetBackRow.holds Try.pinned (OpenSpec.ofChange octetBackWrong)

/-- 'polyglotlaw07.KnownSplits': WHATEVER THE INPUT: true; the input reads as it did. -/
def knownSplitsSpec : ChangeSpec := { name := "knownSplits", fn := fun _ => fun
  | [d1, d2, d3] => { results := [.lit (.bool true)], args := [d1, d2, d3] }
  | _ => none }
def knownSplitsRow : OpenClaim := { program := "ytdamjkfggmmmeab", sum := "93b5ccc1fe991d50e560f8adf19c3ffb1191c2e2ed3941ba51216c6f636d8188", func := "polyglot/polyglotlaw07.KnownSplits", spec := "knownSplits", unfollowed := true, recurses := true, apart := false }
def KnownSplitsSaid : Prop := knownSplitsRow.holds Try.pinned (OpenSpec.ofChange knownSplitsSpec)

/-- ITS FALSE NEIGHBOUR: 'it returns false'. Refute it at one input. -/
def knownSplitsWrong : ChangeSpec := { name := "knownSplits", fn := fun _ => fun
  | [d1, d2, d3] => { results := [.lit (.bool false)], args := [d1, d2, d3] }
  | _ => none }
def KnownSplitsWrongFalsely : Prop := knownSplitsRow.holds Try.pinned (OpenSpec.ofChange knownSplitsWrong)

/-- 'polyglotlaw02.VarintFroms': WHATEVER THE INPUT: true; the input reads as it did. -/
def varintFromsSpec : ChangeSpec := { name := "varintFroms", fn := fun _ => fun
  | [d1, d2] => { results := [.lit (.bool true)], args := [d1, d2] }
  | _ => none }
def varintFromsRow : OpenClaim := { program := "ytdamjkfggmmmeab", sum := "93b5ccc1fe991d50e560f8adf19c3ffb1191c2e2ed3941ba51216c6f636d8188", func := "polyglot/polyglotlaw02.VarintFroms", spec := "varintFroms", apart := false }
def VarintFromsSaid : Prop := varintFromsRow.holds Try.pinned (OpenSpec.ofChange varintFromsSpec)

/-- ITS FALSE NEIGHBOUR: 'it returns false'. Refute it at one input. -/
def varintFromsWrong : ChangeSpec := { name := "varintFroms", fn := fun _ => fun
  | [d1, d2] => { results := [.lit (.bool false)], args := [d1, d2] }
  | _ => none }
def VarintFromsWrongFalsely : Prop := varintFromsRow.holds Try.pinned (OpenSpec.ofChange varintFromsWrong)

/-- 'polyglotlaw07.KnownReads': WHATEVER THE INPUT: true; the input reads as it did. -/
def knownReadsSpec : ChangeSpec := { name := "knownReads", fn := fun _ => fun
  | [d] => { results := [.lit (.bool true)], args := [d] }
  | _ => none }
def knownReadsRow : OpenClaim := { program := "ytdamjkfggmmmeab", sum := "93b5ccc1fe991d50e560f8adf19c3ffb1191c2e2ed3941ba51216c6f636d8188", func := "polyglot/polyglotlaw07.KnownReads", spec := "knownReads", apart := false }
def KnownReadsSaid : Prop := knownReadsRow.holds Try.pinned (OpenSpec.ofChange knownReadsSpec)

/-- ITS FALSE NEIGHBOUR: 'it returns false'. Refute it at one input. -/
def knownReadsWrong : ChangeSpec := { name := "knownReads", fn := fun _ => fun
  | [d] => { results := [.lit (.bool false)], args := [d] }
  | _ => none }
def KnownReadsWrongFalsely : Prop := knownReadsRow.holds Try.pinned (OpenSpec.ofChange knownReadsWrong)

/-- 'polyglotlaw07.KnownMakes': WHATEVER THE INPUT: true; the input reads as it did. -/
def knownMakesSpec : ChangeSpec := { name := "knownMakes", fn := fun _ => fun
  | [d1, d2, d3] => { results := [.lit (.bool true)], args := [d1, d2, d3] }
  | _ => none }
def knownMakesRow : OpenClaim := { program := "ytdamjkfggmmmeab", sum := "93b5ccc1fe991d50e560f8adf19c3ffb1191c2e2ed3941ba51216c6f636d8188", func := "polyglot/polyglotlaw07.KnownMakes", spec := "knownMakes", apart := false }
def KnownMakesSaid : Prop := knownMakesRow.holds Try.pinned (OpenSpec.ofChange knownMakesSpec)

/-- ITS FALSE NEIGHBOUR: 'it returns false'. Refute it at one input. -/
def knownMakesWrong : ChangeSpec := { name := "knownMakes", fn := fun _ => fun
  | [d1, d2, d3] => { results := [.lit (.bool false)], args := [d1, d2, d3] }
  | _ => none }
def KnownMakesWrongFalsely : Prop := knownMakesRow.holds Try.pinned (OpenSpec.ofChange knownMakesWrong)

/-- 'polyglotlaw12.TlvJoins': WHATEVER THE INPUT: true; the input reads as it did. -/
def tlvJoinsSpec : ChangeSpec := { name := "tlvJoins", fn := fun _ => fun
  | [d] => { results := [.lit (.bool true)], args := [d] }
  | _ => none }
def tlvJoinsRow : OpenClaim := { program := "ytdamjkfggmmmeab", sum := "93b5ccc1fe991d50e560f8adf19c3ffb1191c2e2ed3941ba51216c6f636d8188", func := "polyglot/polyglotlaw12.TlvJoins", spec := "tlvJoins", apart := false }
def TlvJoinsSaid : Prop := tlvJoinsRow.holds Try.pinned (OpenSpec.ofChange tlvJoinsSpec)

/-- ITS FALSE NEIGHBOUR: 'it returns false'. Refute it at one input. -/
def tlvJoinsWrong : ChangeSpec := { name := "tlvJoins", fn := fun _ => fun
  | [d] => { results := [.lit (.bool false)], args := [d] }
  | _ => none }
def TlvJoinsWrongFalsely : Prop := tlvJoinsRow.holds Try.pinned (OpenSpec.ofChange tlvJoinsWrong)

/-- 'polyglotlaw12.TlvSplits': WHATEVER THE INPUT: true; the input reads as it did. -/
def tlvSplitsSpec : ChangeSpec := { name := "tlvSplits", fn := fun _ => fun
  | [d] => { results := [.lit (.bool true)], args := [d] }
  | _ => none }
def tlvSplitsRow : OpenClaim := { program := "ytdamjkfggmmmeab", sum := "93b5ccc1fe991d50e560f8adf19c3ffb1191c2e2ed3941ba51216c6f636d8188", func := "polyglot/polyglotlaw12.TlvSplits", spec := "tlvSplits", apart := false }
def TlvSplitsSaid : Prop := tlvSplitsRow.holds Try.pinned (OpenSpec.ofChange tlvSplitsSpec)

/-- ITS FALSE NEIGHBOUR: 'it returns false'. Refute it at one input. -/
def tlvSplitsWrong : ChangeSpec := { name := "tlvSplits", fn := fun _ => fun
  | [d] => { results := [.lit (.bool false)], args := [d] }
  | _ => none }
def TlvSplitsWrongFalsely : Prop := tlvSplitsRow.holds Try.pinned (OpenSpec.ofChange tlvSplitsWrong)

/- THE SECOND FORM. 'bulk': how many values and letters a reading holds, each counted each time it is reached (what is shared counts as often as it is met; a slice's spare places count too). A statement '..UptoSaid' is the law's where the arguments, and the package variables that the reading takes, are together of bulk at most 1048576: NARROWER than '..Said'. Prove '..Said' where nothing that the law and all that it calls make is longer than what came in: it says more and counts as full. Else prove '..UptoSaid'. A law counts once. -/
mutual
def uptoBulk {H : Type} : DataW H → Nat
  | .lit (.string bytes) => bytes.length + 1
  | .lit _ => 1
  | .nil => 1
  | .ptr d => uptoBulk d + 1
  | .slice elems spare => uptoBulkAll elems + uptoBulkAll spare + 1
  | .agg parts => uptoBulkAll parts + 1
  | .iface _ d => uptoBulk d + 1
  | .map entries => uptoBulkEntries entries + 1
  | .held _ => 1
def uptoBulkAll {H : Type} : List (DataW H) → Nat
  | [] => 0
  | d :: r => uptoBulk d + uptoBulkAll r
def uptoBulkEntries {H : Type} : List (Lit × DataW H) → Nat
  | [] => 0
  | x :: r => uptoBulkEntry x + uptoBulkEntries r
def uptoBulkEntry {H : Type} : Lit × DataW H → Nat
  | (.string bytes, d) => bytes.length + uptoBulk d + 1
  | (_, d) => uptoBulk d + 1
 end
def uptoSmall : (H : Type) → List (DataW H) → Bool := fun _ ds => decide (uptoBulkAll ds ≤ 1048576)
def OpenSpec.upto (s : _root_.Go.ChangeSpec) : _root_.Go.OpenSpec := { _root_.Go.OpenSpec.ofChange s with cond := some uptoSmall }

/-- 'polyglotlaw01.OctetBack', WHERE WHAT IT READS IS OF BULK AT MOST 1048576: true; the input reads as it did. -/
def octetBackUptoRow : OpenClaim := { program := "ytdamjkfggmmmeab", sum := "93b5ccc1fe991d50e560f8adf19c3ffb1191c2e2ed3941ba51216c6f636d8188", func := "polyglot/polyglotlaw01.OctetBack", spec := "octetBack", apart := false, narrowed := true }
def OctetBackUptoSaid : Prop := octetBackUptoRow.holds Try.pinned (OpenSpec.upto octetBackSpec)

/-- 'polyglotlaw07.KnownSplits', WHERE WHAT IT READS IS OF BULK AT MOST 1048576: true; the input reads as it did. -/
def knownSplitsUptoRow : OpenClaim := { program := "ytdamjkfggmmmeab", sum := "93b5ccc1fe991d50e560f8adf19c3ffb1191c2e2ed3941ba51216c6f636d8188", func := "polyglot/polyglotlaw07.KnownSplits", spec := "knownSplits", unfollowed := true, recurses := true, apart := false, narrowed := true }
def KnownSplitsUptoSaid : Prop := knownSplitsUptoRow.holds Try.pinned (OpenSpec.upto knownSplitsSpec)

/-- 'polyglotlaw02.VarintFroms', WHERE WHAT IT READS IS OF BULK AT MOST 1048576: true; the input reads as it did. -/
def varintFromsUptoRow : OpenClaim := { program := "ytdamjkfggmmmeab", sum := "93b5ccc1fe991d50e560f8adf19c3ffb1191c2e2ed3941ba51216c6f636d8188", func := "polyglot/polyglotlaw02.VarintFroms", spec := "varintFroms", apart := false, narrowed := true }
def VarintFromsUptoSaid : Prop := varintFromsUptoRow.holds Try.pinned (OpenSpec.upto varintFromsSpec)

/-- 'polyglotlaw07.KnownReads', WHERE WHAT IT READS IS OF BULK AT MOST 1048576: true; the input reads as it did. -/
def knownReadsUptoRow : OpenClaim := { program := "ytdamjkfggmmmeab", sum := "93b5ccc1fe991d50e560f8adf19c3ffb1191c2e2ed3941ba51216c6f636d8188", func := "polyglot/polyglotlaw07.KnownReads", spec := "knownReads", apart := false, narrowed := true }
def KnownReadsUptoSaid : Prop := knownReadsUptoRow.holds Try.pinned (OpenSpec.upto knownReadsSpec)

/-- 'polyglotlaw07.KnownMakes', WHERE WHAT IT READS IS OF BULK AT MOST 1048576: true; the input reads as it did. -/
def knownMakesUptoRow : OpenClaim := { program := "ytdamjkfggmmmeab", sum := "93b5ccc1fe991d50e560f8adf19c3ffb1191c2e2ed3941ba51216c6f636d8188", func := "polyglot/polyglotlaw07.KnownMakes", spec := "knownMakes", apart := false, narrowed := true }
def KnownMakesUptoSaid : Prop := knownMakesUptoRow.holds Try.pinned (OpenSpec.upto knownMakesSpec)

/-- 'polyglotlaw12.TlvJoins', WHERE WHAT IT READS IS OF BULK AT MOST 1048576: true; the input reads as it did. -/
def tlvJoinsUptoRow : OpenClaim := { program := "ytdamjkfggmmmeab", sum := "93b5ccc1fe991d50e560f8adf19c3ffb1191c2e2ed3941ba51216c6f636d8188", func := "polyglot/polyglotlaw12.TlvJoins", spec := "tlvJoins", apart := false, narrowed := true }
def TlvJoinsUptoSaid : Prop := tlvJoinsUptoRow.holds Try.pinned (OpenSpec.upto tlvJoinsSpec)

/-- 'polyglotlaw12.TlvSplits', WHERE WHAT IT READS IS OF BULK AT MOST 1048576: true; the input reads as it did. -/
def tlvSplitsUptoRow : OpenClaim := { program := "ytdamjkfggmmmeab", sum := "93b5ccc1fe991d50e560f8adf19c3ffb1191c2e2ed3941ba51216c6f636d8188", func := "polyglot/polyglotlaw12.TlvSplits", spec := "tlvSplits", apart := false, narrowed := true }
def TlvSplitsUptoSaid : Prop := tlvSplitsUptoRow.holds Try.pinned (OpenSpec.upto tlvSplitsSpec)

end Rows
end Go.Proofs.Ytdamjkfggmmmeab
