/-
  No cell of these rows narrows 'for every input' (looked for: loops, veiled, ifaces, maps, wideKeys, modest, calm, conditions, laid).
  DERIVED. THE GIVEN ROWS OF THIS SEAT. 9 by the template 'for every input the law returns true; each argument reads behind the call as it read before'; 0 by the template 'total and deterministic' (their statements: YtdamjkfggmmmeaaTotals.lean).
  GIVEN WITH THE SEED: the statements are not yours to turn. If you find one false, say at which input.
  Laid BY PROGRAM, IN A SANDBOX (cutbox-rows.mjs): the forced cells as the released guide's own fill.sh prints them over the translation ab496c00a3f3660c… (all of the seat's roots in one cut). By AI agents, Wed Nov 11 2026. No macro, syntax, notation, axiom, sorry.
-/
import Derived.Test.YtdamjkfggmmmeaaChecked
import GoSem.Claim
import GoSem.ClaimJoined
import GoSem.ClaimMapViews
import Derived.JoinedTies
import Derived.KernelRfl
namespace Go.Proofs.Ytdamjkfggmmmeaa
/- THE CELL 'sum', in the pinned program and in every row, IS THE sha256 OF THE DUMP (.gsa) THAT YtdamjkfggmmmeaaProg.lean LOADS. Nothing in Lean hashes anything: it is a label: what it is worth is what the hold of that sum in a sandbox is worth. -/
noncomputable def Try.pinned : Pinned := { name := "ytdamjkfggmmmeaa", sum := "ab496c00a3f3660cf65cd3ccef204d59b9f975c6e4b157ef23112ceb2a61a7b0", checked := Try.checked }
namespace Rows
def none {H : Type} : Left H := { results := [], args := [] }

/-- 'polyglotlaw27.TallyCounts': WHATEVER THE INPUT: true; the input reads as it did. -/
def tallyCountsSpec : ChangeSpec := { name := "tallyCounts", fn := fun _ => fun
  | [d1, d2] => { results := [.lit (.bool true)], args := [d1, d2] }
  | _ => none }
def tallyCountsRow : OpenClaim := { program := "ytdamjkfggmmmeaa", sum := "ab496c00a3f3660cf65cd3ccef204d59b9f975c6e4b157ef23112ceb2a61a7b0", func := "polyglot/polyglotlaw27.TallyCounts", spec := "tallyCounts", inPlace := ["sync/atomic.AddInt64", "sync/atomic.LoadInt64"], apart := false }
def TallyCountsSaid : Prop := tallyCountsRow.holds Try.pinned (OpenSpec.ofChange tallyCountsSpec)

/-- ITS FALSE NEIGHBOUR: 'it returns false'. Refute it at one input. -/
def tallyCountsWrong : ChangeSpec := { name := "tallyCounts", fn := fun _ => fun
  | [d1, d2] => { results := [.lit (.bool false)], args := [d1, d2] }
  | _ => none }
def TallyCountsWrongFalsely : Prop := tallyCountsRow.holds Try.pinned (OpenSpec.ofChange tallyCountsWrong)

/-- 'polyglotlaw02.VarintGets': WHATEVER THE INPUT: true; the input reads as it did. -/
def varintGetsSpec : ChangeSpec := { name := "varintGets", fn := fun _ => fun
  | [d] => { results := [.lit (.bool true)], args := [d] }
  | _ => none }
def varintGetsRow : OpenClaim := { program := "ytdamjkfggmmmeaa", sum := "ab496c00a3f3660cf65cd3ccef204d59b9f975c6e4b157ef23112ceb2a61a7b0", func := "polyglot/polyglotlaw02.VarintGets", spec := "varintGets", apart := false }
def VarintGetsSaid : Prop := varintGetsRow.holds Try.pinned (OpenSpec.ofChange varintGetsSpec)

/-- ITS FALSE NEIGHBOUR: 'it returns false'. Refute it at one input. -/
def varintGetsWrong : ChangeSpec := { name := "varintGets", fn := fun _ => fun
  | [d] => { results := [.lit (.bool false)], args := [d] }
  | _ => none }
def VarintGetsWrongFalsely : Prop := varintGetsRow.holds Try.pinned (OpenSpec.ofChange varintGetsWrong)

/-- 'polyglotlaw02.VarintZigs': WHATEVER THE INPUT: true; the input reads as it did. -/
def varintZigsSpec : ChangeSpec := { name := "varintZigs", fn := fun _ => fun
  | [d1, d2] => { results := [.lit (.bool true)], args := [d1, d2] }
  | _ => none }
def varintZigsRow : OpenClaim := { program := "ytdamjkfggmmmeaa", sum := "ab496c00a3f3660cf65cd3ccef204d59b9f975c6e4b157ef23112ceb2a61a7b0", func := "polyglot/polyglotlaw02.VarintZigs", spec := "varintZigs", apart := false }
def VarintZigsSaid : Prop := varintZigsRow.holds Try.pinned (OpenSpec.ofChange varintZigsSpec)

/-- ITS FALSE NEIGHBOUR: 'it returns false'. Refute it at one input. -/
def varintZigsWrong : ChangeSpec := { name := "varintZigs", fn := fun _ => fun
  | [d1, d2] => { results := [.lit (.bool false)], args := [d1, d2] }
  | _ => none }
def VarintZigsWrongFalsely : Prop := varintZigsRow.holds Try.pinned (OpenSpec.ofChange varintZigsWrong)

/-- 'polyglotlaw02.VarintForms': WHATEVER THE INPUT: true; the input reads as it did. -/
def varintFormsSpec : ChangeSpec := { name := "varintForms", fn := fun _ => fun
  | [d] => { results := [.lit (.bool true)], args := [d] }
  | _ => none }
def varintFormsRow : OpenClaim := { program := "ytdamjkfggmmmeaa", sum := "ab496c00a3f3660cf65cd3ccef204d59b9f975c6e4b157ef23112ceb2a61a7b0", func := "polyglot/polyglotlaw02.VarintForms", spec := "varintForms", apart := false }
def VarintFormsSaid : Prop := varintFormsRow.holds Try.pinned (OpenSpec.ofChange varintFormsSpec)

/-- ITS FALSE NEIGHBOUR: 'it returns false'. Refute it at one input. -/
def varintFormsWrong : ChangeSpec := { name := "varintForms", fn := fun _ => fun
  | [d] => { results := [.lit (.bool false)], args := [d] }
  | _ => none }
def VarintFormsWrongFalsely : Prop := varintFormsRow.holds Try.pinned (OpenSpec.ofChange varintFormsWrong)

/-- 'polyglotlaw02.VarintBacks': WHATEVER THE INPUT: true; the input reads as it did. -/
def varintBacksSpec : ChangeSpec := { name := "varintBacks", fn := fun _ => fun
  | [d1, d2] => { results := [.lit (.bool true)], args := [d1, d2] }
  | _ => none }
def varintBacksRow : OpenClaim := { program := "ytdamjkfggmmmeaa", sum := "ab496c00a3f3660cf65cd3ccef204d59b9f975c6e4b157ef23112ceb2a61a7b0", func := "polyglot/polyglotlaw02.VarintBacks", spec := "varintBacks", apart := false }
def VarintBacksSaid : Prop := varintBacksRow.holds Try.pinned (OpenSpec.ofChange varintBacksSpec)

/-- ITS FALSE NEIGHBOUR: 'it returns false'. Refute it at one input. -/
def varintBacksWrong : ChangeSpec := { name := "varintBacks", fn := fun _ => fun
  | [d1, d2] => { results := [.lit (.bool false)], args := [d1, d2] }
  | _ => none }
def VarintBacksWrongFalsely : Prop := varintBacksRow.holds Try.pinned (OpenSpec.ofChange varintBacksWrong)

/-- 'polyglotlaw48.FlipsTurns': WHATEVER THE INPUT: true; the input reads as it did. -/
def flipsTurnsSpec : ChangeSpec := { name := "flipsTurns", fn := fun _ => fun
  | [d] => { results := [.lit (.bool true)], args := [d] }
  | _ => none }
def flipsTurnsRow : OpenClaim := { program := "ytdamjkfggmmmeaa", sum := "ab496c00a3f3660cf65cd3ccef204d59b9f975c6e4b157ef23112ceb2a61a7b0", func := "polyglot/polyglotlaw48.FlipsTurns", spec := "flipsTurns", inPlace := ["sync/atomic.LoadInt64", "sync/atomic.AddInt64"], apart := false }
def FlipsTurnsSaid : Prop := flipsTurnsRow.holds Try.pinned (OpenSpec.ofChange flipsTurnsSpec)

/-- ITS FALSE NEIGHBOUR: 'it returns false'. Refute it at one input. -/
def flipsTurnsWrong : ChangeSpec := { name := "flipsTurns", fn := fun _ => fun
  | [d] => { results := [.lit (.bool false)], args := [d] }
  | _ => none }
def FlipsTurnsWrongFalsely : Prop := flipsTurnsRow.holds Try.pinned (OpenSpec.ofChange flipsTurnsWrong)

/-- 'polyglotlaw48.FlipsPlays': WHATEVER THE INPUT: true; the input reads as it did. -/
def flipsPlaysSpec : ChangeSpec := { name := "flipsPlays", fn := fun _ => fun
  | [d1, d2, d3] => { results := [.lit (.bool true)], args := [d1, d2, d3] }
  | _ => none }
def flipsPlaysRow : OpenClaim := { program := "ytdamjkfggmmmeaa", sum := "ab496c00a3f3660cf65cd3ccef204d59b9f975c6e4b157ef23112ceb2a61a7b0", func := "polyglot/polyglotlaw48.FlipsPlays", spec := "flipsPlays", inPlace := ["sync/atomic.LoadInt64", "sync/atomic.AddInt64"], apart := false }
def FlipsPlaysSaid : Prop := flipsPlaysRow.holds Try.pinned (OpenSpec.ofChange flipsPlaysSpec)

/-- ITS FALSE NEIGHBOUR: 'it returns false'. Refute it at one input. -/
def flipsPlaysWrong : ChangeSpec := { name := "flipsPlays", fn := fun _ => fun
  | [d1, d2, d3] => { results := [.lit (.bool false)], args := [d1, d2, d3] }
  | _ => none }
def FlipsPlaysWrongFalsely : Prop := flipsPlaysRow.holds Try.pinned (OpenSpec.ofChange flipsPlaysWrong)

/-- 'polyglotlaw01.OctetReads': WHATEVER THE INPUT: true; the input reads as it did. -/
def octetReadsSpec : ChangeSpec := { name := "octetReads", fn := fun _ => fun
  | [d1, d2] => { results := [.lit (.bool true)], args := [d1, d2] }
  | _ => none }
def octetReadsRow : OpenClaim := { program := "ytdamjkfggmmmeaa", sum := "ab496c00a3f3660cf65cd3ccef204d59b9f975c6e4b157ef23112ceb2a61a7b0", func := "polyglot/polyglotlaw01.OctetReads", spec := "octetReads", apart := false }
def OctetReadsSaid : Prop := octetReadsRow.holds Try.pinned (OpenSpec.ofChange octetReadsSpec)

/-- ITS FALSE NEIGHBOUR: 'it returns false'. Refute it at one input. -/
def octetReadsWrong : ChangeSpec := { name := "octetReads", fn := fun _ => fun
  | [d1, d2] => { results := [.lit (.bool false)], args := [d1, d2] }
  | _ => none }
def OctetReadsWrongFalsely : Prop := octetReadsRow.holds Try.pinned (OpenSpec.ofChange octetReadsWrong)

/-- 'polyglotlaw01.OctetWrites': WHATEVER THE INPUT: true; the input reads as it did. -/
def octetWritesSpec : ChangeSpec := { name := "octetWrites", fn := fun _ => fun
  | [d] => { results := [.lit (.bool true)], args := [d] }
  | _ => none }
def octetWritesRow : OpenClaim := { program := "ytdamjkfggmmmeaa", sum := "ab496c00a3f3660cf65cd3ccef204d59b9f975c6e4b157ef23112ceb2a61a7b0", func := "polyglot/polyglotlaw01.OctetWrites", spec := "octetWrites", apart := false }
def OctetWritesSaid : Prop := octetWritesRow.holds Try.pinned (OpenSpec.ofChange octetWritesSpec)

/-- ITS FALSE NEIGHBOUR: 'it returns false'. Refute it at one input. -/
def octetWritesWrong : ChangeSpec := { name := "octetWrites", fn := fun _ => fun
  | [d] => { results := [.lit (.bool false)], args := [d] }
  | _ => none }
def OctetWritesWrongFalsely : Prop := octetWritesRow.holds Try.pinned (OpenSpec.ofChange octetWritesWrong)

/- THE SECOND FORM. 'bulk': how many values and letters a reading holds, each counted each time it is reached (what is shared counts as often as it is met; a slice's spare places count too). A statement '..UptoSaid' is the law's where the arguments, and the package variables that the reading takes, are together of bulk at most 1048576: NARROWER than '..Said'. Prove '..Said' where nothing that the law and all that it calls make is longer than what came in: it says more and counts as full. Else prove '..UptoSaid'. A law counts once. -/
mutual
def uptoBulk {H : Type} : DataW H → Nat
  | .lit (.string bytes) => bytes.length + 1
  | .lit _ => 1
  | .nil => 1
  | .ptr d => uptoBulk d + 1
  | .slice elems spare => uptoBulkAll elems + uptoBulkAll spare + 1
  | .agg parts => uptoBulkAll parts + 1
  | .iface _ d => uptoBulk d + 1
  | .map entries => uptoBulkEntries entries + 1
  | .held _ => 1
def uptoBulkAll {H : Type} : List (DataW H) → Nat
  | [] => 0
  | d :: r => uptoBulk d + uptoBulkAll r
def uptoBulkEntries {H : Type} : List (Lit × DataW H) → Nat
  | [] => 0
  | x :: r => uptoBulkEntry x + uptoBulkEntries r
def uptoBulkEntry {H : Type} : Lit × DataW H → Nat
  | (.string bytes, d) => bytes.length + uptoBulk d + 1
  | (_, d) => uptoBulk d + 1
 end
def uptoSmall : (H : Type) → List (DataW H) → Bool := fun _ ds => decide (uptoBulkAll ds ≤ 1048576)
def OpenSpec.upto (s : _root_.Go.ChangeSpec) : _root_.Go.OpenSpec := { _root_.Go.OpenSpec.ofChange s with cond := some uptoSmall }

/-- 'polyglotlaw27.TallyCounts', WHERE WHAT IT READS IS OF BULK AT MOST 1048576: true; the input reads as it did. -/
def tallyCountsUptoRow : OpenClaim := { program := "ytdamjkfggmmmeaa", sum := "ab496c00a3f3660cf65cd3ccef204d59b9f975c6e4b157ef23112ceb2a61a7b0", func := "polyglot/polyglotlaw27.TallyCounts", spec := "tallyCounts", inPlace := ["sync/atomic.AddInt64", "sync/atomic.LoadInt64"], apart := false, narrowed := true }
def TallyCountsUptoSaid : Prop := tallyCountsUptoRow.holds Try.pinned (OpenSpec.upto tallyCountsSpec)

/-- 'polyglotlaw02.VarintGets', WHERE WHAT IT READS IS OF BULK AT MOST 1048576: true; the input reads as it did. -/
def varintGetsUptoRow : OpenClaim := { program := "ytdamjkfggmmmeaa", sum := "ab496c00a3f3660cf65cd3ccef204d59b9f975c6e4b157ef23112ceb2a61a7b0", func := "polyglot/polyglotlaw02.VarintGets", spec := "varintGets", apart := false, narrowed := true }
def VarintGetsUptoSaid : Prop := varintGetsUptoRow.holds Try.pinned (OpenSpec.upto varintGetsSpec)

/-- 'polyglotlaw02.VarintZigs', WHERE WHAT IT READS IS OF BULK AT MOST 1048576: true; the input reads as it did. -/
def varintZigsUptoRow : OpenClaim := { program := "ytdamjkfggmmmeaa", sum := "ab496c00a3f3660cf65cd3ccef204d59b9f975c6e4b157ef23112ceb2a61a7b0", func := "polyglot/polyglotlaw02.VarintZigs", spec := "varintZigs", apart := false, narrowed := true }
def VarintZigsUptoSaid : Prop := varintZigsUptoRow.holds Try.pinned (OpenSpec.upto varintZigsSpec)

/-- 'polyglotlaw02.VarintForms', WHERE WHAT IT READS IS OF BULK AT MOST 1048576: true; the input reads as it did. -/
def varintFormsUptoRow : OpenClaim := { program := "ytdamjkfggmmmeaa", sum := "ab496c00a3f3660cf65cd3ccef204d59b9f975c6e4b157ef23112ceb2a61a7b0", func := "polyglot/polyglotlaw02.VarintForms", spec := "varintForms", apart := false, narrowed := true }
def VarintFormsUptoSaid : Prop := varintFormsUptoRow.holds Try.pinned (OpenSpec.upto varintFormsSpec)

/-- 'polyglotlaw02.VarintBacks', WHERE WHAT IT READS IS OF BULK AT MOST 1048576: true; the input reads as it did. -/
def varintBacksUptoRow : OpenClaim := { program := "ytdamjkfggmmmeaa", sum := "ab496c00a3f3660cf65cd3ccef204d59b9f975c6e4b157ef23112ceb2a61a7b0", func := "polyglot/polyglotlaw02.VarintBacks", spec := "varintBacks", apart := false, narrowed := true }
def VarintBacksUptoSaid : Prop := varintBacksUptoRow.holds Try.pinned (OpenSpec.upto varintBacksSpec)

/-- 'polyglotlaw48.FlipsTurns', WHERE WHAT IT READS IS OF BULK AT MOST 1048576: true; the input reads as it did. -/
def flipsTurnsUptoRow : OpenClaim := { program := "ytdamjkfggmmmeaa", sum := "ab496c00a3f3660cf65cd3ccef204d59b9f975c6e4b157ef23112ceb2a61a7b0", func := "polyglot/polyglotlaw48.FlipsTurns", spec := "flipsTurns", inPlace := ["sync/atomic.LoadInt64", "sync/atomic.AddInt64"], apart := false, narrowed := true }
def FlipsTurnsUptoSaid : Prop := flipsTurnsUptoRow.holds Try.pinned (OpenSpec.upto flipsTurnsSpec)

/-- 'polyglotlaw48.FlipsPlays', WHERE WHAT IT READS IS OF BULK AT MOST 1048576: true; the input reads as it did. -/
def flipsPlaysUptoRow : OpenClaim := { program := "ytdamjkfggmmmeaa", sum := "ab496c00a3f3660cf65cd3ccef204d59b9f975c6e4b157ef23112ceb2a61a7b0", func := "polyglot/polyglotlaw48.FlipsPlays", spec := "flipsPlays", inPlace := ["sync/atomic.LoadInt64", "sync/atomic.AddInt64"], apart := false, narrowed := true }
def FlipsPlaysUptoSaid : Prop := flipsPlaysUptoRow.holds Try.pinned (OpenSpec.upto flipsPlaysSpec)

/-- 'polyglotlaw01.OctetReads', WHERE WHAT IT READS IS OF BULK AT MOST 1048576: true; the input reads as it did. -/
def octetReadsUptoRow : OpenClaim := { program := "ytdamjkfggmmmeaa", sum := "ab496c00a3f3660cf65cd3ccef204d59b9f975c6e4b157ef23112ceb2a61a7b0", func := "polyglot/polyglotlaw01.OctetReads", spec := "octetReads", apart := false, narrowed := true }
def OctetReadsUptoSaid : Prop := octetReadsUptoRow.holds Try.pinned (OpenSpec.upto octetReadsSpec)

/-- 'polyglotlaw01.OctetWrites', WHERE WHAT IT READS IS OF BULK AT MOST 1048576: true; the input reads as it did. -/
def octetWritesUptoRow : OpenClaim := { program := "ytdamjkfggmmmeaa", sum := "ab496c00a3f3660cf65cd3ccef204d59b9f975c6e4b157ef23112ceb2a61a7b0", func := "polyglot/polyglotlaw01.OctetWrites", spec := "octetWrites", apart := false, narrowed := true }
def OctetWritesUptoSaid : Prop := octetWritesUptoRow.holds Try.pinned (OpenSpec.upto octetWritesSpec)

end Rows
end Go.Proofs.Ytdamjkfggmmmeaa
