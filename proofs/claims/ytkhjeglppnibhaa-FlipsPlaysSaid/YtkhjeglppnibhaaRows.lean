/-
  No cell of these rows narrows 'for every input' (looked for: loops, veiled, ifaces, maps, wideKeys, modest, calm, conditions, laid).
  DERIVED. THE GIVEN ROWS OF THIS SEAT. 2 by the template 'for every input the law returns true; each argument reads behind the call as it read before'; 0 by the template 'total and deterministic' (their statements: YtkhjeglppnibhaaTotals.lean).
  GIVEN WITH THE SEED: the statements are not yours to turn. If you find one false, say at which input.
  Laid BY PROGRAM, IN A SANDBOX (cutbox-rows.mjs): the forced cells as the released guide's own fill.sh prints them over the translation aa092cf4db26b55f… (all of the seat's roots in one cut). By AI agents, Wed Nov 11 2026. No macro, syntax, notation, axiom, sorry.
-/
import Derived.Test.YtkhjeglppnibhaaChecked
import GoSem.Claim
import GoSem.ClaimJoined
import GoSem.ClaimMapViews
import Derived.JoinedTies
import Derived.KernelRfl
namespace Go.Proofs.Ytkhjeglppnibhaa
/- THE CELL 'sum', in the pinned program and in every row, IS THE sha256 OF THE DUMP (.gsa) THAT YtkhjeglppnibhaaProg.lean LOADS. Nothing in Lean hashes anything: it is a label: what it is worth is what the hold of that sum in a sandbox is worth. -/
noncomputable def Try.pinned : Pinned := { name := "ytkhjeglppnibhaa", sum := "aa092cf4db26b55f9b65a3496ae4058a7028fdb0e7d0919b7f2071b125419e6a", checked := Try.checked }
namespace Rows
def none {H : Type} : Left H := { results := [], args := [] }

/-- 'polyglotlaw48.FlipsTurns': WHATEVER THE INPUT: true; the input reads as it did. -/
def flipsTurnsSpec : ChangeSpec := { name := "flipsTurns", fn := fun _ => fun
  | [d] => { results := [.lit (.bool true)], args := [d] }
  | _ => none }
def flipsTurnsRow : OpenClaim := { program := "ytkhjeglppnibhaa", sum := "aa092cf4db26b55f9b65a3496ae4058a7028fdb0e7d0919b7f2071b125419e6a", func := "polyglot/polyglotlaw48.FlipsTurns", spec := "flipsTurns", inPlace := ["sync/atomic.LoadInt64", "sync/atomic.AddInt64"], apart := false }
def FlipsTurnsSaid : Prop := flipsTurnsRow.holds Try.pinned (OpenSpec.ofChange flipsTurnsSpec)

/-- ITS FALSE NEIGHBOUR: 'it returns false'. Refute it at one input. -/
def flipsTurnsWrong : ChangeSpec := { name := "flipsTurns", fn := fun _ => fun
  | [d] => { results := [.lit (.bool false)], args := [d] }
  | _ => none }
def FlipsTurnsWrongFalsely : Prop := flipsTurnsRow.holds Try.pinned (OpenSpec.ofChange flipsTurnsWrong)

/-- 'polyglotlaw48.FlipsPlays': WHATEVER THE INPUT: true; the input reads as it did. -/
def flipsPlaysSpec : ChangeSpec := { name := "flipsPlays", fn := fun _ => fun
  | [d1, d2, d3] => { results := [.lit (.bool true)], args := [d1, d2, d3] }
  | _ => none }
def flipsPlaysRow : OpenClaim := { program := "ytkhjeglppnibhaa", sum := "aa092cf4db26b55f9b65a3496ae4058a7028fdb0e7d0919b7f2071b125419e6a", func := "polyglot/polyglotlaw48.FlipsPlays", spec := "flipsPlays", inPlace := ["sync/atomic.LoadInt64", "sync/atomic.AddInt64"], apart := false }
def FlipsPlaysSaid : Prop := flipsPlaysRow.holds Try.pinned (OpenSpec.ofChange flipsPlaysSpec)

/-- ITS FALSE NEIGHBOUR: 'it returns false'. Refute it at one input. -/
def flipsPlaysWrong : ChangeSpec := { name := "flipsPlays", fn := fun _ => fun
  | [d1, d2, d3] => { results := [.lit (.bool false)], args := [d1, d2, d3] }
  | _ => none }
def FlipsPlaysWrongFalsely : Prop := flipsPlaysRow.holds Try.pinned (OpenSpec.ofChange flipsPlaysWrong)

/- THE SECOND FORM. 'bulk': how many values and letters a reading holds, each counted each time it is reached (what is shared counts as often as it is met; a slice's spare places count too). A statement '..UptoSaid' is the law's where the arguments, and the package variables that the reading takes, are together of bulk at most 1048576: NARROWER than '..Said'. Prove '..Said' where nothing that the law and all that it calls make is longer than what came in: it says more and counts as full. Else prove '..UptoSaid'. A law counts once. -/
mutual
def uptoBulk {H : Type} : DataW H → Nat
  | .lit (.string bytes) => bytes.length + 1
  | .lit _ => 1
  | .nil => 1
  | .ptr d => uptoBulk d + 1
  | .slice elems spare => uptoBulkAll elems + uptoBulkAll spare + 1
  | .agg parts => uptoBulkAll parts + 1
  | .iface _ d => uptoBulk d + 1
  | .map entries => uptoBulkEntries entries + 1
  | .held _ => 1
def uptoBulkAll {H : Type} : List (DataW H) → Nat
  | [] => 0
  | d :: r => uptoBulk d + uptoBulkAll r
def uptoBulkEntries {H : Type} : List (Lit × DataW H) → Nat
  | [] => 0
  | x :: r => uptoBulkEntry x + uptoBulkEntries r
def uptoBulkEntry {H : Type} : Lit × DataW H → Nat
  | (.string bytes, d) => bytes.length + uptoBulk d + 1
  | (_, d) => uptoBulk d + 1
 end
def uptoSmall : (H : Type) → List (DataW H) → Bool := fun _ ds => decide (uptoBulkAll ds ≤ 1048576)
def OpenSpec.upto (s : _root_.Go.ChangeSpec) : _root_.Go.OpenSpec := { _root_.Go.OpenSpec.ofChange s with cond := some uptoSmall }

/-- 'polyglotlaw48.FlipsTurns', WHERE WHAT IT READS IS OF BULK AT MOST 1048576: true; the input reads as it did. -/
def flipsTurnsUptoRow : OpenClaim := { program := "ytkhjeglppnibhaa", sum := "aa092cf4db26b55f9b65a3496ae4058a7028fdb0e7d0919b7f2071b125419e6a", func := "polyglot/polyglotlaw48.FlipsTurns", spec := "flipsTurns", inPlace := ["sync/atomic.LoadInt64", "sync/atomic.AddInt64"], apart := false, narrowed := true }
def FlipsTurnsUptoSaid : Prop := flipsTurnsUptoRow.holds Try.pinned (OpenSpec.upto flipsTurnsSpec)

/-- 'polyglotlaw48.FlipsPlays', WHERE WHAT IT READS IS OF BULK AT MOST 1048576: true; the input reads as it did. -/
def flipsPlaysUptoRow : OpenClaim := { program := "ytkhjeglppnibhaa", sum := "aa092cf4db26b55f9b65a3496ae4058a7028fdb0e7d0919b7f2071b125419e6a", func := "polyglot/polyglotlaw48.FlipsPlays", spec := "flipsPlays", inPlace := ["sync/atomic.LoadInt64", "sync/atomic.AddInt64"], apart := false, narrowed := true }
def FlipsPlaysUptoSaid : Prop := flipsPlaysUptoRow.holds Try.pinned (OpenSpec.upto flipsPlaysSpec)

end Rows
end Go.Proofs.Ytkhjeglppnibhaa
