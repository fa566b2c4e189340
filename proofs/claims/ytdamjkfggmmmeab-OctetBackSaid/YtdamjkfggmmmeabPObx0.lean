-- WRITTEN BY A PROGRAM OF THIS SESSION (a print of its own, with given functions). Not trusted: Lean checks it.
import Derived.Test.YtdamjkfggmmmeabProg
import Derived.Below
import Derived.Deep.Draws
import Derived.Deep.AppendLies
import Derived.Maps.AppendAt
import Derived.OwnWalk
import Derived.Laws.BytesArg
import Derived.Laws.MakeOwn
import Derived.Laws.OwnMore
import Derived.Deep.OwnRows
import Derived.Tactics
import Derived.Lib.ConvBytes
import Derived.Laws.Slices
import Derived.WalkKit
import Derived.KernelRfl
import Derived.RowKit3
import Derived.Deep.LoopGhost
import Derived.Deep.QuietTactic
import Derived.BigQuiet
import Derived.WideLaws
import Derived.Deep.DeepCutAuto
import Derived.Deep.CutBlock
import Derived.Deep.RegionHeld3
import Derived.Laws.Rows
import Derived.Lib.AppendStr
import Derived.ArgAppend
import Derived.Laws.IdiomCopy
import Derived.OrdersHeld
import Derived.Laws.BitsLemmas
import Derived.RowKit
import Derived.Test.YtdamjkfggmmmeabOctet
import Derived.Test.YtdamjkfggmmmeabWriter
import Derived.Test.YtdamjkfggmmmeabOAwake
import Derived.Test.YtdamjkfggmmmeabOBack
import Derived.Test.YtdamjkfggmmmeabWWords
import Derived.Test.YtdamjkfggmmmeabWLast
import Derived.Test.YtdamjkfggmmmeabWTab
import Derived.Test.YtdamjkfggmmmeabWFour
import Derived.Test.YtdamjkfggmmmeabWQPut
import Derived.Test.YtdamjkfggmmmeabWApart
import Derived.Test.YtdamjkfggmmmeabWArr
import Derived.Test.YtdamjkfggmmmeabWZeros
import Derived.Test.YtdamjkfggmmmeabWFoot
import Derived.Test.YtdamjkfggmmmeabWKept
import Derived.Test.YtdamjkfggmmmeabWShare
import Derived.Test.YtdamjkfggmmmeabWN
import Derived.Test.YtdamjkfggmmmeabWFootNe
import Derived.Test.YtdamjkfggmmmeabWAt
import Derived.Test.YtdamjkfggmmmeabWEqStruct
import Derived.Test.YtdamjkfggmmmeabWRepsOne
import Derived.Test.YtdamjkfggmmmeabWInv
import Derived.Test.YtdamjkfggmmmeabWInvWords
import Derived.Test.YtdamjkfggmmmeabWGuard
import Derived.Test.YtdamjkfggmmmeabWNEv
import Derived.Test.YtdamjkfggmmmeabWMore
namespace Go.Proofs.Ytdamjkfggmmmeab.POb
open Go.RowKit Go.Proofs.YtdamjkfggmmmeabW.PrintWords Go.Proofs.YtdamjkfggmmmeabW.PrintLast Go.Proofs.YtdamjkfggmmmeabW.PrintMore
attribute [local go_sem] max2_int min2_int max_two min_two max_three min_three max_four min_four   -- for this text's walks alone
set_option linter.unusedVariables false
set_option linter.unusedSimpArgs false



def errW : Option Int → Value
  | none => .nilIface
  | some c => .iface 0 (.int .i64 c)
theorem errW_none : errW none = .nilIface := rfl
theorem errW_some (c : Int) : errW (some c) = .iface 0 (.int .i64 c) := rfl

-- the values' own types

end Go.Proofs.Ytdamjkfggmmmeab.POb
