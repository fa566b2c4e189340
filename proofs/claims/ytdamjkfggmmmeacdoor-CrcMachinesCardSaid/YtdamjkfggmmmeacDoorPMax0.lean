-- WRITTEN BY A PROGRAM OF THIS SESSION (a print of its own, with given functions). Not trusted: Lean checks it.
import Derived.Test.YtdamjkfggmmmeacDoorProg
import Derived.Below
import Derived.Deep.Draws
import Derived.Deep.AppendLies
import Derived.Maps.AppendAt
import Derived.OwnWalk
import Derived.Laws.BytesArg
import Derived.Laws.MakeOwn
import Derived.Laws.OwnMore
import Derived.Deep.OwnRows
import Derived.Tactics
import Derived.Lib.ConvBytes
import Derived.Laws.Slices
import Derived.WalkKit
import Derived.KernelRfl
import Derived.RowKit3
import Derived.Deep.LoopGhost
import Derived.Deep.QuietTactic
import Derived.BigQuiet
import Derived.WideLaws
import Derived.Deep.DeepCutAuto
import Derived.Deep.CutBlock
import Derived.Deep.RegionHeld3
import Derived.Laws.Rows
import Derived.Lib.AppendStr
import Derived.ArgAppend
import Derived.Laws.IdiomCopy
import Derived.OrdersHeld
import Derived.Laws.BitsLemmas
import Derived.RowKit
import Derived.Test.YtdamjkfggmmmeacDoorCrcMath
import Derived.Test.YtdamjkfggmmmeacDoorCrc
import Derived.Test.YtdamjkfggmmmeacDoorRef3
import Derived.Test.YtdamjkfggmmmeacDoorOnce
import Derived.Test.YtdamjkfggmmmeacDoorMach
import Derived.Test.YtdamjkfggmmmeacDoorWWords
import Derived.Test.YtdamjkfggmmmeacDoorWLast
import Derived.Test.YtdamjkfggmmmeacDoorWTab
import Derived.Test.YtdamjkfggmmmeacDoorWFour
import Derived.Test.YtdamjkfggmmmeacDoorWQPut
import Derived.Test.YtdamjkfggmmmeacDoorWApart
import Derived.Test.YtdamjkfggmmmeacDoorWArr
import Derived.Test.YtdamjkfggmmmeacDoorWZeros
import Derived.Test.YtdamjkfggmmmeacDoorWFoot
import Derived.Test.YtdamjkfggmmmeacDoorWKept
import Derived.Test.YtdamjkfggmmmeacDoorWShare
import Derived.Test.YtdamjkfggmmmeacDoorWN
import Derived.Test.YtdamjkfggmmmeacDoorWFootNe
import Derived.Test.YtdamjkfggmmmeacDoorWAt
import Derived.Test.YtdamjkfggmmmeacDoorWEqStruct
import Derived.Test.YtdamjkfggmmmeacDoorWRepsOne
import Derived.Test.YtdamjkfggmmmeacDoorWInv
import Derived.Test.YtdamjkfggmmmeacDoorWInvWords
import Derived.Test.YtdamjkfggmmmeacDoorWGuard
import Derived.Test.YtdamjkfggmmmeacDoorWNEv
import Derived.Test.YtdamjkfggmmmeacDoorWMore
namespace Go.Proofs.YtdamjkfggmmmeacDoor.PMa
open Go.RowKit Go.Proofs.YtdamjkfggmmmeacDoorW.PrintWords Go.Proofs.YtdamjkfggmmmeacDoorW.PrintLast Go.Proofs.YtdamjkfggmmmeacDoorW.PrintMore
attribute [local go_sem] max2_int min2_int max_two min_two max_three min_three max_four min_four   -- for this text's walks alone
set_option linter.unusedVariables false
set_option linter.unusedSimpArgs false



def errW : Option Int → Value
  | none => .nilIface
  | some c => .iface 0 (.int .i64 c)
theorem errW_none : errW none = .nilIface := rfl
theorem errW_some (c : Int) : errW (some c) = .iface 0 (.int .i64 c) := rfl

-- the values' own types

end Go.Proofs.YtdamjkfggmmmeacDoor.PMa
