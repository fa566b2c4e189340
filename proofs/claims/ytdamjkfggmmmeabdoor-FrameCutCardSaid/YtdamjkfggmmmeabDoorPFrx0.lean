-- WRITTEN BY A PROGRAM OF THIS SESSION (a print of its own, with given functions). Not trusted: Lean checks it.
import Derived.Test.YtdamjkfggmmmeabDoorProg
import Derived.Below
import Derived.Deep.Draws
import Derived.Deep.AppendLies
import Derived.Maps.AppendAt
import Derived.OwnWalk
import Derived.Laws.BytesArg
import Derived.Laws.MakeOwn
import Derived.Laws.OwnMore
import Derived.Deep.OwnRows
import Derived.Tactics
import Derived.Lib.ConvBytes
import Derived.Laws.Slices
import Derived.WalkKit
import Derived.KernelRfl
import Derived.RowKit3
import Derived.Deep.LoopGhost
import Derived.Deep.QuietTactic
import Derived.BigQuiet
import Derived.WideLaws
import Derived.Deep.DeepCutAuto
import Derived.Deep.CutBlock
import Derived.Deep.RegionHeld3
import Derived.Laws.Rows
import Derived.Lib.AppendStr
import Derived.ArgAppend
import Derived.Laws.IdiomCopy
import Derived.OrdersHeld
import Derived.Laws.BitsLemmas
import Derived.RowKit
import Derived.Test.YtdamjkfggmmmeabDoorCrcMath
import Derived.Test.YtdamjkfggmmmeabDoorCrc
import Derived.Test.YtdamjkfggmmmeabDoorOctet
import Derived.Test.YtdamjkfggmmmeabDoorFrame
import Derived.Test.YtdamjkfggmmmeabDoorFrameO
import Derived.Test.YtdamjkfggmmmeabDoorWWords
import Derived.Test.YtdamjkfggmmmeabDoorWLast
import Derived.Test.YtdamjkfggmmmeabDoorWTab
import Derived.Test.YtdamjkfggmmmeabDoorWFour
import Derived.Test.YtdamjkfggmmmeabDoorWQPut
import Derived.Test.YtdamjkfggmmmeabDoorWApart
import Derived.Test.YtdamjkfggmmmeabDoorWArr
import Derived.Test.YtdamjkfggmmmeabDoorWZeros
import Derived.Test.YtdamjkfggmmmeabDoorWFoot
import Derived.Test.YtdamjkfggmmmeabDoorWKept
import Derived.Test.YtdamjkfggmmmeabDoorWShare
import Derived.Test.YtdamjkfggmmmeabDoorWN
import Derived.Test.YtdamjkfggmmmeabDoorWFootNe
import Derived.Test.YtdamjkfggmmmeabDoorWAt
import Derived.Test.YtdamjkfggmmmeabDoorWEqStruct
import Derived.Test.YtdamjkfggmmmeabDoorWRepsOne
import Derived.Test.YtdamjkfggmmmeabDoorWInv
import Derived.Test.YtdamjkfggmmmeabDoorWInvWords
import Derived.Test.YtdamjkfggmmmeabDoorWGuard
import Derived.Test.YtdamjkfggmmmeabDoorWNEv
import Derived.Test.YtdamjkfggmmmeabDoorWMore
namespace Go.Proofs.YtdamjkfggmmmeabDoor.PFr
open Go.RowKit Go.Proofs.YtdamjkfggmmmeabDoorW.PrintWords Go.Proofs.YtdamjkfggmmmeabDoorW.PrintLast Go.Proofs.YtdamjkfggmmmeabDoorW.PrintMore
attribute [local go_sem] max2_int min2_int max_two min_two max_three min_three max_four min_four   -- for this text's walks alone
set_option linter.unusedVariables false
set_option linter.unusedSimpArgs false



def errW : Option Int → Value
  | none => .nilIface
  | some c => .iface 0 (.int .i64 c)
theorem errW_none : errW none = .nilIface := rfl
theorem errW_some (c : Int) : errW (some c) = .iface 0 (.int .i64 c) := rfl

theorem info5 : (Tryd.prog.info? 5).map (fun i => (i.zero, i.size, i.bytes)) = some (some (.int .u8 0), 1, 1) := by kernel_rfl
-- the values' own types

end Go.Proofs.YtdamjkfggmmmeabDoor.PFr
