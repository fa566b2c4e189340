-- WRITTEN BY A PROGRAM OF THIS SESSION (a print of its own, with given functions). Not trusted: Lean checks it.
import Derived.Test.YtdamjkfggmmmeaaProg
import Derived.Below
import Derived.Deep.Draws
import Derived.Deep.AppendLies
import Derived.Maps.AppendAt
import Derived.OwnWalk
import Derived.Laws.BytesArg
import Derived.Laws.MakeOwn
import Derived.Laws.OwnMore
import Derived.Deep.OwnRows
import Derived.Tactics
import Derived.Lib.ConvBytes
import Derived.Laws.Slices
import Derived.WalkKit
import Derived.KernelRfl
import Derived.RowKit3
import Derived.Deep.LoopGhost
import Derived.Deep.QuietTactic
import Derived.BigQuiet
import Derived.WideLaws
import Derived.Deep.DeepCutAuto
import Derived.Deep.CutBlock
import Derived.Deep.RegionHeld3
import Derived.Laws.Rows
import Derived.Lib.AppendStr
import Derived.ArgAppend
import Derived.Laws.IdiomCopy
import Derived.OrdersHeld
import Derived.Laws.BitsLemmas
import Derived.RowKit
import Derived.Test.YtdamjkfggmmmeaaWWords
import Derived.Test.YtdamjkfggmmmeaaWLast
import Derived.Test.YtdamjkfggmmmeaaWTab
import Derived.Test.YtdamjkfggmmmeaaWFour
import Derived.Test.YtdamjkfggmmmeaaWQPut
import Derived.Test.YtdamjkfggmmmeaaWApart
import Derived.Test.YtdamjkfggmmmeaaWArr
import Derived.Test.YtdamjkfggmmmeaaWZeros
import Derived.Test.YtdamjkfggmmmeaaWFoot
import Derived.Test.YtdamjkfggmmmeaaWKept
import Derived.Test.YtdamjkfggmmmeaaWShare
import Derived.Test.YtdamjkfggmmmeaaWN
import Derived.Test.YtdamjkfggmmmeaaWFootNe
import Derived.Test.YtdamjkfggmmmeaaWAt
import Derived.Test.YtdamjkfggmmmeaaWEqStruct
import Derived.Test.YtdamjkfggmmmeaaWRepsOne
import Derived.Test.YtdamjkfggmmmeaaWInv
import Derived.Test.YtdamjkfggmmmeaaWInvWords
import Derived.Test.YtdamjkfggmmmeaaWGuard
import Derived.Test.YtdamjkfggmmmeaaWNEv
import Derived.Test.YtdamjkfggmmmeaaWMore
namespace Go.Proofs.Ytdamjkfggmmmeaa.PVar
open Go.RowKit Go.Proofs.YtdamjkfggmmmeaaW.PrintWords Go.Proofs.YtdamjkfggmmmeaaW.PrintLast Go.Proofs.YtdamjkfggmmmeaaW.PrintMore
attribute [local go_sem] max2_int min2_int max_two min_two max_three min_three max_four min_four   -- for this text's walks alone
set_option linter.unusedVariables false
set_option linter.unusedSimpArgs false



def errW : Option Int → Value
  | none => .nilIface
  | some c => .iface 0 (.int .i64 c)
theorem errW_none : errW none = .nilIface := rfl
theorem errW_some (c : Int) : errW (some c) = .iface 0 (.int .i64 c) := rfl

theorem info5 : (Try.prog.info? 5).map (fun i => (i.zero, i.size, i.bytes)) = some (some (.int .u8 0), 1, 1) := by kernel_rfl
-- the values' own types

end Go.Proofs.Ytdamjkfggmmmeaa.PVar
