-- WRITTEN BY A PROGRAM OF THIS SESSION (a print of its own, with given functions). Not trusted: Lean checks it.
import Derived.Test.YtdamjkfggmmmeaaPVarx0
import Derived.Test.YtdamjkfggmmmeaaPVarx1
import Derived.Test.YtdamjkfggmmmeaaPVarx2
import Derived.Test.YtdamjkfggmmmeaaPVarx3
import Derived.Test.YtdamjkfggmmmeaaPVarx4
namespace Go.Proofs.Ytdamjkfggmmmeaa.PVar
open Go.RowKit Go.Proofs.YtdamjkfggmmmeaaW.PrintWords Go.Proofs.YtdamjkfggmmmeaaW.PrintLast Go.Proofs.YtdamjkfggmmmeaaW.PrintMore
attribute [local go_sem] max2_int min2_int max_two min_two max_three min_three max_four min_four   -- for this text's walks alone
set_option linter.unusedVariables false
set_option linter.unusedSimpArgs false

end Go.Proofs.Ytdamjkfggmmmeaa.PVar
