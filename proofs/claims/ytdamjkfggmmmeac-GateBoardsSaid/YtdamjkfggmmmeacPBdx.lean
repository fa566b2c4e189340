-- WRITTEN BY A PROGRAM OF THIS SESSION (a print of its own, with given functions). Not trusted: Lean checks it.
import Derived.Test.YtdamjkfggmmmeacPBdx0
import Derived.Test.YtdamjkfggmmmeacPBdx1
import Derived.Test.YtdamjkfggmmmeacPBdx2
import Derived.Test.YtdamjkfggmmmeacPBdx3
namespace Go.Proofs.Ytdamjkfggmmmeac.PBd
open Go.RowKit Go.Proofs.YtdamjkfggmmmeacW.PrintWords Go.Proofs.YtdamjkfggmmmeacW.PrintLast Go.Proofs.YtdamjkfggmmmeacW.PrintMore
attribute [local go_sem] max2_int min2_int max_two min_two max_three min_three max_four min_four   -- for this text's walks alone
set_option linter.unusedVariables false
set_option linter.unusedSimpArgs false

end Go.Proofs.Ytdamjkfggmmmeac.PBd
