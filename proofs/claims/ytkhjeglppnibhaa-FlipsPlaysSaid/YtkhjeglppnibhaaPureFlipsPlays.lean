/- Chapter 48: all that flips, and when, and what is on, behind any looks at any views. -/
import Derived.Test.YtkhjeglppnibhaaPFpx2
namespace Go.Proofs.Ytkhjeglppnibhaa.Pure
open Go.RowKit Go.Proofs.Ytkhjeglppnibhaa.PFp Go.Proofs.YtkhjeglppnibhaaW.PrintWords Go.Proofs.YtkhjeglppnibhaaW.PrintLast

theorem FlipsPlays : polyglotlaw48_FlipsPlays.Pure := fun _ _ _ _ _ _ _ _ => rfl

end Go.Proofs.Ytkhjeglppnibhaa.Pure
