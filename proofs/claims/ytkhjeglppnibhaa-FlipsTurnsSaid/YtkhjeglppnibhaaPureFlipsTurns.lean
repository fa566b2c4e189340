/- Chapter 48: a gate's flips go on and off by turns, on first. -/
import Derived.Test.YtkhjeglppnibhaaPFtx2
namespace Go.Proofs.Ytkhjeglppnibhaa.Pure
open Go.RowKit Go.Proofs.Ytkhjeglppnibhaa.PFt Go.Proofs.YtkhjeglppnibhaaW.PrintWords Go.Proofs.YtkhjeglppnibhaaW.PrintLast

theorem FlipsTurns : polyglotlaw48_FlipsTurns.Pure := fun _ _ _ => rfl

end Go.Proofs.Ytkhjeglppnibhaa.Pure
