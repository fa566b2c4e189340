/- Chapter 3: a machine gives the reference's sum of each of up to 8 texts of up to 100 bytes, builds its table once, ahead of the first one, and counts what it was asked for; of more it says nothing. -/
import Derived.Test.YtdamjkfggmmmeacDoorPMax1
namespace Go.Proofs.YtdamjkfggmmmeacDoor.Pure
open Go.RowKit Go.Proofs.YtdamjkfggmmmeacDoor.PMa Go.Proofs.YtdamjkfggmmmeacDoorW.PrintWords Go.Proofs.YtdamjkfggmmmeacDoorW.PrintLast
theorem CrcMachines : polyglotlaw03_CrcMachines.Pure := by
  intro l _ hw
  unfold polyglotlaw03_CrcMachines.f
  rw [if_pos]
  refine List.all_eq_true.2 fun p hp => List.all_eq_true.2 fun x hx => ?_
  have := (hw p hp).2 x hx
  simp [Lit.wf, IntKind.min, IntKind.max, IntKind.signed, IntKind.bits] at this
  simp; omega
end Go.Proofs.YtdamjkfggmmmeacDoor.Pure
