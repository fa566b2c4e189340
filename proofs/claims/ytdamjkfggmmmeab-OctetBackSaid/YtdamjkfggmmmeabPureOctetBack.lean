/- Chapter 1: a number that has room is read back as it was put, between any other bytes. -/
import Derived.Test.YtdamjkfggmmmeabPObx1
namespace Go.Proofs.Ytdamjkfggmmmeab.Pure
open Go.RowKit Go.Proofs.Ytdamjkfggmmmeab.POb Go.Proofs.YtdamjkfggmmmeabW.PrintWords Go.Proofs.YtdamjkfggmmmeabW.PrintLast

theorem OctetBack : polyglotlaw01_OctetBack.Pure := by
  intro l n v _ hw _ _
  unfold polyglotlaw01_OctetBack.f
  refine if_pos (List.all_eq_true.2 (fun c hc => ?_))
  have := hw c hc
  simpa [Lit.wf, IntKind.min, IntKind.max, IntKind.signed, IntKind.bits] using this

end Go.Proofs.Ytdamjkfggmmmeab.Pure
