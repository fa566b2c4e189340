/- Chapter 1: all bytes behind any steps of a writer, and when it goes bad. -/
import Derived.Test.YtdamjkfggmmmeaaPOwx1
namespace Go.Proofs.Ytdamjkfggmmmeaa.Pure
open Go.RowKit Go.Proofs.Ytdamjkfggmmmeaa.POw Go.Proofs.YtdamjkfggmmmeaaW.PrintWords Go.Proofs.YtdamjkfggmmmeaaW.PrintLast

theorem OctetWrites : polyglotlaw01_OctetWrites.Pure := fun _ _ _ => rfl

end Go.Proofs.Ytdamjkfggmmmeaa.Pure
