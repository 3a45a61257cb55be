/- BourneNames returns true: every error number, limit and kind of the program is the document's. No conditions. -/
import Derived.Test.YtcleljmbdiddeaaPBourneNamesx2
namespace Go.Proofs.Ytcleljmbdiddeaa.Pure
open Go.RowKit Go.Proofs.Ytcleljmbdiddeaa.PBourneNames Go.Proofs.YtcleljmbdiddeaaW.PrintWords Go.Proofs.YtcleljmbdiddeaaW.PrintLast

theorem BourneNames : bournelaw0_BourneNames.Pure := by
  unfold bournelaw0_BourneNames.Pure
  rfl

end Go.Proofs.Ytcleljmbdiddeaa.Pure
