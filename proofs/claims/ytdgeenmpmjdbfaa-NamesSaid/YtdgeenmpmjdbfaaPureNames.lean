/- The names of package api stand for the document's numbers: the law Names returns true. No condition. -/
import Derived.Test.YtdgeenmpmjdbfaaPNamesx1
namespace Go.Proofs.Ytdgeenmpmjdbfaa.Pure
open Go.RowKit Go.Proofs.Ytdgeenmpmjdbfaa.PNames Go.Proofs.YtdgeenmpmjdbfaaW.PrintWords Go.Proofs.YtdgeenmpmjdbfaaW.PrintLast

theorem Names : engrosslaw0_Names.Pure := by
  exact ⟨60, by decide +kernel⟩

end Go.Proofs.Ytdgeenmpmjdbfaa.Pure
