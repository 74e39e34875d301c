/- The closed facts of a row of chapter 54. -/
import Derived.Test.YtabfefhicfmabaaGreatROW
namespace Go.Proofs.YtabfefhicfmabaaGreat
open Go Go.ChangeShapes Go.WideShapes Go.ChangeAt Go.RowKit Go.Joins
set_option linter.unusedSimpArgs false
set_option linter.unusedVariables false
set_option maxRecDepth 100000
theorem truns_in : (Rows.timelineRunsRow.inPlace == Tryz.pinned.checked.prog.inPlace 4) = true := by kernel_rfl
theorem truns_un : (Rows.timelineRunsRow.unfollowed == Tryz.pinned.checked.prog.unfollowed 4) = true := by kernel_rfl
theorem truns_re : (Rows.timelineRunsRow.recurses == Tryz.pinned.checked.prog.recurses 4) = true := by kernel_rfl
theorem truns_na : (Rows.timelineRunsRow.named == Tryz.pinned.checked.prog.varsNamed 4) = true := by kernel_rfl
theorem truns_cl : joinedFacts Tryz.pinned.checked.prog 4 Tryz.f4 Rows.timelineRunsSpec Rows.timelineRunsRow = true := by
  unfold joinedFacts
  rw [truns_in, truns_un, truns_re, truns_na]
  kernel_rfl
end Go.Proofs.YtabfefhicfmabaaGreat
