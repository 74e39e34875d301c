/- The closed facts of a row of chapter 54. -/
import Derived.Test.YtabfefhicfmabaaGreatROW
namespace Go.Proofs.YtabfefhicfmabaaGreat
open Go Go.ChangeShapes Go.WideShapes Go.ChangeAt Go.RowKit Go.Joins
set_option linter.unusedSimpArgs false
set_option linter.unusedVariables false
set_option maxRecDepth 100000
theorem tappends_in : (Rows.timelineAppendsRow.inPlace == Tryz.pinned.checked.prog.inPlace 6) = true := by kernel_rfl
theorem tappends_un : (Rows.timelineAppendsRow.unfollowed == Tryz.pinned.checked.prog.unfollowed 6) = true := by kernel_rfl
theorem tappends_re : (Rows.timelineAppendsRow.recurses == Tryz.pinned.checked.prog.recurses 6) = true := by kernel_rfl
theorem tappends_na : (Rows.timelineAppendsRow.named == Tryz.pinned.checked.prog.varsNamed 6) = true := by kernel_rfl
theorem tappends_cl : joinedFacts Tryz.pinned.checked.prog 6 Tryz.f6 Rows.timelineAppendsSpec Rows.timelineAppendsRow = true := by
  unfold joinedFacts
  rw [tappends_in, tappends_un, tappends_re, tappends_na]
  kernel_rfl
end Go.Proofs.YtabfefhicfmabaaGreat
