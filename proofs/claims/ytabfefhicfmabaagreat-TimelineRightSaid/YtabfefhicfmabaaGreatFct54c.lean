/- The closed facts of a row of chapter 54. -/
import Derived.Test.YtabfefhicfmabaaGreatROW
namespace Go.Proofs.YtabfefhicfmabaaGreat
open Go Go.ChangeShapes Go.WideShapes Go.ChangeAt Go.RowKit Go.Joins
set_option linter.unusedSimpArgs false
set_option linter.unusedVariables false
set_option maxRecDepth 100000
theorem tright_in : (Rows.timelineRightRow.inPlace == Tryz.pinned.checked.prog.inPlace 5) = true := by kernel_rfl
theorem tright_un : (Rows.timelineRightRow.unfollowed == Tryz.pinned.checked.prog.unfollowed 5) = true := by kernel_rfl
theorem tright_re : (Rows.timelineRightRow.recurses == Tryz.pinned.checked.prog.recurses 5) = true := by kernel_rfl
theorem tright_na : (Rows.timelineRightRow.named == Tryz.pinned.checked.prog.varsNamed 5) = true := by kernel_rfl
theorem tright_cl : joinedFacts Tryz.pinned.checked.prog 5 Tryz.f5 Rows.timelineRightSpec Rows.timelineRightRow = true := by
  unfold joinedFacts
  rw [tright_in, tright_un, tright_re, tright_na]
  kernel_rfl
end Go.Proofs.YtabfefhicfmabaaGreat
