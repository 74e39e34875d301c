/- The closed facts of a row of chapter 54. -/
import Derived.Test.YtabfefhicfmabaaGreatROW
namespace Go.Proofs.YtabfefhicfmabaaGreat
open Go Go.ChangeShapes Go.WideShapes Go.ChangeAt Go.RowKit Go.Joins
set_option linter.unusedSimpArgs false
set_option linter.unusedVariables false
set_option maxRecDepth 100000
theorem tdiffs_in : (Rows.timelineDiffsRow.inPlace == Tryz.pinned.checked.prog.inPlace 9) = true := by kernel_rfl
theorem tdiffs_un : (Rows.timelineDiffsRow.unfollowed == Tryz.pinned.checked.prog.unfollowed 9) = true := by kernel_rfl
theorem tdiffs_re : (Rows.timelineDiffsRow.recurses == Tryz.pinned.checked.prog.recurses 9) = true := by kernel_rfl
theorem tdiffs_na : (Rows.timelineDiffsRow.named == Tryz.pinned.checked.prog.varsNamed 9) = true := by kernel_rfl
theorem tdiffs_cl : joinedFacts Tryz.pinned.checked.prog 9 Tryz.f9 Rows.timelineDiffsSpec Rows.timelineDiffsRow = true := by
  unfold joinedFacts
  rw [tdiffs_in, tdiffs_un, tdiffs_re, tdiffs_na]
  kernel_rfl
end Go.Proofs.YtabfefhicfmabaaGreat
