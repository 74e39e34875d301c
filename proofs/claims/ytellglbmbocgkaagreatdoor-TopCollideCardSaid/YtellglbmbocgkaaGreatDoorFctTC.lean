/- The closed facts of the row of TopCollide. -/
import Derived.Test.YtellglbmbocgkaaGreatDoorROW
namespace Go.Proofs.YtellglbmbocgkaaGreatDoor
open Go Go.ChangeShapes Go.WideShapes Go.ChangeAt Go.RowKit Go.Joins
set_option linter.unusedSimpArgs false
set_option linter.unusedVariables false
set_option maxRecDepth 100000
theorem topcol_in : (Rows.topCollideRow.inPlace == Tryz.pinned.checked.prog.inPlace 5) = true := by kernel_rfl
theorem topcol_un : (Rows.topCollideRow.unfollowed == Tryz.pinned.checked.prog.unfollowed 5) = true := by kernel_rfl
theorem topcol_re : (Rows.topCollideRow.recurses == Tryz.pinned.checked.prog.recurses 5) = true := by kernel_rfl
theorem topcol_na : (Rows.topCollideRow.named == Tryz.pinned.checked.prog.varsNamed 5) = true := by kernel_rfl
theorem topcol_cl : joinedFacts Tryz.pinned.checked.prog 5 Tryz.f5 Rows.topCollideSpec Rows.topCollideRow = true := by
  unfold joinedFacts
  rw [topcol_in, topcol_un, topcol_re, topcol_na]
  kernel_rfl
end Go.Proofs.YtellglbmbocgkaaGreatDoor
