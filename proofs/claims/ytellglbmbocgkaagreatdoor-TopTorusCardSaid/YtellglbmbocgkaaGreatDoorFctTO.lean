/- The closed facts of the row of TopTorus. -/
import Derived.Test.YtellglbmbocgkaaGreatDoorROW
namespace Go.Proofs.YtellglbmbocgkaaGreatDoor
open Go Go.ChangeShapes Go.WideShapes Go.ChangeAt Go.RowKit Go.Joins
set_option linter.unusedSimpArgs false
set_option linter.unusedVariables false
set_option maxRecDepth 100000
theorem toptor_in : (Rows.topTorusRow.inPlace == Tryz.pinned.checked.prog.inPlace 4) = true := by kernel_rfl
theorem toptor_un : (Rows.topTorusRow.unfollowed == Tryz.pinned.checked.prog.unfollowed 4) = true := by kernel_rfl
theorem toptor_re : (Rows.topTorusRow.recurses == Tryz.pinned.checked.prog.recurses 4) = true := by kernel_rfl
theorem toptor_na : (Rows.topTorusRow.named == Tryz.pinned.checked.prog.varsNamed 4) = true := by kernel_rfl
theorem toptor_cl : joinedFacts Tryz.pinned.checked.prog 4 Tryz.f4 Rows.topTorusSpec Rows.topTorusRow = true := by
  unfold joinedFacts
  rw [toptor_in, toptor_un, toptor_re, toptor_na]
  kernel_rfl
end Go.Proofs.YtellglbmbocgkaaGreatDoor
