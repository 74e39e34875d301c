/- The closed facts of the row of TopTimeline. -/
import Derived.Test.YtellglbmbocgkaaGreatDoorROW
namespace Go.Proofs.YtellglbmbocgkaaGreatDoor
open Go Go.ChangeShapes Go.WideShapes Go.ChangeAt Go.RowKit Go.Joins
set_option linter.unusedSimpArgs false
set_option linter.unusedVariables false
set_option maxRecDepth 100000
theorem toptl_in : (Rows.topTimelineRow.inPlace == Tryz.pinned.checked.prog.inPlace 3) = true := by kernel_rfl
theorem toptl_un : (Rows.topTimelineRow.unfollowed == Tryz.pinned.checked.prog.unfollowed 3) = true := by kernel_rfl
theorem toptl_re : (Rows.topTimelineRow.recurses == Tryz.pinned.checked.prog.recurses 3) = true := by kernel_rfl
theorem toptl_na : (Rows.topTimelineRow.named == Tryz.pinned.checked.prog.varsNamed 3) = true := by kernel_rfl
theorem toptl_cl : joinedFacts Tryz.pinned.checked.prog 3 Tryz.f3 Rows.topTimelineSpec Rows.topTimelineRow = true := by
  unfold joinedFacts
  rw [toptl_in, toptl_un, toptl_re, toptl_na]
  kernel_rfl
end Go.Proofs.YtellglbmbocgkaaGreatDoor
