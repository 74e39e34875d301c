/- The closed facts of a row. -/
import Derived.Test.YtmenokhnanghgaaGreatROW
namespace Go.Proofs.YtmenokhnanghgaaGreat
open Go Go.ChangeShapes Go.WideShapes Go.ChangeAt Go.RowKit Go.Joins
set_option linter.unusedSimpArgs false
set_option linter.unusedVariables false
set_option maxRecDepth 100000
theorem stimelines_in : (Rows.snapshotTimelinesRow.inPlace == Tryz.pinned.checked.prog.inPlace 6) = true := by kernel_rfl
theorem stimelines_un : (Rows.snapshotTimelinesRow.unfollowed == Tryz.pinned.checked.prog.unfollowed 6) = true := by kernel_rfl
theorem stimelines_re : (Rows.snapshotTimelinesRow.recurses == Tryz.pinned.checked.prog.recurses 6) = true := by kernel_rfl
theorem stimelines_na : (Rows.snapshotTimelinesRow.named == Tryz.pinned.checked.prog.varsNamed 6) = true := by kernel_rfl
theorem stimelines_cl : joinedFacts Tryz.pinned.checked.prog 6 Tryz.f6 Rows.snapshotTimelinesSpec Rows.snapshotTimelinesRow = true := by
  unfold joinedFacts
  rw [stimelines_in, stimelines_un, stimelines_re, stimelines_na]
  kernel_rfl
end Go.Proofs.YtmenokhnanghgaaGreat
