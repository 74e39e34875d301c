/- The closed facts of a row. -/
import Derived.Test.YtmenokhnanghgaaGreatROW
namespace Go.Proofs.YtmenokhnanghgaaGreat
open Go Go.ChangeShapes Go.WideShapes Go.ChangeAt Go.RowKit Go.Joins
set_option linter.unusedSimpArgs false
set_option linter.unusedVariables false
set_option maxRecDepth 100000
theorem squads_in : (Rows.snapshotQuadsRow.inPlace == Tryz.pinned.checked.prog.inPlace 5) = true := by kernel_rfl
theorem squads_un : (Rows.snapshotQuadsRow.unfollowed == Tryz.pinned.checked.prog.unfollowed 5) = true := by kernel_rfl
theorem squads_re : (Rows.snapshotQuadsRow.recurses == Tryz.pinned.checked.prog.recurses 5) = true := by kernel_rfl
theorem squads_na : (Rows.snapshotQuadsRow.named == Tryz.pinned.checked.prog.varsNamed 5) = true := by kernel_rfl
theorem squads_cl : joinedFacts Tryz.pinned.checked.prog 5 Tryz.f5 Rows.snapshotQuadsSpec Rows.snapshotQuadsRow = true := by
  unfold joinedFacts
  rw [squads_in, squads_un, squads_re, squads_na]
  kernel_rfl
end Go.Proofs.YtmenokhnanghgaaGreat
