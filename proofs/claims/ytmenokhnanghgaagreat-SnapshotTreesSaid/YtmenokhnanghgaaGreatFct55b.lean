/- The closed facts of a row. -/
import Derived.Test.YtmenokhnanghgaaGreatROW
namespace Go.Proofs.YtmenokhnanghgaaGreat
open Go Go.ChangeShapes Go.WideShapes Go.ChangeAt Go.RowKit Go.Joins
set_option linter.unusedSimpArgs false
set_option linter.unusedVariables false
set_option maxRecDepth 100000
theorem strees_in : (Rows.snapshotTreesRow.inPlace == Tryz.pinned.checked.prog.inPlace 4) = true := by kernel_rfl
theorem strees_un : (Rows.snapshotTreesRow.unfollowed == Tryz.pinned.checked.prog.unfollowed 4) = true := by kernel_rfl
theorem strees_re : (Rows.snapshotTreesRow.recurses == Tryz.pinned.checked.prog.recurses 4) = true := by kernel_rfl
theorem strees_na : (Rows.snapshotTreesRow.named == Tryz.pinned.checked.prog.varsNamed 4) = true := by kernel_rfl
theorem strees_cl : joinedFacts Tryz.pinned.checked.prog 4 Tryz.f4 Rows.snapshotTreesSpec Rows.snapshotTreesRow = true := by
  unfold joinedFacts
  rw [strees_in, strees_un, strees_re, strees_na]
  kernel_rfl
end Go.Proofs.YtmenokhnanghgaaGreat
