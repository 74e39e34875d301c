/- The closed facts of a row. -/
import Derived.Test.YtmenokhnanghgaaGreatROW
namespace Go.Proofs.YtmenokhnanghgaaGreat
open Go Go.ChangeShapes Go.WideShapes Go.ChangeAt Go.RowKit Go.Joins
set_option linter.unusedSimpArgs false
set_option linter.unusedVariables false
set_option maxRecDepth 100000
theorem spatterns_in : (Rows.snapshotPatternsRow.inPlace == Tryz.pinned.checked.prog.inPlace 3) = true := by kernel_rfl
theorem spatterns_un : (Rows.snapshotPatternsRow.unfollowed == Tryz.pinned.checked.prog.unfollowed 3) = true := by kernel_rfl
theorem spatterns_re : (Rows.snapshotPatternsRow.recurses == Tryz.pinned.checked.prog.recurses 3) = true := by kernel_rfl
theorem spatterns_na : (Rows.snapshotPatternsRow.named == Tryz.pinned.checked.prog.varsNamed 3) = true := by kernel_rfl
theorem spatterns_cl : joinedFacts Tryz.pinned.checked.prog 3 Tryz.f3 Rows.snapshotPatternsSpec Rows.snapshotPatternsRow = true := by
  unfold joinedFacts
  rw [spatterns_in, spatterns_un, spatterns_re, spatterns_na]
  kernel_rfl
end Go.Proofs.YtmenokhnanghgaaGreat
