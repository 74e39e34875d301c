/- The closed facts of a row. -/
import Derived.Test.YtmenokhnanghgaaGreatROW
namespace Go.Proofs.YtmenokhnanghgaaGreat
open Go Go.ChangeShapes Go.WideShapes Go.ChangeAt Go.RowKit Go.Joins
set_option linter.unusedSimpArgs false
set_option linter.unusedVariables false
set_option maxRecDepth 100000
theorem sround_in : (Rows.snapshotRoundTripRow.inPlace == Tryz.pinned.checked.prog.inPlace 7) = true := by kernel_rfl
theorem sround_un : (Rows.snapshotRoundTripRow.unfollowed == Tryz.pinned.checked.prog.unfollowed 7) = true := by kernel_rfl
theorem sround_re : (Rows.snapshotRoundTripRow.recurses == Tryz.pinned.checked.prog.recurses 7) = true := by kernel_rfl
theorem sround_na : (Rows.snapshotRoundTripRow.named == Tryz.pinned.checked.prog.varsNamed 7) = true := by kernel_rfl
theorem sround_cl : joinedFacts Tryz.pinned.checked.prog 7 Tryz.f7 Rows.snapshotRoundTripSpec Rows.snapshotRoundTripRow = true := by
  unfold joinedFacts
  rw [sround_in, sround_un, sround_re, sround_na]
  kernel_rfl
end Go.Proofs.YtmenokhnanghgaaGreat
