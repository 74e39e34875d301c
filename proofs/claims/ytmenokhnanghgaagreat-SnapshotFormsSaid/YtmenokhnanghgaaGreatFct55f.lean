/- The closed facts of a row. -/
import Derived.Test.YtmenokhnanghgaaGreatROW
namespace Go.Proofs.YtmenokhnanghgaaGreat
open Go Go.ChangeShapes Go.WideShapes Go.ChangeAt Go.RowKit Go.Joins
set_option linter.unusedSimpArgs false
set_option linter.unusedVariables false
set_option maxRecDepth 100000
theorem sforms_in : (Rows.snapshotFormsRow.inPlace == Tryz.pinned.checked.prog.inPlace 8) = true := by kernel_rfl
theorem sforms_un : (Rows.snapshotFormsRow.unfollowed == Tryz.pinned.checked.prog.unfollowed 8) = true := by kernel_rfl
theorem sforms_re : (Rows.snapshotFormsRow.recurses == Tryz.pinned.checked.prog.recurses 8) = true := by kernel_rfl
theorem sforms_na : (Rows.snapshotFormsRow.named == Tryz.pinned.checked.prog.varsNamed 8) = true := by kernel_rfl
theorem sforms_cl : joinedFacts Tryz.pinned.checked.prog 8 Tryz.f8 Rows.snapshotFormsSpec Rows.snapshotFormsRow = true := by
  unfold joinedFacts
  rw [sforms_in, sforms_un, sforms_re, sforms_na]
  kernel_rfl
end Go.Proofs.YtmenokhnanghgaaGreat
