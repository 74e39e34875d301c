/- The closed facts of a row. -/
import Derived.Test.YtabfefhicfmabaaGreatROW
namespace Go.Proofs.YtabfefhicfmabaaGreat
open Go Go.ChangeShapes Go.WideShapes Go.ChangeAt Go.RowKit Go.Joins
set_option linter.unusedSimpArgs false
set_option linter.unusedVariables false
set_option maxRecDepth 100000
theorem tpieces_in : (Rows.timelinePiecesRow.inPlace == Tryz.pinned.checked.prog.inPlace 8) = true := by kernel_rfl
theorem tpieces_un : (Rows.timelinePiecesRow.unfollowed == Tryz.pinned.checked.prog.unfollowed 8) = true := by kernel_rfl
theorem tpieces_re : (Rows.timelinePiecesRow.recurses == Tryz.pinned.checked.prog.recurses 8) = true := by kernel_rfl
theorem tpieces_na : (Rows.timelinePiecesRow.named == Tryz.pinned.checked.prog.varsNamed 8) = true := by kernel_rfl
theorem tpieces_cl : joinedFacts Tryz.pinned.checked.prog 8 Tryz.f8 Rows.timelinePiecesSpec Rows.timelinePiecesRow = true := by
  unfold joinedFacts
  rw [tpieces_in, tpieces_un, tpieces_re, tpieces_na]
  kernel_rfl
end Go.Proofs.YtabfefhicfmabaaGreat
