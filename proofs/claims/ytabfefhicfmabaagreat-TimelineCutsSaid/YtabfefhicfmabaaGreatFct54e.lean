/- The closed facts of a row of chapter 54. -/
import Derived.Test.YtabfefhicfmabaaGreatROW
namespace Go.Proofs.YtabfefhicfmabaaGreat
open Go Go.ChangeShapes Go.WideShapes Go.ChangeAt Go.RowKit Go.Joins
set_option linter.unusedSimpArgs false
set_option linter.unusedVariables false
set_option maxRecDepth 100000
theorem tcuts_in : (Rows.timelineCutsRow.inPlace == Tryz.pinned.checked.prog.inPlace 7) = true := by kernel_rfl
theorem tcuts_un : (Rows.timelineCutsRow.unfollowed == Tryz.pinned.checked.prog.unfollowed 7) = true := by kernel_rfl
theorem tcuts_re : (Rows.timelineCutsRow.recurses == Tryz.pinned.checked.prog.recurses 7) = true := by kernel_rfl
theorem tcuts_na : (Rows.timelineCutsRow.named == Tryz.pinned.checked.prog.varsNamed 7) = true := by kernel_rfl
theorem tcuts_cl : joinedFacts Tryz.pinned.checked.prog 7 Tryz.f7 Rows.timelineCutsSpec Rows.timelineCutsRow = true := by
  unfold joinedFacts
  rw [tcuts_in, tcuts_un, tcuts_re, tcuts_na]
  kernel_rfl
end Go.Proofs.YtabfefhicfmabaaGreat
