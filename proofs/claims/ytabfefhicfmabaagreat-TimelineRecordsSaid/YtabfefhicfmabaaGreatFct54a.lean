/- The closed facts of a row of chapter 54. -/
import Derived.Test.YtabfefhicfmabaaGreatROW
namespace Go.Proofs.YtabfefhicfmabaaGreat
open Go Go.ChangeShapes Go.WideShapes Go.ChangeAt Go.RowKit Go.Joins
set_option linter.unusedSimpArgs false
set_option linter.unusedVariables false
set_option maxRecDepth 100000
theorem trecords_in : (Rows.timelineRecordsRow.inPlace == Tryz.pinned.checked.prog.inPlace 3) = true := by kernel_rfl
theorem trecords_un : (Rows.timelineRecordsRow.unfollowed == Tryz.pinned.checked.prog.unfollowed 3) = true := by kernel_rfl
theorem trecords_re : (Rows.timelineRecordsRow.recurses == Tryz.pinned.checked.prog.recurses 3) = true := by kernel_rfl
theorem trecords_na : (Rows.timelineRecordsRow.named == Tryz.pinned.checked.prog.varsNamed 3) = true := by kernel_rfl
theorem trecords_cl : joinedFacts Tryz.pinned.checked.prog 3 Tryz.f3 Rows.timelineRecordsSpec Rows.timelineRecordsRow = true := by
  unfold joinedFacts
  rw [trecords_in, trecords_un, trecords_re, trecords_na]
  kernel_rfl
end Go.Proofs.YtabfefhicfmabaaGreat
