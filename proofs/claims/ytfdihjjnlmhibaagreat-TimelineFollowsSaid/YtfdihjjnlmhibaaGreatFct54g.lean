/- The closed facts of a row. -/
import Derived.Test.YtfdihjjnlmhibaaGreatROW
namespace Go.Proofs.YtfdihjjnlmhibaaGreat
open Go Go.ChangeShapes Go.WideShapes Go.ChangeAt Go.RowKit Go.Joins
set_option linter.unusedSimpArgs false
set_option linter.unusedVariables false
set_option maxRecDepth 100000
theorem tfollows_in : (Rows.timelineFollowsRow.inPlace == Tryz.pinned.checked.prog.inPlace 3) = true := by kernel_rfl
theorem tfollows_un : (Rows.timelineFollowsRow.unfollowed == Tryz.pinned.checked.prog.unfollowed 3) = true := by kernel_rfl
theorem tfollows_re : (Rows.timelineFollowsRow.recurses == Tryz.pinned.checked.prog.recurses 3) = true := by kernel_rfl
theorem tfollows_na : (Rows.timelineFollowsRow.named == Tryz.pinned.checked.prog.varsNamed 3) = true := by kernel_rfl
theorem tfollows_cl : joinedFacts Tryz.pinned.checked.prog 3 Tryz.f3 Rows.timelineFollowsSpec Rows.timelineFollowsRow = true := by
  unfold joinedFacts
  rw [tfollows_in, tfollows_un, tfollows_re, tfollows_na]
  kernel_rfl
end Go.Proofs.YtfdihjjnlmhibaaGreat
