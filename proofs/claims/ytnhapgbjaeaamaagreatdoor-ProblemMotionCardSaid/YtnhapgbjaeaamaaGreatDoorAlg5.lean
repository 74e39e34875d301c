/- The contracts of the references of Over, Xor, And, Without, Disjoint and Cut. -/
import Derived.Test.YtnhapgbjaeaamaaGreatDoorPLN
import Derived.Test.YtnhapgbjaeaamaaGreatDoorMEM
import Derived.Test.YtnhapgbjaeaamaaGreatDoorFromS
import Derived.Test.YtnhapgbjaeaamaaGreatDoorCell8
import Derived.Test.YtnhapgbjaeaamaaGreatDoorBox3
namespace Go.Proofs.YtnhapgbjaeaamaaGreatDoor
open Go Go.RowKit
set_option linter.unusedSimpArgs false
set_option linter.unusedVariables false
set_option maxRecDepth 100000
attribute [local go_sem ↓ high] eq_cl neq_cl eq_pt neq_pt
theorem both_ways5 (a b : List (Int × Int × Int)) : (rightC a = false) ∨ (rightC a = true ∧ rightC b = false) ∨ (rightC a = true ∧ rightC b = true) := by
  cases rightC a <;> cases rightC b <;> simp
end Go.Proofs.YtnhapgbjaeaamaaGreatDoor
