/- The contracts of the references of Over, Xor, And, Without, Disjoint and Cut. -/
import Derived.Test.YtnhapgbjaeaamaaDoorPLN
import Derived.Test.YtnhapgbjaeaamaaDoorMEM
import Derived.Test.YtnhapgbjaeaamaaDoorFromS
import Derived.Test.YtnhapgbjaeaamaaDoorCell8
import Derived.Test.YtnhapgbjaeaamaaDoorBox3
namespace Go.Proofs.YtnhapgbjaeaamaaDoor
open Go Go.RowKit
set_option linter.unusedSimpArgs false
set_option linter.unusedVariables false
set_option maxRecDepth 100000
attribute [local go_sem ↓ high] eq_cl neq_cl eq_pt neq_pt
theorem both_ways5 (a b : List (Int × Int × Int)) : (rightC a = false) ∨ (rightC a = true ∧ rightC b = false) ∨ (rightC a = true ∧ rightC b = true) := by
  cases rightC a <;> cases rightC b <;> simp
end Go.Proofs.YtnhapgbjaeaamaaDoor
