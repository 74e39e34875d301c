/- The contract of algebra.Turn. -/
import Derived.Test.YtnhapgbjaeaamaaDoorAlg3
namespace Go.Proofs.YtnhapgbjaeaamaaDoor
open Go Go.RowKit
set_option linter.unusedSimpArgs false
set_option linter.unusedVariables false
set_option maxRecDepth 100000
attribute [local go_sem ↓ high] eq_cl neq_cl eq_pt neq_pt
/-- The code that Turn returns, and the pattern. -/
def tuE (l : List (Int × Int × Int)) : Int := if rightC l = true then 0 else 2
def tuL (k : Int) (l : List (Int × Int × Int)) : List (Int × Int × Int) := if rightC l = true then trL k l else []
end Go.Proofs.YtnhapgbjaeaamaaDoor
