/- The contracts of algebra.Cut, Turn and Home. -/
import Derived.Test.YtnhapgbjaeaamaaDoorAlg1
import Derived.Test.YtnhapgbjaeaamaaDoorSYM
import Derived.Test.YtnhapgbjaeaamaaDoorPLN
namespace Go.Proofs.YtnhapgbjaeaamaaDoor
open Go Go.RowKit
set_option linter.unusedSimpArgs false
set_option linter.unusedVariables false
set_option maxRecDepth 100000
attribute [local go_sem ↓ high] eq_cl neq_cl eq_pt neq_pt
end Go.Proofs.YtnhapgbjaeaamaaDoor
