/- algebra.merge with the visitors of Xor and of pick. -/
import Derived.Test.YtnhapgbjaeaamaaDoorVis
import Derived.Test.YtnhapgbjaeaamaaDoorPLN
import Derived.Test.YtnhapgbjaeaamaaDoorSortA
import Derived.Test.YtnhapgbjaeaamaaDoorMrg
namespace Go.Proofs.YtnhapgbjaeaamaaDoor
open Go Go.RowKit
set_option linter.unusedSimpArgs false
set_option linter.unusedVariables false
set_option maxRecDepth 100000
attribute [local go_sem ↓ high] eq_cl neq_cl eq_pt neq_pt
end Go.Proofs.YtnhapgbjaeaamaaDoor
