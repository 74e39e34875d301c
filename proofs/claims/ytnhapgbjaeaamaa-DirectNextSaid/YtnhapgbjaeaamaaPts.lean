/- Contracts of the library's and the reference's functions on lists of positions. -/
import Derived.Test.YtnhapgbjaeaamaaProg
import Derived.Test.YtnhapgbjaeaamaaEq
import Derived.Test.YtnhapgbjaeaamaaMEM
import Derived.Test.YtnhapgbjaeaamaaPLN
namespace Go.Proofs.Ytnhapgbjaeaamaa
open Go Go.RowKit
set_option linter.unusedSimpArgs false
set_option linter.unusedVariables false
set_option maxRecDepth 100000
attribute [local go_sem ↓ high] eq_pt neq_pt
end Go.Proofs.Ytnhapgbjaeaamaa
