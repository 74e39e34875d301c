/- Contracts of the tests on coordinates and boxes, of the program and of the reference. -/
import Derived.Test.YtnhapgbjaeaamaaProg
import Derived.Test.YtnhapgbjaeaamaaMEM
import Derived.Test.YtnhapgbjaeaamaaPLN
namespace Go.Proofs.Ytnhapgbjaeaamaa
open Go Go.RowKit
set_option linter.unusedSimpArgs false
set_option linter.unusedVariables false
set_option maxRecDepth 100000
end Go.Proofs.Ytnhapgbjaeaamaa
