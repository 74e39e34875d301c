/- Contracts of the tests on coordinates and boxes, of the program and of the reference. -/
import Derived.Test.YtenckggfgbkfnaaProg
import Derived.Test.YtenckggfgbkfnaaMEM
import Derived.Test.YtenckggfgbkfnaaPLN
namespace Go.Proofs.Ytenckggfgbkfnaa
open Go Go.RowKit
set_option linter.unusedSimpArgs false
set_option linter.unusedVariables false
set_option maxRecDepth 100000
end Go.Proofs.Ytenckggfgbkfnaa
