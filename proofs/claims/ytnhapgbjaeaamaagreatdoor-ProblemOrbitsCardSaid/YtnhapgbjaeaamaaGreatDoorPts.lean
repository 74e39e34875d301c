/- Contracts of the library's and the reference's functions on lists of positions. -/
import Derived.Test.YtnhapgbjaeaamaaGreatDoorProg
import Derived.Test.YtnhapgbjaeaamaaGreatDoorSYM
import Derived.Test.YtnhapgbjaeaamaaGreatDoorMEM
import Derived.Test.YtnhapgbjaeaamaaGreatDoorPLN
namespace Go.Proofs.YtnhapgbjaeaamaaGreatDoor
open Go Go.RowKit
set_option linter.unusedSimpArgs false
set_option linter.unusedVariables false
set_option maxRecDepth 100000
attribute [local go_sem ↓ high] eq_pt neq_pt
end Go.Proofs.YtnhapgbjaeaamaaGreatDoor
