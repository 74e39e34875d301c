/- algebra.merge with the visitors of Xor and of pick. -/
import Derived.Test.YtnhapgbjaeaamaaGreatDoorVis
import Derived.Test.YtnhapgbjaeaamaaGreatDoorPLN
import Derived.Test.YtnhapgbjaeaamaaGreatDoorSortA
import Derived.Test.YtnhapgbjaeaamaaGreatDoorMrg
namespace Go.Proofs.YtnhapgbjaeaamaaGreatDoor
open Go Go.RowKit
set_option linter.unusedSimpArgs false
set_option linter.unusedVariables false
set_option maxRecDepth 100000
attribute [local go_sem ↓ high] eq_cl neq_cl eq_pt neq_pt
end Go.Proofs.YtnhapgbjaeaamaaGreatDoor
