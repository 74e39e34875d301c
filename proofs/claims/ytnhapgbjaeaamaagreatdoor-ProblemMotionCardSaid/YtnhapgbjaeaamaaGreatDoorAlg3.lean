/- The contracts of algebra.Cut, Turn and Home. -/
import Derived.Test.YtnhapgbjaeaamaaGreatDoorAlg1
import Derived.Test.YtnhapgbjaeaamaaGreatDoorSYM
import Derived.Test.YtnhapgbjaeaamaaGreatDoorPLN
namespace Go.Proofs.YtnhapgbjaeaamaaGreatDoor
open Go Go.RowKit
set_option linter.unusedSimpArgs false
set_option linter.unusedVariables false
set_option maxRecDepth 100000
attribute [local go_sem ↓ high] eq_cl neq_cl eq_pt neq_pt
end Go.Proofs.YtnhapgbjaeaamaaGreatDoor
