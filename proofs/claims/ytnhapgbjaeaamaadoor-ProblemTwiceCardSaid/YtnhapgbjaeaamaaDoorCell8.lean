/- The contract of Shift of the reference. -/
import Derived.Test.YtnhapgbjaeaamaaDoorCell7
import Derived.Test.YtnhapgbjaeaamaaDoorBoxAt
namespace Go.Proofs.YtnhapgbjaeaamaaDoor
open Go Go.RowKit
set_option linter.unusedSimpArgs false
set_option linter.unusedVariables false
set_option maxRecDepth 100000
attribute [local go_sem ↓ high] eq_cl neq_cl eq_pt neq_pt
theorem bl_of_drew_alloc {w w1 : World} (h : Below w.heap.size w w1) (o : Obj) : Below w.heap.size w (w1.drew.alloc o) := (Below.drew h).alloc h.size o
end Go.Proofs.YtnhapgbjaeaamaaDoor
