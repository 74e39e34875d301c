/- Contracts of hood.Same and of the reference's Same and Index of chapter 07. -/
import Derived.Test.YtnhapgbjaeaamaaDoorPts
namespace Go.Proofs.YtnhapgbjaeaamaaDoor
open Go Go.RowKit
set_option linter.unusedSimpArgs false
set_option linter.unusedVariables false
set_option maxRecDepth 100000
attribute [local go_sem ↓ high] eq_pt neq_pt
theorem same_ne_pt {l r : List (Int × Int)} {j : Nat} {a b a' b' : Int} (hx : l[j]? = some (a, b)) (hy : r[j]? = some (a', b')) (h : ¬(a = a' ∧ b = b')) : sameL l r = false :=
  sameL_ne hx hy (fun e => h (by injection e with e1 e2; exact ⟨e1, e2⟩))
end Go.Proofs.YtnhapgbjaeaamaaDoor
