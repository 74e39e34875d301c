/- Contracts of Join and In, of point and of its reference. -/
import Derived.Test.YtnhapgbjaeaamaaDoorBox
namespace Go.Proofs.YtnhapgbjaeaamaaDoor
open Go Go.RowKit
set_option linter.unusedSimpArgs false
set_option linter.unusedVariables false
set_option maxRecDepth 100000
/-- What Join returns. -/
noncomputable def joinVal (ax ay aw ah bx by' bw bh : Int) : Value := .agg #[.int .i64 (joinX ax ay aw ah bx by' bw bh), .int .i64 (joinY ax ay aw ah bx by' bw bh), .int .i64 (joinW ax ay aw ah bx by' bw bh), .int .i64 (joinH ax ay aw ah bx by' bw bh)]
theorem joinVal_eq {ax ay aw ah bx by' bw bh x y z u : Int} {qa qb : Bool} (hA : rightB ax ay aw ah = qa) (hB : rightB bx by' bw bh = qb)
    (e : x = joinV qa qb ax bx (min ax bx) ∧ y = joinV qa qb ay by' (min ay by') ∧ z = joinV qa qb aw bw (max (ax + aw) (bx + bw) - min ax bx) ∧ u = joinV qa qb ah bh (max (ay + ah) (by' + bh) - min ay by')) :
    Ending.returned (.agg #[.int .i64 x, .int .i64 y, .int .i64 z, .int .i64 u]) = .returned (joinVal ax ay aw ah bx by' bw bh) := by
  obtain ⟨rfl, rfl, rfl, rfl⟩ := e
  unfold joinVal joinX joinY joinW joinH; rw [hA, hB]
end Go.Proofs.YtnhapgbjaeaamaaDoor
