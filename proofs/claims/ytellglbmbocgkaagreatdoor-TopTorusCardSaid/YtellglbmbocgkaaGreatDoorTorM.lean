/- Plain: the coordinate in a torus of 32, and Go's two remainders. -/
import Derived.Test.YtellglbmbocgkaaGreatDoorPLN
namespace Go.Proofs.YtellglbmbocgkaaGreatDoor
open Go Go.RowKit
set_option linter.unusedSimpArgs false
set_option linter.unusedVariables false
/-- The coordinate in the torus. -/
def mdT (x : Int) : Nat := (x % 32).toNat
theorem mdT_lt (x : Int) : mdT x < 32 := by unfold mdT; omega
theorem md_eq (x : Int) (h : -100 ≤ x ∧ x ≤ 100) : Int.tmod (wrap64 (Int.tmod x 32 + 32)) 32 = (mdT x : Int) := by
  obtain ⟨n, hn, rfl⟩ : ∃ n : Nat, n < 201 ∧ x = (n : Int) - 100 := ⟨(x + 100).toNat, by omega, by omega⟩
  have key : ((List.range 201).all fun n => decide (Int.tmod (wrap64 (Int.tmod ((n : Int) - 100) 32 + 32)) 32 = (mdT ((n : Int) - 100) : Int))) = true := by decide +kernel
  have := List.all_eq_true.1 key n (List.mem_range.2 hn)
  simpa using this
end Go.Proofs.YtellglbmbocgkaaGreatDoor
