/- Plain arithmetic on positions and boxes: no program in sight. -/
import Derived.WalkKit
namespace Go.Proofs.Ytnhnkmppmicjoaa
open Go Go.RowKit
set_option linter.unusedSimpArgs false
set_option linter.unusedVariables false
def inB (n : Int) : Bool := decide (-1048576 ≤ n ∧ n ≤ 1048576)
def rightB (x y w h : Int) : Bool := decide (1 ≤ w ∧ w ≤ 2097153 ∧ 1 ≤ h ∧ h ≤ 2097153 ∧ -1048576 ≤ x ∧ x ≤ 1048576 ∧ -1048576 ≤ y ∧ y ≤ 1048576 ∧ x + w - 1 ≤ 1048576 ∧ y + h - 1 ≤ 1048576)
theorem rightB_iff {x y w h : Int} : rightB x y w h = true ↔ (1 ≤ w ∧ w ≤ 2097153 ∧ 1 ≤ h ∧ h ≤ 2097153 ∧ -1048576 ≤ x ∧ x ≤ 1048576 ∧ -1048576 ≤ y ∧ y ≤ 1048576 ∧ x + w - 1 ≤ 1048576 ∧ y + h - 1 ≤ 1048576) := by
  unfold rightB; exact decide_eq_true_iff
theorem rightB_no {x y w h : Int} (hn : ¬ (1 ≤ w ∧ w ≤ 2097153 ∧ 1 ≤ h ∧ h ≤ 2097153 ∧ -1048576 ≤ x ∧ x ≤ 1048576 ∧ -1048576 ≤ y ∧ y ≤ 1048576 ∧ x + w - 1 ≤ 1048576 ∧ y + h - 1 ≤ 1048576)) : rightB x y w h = false := by
  unfold rightB; exact decide_eq_false hn
def validB (x y : Int) : Bool := decide (-1048576 ≤ x ∧ x ≤ 1048576 ∧ -1048576 ≤ y ∧ y ≤ 1048576)
def boxInB (x y w h px py : Int) : Bool := rightB x y w h && decide (x ≤ px ∧ px < x + w ∧ y ≤ py ∧ py < y + h)
end Go.Proofs.Ytnhnkmppmicjoaa
