/- Lists of positions: the first index of one. -/
import Derived.Test.YtnhnkmppmicjoaaSymP
import Derived.Test.YtnhnkmppmicjoaaIntsP
namespace Go.Proofs.Ytnhnkmppmicjoaa
open Go Go.RowKit
set_option linter.unusedSimpArgs false
set_option linter.unusedVariables false
def isAt (l : List (Int × Int)) (x y : Int) (i : Nat) : Bool := decide (l[i]? = some (x, y))
/-- The first index of a position; -1 if there is none. -/
def idxP (l : List (Int × Int)) (x y : Int) : Int := firstAt (isAt l x y) l.length
def hasP (l : List (Int × Int)) (x y : Int) : Bool := decide (0 ≤ idxP l x y)
theorem isAt_no {l : List (Int × Int)} {x y a b : Int} {i : Nat} (h : l[i]? = some (a, b)) (hne : ¬a = x ∨ ¬b = y) : isAt l x y i = false := by
  unfold isAt; rw [h]; simp; intro h1; rcases hne with h2 | h2
  · exact absurd h1 h2
  · exact h2
theorem isAt_yes {l : List (Int × Int)} {x y : Int} {i : Nat} (h : l[i]? = some (x, y)) : isAt l x y i = true := by
  unfold isAt; rw [h]; simp
theorem idxP_found {l : List (Int × Int)} {n : Nat} {x y : Int} {i : Nat} (hl : l.length = n) (hi : i < n) (h : l[i]? = some (x, y)) (hno : ∀ r, r < i → isAt l x y r = false) : (i : Int) = idxP l x y := by
  unfold idxP; rw [hl]; exact (firstAt_nonneg (isAt_yes h) hno hi).symm
theorem idxP_none {l : List (Int × Int)} {n : Nat} {x y : Int} (hl : l.length = n) (hno : ∀ r, r < n → isAt l x y r = false) : (-1 : Int) = idxP l x y := by
  unfold idxP; rw [hl]; exact (firstAt_none hno).symm
end Go.Proofs.Ytnhnkmppmicjoaa
