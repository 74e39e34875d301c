/- Plain facts on setting the state at a position. No program in sight. -/
import Derived.Test.YtnhnkmppmicjoaaFromP
namespace Go.Proofs.Ytnhnkmppmicjoaa
open Go Go.RowKit
set_option linter.unusedSimpArgs false
set_option linter.unusedVariables false
def atC (x y : Int) (c : Int × Int × Int) : Bool := decide (c.1 = x ∧ c.2.1 = y)
def offL (l : List (Int × Int × Int)) (x y : Int) : List (Int × Int × Int) := l.filter fun c => !atC x y c
theorem offL_step {l : List (Int × Int × Int)} {j : Nat} {c : Int × Int × Int} (x y : Int) (h : l[j]? = some c) : offL (l.take (j + 1)) x y = offL (l.take j) x y ++ (if atC x y c = true then [] else [c]) := by
  unfold offL
  rw [List.take_add_one, List.filter_append, h]
  cases hq : atC x y c <;> simp [List.filter_cons, hq]
theorem offL_len (l : List (Int × Int × Int)) (x y : Int) : (offL l x y).length ≤ l.length := List.length_filter_le _ _
def setR (l : List (Int × Int × Int)) (x y s : Int) : List (Int × Int × Int) := if 0 < s then insC (offL l x y) (x, y, s) else offL l x y
/-- The code that Set returns, and the pattern. -/
def setE (l : List (Int × Int × Int)) (x y s : Int) : Int := if rightC l = false then 2 else if validB x y = false then 5 else if s < 0 ∨ 8 ≤ s then 10 else if 5000 < (setR l x y s).length then 6 else 0
def setL (l : List (Int × Int × Int)) (x y s : Int) : List (Int × Int × Int) := if setE l x y s = 0 then setR l x y s else []
theorem setE_list {l : List (Int × Int × Int)} (x y s : Int) (h : rightC l = false) : setE l x y s = 2 := by unfold setE; rw [if_pos h]
theorem setE_place {l : List (Int × Int × Int)} {x y : Int} (s : Int) (h : rightC l = true) (h2 : validB x y = false) : setE l x y s = 5 := by unfold setE; rw [if_neg (by rw [h]; simp), if_pos h2]
theorem setE_state {l : List (Int × Int × Int)} {x y s : Int} (h : rightC l = true) (h2 : validB x y = true) (h3 : s < 0 ∨ 8 ≤ s) : setE l x y s = 10 := by unfold setE; rw [if_neg (by rw [h]; simp), if_neg (by rw [h2]; simp), if_pos h3]
theorem setE_size {l : List (Int × Int × Int)} {x y s : Int} (h : rightC l = true) (h2 : validB x y = true) (h3 : 0 ≤ s) (h4 : s ≤ 7) (h5 : 5000 < (setR l x y s).length) : setE l x y s = 6 := by unfold setE; rw [if_neg (by rw [h]; simp), if_neg (by rw [h2]; simp), if_neg (by omega), if_pos h5]
theorem setE_ok {l : List (Int × Int × Int)} {x y s : Int} (h : rightC l = true) (h2 : validB x y = true) (h3 : 0 ≤ s) (h4 : s ≤ 7) (h5 : (setR l x y s).length ≤ 5000) : setE l x y s = 0 := by unfold setE; rw [if_neg (by rw [h]; simp), if_neg (by rw [h2]; simp), if_neg (by omega), if_neg (by omega)]
theorem setL_no {l : List (Int × Int × Int)} {x y s e : Int} (h : setE l x y s = e) (hn : e ≠ 0) : setL l x y s = [] := by unfold setL; rw [if_neg (by rw [h]; exact hn)]
theorem setL_ok {l : List (Int × Int × Int)} {x y s : Int} (h : setE l x y s = 0) : setL l x y s = setR l x y s := by unfold setL; rw [if_pos h]
end Go.Proofs.Ytnhnkmppmicjoaa
