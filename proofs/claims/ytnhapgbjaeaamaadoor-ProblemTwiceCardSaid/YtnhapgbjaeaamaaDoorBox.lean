/- Contracts of Meet, Join, Grow and In, of point and of its reference. -/
import Derived.Test.YtnhapgbjaeaamaaDoorSYM
import Derived.Test.YtnhapgbjaeaamaaDoorPLN
namespace Go.Proofs.YtnhapgbjaeaamaaDoor
open Go Go.RowKit
set_option linter.unusedSimpArgs false
set_option linter.unusedVariables false
set_option maxRecDepth 100000
theorem ret_box {x y z u x' y' z' u' : Int} (h : x = x' ∧ y = y' ∧ z = z' ∧ u = u') : Ending.returned (.agg #[.int .i64 x, .int .i64 y, .int .i64 z, .int .i64 u]) = .returned (.agg #[.int .i64 x', .int .i64 y', .int .i64 z', .int .i64 u']) := by
  obtain ⟨rfl, rfl, rfl, rfl⟩ := h; rfl
theorem ret_boxq {x y z u x' y' z' u' : Int} {q : Value} (h : x = x' ∧ y = y' ∧ z = z' ∧ u = u') : Ending.returned (.tuple #[.agg #[.int .i64 x, .int .i64 y, .int .i64 z, .int .i64 u], q]) = .returned (.tuple #[.agg #[.int .i64 x', .int .i64 y', .int .i64 z', .int .i64 u'], q]) := by
  obtain ⟨rfl, rfl, rfl, rfl⟩ := h; rfl
theorem point_RightV {x y wd h : Int} {q : Bool} (hq : rightB x y wd h = q) (w : World) : Calls Tryd.prog 50 #[.agg #[.int .i64 x, .int .i64 y, .int .i64 wd, .int .i64 h]] w fun e w' => e = .returned (.bool q) ∧ Below w.heap.size w w' := by
  rw [← hq]; exact point_Right x y wd h w
/-- A number that no sum of two overflows. -/
def Sm (n : Int) : Prop := -1000000000 ≤ n ∧ n ≤ 1000000000
theorem meetOk_a {ax ay aw ah bx by' bw bh : Int} (h : rightB ax ay aw ah = false) : meetOk ax ay aw ah bx by' bw bh = false := by unfold meetOk; rw [h]; rfl
theorem meetOk_b {ax ay aw ah bx by' bw bh : Int} (h : rightB bx by' bw bh = false) : meetOk ax ay aw ah bx by' bw bh = false := by unfold meetOk; rw [h]; simp
theorem meet_no {ax ay aw ah bx by' bw bh : Int} (h : meetOk ax ay aw ah bx by' bw bh = false) : meetX ax ay aw ah bx by' bw bh = 0 ∧ meetY ax ay aw ah bx by' bw bh = 0 ∧ meetW ax ay aw ah bx by' bw bh = 0 ∧ meetH ax ay aw ah bx by' bw bh = 0 := by
  unfold meetX meetY meetW meetH; rw [h]; exact ⟨rfl, rfl, rfl, rfl⟩
/-- What Meet returns. -/
noncomputable def meetVal (ax ay aw ah bx by' bw bh : Int) : Value := .tuple #[.agg #[.int .i64 (meetX ax ay aw ah bx by' bw bh), .int .i64 (meetY ax ay aw ah bx by' bw bh), .int .i64 (meetW ax ay aw ah bx by' bw bh), .int .i64 (meetH ax ay aw ah bx by' bw bh)], .bool (meetOk ax ay aw ah bx by' bw bh)]
theorem meetVal_no {ax ay aw ah bx by' bw bh : Int} (h : meetOk ax ay aw ah bx by' bw bh = false) : Ending.returned (.tuple #[.agg #[.int .i64 0, .int .i64 0, .int .i64 0, .int .i64 0], .bool false]) = .returned (meetVal ax ay aw ah bx by' bw bh) := by
  obtain ⟨h1, h2, h3, h4⟩ := meet_no h
  unfold meetVal; rw [h1, h2, h3, h4, h]
theorem meetVal_yes {ax ay aw ah bx by' bw bh x y z u : Int} (h : meetOk ax ay aw ah bx by' bw bh = true) (e : x = max ax bx ∧ y = max ay by' ∧ z = min (ax + aw) (bx + bw) - max ax bx ∧ u = min (ay + ah) (by' + bh) - max ay by') : Ending.returned (.tuple #[.agg #[.int .i64 x, .int .i64 y, .int .i64 z, .int .i64 u], .bool true]) = .returned (meetVal ax ay aw ah bx by' bw bh) := by
  obtain ⟨rfl, rfl, rfl, rfl⟩ := e
  unfold meetVal meetX meetY meetW meetH ifB; rw [h]; rfl
/-- The four ways of Meet at two valid boxes. -/
theorem meet_ways {ax ay aw ah bx by' bw bh : Int} (hA : rightB ax ay aw ah = true) (hB : rightB bx by' bw bh = true) :
    (meetOk ax ay aw ah bx by' bw bh = true ∧ max ax bx < min (ax + aw) (bx + bw) ∧ max ay by' < min (ay + ah) (by' + bh)) ∨
    (meetOk ax ay aw ah bx by' bw bh = false ∧ min (ax + aw) (bx + bw) ≤ max ax bx) ∨ (meetOk ax ay aw ah bx by' bw bh = false ∧ max ax bx < min (ax + aw) (bx + bw) ∧ min (ay + ah) (by' + bh) ≤ max ay by') := by
  cases hq : meetOk ax ay aw ah bx by' bw bh with
  | true => exact .inl ⟨rfl, (meetOk_iff.1 hq).2.2⟩
  | false =>
    right
    have hn : ¬ (meetOk ax ay aw ah bx by' bw bh = true) := by rw [hq]; simp
    rw [meetOk_iff] at hn
    by_cases h1 : max ax bx < min (ax + aw) (bx + bw)
    · right
      refine ⟨rfl, h1, ?_⟩
      rcases Int.lt_or_le (max ay by') (min (ay + ah) (by' + bh)) with h2 | h2
      · exact absurd ⟨hA, hB, h1, h2⟩ hn
      · exact h2
    · left; exact ⟨rfl, by omega⟩
end Go.Proofs.YtnhapgbjaeaamaaDoor
