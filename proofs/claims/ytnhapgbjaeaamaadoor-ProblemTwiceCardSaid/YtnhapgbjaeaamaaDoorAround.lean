/- The contracts of Around, of point and of its reference. -/
import Derived.Test.YtnhapgbjaeaamaaDoorBox
import Derived.Test.YtnhapgbjaeaamaaDoorMEM
namespace Go.Proofs.YtnhapgbjaeaamaaDoor
open Go Go.RowKit
set_option linter.unusedSimpArgs false
set_option linter.unusedVariables false
set_option maxRecDepth 100000
/-- What Around returns. -/
noncomputable def arVal (l : List (Int × Int)) : Value := .tuple #[.agg #[.int .i64 (arX l), .int .i64 (arY l), .int .i64 (arW l), .int .i64 (arH l)], .bool (arOk l)]
theorem arVal_no {l : List (Int × Int)} (h : arOk l = false) : Ending.returned (.tuple #[.agg #[.int .i64 0, .int .i64 0, .int .i64 0, .int .i64 0], .bool false]) = .returned (arVal l) := by
  unfold arVal arX arY arW arH; rw [h]; rfl
theorem arVal_yes {l : List (Int × Int)} {fx fy x y z u : Int} (h : arOk l = true) (h1 : fstX l = fx) (h2 : fstY l = fy) (e : x = loX l fx ∧ y = loY l fy ∧ z = hiX l fx - loX l fx + 1 ∧ u = hiY l fy - loY l fy + 1) : Ending.returned (.tuple #[.agg #[.int .i64 x, .int .i64 y, .int .i64 z, .int .i64 u], .bool true]) = .returned (arVal l) := by
  obtain ⟨rfl, rfl, rfl, rfl⟩ := e
  subst h1 h2
  unfold arVal arX arY arW arH ifB; rw [h]; rfl
theorem point_inV {n : Int} {q : Bool} (h : inB n = q) (w : World) : Calls Tryd.prog 61 #[.int .i64 n] w fun e w' => e = .returned (.bool q) ∧ w = w' := by
  rw [← h]; exact point_in n w
theorem validB_in (x y : Int) : validB x y = (inB x && inB y) := by
  unfold validB inB; rw [Bool.eq_iff_iff]; simp only [decide_eq_true_eq, Bool.and_eq_true]; omega
/-- All elements ahead of j are valid. -/
def okTo (l : List (Int × Int)) (j : Nat) : Prop := ∀ i x y, i < j → l[i]? = some (x, y) → validB x y = true
theorem okTo_step {l : List (Int × Int)} {j : Nat} {a b : Int} (h : okTo l j) (hx : l[j]? = some (a, b)) (hv : validB a b = true) : okTo l (j + 1) := by
  intro i x y hi hy
  by_cases e : i = j
  · rw [e, hx] at hy; cases hy; exact hv
  · exact h i x y (by omega) hy
theorem okTo_bound {l : List (Int × Int)} {n : Nat} {fx fy : Int} (hl : l.length = n) (h0 : l[0]? = some (fx, fy)) (hn : 0 < n) (h : okTo l n) : (Sm (loX l fx) ∧ Sm (loY l fy) ∧ Sm (hiX l fx) ∧ Sm (hiY l fy)) := by
  have hall : ∀ p, p ∈ l → Pt p.1 p.2 := fun p hp => by
    obtain ⟨i, hi, e⟩ := List.getElem_of_mem hp
    exact validB_iff.1 (h i p.1 p.2 (by omega) (by rw [List.getElem?_eq_getElem hi, e]))
  have hf := validB_iff.1 (h 0 fx fy hn h0)
  unfold Pt at hf
  have b1 := lo_bound l fx hall (by omega)
  have b2 := lo_bound l fy hall (by omega)
  unfold Sm
  refine ⟨?_, ?_, ?_, ?_⟩ <;> omega
end Go.Proofs.YtnhapgbjaeaamaaDoor
