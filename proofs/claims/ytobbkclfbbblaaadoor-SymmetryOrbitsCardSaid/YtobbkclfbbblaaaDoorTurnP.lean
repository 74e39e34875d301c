/- Plain facts on turned boxes. -/
import Derived.Test.YtobbkclfbbblaaaDoorInvP
import Derived.Test.YtobbkclfbbblaaaDoorSym4
namespace Go.Proofs.YtobbkclfbbblaaaDoor
open Go Go.RowKit
set_option linter.unusedSimpArgs false
set_option linter.unusedVariables false
theorem i64_box {x y w h : Int} (hr : rightB x y w h = true) : I64 x ∧ I64 y ∧ I64 (wrap64 (wrap64 (x + w) - 1)) ∧ I64 (wrap64 (wrap64 (y + h) - 1)) := by
  have h1 := rightB_iff.1 hr
  unfold I64 wrap64
  omega
theorem turn8 (k x y w h : Int) (hr : rightB x y w h = true) : turnF (app k) x y w h = turnF (app8 (r8 k)) x y w h := by
  obtain ⟨h1, h2, h3, h4⟩ := i64_box hr
  unfold turnF
  rw [app_app8 k _ _ h1 h2, app_app8 k _ _ h3 h4]
/-- The turned box, without a wrap. -/
def turn8F (r : Nat) (x y w h : Int) : Int × Int × Int × Int := match r with
  | 0 => (x, y, w, h)
  | 1 => (-(y + h - 1), x, h, w)
  | 2 => (-(x + w - 1), -(y + h - 1), w, h)
  | 3 => (y, -(x + w - 1), h, w)
  | 4 => (-(x + w - 1), y, w, h)
  | 5 => (-(y + h - 1), -(x + w - 1), h, w)
  | 6 => (x, -(y + h - 1), w, h)
  | _ => (y, x, h, w)
theorem turn_turn8 (k x y w h : Int) (hr : rightB x y w h = true) : turnF (app k) x y w h = turn8F (r8 k) x y w h := by
  rw [turn8 k x y w h hr]
  have h1 := rightB_iff.1 hr
  have h := r8_lt k
  generalize r8 k = r at h
  have hc : r = 0 ∨ r = 1 ∨ r = 2 ∨ r = 3 ∨ r = 4 ∨ r = 5 ∨ r = 6 ∨ r = 7 := by omega
  rcases hc with rfl | rfl | rfl | rfl | rfl | rfl | rfl | rfl <;> simp only [turnF, app8, turn8F, wrap64, Prod.mk.injEq] <;> omega
theorem right_turn (k x y w h : Int) (hr : rightB x y w h = true) : rightB (turnF (app k) x y w h).1 (turnF (app k) x y w h).2.1 (turnF (app k) x y w h).2.2.1 (turnF (app k) x y w h).2.2.2 = true := by
  rw [turn_turn8 k x y w h hr, rightB_iff]
  have h1 := rightB_iff.1 hr
  have h := r8_lt k
  generalize r8 k = r at h
  have hc : r = 0 ∨ r = 1 ∨ r = 2 ∨ r = 3 ∨ r = 4 ∨ r = 5 ∨ r = 6 ∨ r = 7 := by omega
  rcases hc with rfl | rfl | rfl | rfl | rfl | rfl | rfl | rfl <;> simp only [turn8F] <;> omega
def app8V (r : Nat) (x y : Int) : Int × Int := match r with
  | 0 => (x, y)
  | 1 => (-y, x)
  | 2 => (-x, -y)
  | 3 => (y, -x)
  | 4 => (-x, y)
  | 5 => (-y, -x)
  | 6 => (x, -y)
  | _ => (y, x)
theorem wrap_valid {x : Int} (h : -1048576 ≤ x ∧ x ≤ 1048576) : wrap64 (-x) = -x := by unfold wrap64; omega
theorem app8_valid (r : Nat) (x y : Int) (h : validB x y = true) : app8 r x y = app8V r x y := by
  unfold validB at h
  have h1 := of_decide_eq_true h
  have hx := wrap_valid ⟨h1.1, h1.2.1⟩
  have hy := wrap_valid ⟨h1.2.2.1, h1.2.2.2⟩
  unfold app8
  rw [hx, hy]
  rfl
theorem in_turn (k x y w h px py : Int) (hr : rightB x y w h = true) (hp : validB px py = true) :
    boxInB (turnF (app k) x y w h).1 (turnF (app k) x y w h).2.1 (turnF (app k) x y w h).2.2.1 (turnF (app k) x y w h).2.2.2 (app k px py).1 (app k px py).2 = boxInB x y w h px py := by
  unfold boxInB
  rw [right_turn k x y w h hr, hr, turn_turn8 k x y w h hr]
  have h2 := of_decide_eq_true hp
  rw [app_app8 k px py (by unfold I64; omega) (by unfold I64; omega), app8_valid _ _ _ hp]
  have h1 := rightB_iff.1 hr
  have h := r8_lt k
  generalize r8 k = r at h
  simp only [Bool.true_and, decide_eq_decide]
  have hc : r = 0 ∨ r = 1 ∨ r = 2 ∨ r = 3 ∨ r = 4 ∨ r = 5 ∨ r = 6 ∨ r = 7 := by omega
  rcases hc with rfl | rfl | rfl | rfl | rfl | rfl | rfl | rfl <;> simp only [turn8F, app8V] <;> omega
theorem in_within (k x y w h px py : Int) (hr : rightB x y w h = true) (hp : validB px py = true) :
    boxInB x y w h px py = true ↔ 0 ≤ (withinF (app k) x y w h px py).1 ∧ (withinF (app k) x y w h px py).1 < (turnF (app k) x y w h).2.2.1 ∧ 0 ≤ (withinF (app k) x y w h px py).2 ∧ (withinF (app k) x y w h px py).2 < (turnF (app k) x y w h).2.2.2 := by
  unfold boxInB withinF
  rw [hr, hp, turn_turn8 k x y w h hr]
  have h2 := of_decide_eq_true hp
  rw [app_app8 k px py (by unfold I64; omega) (by unfold I64; omega), app8_valid _ _ _ hp]
  have h1 := rightB_iff.1 hr
  have h := r8_lt k
  generalize r8 k = r at h
  simp only [Bool.true_and, decide_eq_true_eq, if_true]
  have hc : r = 0 ∨ r = 1 ∨ r = 2 ∨ r = 3 ∨ r = 4 ∨ r = 5 ∨ r = 6 ∨ r = 7 := by omega
  rcases hc with rfl | rfl | rfl | rfl | rfl | rfl | rfl | rfl <;> simp only [turn8F, app8V, wrap64] <;> omega
end Go.Proofs.YtobbkclfbbblaaaDoor
