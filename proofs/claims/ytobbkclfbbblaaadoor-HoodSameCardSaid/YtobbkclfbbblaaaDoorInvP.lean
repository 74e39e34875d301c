/- Plain facts: the inverse leads back; two applications are one. -/
import Derived.Test.YtobbkclfbbblaaaDoorGrpP
namespace Go.Proofs.YtobbkclfbbblaaaDoor
open Go Go.RowKit
set_option linter.unusedSimpArgs false
set_option linter.unusedVariables false
theorem app_I64 (k x y : Int) : I64 (app k x y).1 ∧ I64 (app k x y).2 := by
  unfold I64 app wrap64; omega
/-- The eight applications, written out. -/
def app8 (r : Nat) (x y : Int) : Int × Int := match r with
  | 0 => (x, y)
  | 1 => (wrap64 (-y), x)
  | 2 => (wrap64 (-x), wrap64 (-y))
  | 3 => (y, wrap64 (-x))
  | 4 => (wrap64 (-x), y)
  | 5 => (wrap64 (-y), wrap64 (-x))
  | 6 => (x, wrap64 (-y))
  | _ => (y, x)
theorem app_app8 (k x y : Int) (hx : I64 x) (hy : I64 y) : app k x y = app8 (r8 k) x y := by
  unfold I64 at hx hy
  have h := r8_lt k
  unfold app
  generalize r8 k = r at h
  have hc : r = 0 ∨ r = 1 ∨ r = 2 ∨ r = 3 ∨ r = 4 ∨ r = 5 ∨ r = 6 ∨ r = 7 := by omega
  rcases hc with rfl | rfl | rfl | rfl | rfl | rfl | rfl | rfl <;> simp [app8, mat, wrap64] <;> omega
theorem app8_comp : ∀ a : Nat, a < 8 → ∀ b : Nat, b < 8 → ∀ x y : Int, I64 x → I64 y → app8 b (app8 a x y).1 (app8 a x y).2 = app8 (cm a b) x y := by
  have ht : ∀ a : Nat, a < 8 → ∀ b : Nat, b < 8 → cm a b = (([0, 1, 2, 3, 4, 5, 6, 7, 1, 2, 3, 0, 7, 4, 5, 6, 2, 3, 0, 1, 6, 7, 4, 5, 3, 0, 1, 2, 5, 6, 7, 4, 4, 5, 6, 7, 0, 1, 2, 3, 5, 6, 7, 4, 3, 0, 1, 2, 6, 7, 4, 5, 2, 3, 0, 1, 7, 4, 5, 6, 1, 2, 3, 0] : List Nat).getD (a * 8 + b) 0) := by decide +kernel
  intro a ha b hb x y hx hy
  rw [ht a ha b hb]
  unfold I64 at hx hy
  have hca : a = 0 ∨ a = 1 ∨ a = 2 ∨ a = 3 ∨ a = 4 ∨ a = 5 ∨ a = 6 ∨ a = 7 := by omega
  have hcb : b = 0 ∨ b = 1 ∨ b = 2 ∨ b = 3 ∨ b = 4 ∨ b = 5 ∨ b = 6 ∨ b = 7 := by omega
  rcases hca with rfl | rfl | rfl | rfl | rfl | rfl | rfl | rfl <;> rcases hcb with rfl | rfl | rfl | rfl | rfl | rfl | rfl | rfl <;> simp [app8, wrap64] <;> omega
theorem app_comp (a b x y : Int) (hx : I64 x) (hy : I64 y) : app b (app a x y).1 (app a x y).2 = app (comp a b) x y := by
  obtain ⟨h1, h2⟩ := app_I64 a x y
  rw [app_app8 b _ _ h1 h2, app_app8 (comp a b) _ _ hx hy, app_app8 a _ _ hx hy, app8_comp _ (r8_lt a) _ (r8_lt b) _ _ hx hy, comp_cm, r8_nat (cm_lt (r8_lt a) (r8_lt b))]
theorem app_inv (k x y : Int) (hx : I64 x) (hy : I64 y) : app (inv k) (app k x y).1 (app k x y).2 = (x, y) := by
  rw [app_comp _ _ _ _ hx hy, comp_inv, app_app8 _ _ _ hx hy]; rfl
end Go.Proofs.YtobbkclfbbblaaaDoor
