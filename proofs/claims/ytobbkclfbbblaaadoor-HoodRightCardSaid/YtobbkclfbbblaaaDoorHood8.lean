/- The contracts of Moore, Neumann and Hex of hood. -/
import Derived.Test.YtobbkclfbbblaaaDoorHood6
import Derived.Test.YtobbkclfbbblaaaDoorHood7
import Derived.Test.YtobbkclfbbblaaaDoorAlive04
namespace Go.Proofs.YtobbkclfbbblaaaDoor
open Go Go.RowKit
set_option linter.unusedSimpArgs false
set_option linter.unusedVariables false
set_option maxRecDepth 100000
theorem hood_Hex (w : World) : Calls Tryd.prog 37 #[] w fun e w' => ∃ A n c, e = .returned (.slice A n c) ∧ Rd encP 2 w' A n (sqL hexB 1) ∧ n ≤ 25 ∧ Below w.heap.size w w' := by
  go_enter Tryd.func37, Tryd.ntmps37
  go_wp2_with fail
  go_at_call 58
  refine (collect_Hex 1 (by omega) _).mono ?_
  rintro e w1 ⟨A, n, c, rfl, hR, hn, hb⟩
  go_wp2_with fail
  go_ret
  exact ⟨A, n, c, rfl, hR, hn, hb⟩
theorem hood_Moore (r : Nat) (hr : r ≤ 2) (w : World) : Calls Tryd.prog 32 #[.int .i64 (r : Int)] w fun e w' => ∃ A n c, e = .returned (.slice A n c) ∧ Rd encP 2 w' A n (sqL (fun _ _ => true) r) ∧ n ≤ 25 ∧ Below w.heap.size w w' := by
  have d1 : decide ((r : Int) < 0) = false := decide_eq_false (by omega)
  have d2 : decide ((2 : Int) < r) = false := decide_eq_false (by omega)
  go_enter Tryd.func32, Tryd.ntmps32
  go_wp2_with fail
  go_at_call 58
  refine (collect_Moore r hr _).mono ?_
  rintro e w1 ⟨A, n, c, rfl, hR, hn, hb⟩
  go_wp2_with fail
  go_ret
  exact ⟨A, n, c, rfl, hR, hn, hb⟩
theorem hood_Neumann (r : Nat) (hr : r ≤ 2) (w : World) : Calls Tryd.prog 33 #[.int .i64 (r : Int)] w fun e w' => ∃ A n c, e = .returned (.slice A n c) ∧ Rd encP 2 w' A n (sqL (neuB r) r) ∧ n ≤ 25 ∧ Below w.heap.size w w' := by
  have d1 : decide ((r : Int) < 0) = false := decide_eq_false (by omega)
  have d2 : decide ((2 : Int) < r) = false := decide_eq_false (by omega)
  go_enter Tryd.func33, Tryd.ntmps33
  go_wp2_with fail
  go_at_call 58
  refine (collect_Neumann r hr w.heap.size 0 _ (by simp) (by simp [cell_alloc_if, cellOf])).mono ?_
  rintro e w1 ⟨A, n, c, rfl, hR, hn, hb⟩
  have hB := below_thruA (Below.refl _ w) hb
  go_wp2_with fail
  go_ret
  exact ⟨A, n, c, rfl, hR, hn, hB⟩
theorem hood_Moore_no (r : Int) (h : r < 0 ∨ 2 < r) (w : World) : Calls Tryd.prog 32 #[.int .i64 r] w fun e w' => e = .returned (.slice none 0 0) ∧ w = w' := by
  go_enter Tryd.func32, Tryd.ntmps32
  go_wp2
  all_goals first | (exfalso; omega) | (go_ret; exact ⟨rfl, rfl⟩)
theorem hood_Neumann_no (r : Int) (h : r < 0 ∨ 2 < r) (w : World) : Calls Tryd.prog 33 #[.int .i64 r] w fun e w' => e = .returned (.slice none 0 0) ∧ Below w.heap.size w w' := by
  go_enter Tryd.func33, Tryd.ntmps33
  go_wp2
  all_goals first | (exfalso; omega) | (go_ret; exact ⟨rfl, by (repeat' (first | exact Below.refl _ _ | assumption | (refine Below.alloc ?_ ?_ _) | (refine Below.setCell ?_ ?_ _) | (refine Below.drew ?_) | (refine below_drewN ?_ _) | (refine below_after (Ext.below _) ?_ ?_) | (refine below_after (by assumption) ?_ ?_) | (simp; done) | omega | (simp; omega)))⟩)
end Go.Proofs.YtobbkclfbbblaaaDoor
