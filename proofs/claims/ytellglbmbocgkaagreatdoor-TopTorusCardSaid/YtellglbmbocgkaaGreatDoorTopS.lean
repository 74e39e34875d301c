/- The contract of the laws' helper Small. -/
import Derived.Test.YtellglbmbocgkaaGreatDoorFewT
namespace Go.Proofs.YtellglbmbocgkaaGreatDoor
open Go Go.RowKit
set_option linter.unusedSimpArgs false
set_option linter.unusedVariables false
set_option maxRecDepth 100000
set_option linter.unusedSimpArgs false
set_option linter.unusedVariables false
section
variable (st : Int) (A B D : Option Addr) (n c m d k e : Nat) (H : List (Int × Int)) (N : List (Int × List Int)) (p : List (Int × Int × Int)) (w : World)
theorem law_Small {q v : Bool} (hq : fewT H N = q) (hv : (q && decide (k ≤ 60)) = v) (hH : Rd encP 2 w A n H) (hN : RdX ekN w B m N) :
    Calls Tryz.prog 6 #[.agg #[.int .i64 st, .slice A n c, .slice B m d], .slice D k e] w fun e w' => e = .returned (.bool v) ∧ Below w.heap.size w w' := by
  have kF := fun w1 h1 h2 => law_Few st A B n c m d H N w1 h1 h2
  rw [hq] at kF
  clear hq
  cases q with
  | false =>
    obtain rfl : v = false := by simpa using hv.symm
    clear hv
    go_enter Tryz.func6, Tryz.ntmps6
    go_wp2_with fail; go_at_call 22; refine (kF _ (hH.of (by (repeat' (first | exact Below.refl _ _ | assumption | (refine Below.alloc ?_ ?_ _) | (refine Below.setCell ?_ ?_ _) | (refine Below.drew ?_) | (refine below_drewN ?_ _) | (refine below_after (Ext.below _) ?_ ?_) | (refine below_after (by assumption) ?_ ?_) | (simp; done) | omega | (simp; omega))))) (hN.of (by (repeat' (first | exact Below.refl _ _ | assumption | (refine Below.alloc ?_ ?_ _) | (refine Below.setCell ?_ ?_ _) | (refine Below.drew ?_) | (refine below_drewN ?_ _) | (refine below_after (Ext.below _) ?_ ?_) | (refine below_after (by assumption) ?_ ?_) | (simp; done) | omega | (simp; omega)))))).mono ?_; rintro e w1 ⟨rfl, hb1⟩; have hs1 := hb1.size; (try simp only [World.size_alloc, World.size_drew, World.size_setCell] at hs1)
    go_wp2_with fail
    go_ret
    exact ⟨rfl, by (repeat' (first | exact Below.refl _ _ | assumption | (refine Below.alloc ?_ ?_ _) | (refine Below.setCell ?_ ?_ _) | (refine Below.drew ?_) | (refine below_drewN ?_ _) | (refine below_after (Ext.below _) ?_ ?_) | (refine below_after (by assumption) ?_ ?_) | (simp; done) | omega | (simp; omega)))⟩
  | true =>
    have HV := Lib.hid (show decide ((k : Int) ≤ 60) = v by rw [← hv, Bool.true_and, Bool.eq_iff_iff, decide_eq_true_eq, decide_eq_true_eq]; omega)
    clear hv
    go_enter Tryz.func6, Tryz.ntmps6
    go_wp2_with fail; go_at_call 22; refine (kF _ (hH.of (by (repeat' (first | exact Below.refl _ _ | assumption | (refine Below.alloc ?_ ?_ _) | (refine Below.setCell ?_ ?_ _) | (refine Below.drew ?_) | (refine below_drewN ?_ _) | (refine below_after (Ext.below _) ?_ ?_) | (refine below_after (by assumption) ?_ ?_) | (simp; done) | omega | (simp; omega))))) (hN.of (by (repeat' (first | exact Below.refl _ _ | assumption | (refine Below.alloc ?_ ?_ _) | (refine Below.setCell ?_ ?_ _) | (refine Below.drew ?_) | (refine below_drewN ?_ _) | (refine below_after (Ext.below _) ?_ ?_) | (refine below_after (by assumption) ?_ ?_) | (simp; done) | omega | (simp; omega)))))).mono ?_; rintro e w1 ⟨rfl, hb1⟩; have hs1 := hb1.size; (try simp only [World.size_alloc, World.size_drew, World.size_setCell] at hs1)
    go_wp2_with fail
    go_ret
    exact ⟨ret_bool HV.out, by (repeat' (first | exact Below.refl _ _ | assumption | (refine Below.alloc ?_ ?_ _) | (refine Below.setCell ?_ ?_ _) | (refine Below.drew ?_) | (refine below_drewN ?_ _) | (refine below_after (Ext.below _) ?_ ?_) | (refine below_after (by assumption) ?_ ?_) | (simp; done) | omega | (simp; omega)))⟩
end
end Go.Proofs.YtellglbmbocgkaaGreatDoor
