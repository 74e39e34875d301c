/- The walk of AlgebraTiles. -/
import Derived.Test.YtenckggfgbkfnaaDoorTil3
import Derived.Test.YtenckggfgbkfnaaDoorAwake06
namespace Go.Proofs.YtenckggfgbkfnaaDoor
open Go Go.RowKit
set_option linter.unusedSimpArgs false
set_option linter.unusedVariables false
set_option maxRecDepth 100000
attribute [local go_sem ↓ high] eq_cl neq_cl eq_pt neq_pt eq_box neq_box
theorem tiles_ways (n : Nat) (nx ny : Int) :
    (decide (30 < (n : Int)) = true ∨ (decide (30 < (n : Int)) = false ∧ decide (6 < nx) = true ∧ decide (nx ≤ 50) = true) ∨
      (decide (30 < (n : Int)) = false ∧ ((decide (6 < nx) = false) ∨ (decide (6 < nx) = true ∧ decide (nx ≤ 50) = false)) ∧ decide (6 < ny) = true ∧ decide (ny ≤ 50) = true)) ∨
    (n ≤ 30 ∧ decide (30 < (n : Int)) = false ∧ ((decide (6 < nx) = false) ∨ (decide (6 < nx) = true ∧ decide (nx ≤ 50) = false)) ∧ ((decide (6 < ny) = false) ∨ (decide (6 < ny) = true ∧ decide (ny ≤ 50) = false))) := by
  simp only [decide_eq_true_eq, decide_eq_false_iff_not]; omega
set_option maxHeartbeats 8000000 in
theorem law_atiles (A : Option Addr) (n c : Nat) (l : List (Int × Int × Int)) (dx dy nx ny : Int) (w : World) (hM : Mx w) (hR : Rd encC 3 w A n l) (hnc : n ≤ c) :
    Calls Tryd.prog 5 #[.slice A n c, .agg #[.int .i64 dx, .int .i64 dy, .int .i64 nx, .int .i64 ny]] w fun e w' => e = .returned (.bool true) ∧ Below w.heap.size w w' := by
  rcases tiles_ways n nx ny with (d1 | ⟨d1, d2, d3⟩ | ⟨d1, d2 | ⟨d2, d3⟩, d4, d5⟩) | ⟨hn, d1, h2, h3⟩
  iterate 4
    · go_enter Tryd.func5, Tryd.ntmps5
      go_wp2_with fail; go_at_call 11; refine (awake_06 _ (hM.of (by (repeat' (first | exact Below.refl _ _ | assumption | (refine Below.alloc ?_ ?_ _) | (refine Below.setCell ?_ ?_ _) | (refine Below.drew ?_) | (refine below_drewN ?_ _) | (refine below_after (Ext.below _) ?_ ?_) | (refine below_after (by assumption) ?_ ?_) | (simp; done) | omega | (simp; omega)))))).mono ?_; rintro e w1 ⟨rfl, hb1⟩; have hs1 := hb1.size; (try simp only [World.size_alloc, World.size_drew, World.size_setCell] at hs1)
      go_wp2_with fail
      go_ret
      exact ⟨rfl, by (repeat' (first | exact Below.refl _ _ | assumption | (refine Below.alloc ?_ ?_ _) | (refine Below.setCell ?_ ?_ _) | (refine Below.drew ?_) | (refine below_drewN ?_ _) | (refine below_after (Ext.below _) ?_ ?_) | (refine below_after (by assumption) ?_ ?_) | (simp; done) | omega | (simp; omega)))⟩
  · have kT := fun w1 h1 => alg_Tile A n c l dx dy nx ny w1 h1 (by omega)
    have kU := fun w1 h1 => ref06_Tile A n c l dx dy nx ny w1 h1 (by omega)
    generalize tlE l dx dy nx ny = q0 at kT kU
    generalize tlL l dx dy nx ny = s0 at kT kU
    rcases h2 with d2 | ⟨d2, d3⟩ <;> rcases h3 with d4 | ⟨d4, d5⟩
    all_goals
      go_enter Tryd.func5, Tryd.ntmps5
      have xb := BoxAt.new w dx dy nx ny 33
      go_wp2_with fail; go_at_call 21; refine (kT _ (hR.of (by (repeat' (first | exact Below.refl _ _ | assumption | (refine Below.alloc ?_ ?_ _) | (refine Below.setCell ?_ ?_ _) | (refine Below.drew ?_) | (refine below_drewN ?_ _) | (refine below_after (Ext.below _) ?_ ?_) | (refine below_after (by assumption) ?_ ?_) | (simp; done) | omega | (simp; omega)))))).mono ?_; rintro e w1 ⟨A1, n1, c1, rfl, h1, hn1, hc1, hb1⟩; have hs1 := hb1.size; (try simp only [World.size_alloc, World.size_drew, World.size_setCell] at hs1)
      have xb1 := xb.of hb1
      have hR1 : Rd encC 3 w1 A n l := hR.of (by (repeat' (first | exact Below.refl _ _ | assumption | (refine Below.alloc ?_ ?_ _) | (refine Below.setCell ?_ ?_ _) | (refine Below.drew ?_) | (refine below_drewN ?_ _) | (refine below_after (Ext.below _) ?_ ?_) | (refine below_after (by assumption) ?_ ?_) | (simp; done) | omega | (simp; omega))))
      obtain ⟨q0', q1, q2, q3, q4⟩ := id xb1
      go_wp2_with fail; go_at_call 22; refine (kU _ hR1).mono ?_; rintro e w2 ⟨A2, n2, c2, rfl, h2, hn2, hb2⟩; have hs2 := hb2.size; (try simp only [World.size_alloc, World.size_drew, World.size_setCell] at hs2)
      go_wp2_with fail; go_at_call 16; refine (ref05_SameV (sameL_self s0) _ _ _ _ _ _ _ (h1.of (by (repeat' (first | exact Below.refl _ _ | assumption | (refine Below.alloc ?_ ?_ _) | (refine Below.setCell ?_ ?_ _) | (refine Below.drew ?_) | (refine below_drewN ?_ _) | (refine below_after (Ext.below _) ?_ ?_) | (refine below_after (by assumption) ?_ ?_) | (simp; done) | omega | (simp; omega))))) h2 (by omega) (by omega)).mono ?_; rintro e w3 ⟨rfl, hb3⟩; have hs3 := hb3.size; (try simp only [World.size_alloc, World.size_drew, World.size_setCell] at hs3)
      go_wp2_with fail; go_at_call 11; refine (awake_06 _ (hM.of (by (repeat' (first | exact Below.refl _ _ | assumption | (refine Below.alloc ?_ ?_ _) | (refine Below.setCell ?_ ?_ _) | (refine Below.drew ?_) | (refine below_drewN ?_ _) | (refine below_after (Ext.below _) ?_ ?_) | (refine below_after (by assumption) ?_ ?_) | (simp; done) | omega | (simp; omega)))))).mono ?_; rintro e w4 ⟨rfl, hb4⟩; have hs4 := hb4.size; (try simp only [World.size_alloc, World.size_drew, World.size_setCell] at hs4)
      go_wp2_with fail
      go_ret
      exact ⟨rfl, by (repeat' (first | exact Below.refl _ _ | assumption | (refine Below.alloc ?_ ?_ _) | (refine Below.setCell ?_ ?_ _) | (refine Below.drew ?_) | (refine below_drewN ?_ _) | (refine below_after (Ext.below _) ?_ ?_) | (refine below_after (by assumption) ?_ ?_) | (simp; done) | omega | (simp; omega)))⟩
end Go.Proofs.YtenckggfgbkfnaaDoor
