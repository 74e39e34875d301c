/- The walk of SymmetryTurns. -/
import Derived.Test.YtobbkclfbbblaaaDoorLaw04a
import Derived.Test.YtobbkclfbbblaaaDoorTurnP
namespace Go.Proofs.YtobbkclfbbblaaaDoor
open Go Go.RowKit
set_option linter.unusedSimpArgs false
set_option linter.unusedVariables false
set_option maxRecDepth 100000
attribute [local go_sem ↓ high] eq_pt neq_pt eq_box neq_box
theorem refTurnV (k x y wd hh : Int) (w : World) (hx : I64 x) (hy : I64 y) (hr : rightB x y wd hh = true) :
    Calls Tryd.prog 21 #[.int .i64 k, .agg #[.int .i64 x, .int .i64 y, .int .i64 wd, .int .i64 hh]] w fun e w' => e = .returned (.agg #[.int .i64 (turnF (app k) x y wd hh).1, .int .i64 (turnF (app k) x y wd hh).2.1, .int .i64 (turnF (app k) x y wd hh).2.2.1, .int .i64 (turnF (app k) x y wd hh).2.2.2]) ∧ Below w.heap.size w w' := by
  rw [turn_eq k x y wd hh hx hy]; exact ref_Turn_yes k x y wd hh w hr
theorem refWithinV (k x y wd hh px py : Int) (w : World) (hx : I64 x) (hy : I64 y) (hpx : I64 px) (hpy : I64 py) :
    Calls Tryd.prog 22 #[.int .i64 k, .agg #[.int .i64 x, .int .i64 y, .int .i64 wd, .int .i64 hh], .agg #[.int .i64 px, .int .i64 py]] w fun e w' => e = .returned (.agg #[.int .i64 (withinF (app k) x y wd hh px py).1, .int .i64 (withinF (app k) x y wd hh px py).2]) ∧ Below w.heap.size w w' := by
  rw [within_eq k x y wd hh px py hx hy hpx hpy]; exact ref_Within k x y wd hh px py w
theorem refRightC (k x y wd hh : Int) (w : World) (hr : rightB x y wd hh = true) :
    Calls Tryd.prog 23 #[.agg #[.int .i64 (turnF (app k) x y wd hh).1, .int .i64 (turnF (app k) x y wd hh).2.1, .int .i64 (turnF (app k) x y wd hh).2.2.1, .int .i64 (turnF (app k) x y wd hh).2.2.2]] w fun e w' => e = .returned (.bool true) ∧ Below w.heap.size w w' := by
  have h := ref_Right (turnF (app k) x y wd hh).1 (turnF (app k) x y wd hh).2.1 (turnF (app k) x y wd hh).2.2.1 (turnF (app k) x y wd hh).2.2.2 w
  rw [right_turn k x y wd hh hr] at h; exact h
theorem refInC (k x y wd hh px py : Int) (i : Bool) (w : World) (hr : rightB x y wd hh = true) (hp : validB px py = true) (hi : boxInB x y wd hh px py = i) :
    Calls Tryd.prog 25 #[.agg #[.int .i64 (turnF (app k) x y wd hh).1, .int .i64 (turnF (app k) x y wd hh).2.1, .int .i64 (turnF (app k) x y wd hh).2.2.1, .int .i64 (turnF (app k) x y wd hh).2.2.2], .agg #[.int .i64 (app k px py).1, .int .i64 (app k px py).2]] w fun e w' => e = .returned (.bool i) ∧ Below w.heap.size w w' := by
  have h := ref_In (turnF (app k) x y wd hh).1 (turnF (app k) x y wd hh).2.1 (turnF (app k) x y wd hh).2.2.1 (turnF (app k) x y wd hh).2.2.2 (app k px py).1 (app k px py).2 w
  rw [in_turn k x y wd hh px py hr hp, hi] at h; exact h
theorem refInV (x y wd hh px py : Int) (i : Bool) (w : World) (hi : boxInB x y wd hh px py = i) :
    Calls Tryd.prog 25 #[.agg #[.int .i64 x, .int .i64 y, .int .i64 wd, .int .i64 hh], .agg #[.int .i64 px, .int .i64 py]] w fun e w' => e = .returned (.bool i) ∧ Below w.heap.size w w' := by
  rw [← hi]; exact ref_In x y wd hh px py w
set_option maxHeartbeats 1000000 in
theorem law_turns_no1 (k x y wd hh px py : Int) (w : World) (hM : Mx w) (hr : rightB x y wd hh = false) :
    Calls Tryd.prog 5 #[.int .i64 k, .agg #[.int .i64 x, .int .i64 y, .int .i64 wd, .int .i64 hh], .agg #[.int .i64 px, .int .i64 py]] w fun e w' => e = .returned (.bool true) ∧ Below w.heap.size w w' := by
  have hz := hM.1
  go_enter Tryd.func5, Tryd.ntmps5
  go_wp2_with (first | (go_at_call 19; refine (sym_Turn_no _ _ _ _ _ _ (hM.of (by (repeat' (first | exact Below.refl _ _ | assumption | (refine Below.alloc ?_ ?_ _) | (refine Below.setCell ?_ ?_ _) | (refine Below.drew ?_) | (refine below_drewN ?_ _) | (refine below_after (Ext.below _) ?_ ?_) | (refine below_after (by assumption) ?_ ?_) | (simp; done) | omega | (simp; omega))))) hr).mono ?_; rintro e w1 ⟨rfl, hb1⟩; obtain ⟨hc1, hf1⟩ := bcell hb1; have hs1 := hb1.size; (try simp only [World.size_alloc, World.size_setCell, World.size_drew] at hc1 hf1); (try simp at hs1)) | (go_at_call 20; refine (sym_Within_no1 _ _ _ _ _ _ _ _ hr).mono ?_; rintro e w2 ⟨rfl, hb2⟩; obtain ⟨hc2, hf2⟩ := bcell hb2; have hs2 := hb2.size; (try simp only [World.size_alloc, World.size_setCell, World.size_drew] at hc2 hf2); (try simp at hs2)))
  (refine wp_region_ext_lit (by kernel_rfl) (by kernel_rfl) ?_; (repeat (go_big_quiet_step (first | (go_at_call 21; exact calls_ext (ref_Turn_no _ _ _ _ _ _ hr)) | (go_at_call 22; exact calls_ext (ref_Within_no1 _ _ _ _ _ _ _ _ hr))))); refine wpQuiet_nil ?_; intro _ hw'; obtain ⟨z3, hw''⟩ := hw'; subst hw''; have hs3 := z3.size; obtain ⟨hc3, hf3⟩ := bcell z3.below; (try simp only [World.size_alloc, World.size_setCell, World.size_drew] at hc3 hf3); (try simp at hs3))
  go_wp2_with (first | (go_at_call 23; refine (ref_Right _ _ _ _ _).mono ?_; rintro e w4 ⟨rfl, hb4⟩; obtain ⟨hc4, hf4⟩ := bcell hb4; have hs4 := hb4.size; (try simp only [World.size_alloc, World.size_setCell, World.size_drew] at hc4 hf4); (try simp at hs4)) | (go_at_call 16; refine (alive_04 _ (hM.of (by (repeat' (first | exact Below.refl _ _ | assumption | (refine Below.alloc ?_ ?_ _) | (refine Below.setCell ?_ ?_ _) | (refine Below.drew ?_) | (refine below_drewN ?_ _) | (refine below_after (Ext.below _) ?_ ?_) | (refine below_after (by assumption) ?_ ?_) | (simp; done) | omega | (simp; omega)))))).mono ?_; rintro e w5 ⟨rfl, hb5⟩; obtain ⟨hc5, hf5⟩ := bcell hb5; have hs5 := hb5.size; (try simp only [World.size_alloc, World.size_setCell, World.size_drew] at hc5 hf5); (try simp at hs5)))
  go_ret
  exact ⟨rfl, by (repeat' (first | exact Below.refl _ _ | assumption | (refine Below.alloc ?_ ?_ _) | (refine Below.setCell ?_ ?_ _) | (refine Below.drew ?_) | (refine below_drewN ?_ _) | (refine below_after (Ext.below _) ?_ ?_) | (refine below_after (by assumption) ?_ ?_) | (simp; done) | omega | (simp; omega)))⟩
set_option maxHeartbeats 1000000 in
theorem law_turns_no2 (k x y wd hh px py : Int) (w : World) (hM : Mx w) (hx : I64 x) (hy : I64 y) (hr : rightB x y wd hh = true) (hp : validB px py = false) :
    Calls Tryd.prog 5 #[.int .i64 k, .agg #[.int .i64 x, .int .i64 y, .int .i64 wd, .int .i64 hh], .agg #[.int .i64 px, .int .i64 py]] w fun e w' => e = .returned (.bool true) ∧ Below w.heap.size w w' := by
  have hz := hM.1
  have hp1 : rightB px py 1 1 = false := by rw [rightB_one]; exact hp
  go_enter Tryd.func5, Tryd.ntmps5
  go_wp2_with (first | (go_at_call 19; refine (sym_Turn_yes _ _ _ _ _ _ (hM.of (by (repeat' (first | exact Below.refl _ _ | assumption | (refine Below.alloc ?_ ?_ _) | (refine Below.setCell ?_ ?_ _) | (refine Below.drew ?_) | (refine below_drewN ?_ _) | (refine below_after (Ext.below _) ?_ ?_) | (refine below_after (by assumption) ?_ ?_) | (simp; done) | omega | (simp; omega))))) hr).mono ?_; rintro e w1 ⟨rfl, hb1⟩; obtain ⟨hc1, hf1⟩ := bcell hb1; have hs1 := hb1.size; (try simp only [World.size_alloc, World.size_setCell, World.size_drew] at hc1 hf1); (try simp at hs1)) | (go_at_call 20; refine (sym_Within_no2 _ _ _ _ _ _ _ _ hr hp1).mono ?_; rintro e w2 ⟨rfl, hb2⟩; obtain ⟨hc2, hf2⟩ := bcell hb2; have hs2 := hb2.size; (try simp only [World.size_alloc, World.size_setCell, World.size_drew] at hc2 hf2); (try simp at hs2)))
  (refine wp_region_ext_lit (by kernel_rfl) (by kernel_rfl) ?_; (repeat (go_big_quiet_step (first | (go_at_call 21; exact calls_ext (refTurnV _ _ _ _ _ _ hx hy hr)) | (go_at_call 22; exact calls_ext (ref_Within_no2 _ _ _ _ _ _ _ _ hr hp))))); refine wpQuiet_nil ?_; intro _ hw'; obtain ⟨z3, hw''⟩ := hw'; subst hw''; have hs3 := z3.size; obtain ⟨hc3, hf3⟩ := bcell z3.below; (try simp only [World.size_alloc, World.size_setCell, World.size_drew] at hc3 hf3); (try simp at hs3))
  go_wp2_with (first | (go_at_call 23; refine (ref_Right _ _ _ _ _).mono ?_; rintro e w4 ⟨rfl, hb4⟩; obtain ⟨hc4, hf4⟩ := bcell hb4; have hs4 := hb4.size; (try simp only [World.size_alloc, World.size_setCell, World.size_drew] at hc4 hf4); (try simp at hs4)) | (go_at_call 24; refine (ref_Place _ _ _).mono ?_; rintro e w4 ⟨rfl, hb4⟩; obtain ⟨hc4, hf4⟩ := bcell hb4; have hs4 := hb4.size; (try simp only [World.size_alloc, World.size_setCell, World.size_drew] at hc4 hf4); (try simp at hs4)) | (go_at_call 16; refine (alive_04 _ (hM.of (by (repeat' (first | exact Below.refl _ _ | assumption | (refine Below.alloc ?_ ?_ _) | (refine Below.setCell ?_ ?_ _) | (refine Below.drew ?_) | (refine below_drewN ?_ _) | (refine below_after (Ext.below _) ?_ ?_) | (refine below_after (by assumption) ?_ ?_) | (simp; done) | omega | (simp; omega)))))).mono ?_; rintro e w5 ⟨rfl, hb5⟩; obtain ⟨hc5, hf5⟩ := bcell hb5; have hs5 := hb5.size; (try simp only [World.size_alloc, World.size_setCell, World.size_drew] at hc5 hf5); (try simp at hs5)))
  go_ret
  exact ⟨rfl, by (repeat' (first | exact Below.refl _ _ | assumption | (refine Below.alloc ?_ ?_ _) | (refine Below.setCell ?_ ?_ _) | (refine Below.drew ?_) | (refine below_drewN ?_ _) | (refine below_after (Ext.below _) ?_ ?_) | (refine below_after (by assumption) ?_ ?_) | (simp; done) | omega | (simp; omega)))⟩
theorem turn_cases (i : Bool) (q1 q2 c3 c4 : Int) (h : i = true ↔ 0 ≤ q1 ∧ q1 < c3 ∧ 0 ≤ q2 ∧ q2 < c4) :
    (i = true ∧ decide (0 ≤ q1) = true ∧ decide (q1 < c3) = true ∧ decide (0 ≤ q2) = true ∧ decide (q2 < c4) = true) ∨ (i = false ∧ decide (0 ≤ q1) = false) ∨ (i = false ∧ decide (0 ≤ q1) = true ∧ decide (q1 < c3) = false) ∨
    (i = false ∧ decide (0 ≤ q1) = true ∧ decide (q1 < c3) = true ∧ decide (0 ≤ q2) = false) ∨ (i = false ∧ decide (0 ≤ q1) = true ∧ decide (q1 < c3) = true ∧ decide (0 ≤ q2) = true ∧ decide (q2 < c4) = false) := by
  simp only [decide_eq_true_eq, decide_eq_false_iff_not]
  cases i <;> simp at h ⊢ <;> omega
set_option maxHeartbeats 4000000 in
theorem law_turns_yes (k x y wd hh px py : Int) (w : World) (hM : Mx w) (hx : I64 x) (hy : I64 y) (hpx : I64 px) (hpy : I64 py) (hr : rightB x y wd hh = true) (hp : validB px py = true) :
    Calls Tryd.prog 5 #[.int .i64 k, .agg #[.int .i64 x, .int .i64 y, .int .i64 wd, .int .i64 hh], .agg #[.int .i64 px, .int .i64 py]] w fun e w' => e = .returned (.bool true) ∧ Below w.heap.size w w' := by
  have hz := hM.1
  have hin := turn_cases _ _ _ _ _ (in_within k x y wd hh px py hr hp)
  rcases hin with ⟨hi, d1, d2, d3, d4⟩ | ⟨hi, d1⟩ | ⟨hi, d1, d2⟩ | ⟨hi, d1, d2, d3⟩ | ⟨hi, d1, d2, d3, d4⟩
  all_goals
    go_enter Tryd.func5, Tryd.ntmps5
    go_wp2_with (first | (go_at_call 19; refine (sym_Turn_yes _ _ _ _ _ _ (hM.of (by (repeat' (first | exact Below.refl _ _ | assumption | (refine Below.alloc ?_ ?_ _) | (refine Below.setCell ?_ ?_ _) | (refine Below.drew ?_) | (refine below_drewN ?_ _) | (refine below_after (Ext.below _) ?_ ?_) | (refine below_after (by assumption) ?_ ?_) | (simp; done) | omega | (simp; omega))))) hr).mono ?_; rintro e w1 ⟨rfl, hb1⟩; obtain ⟨hc1, hf1⟩ := bcell hb1; have hs1 := hb1.size; (try simp only [World.size_alloc, World.size_setCell, World.size_drew] at hc1 hf1); (try simp at hs1)) | (go_at_call 20; refine (sym_Within _ _ _ _ _ _ _ _ (hM.of (by (repeat' (first | exact Below.refl _ _ | assumption | (refine Below.alloc ?_ ?_ _) | (refine Below.setCell ?_ ?_ _) | (refine Below.drew ?_) | (refine below_drewN ?_ _) | (refine below_after (Ext.below _) ?_ ?_) | (refine below_after (by assumption) ?_ ?_) | (simp; done) | omega | (simp; omega)))))).mono ?_; rintro e w2 ⟨rfl, hb2⟩; obtain ⟨hc2, hf2⟩ := bcell hb2; have hs2 := hb2.size; (try simp only [World.size_alloc, World.size_setCell, World.size_drew] at hc2 hf2); (try simp at hs2)))
    (refine wp_region_ext_lit (by kernel_rfl) (by kernel_rfl) ?_; (repeat (go_big_quiet_step (first | (go_at_call 21; exact calls_ext (refTurnV _ _ _ _ _ _ hx hy hr)) | (go_at_call 22; exact calls_ext (refWithinV _ _ _ _ _ _ _ _ hx hy hpx hpy))))); refine wpQuiet_nil ?_; intro _ hw'; obtain ⟨z3, hw''⟩ := hw'; subst hw''; have hs3 := z3.size; obtain ⟨hc3, hf3⟩ := bcell z3.below; (try simp only [World.size_alloc, World.size_setCell, World.size_drew] at hc3 hf3); (try simp at hs3))
    go_wp2_with (first | (go_at_call 23; refine (ref_Right _ _ _ _ _).mono ?_; rintro e w4 ⟨rfl, hb4⟩; obtain ⟨hc4, hf4⟩ := bcell hb4; have hs4 := hb4.size; (try simp only [World.size_alloc, World.size_setCell, World.size_drew] at hc4 hf4); (try simp at hs4)) | (go_at_call 24; refine (ref_Place _ _ _).mono ?_; rintro e w4 ⟨rfl, hb4⟩; obtain ⟨hc4, hf4⟩ := bcell hb4; have hs4 := hb4.size; (try simp only [World.size_alloc, World.size_setCell, World.size_drew] at hc4 hf4); (try simp at hs4)) | (go_at_call 25; refine (refInV _ _ _ _ _ _ _ _ hi).mono ?_; rintro e w6 ⟨rfl, hb6⟩; obtain ⟨hc6, hf6⟩ := bcell hb6; have hs6 := hb6.size; (try simp only [World.size_alloc, World.size_setCell, World.size_drew] at hc6 hf6); (try simp at hs6)))
    (refine wp_region_ext_lit (by kernel_rfl) (by kernel_rfl) ?_; (repeat (go_big_quiet_step (first | (go_at_call 23; exact calls_ext (refRightC _ _ _ _ _ _ hr)) | (go_at_call 12; exact calls_ext (sym_Apply _ _ _ _ (hM.of (by (repeat' (first | exact Below.refl _ _ | assumption | (refine Below.alloc ?_ ?_ _) | (refine Below.setCell ?_ ?_ _) | (refine Below.drew ?_) | (refine below_drewN ?_ _) | (refine below_after (Ext.below _) ?_ ?_) | (refine below_after (by assumption) ?_ ?_) | (simp; done) | omega | (simp; omega))))))) | (go_at_call 25; exact calls_ext (refInC _ _ _ _ _ _ _ _ _ hr hp hi)) | (go_at_call 16; exact calls_ext (alive_04 _ (hM.of (by (repeat' (first | exact Below.refl _ _ | assumption | (refine Below.alloc ?_ ?_ _) | (refine Below.setCell ?_ ?_ _) | (refine Below.drew ?_) | (refine below_drewN ?_ _) | (refine below_after (Ext.below _) ?_ ?_) | (refine below_after (by assumption) ?_ ?_) | (simp; done) | omega | (simp; omega)))))))))); refine wpQuiet_nil ?_; intro _ hw'; obtain ⟨z7, hw''⟩ := hw'; subst hw''; have hs7 := z7.size; obtain ⟨hc7, hf7⟩ := bcell z7.below; (try simp only [World.size_alloc, World.size_setCell, World.size_drew] at hc7 hf7); (try simp at hs7))
    go_wp2
    go_ret
    exact ⟨rfl, by (repeat' (first | exact Below.refl _ _ | assumption | (refine Below.alloc ?_ ?_ _) | (refine Below.setCell ?_ ?_ _) | (refine Below.drew ?_) | (refine below_drewN ?_ _) | (refine below_after (Ext.below _) ?_ ?_) | (refine below_after (by assumption) ?_ ?_) | (simp; done) | omega | (simp; omega)))⟩
theorem law_turns (k x y wd hh px py : Int) (w : World) (hM : Mx w) (hx : I64 x) (hy : I64 y) (hpx : I64 px) (hpy : I64 py) :
    Calls Tryd.prog 5 #[.int .i64 k, .agg #[.int .i64 x, .int .i64 y, .int .i64 wd, .int .i64 hh], .agg #[.int .i64 px, .int .i64 py]] w fun e w' => e = .returned (.bool true) ∧ Below w.heap.size w w' := by
  cases hr : rightB x y wd hh with
  | false => exact law_turns_no1 k x y wd hh px py w hM hr
  | true =>
    cases hp : validB px py with
    | false => exact law_turns_no2 k x y wd hh px py w hM hx hy hr hp
    | true => exact law_turns_yes k x y wd hh px py w hM hx hy hpx hpy hr hp
end Go.Proofs.YtobbkclfbbblaaaDoor
