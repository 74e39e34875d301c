/- Contracts of Turn and Within, of the program and of the reference, and of the reference's Place and In. -/
import Derived.Test.YtobbkclfbbblaaaDoorSym
import Derived.Test.YtobbkclfbbblaaaDoorPt
import Derived.Deep.RegionWith
namespace Go.Proofs.YtobbkclfbbblaaaDoor
open Go Go.RowKit
set_option linter.unusedSimpArgs false
set_option linter.unusedVariables false
set_option maxRecDepth 100000
/-- What Turn computes of a valid box: the corner and the sides. -/
def turnF (f : Int → Int → Int × Int) (x y w h : Int) : Int × Int × Int × Int :=
  let p := f x y
  let q := f (wrap64 (wrap64 (x + w) - 1)) (wrap64 (wrap64 (y + h) - 1))
  let a := min p.1 q.1
  let b := min p.2 q.2
  (a, b, wrap64 (wrap64 (max p.1 q.1 - a) + 1), wrap64 (wrap64 (max p.2 q.2 - b) + 1))
theorem sym_Turn_no (k x y wd hh : Int) (w : World) (hM : Mx w) (hr : rightB x y wd hh = false) :
    Calls Tryd.prog 19 #[.int .i64 k, .agg #[.int .i64 x, .int .i64 y, .int .i64 wd, .int .i64 hh]] w fun e w' => e = .returned (.agg #[.int .i64 0, .int .i64 0, .int .i64 0, .int .i64 0]) ∧ Below w.heap.size w w' := by
  go_enter Tryd.func19, Tryd.ntmps19
  go_wp2_with (first | (go_at_call 53; refine (point_Right _ _ _ _ _).mono ?_; rintro e w1 ⟨rfl, hb1⟩; obtain ⟨hc1, hf1⟩ := bcell hb1; have hs1 := hb1.size; (try simp only [World.size_alloc, World.size_setCell, World.size_drew] at hc1 hf1); (try simp at hs1)))
  refine bodyPost_ret (v := .agg #[.int .i64 0, .int .i64 0, .int .i64 0, .int .i64 0]) (by simp [results, Tryd.results19, go_sem, *, ↓IntWalk.iteOmega]) rfl ?_
  exact ⟨rfl, by (repeat' (first | exact Below.refl _ _ | assumption | (refine Below.alloc ?_ ?_ _) | (refine Below.setCell ?_ ?_ _) | (refine Below.drew ?_) | (refine below_drewN ?_ _) | (refine below_after (Ext.below _) ?_ ?_) | (refine below_after (by assumption) ?_ ?_) | (simp; done) | omega | (simp; omega)))⟩
set_option maxHeartbeats 400000 in
theorem sym_Turn_yes (k x y wd hh : Int) (w : World) (hM : Mx w) (hr : rightB x y wd hh = true) :
    Calls Tryd.prog 19 #[.int .i64 k, .agg #[.int .i64 x, .int .i64 y, .int .i64 wd, .int .i64 hh]] w fun e w' => e = .returned (.agg #[.int .i64 (turnF (app k) x y wd hh).1, .int .i64 (turnF (app k) x y wd hh).2.1, .int .i64 (turnF (app k) x y wd hh).2.2.1, .int .i64 (turnF (app k) x y wd hh).2.2.2]) ∧ Below w.heap.size w w' := by
  go_enter Tryd.func19, Tryd.ntmps19
  go_wp2_with (first | (go_at_call 53; refine (point_Right _ _ _ _ _).mono ?_; rintro e w1 ⟨rfl, hb1⟩; obtain ⟨hc1, hf1⟩ := bcell hb1; have hs1 := hb1.size; (try simp only [World.size_alloc, World.size_setCell, World.size_drew] at hc1 hf1); (try simp at hs1)) | (go_at_call 12; refine (sym_Apply _ _ _ _ (hM.of (by (repeat' (first | exact Below.refl _ _ | assumption | (refine Below.alloc ?_ ?_ _) | (refine Below.setCell ?_ ?_ _) | (refine Below.drew ?_) | (refine below_drewN ?_ _) | (refine below_after (Ext.below _) ?_ ?_) | (refine below_after (by assumption) ?_ ?_) | (simp; done) | omega | (simp; omega)))))).mono ?_; rintro e w1 ⟨rfl, hb1⟩; obtain ⟨hc1, hf1⟩ := bcell hb1; have hs1 := hb1.size; (try simp only [World.size_alloc, World.size_setCell, World.size_drew] at hc1 hf1); (try simp at hs1)))
  (refine wp_region_ext_lit (by kernel_rfl) (by kernel_rfl) ?_; (repeat (go_big_quiet_step (fail))); refine wpQuiet_nil ?_; intro _ hw'; obtain ⟨z2, hw''⟩ := hw'; subst hw''; have hs2 := z2.size; obtain ⟨hc2, hf2⟩ := bcell z2.below; (try simp only [World.size_alloc, World.size_setCell, World.size_drew] at hc2 hf2); (try simp at hs2))
  go_wp2
  · refine bodyPost_ret (v := .agg #[.int .i64 (turnF (app k) x y wd hh).1, .int .i64 (turnF (app k) x y wd hh).2.1, .int .i64 (turnF (app k) x y wd hh).2.2.1, .int .i64 (turnF (app k) x y wd hh).2.2.2]) (by simp [results, Tryd.results19, go_sem, turnF, *, ↓IntWalk.iteOmega]) rfl ?_
    exact ⟨rfl, by (repeat' (first | exact Below.refl _ _ | assumption | (refine Below.alloc ?_ ?_ _) | (refine Below.setCell ?_ ?_ _) | (refine Below.drew ?_) | (refine below_drewN ?_ _) | (refine below_after (Ext.below _) ?_ ?_) | (refine below_after (by assumption) ?_ ?_) | (simp; done) | omega | (simp; omega)))⟩
theorem ref_Turn_no (k x y wd hh : Int) (w : World) (hr : rightB x y wd hh = false) :
    Calls Tryd.prog 21 #[.int .i64 k, .agg #[.int .i64 x, .int .i64 y, .int .i64 wd, .int .i64 hh]] w fun e w' => e = .returned (.agg #[.int .i64 0, .int .i64 0, .int .i64 0, .int .i64 0]) ∧ Below w.heap.size w w' := by
  go_enter Tryd.func21, Tryd.ntmps21
  go_wp2_with (first | (go_at_call 23; refine (ref_Right _ _ _ _ _).mono ?_; rintro e w1 ⟨rfl, hb1⟩; obtain ⟨hc1, hf1⟩ := bcell hb1; have hs1 := hb1.size; (try simp only [World.size_alloc, World.size_setCell, World.size_drew] at hc1 hf1); (try simp at hs1)))
  refine bodyPost_ret (v := .agg #[.int .i64 0, .int .i64 0, .int .i64 0, .int .i64 0]) (by simp [results, Tryd.results21, go_sem, *, ↓IntWalk.iteOmega]) rfl ?_
  exact ⟨rfl, by (repeat' (first | exact Below.refl _ _ | assumption | (refine Below.alloc ?_ ?_ _) | (refine Below.setCell ?_ ?_ _) | (refine Below.drew ?_) | (refine below_drewN ?_ _) | (refine below_after (Ext.below _) ?_ ?_) | (refine below_after (by assumption) ?_ ?_) | (simp; done) | omega | (simp; omega)))⟩
set_option maxHeartbeats 400000 in
theorem ref_Turn_yes (k x y wd hh : Int) (w : World) (hr : rightB x y wd hh = true) :
    Calls Tryd.prog 21 #[.int .i64 k, .agg #[.int .i64 x, .int .i64 y, .int .i64 wd, .int .i64 hh]] w fun e w' => e = .returned (.agg #[.int .i64 (turnF (rapp k) x y wd hh).1, .int .i64 (turnF (rapp k) x y wd hh).2.1, .int .i64 (turnF (rapp k) x y wd hh).2.2.1, .int .i64 (turnF (rapp k) x y wd hh).2.2.2]) ∧ Below w.heap.size w w' := by
  go_enter Tryd.func21, Tryd.ntmps21
  go_wp2_with (first | (go_at_call 23; refine (ref_Right _ _ _ _ _).mono ?_; rintro e w1 ⟨rfl, hb1⟩; obtain ⟨hc1, hf1⟩ := bcell hb1; have hs1 := hb1.size; (try simp only [World.size_alloc, World.size_setCell, World.size_drew] at hc1 hf1); (try simp at hs1)) | (go_at_call 13; refine (ref_Apply _ _ _ _).mono ?_; rintro e w1 ⟨rfl, hb1⟩; obtain ⟨hc1, hf1⟩ := bcell hb1; have hs1 := hb1.size; (try simp only [World.size_alloc, World.size_setCell, World.size_drew] at hc1 hf1); (try simp at hs1)))
  (refine wp_region_ext_lit (by kernel_rfl) (by kernel_rfl) ?_; (repeat (go_big_quiet_step (fail))); refine wpQuiet_nil ?_; intro _ hw'; obtain ⟨z2, hw''⟩ := hw'; subst hw''; have hs2 := z2.size; obtain ⟨hc2, hf2⟩ := bcell z2.below; (try simp only [World.size_alloc, World.size_setCell, World.size_drew] at hc2 hf2); (try simp at hs2))
  go_wp2
  · refine bodyPost_ret (v := .agg #[.int .i64 (turnF (rapp k) x y wd hh).1, .int .i64 (turnF (rapp k) x y wd hh).2.1, .int .i64 (turnF (rapp k) x y wd hh).2.2.1, .int .i64 (turnF (rapp k) x y wd hh).2.2.2]) (by simp [results, Tryd.results21, go_sem, turnF, *, ↓IntWalk.iteOmega]) rfl ?_
    exact ⟨rfl, by (repeat' (first | exact Below.refl _ _ | assumption | (refine Below.alloc ?_ ?_ _) | (refine Below.setCell ?_ ?_ _) | (refine Below.drew ?_) | (refine below_drewN ?_ _) | (refine below_after (Ext.below _) ?_ ?_) | (refine below_after (by assumption) ?_ ?_) | (simp; done) | omega | (simp; omega)))⟩
theorem ref_Place (x y : Int) (w : World) : Calls Tryd.prog 24 #[.agg #[.int .i64 x, .int .i64 y]] w fun e w' => e = .returned (.bool (validB x y)) ∧ Below w.heap.size w w' := by
  go_enter Tryd.func24, Tryd.ntmps24
  go_wp2
  all_goals (go_ret; refine ⟨ret_bool ?_, by (repeat' (first | exact Below.refl _ _ | assumption | (refine Below.alloc ?_ ?_ _) | (refine Below.setCell ?_ ?_ _) | (refine Below.drew ?_) | (refine below_drewN ?_ _) | (refine below_after (Ext.below _) ?_ ?_) | (refine below_after (by assumption) ?_ ?_) | (simp; done) | omega | (simp; omega)))⟩; rw [Bool.eq_iff_iff]; simp [validB]; try omega)
set_option maxHeartbeats 400000 in
theorem ref_In (x y wd hh px py : Int) (w : World) : Calls Tryd.prog 25 #[.agg #[.int .i64 x, .int .i64 y, .int .i64 wd, .int .i64 hh], .agg #[.int .i64 px, .int .i64 py]] w fun e w' => e = .returned (.bool (boxInB x y wd hh px py)) ∧ Below w.heap.size w w' := by
  by_cases hr : rightB x y wd hh = true
  · have hR := rightB_iff.1 hr
    go_enter Tryd.func25, Tryd.ntmps25
    go_wp2_with (first | (go_at_call 23; refine (ref_Right _ _ _ _ _).mono ?_; rintro e w1 ⟨rfl, hb1⟩; obtain ⟨hc1, hf1⟩ := bcell hb1; have hs1 := hb1.size; (try simp only [World.size_alloc, World.size_setCell, World.size_drew] at hc1 hf1); (try simp at hs1)))
    all_goals (go_ret; refine ⟨ret_bool ?_, by (repeat' (first | exact Below.refl _ _ | assumption | (refine Below.alloc ?_ ?_ _) | (refine Below.setCell ?_ ?_ _) | (refine Below.drew ?_) | (refine below_drewN ?_ _) | (refine below_after (Ext.below _) ?_ ?_) | (refine below_after (by assumption) ?_ ?_) | (simp; done) | omega | (simp; omega)))⟩; rw [Bool.eq_iff_iff]; simp [boxInB, hr, wrap64]; try omega)
  · have hr' : rightB x y wd hh = false := by simpa using hr
    clear hr
    go_enter Tryd.func25, Tryd.ntmps25
    go_wp2_with (first | (go_at_call 23; refine (ref_Right _ _ _ _ _).mono ?_; rintro e w1 ⟨rfl, hb1⟩; obtain ⟨hc1, hf1⟩ := bcell hb1; have hs1 := hb1.size; (try simp only [World.size_alloc, World.size_setCell, World.size_drew] at hc1 hf1); (try simp at hs1)))
    all_goals (go_ret; refine ⟨ret_bool ?_, by (repeat' (first | exact Below.refl _ _ | assumption | (refine Below.alloc ?_ ?_ _) | (refine Below.setCell ?_ ?_ _) | (refine Below.drew ?_) | (refine below_drewN ?_ _) | (refine below_after (Ext.below _) ?_ ?_) | (refine below_after (by assumption) ?_ ?_) | (simp; done) | omega | (simp; omega)))⟩; simp [boxInB, hr'])
end Go.Proofs.YtobbkclfbbblaaaDoor
