/- The contract of the program's Within. -/
import Derived.Test.YtobbkclfbbblaaaDoorSym4
import Derived.Test.YtobbkclfbbblaaaDoorFresh
namespace Go.Proofs.YtobbkclfbbblaaaDoor
open Go Go.RowKit
set_option linter.unusedSimpArgs false
set_option linter.unusedVariables false
set_option maxRecDepth 100000
set_option maxHeartbeats 1000000 in
theorem sym_Within_yes (k x y wd hh px py : Int) (w : World) (hM : Mx w) (hr : rightB x y wd hh = true) (hp : rightB px py 1 1 = true) :
    Calls Tryd.prog 20 #[.int .i64 k, .agg #[.int .i64 x, .int .i64 y, .int .i64 wd, .int .i64 hh], .agg #[.int .i64 px, .int .i64 py]] w fun e w' => e = .returned (.agg #[.int .i64 (wrap64 ((app k px py).1 - (turnF (app k) x y wd hh).1)), .int .i64 (wrap64 ((app k px py).2 - (turnF (app k) x y wd hh).2.1))]) ∧ Below w.heap.size w w' := by
  go_enter Tryd.func20, Tryd.ntmps20
  go_wp2_with (first | (go_at_call 53; refine (point_Right _ _ _ _ _).mono ?_; rintro e w1 ⟨rfl, hb1⟩; obtain ⟨hc1, hf1⟩ := bcell hb1; have hs1 := hb1.size; (try simp only [World.size_alloc, World.size_setCell, World.size_drew] at hc1 hf1); (try simp at hs1)))
  (refine' wp_region_fresh2 [false, false, false, false, false, false, true, true, true, true] 6 8 7 24 31 (.agg #[.int .i64 0, .int .i64 0, .int .i64 0, .int .i64 0]) _ 7 9 8 27 23 (.agg #[.int .i64 0, .int .i64 0]) _ (fun u hu => ?hq) (by kernel_rfl) (by kernel_rfl) (by kernel_rfl) (by kernel_rfl) rfl rfl Tryd.zeroValue31 rfl rfl Tryd.zeroValue23 ?s1 ?s2 ?s3 (by decide) ?s4 ?s5 ?s6 ?s7 ?s8 ?s9 ?s10 ?s11 ?fin; (case hq => (obtain ⟨hcu, hfu⟩ := bcell hu; have hsu := hu.size; simp only [stripM, blankO]; (repeat (go_big_quiet_step (first | (go_at_call 19; exact calls_ext (sym_Turn_yes _ _ _ _ _ _ (hM.of (by (repeat' (first | exact Below.refl _ _ | assumption | (refine Below.alloc ?_ ?_ _) | (refine Below.setCell ?_ ?_ _) | (refine Below.drew ?_) | (refine below_drewN ?_ _) | (refine below_after (Ext.below _) ?_ ?_) | (refine below_after (by assumption) ?_ ?_) | (simp; done) | omega | (simp; omega))))) hr)) | (go_at_call 12; exact calls_ext (sym_Apply _ _ _ _ (hM.of (by (repeat' (first | exact Below.refl _ _ | assumption | (refine Below.alloc ?_ ?_ _) | (refine Below.setCell ?_ ?_ _) | (refine Below.drew ?_) | (refine below_drewN ?_ _) | (refine below_after (Ext.below _) ?_ ?_) | (refine below_after (by assumption) ?_ ?_) | (simp; done) | omega | (simp; omega)))))))))); refine wpQuiet_nil ?_; rfl)); (case s1 => rfl); (case s2 => simp); (case s3 => simp); (case s4 => rfl); (case s5 => kernel_rfl); (case s6 => rfl); (case s7 => simp [Value.oneCell']); (case s8 => rfl); (case s9 => kernel_rfl); (case s10 => rfl); (case s11 => simp [Value.oneCell']); intro bk2 bj2 w2 hbl2 hbh2 hbl'2 hbh'2 hbb2 hb2 hh2 hj2; obtain ⟨hc2, hf2⟩ := bcell hb2; have hs2 := hb2.size; have hk2 := cellOf_row hh2; have hl2 := frozenOf_row hh2; have hk'2 := cellOf_row hj2; have hl'2 := frozenOf_row hj2; clear hh2 hj2; (try simp only [World.size_alloc, World.size_setCell, World.size_drew] at hc2 hf2); (try simp at hs2 hbl2 hbl'2); simp only [Act.put, List.setIfInBounds_toArray, List.set_cons_zero, List.set_cons_succ])
  go_wp2
  refine bodyPost_ret (v := .agg #[.int .i64 (wrap64 ((app k px py).1 - (turnF (app k) x y wd hh).1)), .int .i64 (wrap64 ((app k px py).2 - (turnF (app k) x y wd hh).2.1))]) (by simp [results, Tryd.results20, go_sem, *, ↓IntWalk.iteOmega]) rfl ?_
  exact ⟨rfl, by (repeat' (first | exact Below.refl _ _ | assumption | (refine Below.alloc ?_ ?_ _) | (refine Below.setCell ?_ ?_ _) | (refine Below.drew ?_) | (refine below_drewN ?_ _) | (refine below_after (Ext.below _) ?_ ?_) | (refine below_after (by assumption) ?_ ?_) | (simp; done) | omega | (simp; omega)))⟩
theorem sym_Within (k x y wd hh px py : Int) (w : World) (hM : Mx w) :
    Calls Tryd.prog 20 #[.int .i64 k, .agg #[.int .i64 x, .int .i64 y, .int .i64 wd, .int .i64 hh], .agg #[.int .i64 px, .int .i64 py]] w fun e w' => e = .returned (.agg #[.int .i64 (withinF (app k) x y wd hh px py).1, .int .i64 (withinF (app k) x y wd hh px py).2]) ∧ Below w.heap.size w w' := by
  unfold withinF
  by_cases hr : rightB x y wd hh = true
  · by_cases hp : validB px py = true
    · rw [hr, hp]; exact sym_Within_yes k x y wd hh px py w hM hr (by rw [rightB_one]; exact hp)
    · have hp' : validB px py = false := by simpa using hp
      rw [hr, hp']; exact sym_Within_no2 k x y wd hh px py w hr (by rw [rightB_one]; exact hp')
  · have hr' : rightB x y wd hh = false := by simpa using hr
    rw [hr']; exact sym_Within_no1 k x y wd hh px py w hr'
end Go.Proofs.YtobbkclfbbblaaaDoor
