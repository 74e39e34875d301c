/- Contracts of Join and In, of point and of its reference. -/
import Derived.Test.YtenckggfgbkfnaaDoorBox
namespace Go.Proofs.YtenckggfgbkfnaaDoor
open Go Go.RowKit
set_option linter.unusedSimpArgs false
set_option linter.unusedVariables false
set_option maxRecDepth 100000
/-- What Join returns. -/
noncomputable def joinVal (ax ay aw ah bx by' bw bh : Int) : Value := .agg #[.int .i64 (joinX ax ay aw ah bx by' bw bh), .int .i64 (joinY ax ay aw ah bx by' bw bh), .int .i64 (joinW ax ay aw ah bx by' bw bh), .int .i64 (joinH ax ay aw ah bx by' bw bh)]
theorem joinVal_eq {ax ay aw ah bx by' bw bh x y z u : Int} {qa qb : Bool} (hA : rightB ax ay aw ah = qa) (hB : rightB bx by' bw bh = qb)
    (e : x = joinV qa qb ax bx (min ax bx) ∧ y = joinV qa qb ay by' (min ay by') ∧ z = joinV qa qb aw bw (max (ax + aw) (bx + bw) - min ax bx) ∧ u = joinV qa qb ah bh (max (ay + ah) (by' + bh) - min ay by')) :
    Ending.returned (.agg #[.int .i64 x, .int .i64 y, .int .i64 z, .int .i64 u]) = .returned (joinVal ax ay aw ah bx by' bw bh) := by
  obtain ⟨rfl, rfl, rfl, rfl⟩ := e
  unfold joinVal joinX joinY joinW joinH; rw [hA, hB]
set_option maxHeartbeats 1000000 in
theorem ref_In3 (x y wd h px py : Int) (w : World) : Calls Tryd.prog 57 #[.agg #[.int .i64 x, .int .i64 y, .int .i64 wd, .int .i64 h], .agg #[.int .i64 px, .int .i64 py]] w fun e w' => e = .returned (.bool (boxInB x y wd h px py)) ∧ Below w.heap.size w w' := by
  cases hA : rightB x y wd h with
  | false =>
    have HV := Lib.hid (show false = boxInB x y wd h px py by unfold boxInB; rw [hA]; rfl)
    have kA := fun w1 => ref_RightV hA w1
    clear hA
    go_enter Tryd.func57, Tryd.ntmps57
    go_wp2_with fail
    (go_at_call 71; refine (kA _).mono ?_; rintro e w1 ⟨rfl, hb1⟩; obtain ⟨hc1, hf1⟩ := bcell hb1; have hs1 := hb1.size; (try simp only [World.size_alloc, World.size_setCell, World.size_drew] at hc1 hf1); (try simp at hs1))
    go_wp2_with fail
    go_ret
    exact ⟨ret_bool HV.out, by (repeat' (first | exact Below.refl _ _ | assumption | (refine Below.alloc ?_ ?_ _) | (refine Below.setCell ?_ ?_ _) | (refine Below.drew ?_) | (refine below_drewN ?_ _) | (refine below_after (Ext.below _) ?_ ?_) | (refine below_after (by assumption) ?_ ?_) | (simp; done) | omega | (simp; omega)))⟩
  | true =>
    have HV := Lib.hid (show decide (x ≤ px ∧ px < x + wd ∧ y ≤ py ∧ py < y + h) = boxInB x y wd h px py by unfold boxInB; rw [hA, Bool.true_and])
    have kA := fun w1 => ref_RightV hA w1
    obtain ⟨a1, a2, a3, a4, a5, a6, a7, a8, a9, a10⟩ := rightB_iff.1 hA
    clear hA
    by_cases c1 : x ≤ px
    · by_cases c2 : px < x + wd
      · by_cases c3 : y ≤ py
        · by_cases c4 : py < y + h
          all_goals
            have HW := Lib.hid HV.out
            clear HV
            go_enter Tryd.func57, Tryd.ntmps57
            go_wp2_with fail
            (go_at_call 71; refine (kA _).mono ?_; rintro e w1 ⟨rfl, hb1⟩; obtain ⟨hc1, hf1⟩ := bcell hb1; have hs1 := hb1.size; (try simp only [World.size_alloc, World.size_setCell, World.size_drew] at hc1 hf1); (try simp at hs1))
            go_wp2_with fail
            go_ret
            exact ⟨ret_bool (by rw [← HW.out, Bool.eq_iff_iff]; simp; try omega), by (repeat' (first | exact Below.refl _ _ | assumption | (refine Below.alloc ?_ ?_ _) | (refine Below.setCell ?_ ?_ _) | (refine Below.drew ?_) | (refine below_drewN ?_ _) | (refine below_after (Ext.below _) ?_ ?_) | (refine below_after (by assumption) ?_ ?_) | (simp; done) | omega | (simp; omega)))⟩
        · have HW := Lib.hid HV.out
          clear HV
          go_enter Tryd.func57, Tryd.ntmps57
          go_wp2_with fail
          (go_at_call 71; refine (kA _).mono ?_; rintro e w1 ⟨rfl, hb1⟩; obtain ⟨hc1, hf1⟩ := bcell hb1; have hs1 := hb1.size; (try simp only [World.size_alloc, World.size_setCell, World.size_drew] at hc1 hf1); (try simp at hs1))
          go_wp2_with fail
          go_ret
          exact ⟨ret_bool (by rw [← HW.out, Bool.eq_iff_iff]; simp; try omega), by (repeat' (first | exact Below.refl _ _ | assumption | (refine Below.alloc ?_ ?_ _) | (refine Below.setCell ?_ ?_ _) | (refine Below.drew ?_) | (refine below_drewN ?_ _) | (refine below_after (Ext.below _) ?_ ?_) | (refine below_after (by assumption) ?_ ?_) | (simp; done) | omega | (simp; omega)))⟩
      · have HW := Lib.hid HV.out
        clear HV
        go_enter Tryd.func57, Tryd.ntmps57
        go_wp2_with fail
        (go_at_call 71; refine (kA _).mono ?_; rintro e w1 ⟨rfl, hb1⟩; obtain ⟨hc1, hf1⟩ := bcell hb1; have hs1 := hb1.size; (try simp only [World.size_alloc, World.size_setCell, World.size_drew] at hc1 hf1); (try simp at hs1))
        go_wp2_with fail
        go_ret
        exact ⟨ret_bool (by rw [← HW.out, Bool.eq_iff_iff]; simp; try omega), by (repeat' (first | exact Below.refl _ _ | assumption | (refine Below.alloc ?_ ?_ _) | (refine Below.setCell ?_ ?_ _) | (refine Below.drew ?_) | (refine below_drewN ?_ _) | (refine below_after (Ext.below _) ?_ ?_) | (refine below_after (by assumption) ?_ ?_) | (simp; done) | omega | (simp; omega)))⟩
    · have HW := Lib.hid HV.out
      clear HV
      go_enter Tryd.func57, Tryd.ntmps57
      go_wp2_with fail
      (go_at_call 71; refine (kA _).mono ?_; rintro e w1 ⟨rfl, hb1⟩; obtain ⟨hc1, hf1⟩ := bcell hb1; have hs1 := hb1.size; (try simp only [World.size_alloc, World.size_setCell, World.size_drew] at hc1 hf1); (try simp at hs1))
      go_wp2_with fail
      go_ret
      exact ⟨ret_bool (by rw [← HW.out, Bool.eq_iff_iff]; simp; try omega), by (repeat' (first | exact Below.refl _ _ | assumption | (refine Below.alloc ?_ ?_ _) | (refine Below.setCell ?_ ?_ _) | (refine Below.drew ?_) | (refine below_drewN ?_ _) | (refine below_after (Ext.below _) ?_ ?_) | (refine below_after (by assumption) ?_ ?_) | (simp; done) | omega | (simp; omega)))⟩
end Go.Proofs.YtenckggfgbkfnaaDoor
