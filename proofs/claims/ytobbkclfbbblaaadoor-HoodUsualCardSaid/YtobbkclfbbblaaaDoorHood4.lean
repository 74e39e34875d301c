/- The contracts of Radius, of hood and of its reference. -/
import Derived.Test.YtobbkclfbbblaaaDoorHood3
namespace Go.Proofs.YtobbkclfbbblaaaDoor
open Go Go.RowKit
set_option linter.unusedSimpArgs false
set_option linter.unusedVariables false
set_option maxRecDepth 100000
theorem rad_five (r x y : Int) : max r (max x (max (wrap64 (-x)) (max y (wrap64 (-y))))) = max (max r (absI x)) (absI y) := by unfold absI; omega
set_option maxHeartbeats 1000000 in
theorem hood_Radius (A : Option Addr) (n c : Nat) (l : List (Int × Int)) (w : World) (hR : Rd encP 2 w A n l) (hn : n ≤ 1000000) :
    Calls Tryd.prog 42 #[.slice A n c] w fun e w' => e = .returned (.int .i64 (radL l)) ∧ Below w.heap.size w w' := by
  cases hr : rightL l with
  | false =>
    have hcl := Lib.hid (show radL l = 0 by unfold radL; rw [hr]; rfl)
    go_enter Tryd.func42, Tryd.ntmps42
    go_wp2_with (first | (go_at_call 41; refine (hood_Right _ _ _ _ _ hR).mono ?_; rintro e w1 ⟨rfl, hb1⟩; obtain ⟨hc1, hf1⟩ := bcell hb1; have hs1 := hb1.size; (try simp only [World.size_alloc, World.size_setCell, World.size_drew] at hc1 hf1); (try simp at hs1)))
    go_ret
    exact ⟨ret_int hcl.out.symm, by (repeat' (first | exact Below.refl _ _ | assumption | (refine Below.alloc ?_ ?_ _) | (refine Below.setCell ?_ ?_ _) | (refine Below.drew ?_) | (refine below_drewN ?_ _) | (refine below_after (Ext.below _) ?_ ?_) | (refine below_after (by assumption) ?_ ?_) | (simp; done) | omega | (simp; omega)))⟩
  | true =>
    have hcl := Lib.hid (show radL l = radAt l l.length by unfold radL; rw [hr]; rfl)
    go_enter Tryd.func42, Tryd.ntmps42
    go_wp2_with (first | (go_at_call 41; refine (hood_Right _ _ _ _ _ hR).mono ?_; rintro e w1 ⟨rfl, hb1⟩; obtain ⟨hc1, hf1⟩ := bcell hb1; have hs1 := hb1.size; (try simp only [World.size_alloc, World.size_setCell, World.size_drew] at hc1 hf1); (try simp at hs1)))
    go_loopw [3, 10] (fun v i wr => ∃ j : Nat, v = .int .i64 (radAt l j) ∧ j ≤ n ∧ i = .int .i64 j ∧ Below w.heap.size w wr) (fun _ i _ => n - (intOf i).toNat)
    case atStart => exact ⟨0, rfl, by omega, rfl, by (repeat' (first | exact Below.refl _ _ | assumption | (refine Below.alloc ?_ ?_ _) | (refine Below.setCell ?_ ?_ _) | (refine Below.drew ?_) | (refine below_drewN ?_ _) | (refine below_after (Ext.below _) ?_ ?_) | (refine below_after (by assumption) ?_ ?_) | (simp; done) | omega | (simp; omega)))⟩
    case round =>
      obtain ⟨j, rfl, hj, rfl, hb⟩ := hrel
      obtain ⟨hc, hf⟩ := bcell hb
      have hs := hb.size
      by_cases hlt : j < n
      · obtain ⟨x, y, bo, o, hx, rfl, hbl, hcell, hcell2⟩ := hR.pt hlt
        have hst := Lib.hid (radAt_step hx.out)
        generalize radAt l j = r at hst ⊢
        go_wp2
        go_roundw
        case rel => exact ⟨j + 1, by rw [hst.out, rad_five], by omega, by go_num, by (repeat' (first | exact Below.refl _ _ | assumption | (refine Below.alloc ?_ ?_ _) | (refine Below.setCell ?_ ?_ _) | (refine Below.drew ?_) | (refine below_drewN ?_ _) | (refine below_after (Ext.below _) ?_ ?_) | (refine below_after (by assumption) ?_ ?_) | (simp; done) | omega | (simp; omega)))⟩
        case measure => simp [intOf]; omega
      · obtain rfl : j = n := by omega
        go_wp2
        go_ret
        exact ⟨ret_int (by rw [hcl.out, hR.len]), by (repeat' (first | exact Below.refl _ _ | assumption | (refine Below.alloc ?_ ?_ _) | (refine Below.setCell ?_ ?_ _) | (refine Below.drew ?_) | (refine below_drewN ?_ _) | (refine below_after (Ext.below _) ?_ ?_) | (refine below_after (by assumption) ?_ ?_) | (simp; done) | omega | (simp; omega)))⟩
set_option maxHeartbeats 1000000 in
theorem ref_Radius (A : Option Addr) (n c : Nat) (l : List (Int × Int)) (w : World) (hR : Rd encP 2 w A n l) (hn : n ≤ 1000000) :
    Calls Tryd.prog 46 #[.slice A n c] w fun e w' => e = .returned (.int .i64 (radL l)) ∧ Below w.heap.size w w' := by
  cases hr : rightL l with
  | false =>
    have hcl := Lib.hid (show radL l = 0 by unfold radL; rw [hr]; rfl)
    go_enter Tryd.func46, Tryd.ntmps46
    go_wp2_with (first | (go_at_call 45; refine (ref_Right7 _ _ _ _ _ hR).mono ?_; rintro e w1 ⟨rfl, hb1⟩; obtain ⟨hc1, hf1⟩ := bcell hb1; have hs1 := hb1.size; (try simp only [World.size_alloc, World.size_setCell, World.size_drew] at hc1 hf1); (try simp at hs1)))
    go_ret
    exact ⟨ret_int hcl.out.symm, by (repeat' (first | exact Below.refl _ _ | assumption | (refine Below.alloc ?_ ?_ _) | (refine Below.setCell ?_ ?_ _) | (refine Below.drew ?_) | (refine below_drewN ?_ _) | (refine below_after (Ext.below _) ?_ ?_) | (refine below_after (by assumption) ?_ ?_) | (simp; done) | omega | (simp; omega)))⟩
  | true =>
    have hcl := Lib.hid (show radL l = radAt l l.length by unfold radL; rw [hr]; rfl)
    go_enter Tryd.func46, Tryd.ntmps46
    go_wp2_with (first | (go_at_call 45; refine (ref_Right7 _ _ _ _ _ hR).mono ?_; rintro e w1 ⟨rfl, hb1⟩; obtain ⟨hc1, hf1⟩ := bcell hb1; have hs1 := hb1.size; (try simp only [World.size_alloc, World.size_setCell, World.size_drew] at hc1 hf1); (try simp at hs1)))
    go_loopw [3, 4] (fun v i wr => ∃ j : Nat, v = .int .i64 (radAt l j) ∧ j ≤ n ∧ i = .int .i64 j ∧ Below w.heap.size w wr) (fun _ i _ => n - (intOf i).toNat)
    case atStart => exact ⟨0, rfl, by omega, rfl, by (repeat' (first | exact Below.refl _ _ | assumption | (refine Below.alloc ?_ ?_ _) | (refine Below.setCell ?_ ?_ _) | (refine Below.drew ?_) | (refine below_drewN ?_ _) | (refine below_after (Ext.below _) ?_ ?_) | (refine below_after (by assumption) ?_ ?_) | (simp; done) | omega | (simp; omega)))⟩
    case round =>
      obtain ⟨j, rfl, hj, rfl, hb⟩ := hrel
      obtain ⟨hc, hf⟩ := bcell hb
      have hs := hb.size
      by_cases hlt : j < n
      · obtain ⟨x, y, bo, o, hx, rfl, hbl, hcell, hcell2⟩ := hR.pt hlt
        have hst := Lib.hid (radAt_step hx.out)
        generalize radAt l j = r at hst ⊢
        go_wp2
        (refine wp_region_ext_lit (by kernel_rfl) (by kernel_rfl) ?_; (repeat (go_big_quiet_step ((go_at_call 61; exact calls_ext (ref_Abs _ _))))); refine wpQuiet_nil ?_; intro _ hw'; obtain ⟨z2, hw''⟩ := hw'; subst hw''; have hs2 := z2.size; obtain ⟨hc2, hf2⟩ := bcell z2.below; (try simp only [World.size_alloc, World.size_setCell, World.size_drew] at hc2 hf2); (try simp at hs2))
        go_wp2
        go_roundw
        case rel => exact ⟨j + 1, by rw [hst.out]; exact congrArg _ (by omega), by omega, by go_num, by (repeat' (first | exact Below.refl _ _ | assumption | (refine Below.alloc ?_ ?_ _) | (refine Below.setCell ?_ ?_ _) | (refine Below.drew ?_) | (refine below_drewN ?_ _) | (refine below_after (Ext.below _) ?_ ?_) | (refine below_after (by assumption) ?_ ?_) | (simp; done) | omega | (simp; omega)))⟩
        case measure => simp [intOf]; omega
      · obtain rfl : j = n := by omega
        go_wp2
        go_ret
        exact ⟨ret_int (by rw [hcl.out, hR.len]), by (repeat' (first | exact Below.refl _ _ | assumption | (refine Below.alloc ?_ ?_ _) | (refine Below.setCell ?_ ?_ _) | (refine Below.drew ?_) | (refine below_drewN ?_ _) | (refine below_after (Ext.below _) ?_ ?_) | (refine below_after (by assumption) ?_ ?_) | (simp; done) | omega | (simp; omega)))⟩
end Go.Proofs.YtobbkclfbbblaaaDoor
