/- The contracts of Radius and Centre, of hood and of its reference. -/
import Derived.Test.YtobbkclfbbblaaaDoorHood2
namespace Go.Proofs.YtobbkclfbbblaaaDoor
open Go Go.RowKit
set_option linter.unusedSimpArgs false
set_option linter.unusedVariables false
set_option maxRecDepth 100000
attribute [local go_sem ↓ high] eq_pt neq_pt
def centL (l : List (Int × Int)) : Int := if rightL l = true then idxP l 0 0 else -1
theorem hood_Centre (A : Option Addr) (n c : Nat) (l : List (Int × Int)) (w : World) (hR : Rd encP 2 w A n l) (hn : n ≤ 1000000) :
    Calls Tryd.prog 44 #[.slice A n c] w fun e w' => e = .returned (.int .i64 (centL l)) ∧ Below w.heap.size w w' := by
  cases hr : rightL l with
  | true =>
    have hcl := Lib.hid (show centL l = idxP l 0 0 by unfold centL; rw [hr]; rfl)
    go_enter Tryd.func44, Tryd.ntmps44
    go_wp2_with (first | (go_at_call 41; refine (hood_Right _ _ _ _ _ hR).mono ?_; rintro e w1 ⟨rfl, hb1⟩; obtain ⟨hc1, hf1⟩ := bcell hb1; have hs1 := hb1.size; (try simp only [World.size_alloc, World.size_setCell, World.size_drew] at hc1 hf1); (try simp at hs1)) | (go_at_call 67; refine (slices_IndexP _ _ _ _ _ _ _ (hR.of (by (repeat' (first | exact Below.refl _ _ | assumption | (refine Below.alloc ?_ ?_ _) | (refine Below.setCell ?_ ?_ _) | (refine Below.drew ?_) | (refine below_drewN ?_ _) | (refine below_after (Ext.below _) ?_ ?_) | (refine below_after (by assumption) ?_ ?_) | (simp; done) | omega | (simp; omega))))) hn).mono ?_; rintro e w2 ⟨rfl, hb2⟩; obtain ⟨hc2, hf2⟩ := bcell hb2; have hs2 := hb2.size; (try simp only [World.size_alloc, World.size_setCell, World.size_drew] at hc2 hf2); (try simp at hs2)))
    go_ret
    exact ⟨ret_int hcl.out.symm, by (repeat' (first | exact Below.refl _ _ | assumption | (refine Below.alloc ?_ ?_ _) | (refine Below.setCell ?_ ?_ _) | (refine Below.drew ?_) | (refine below_drewN ?_ _) | (refine below_after (Ext.below _) ?_ ?_) | (refine below_after (by assumption) ?_ ?_) | (simp; done) | omega | (simp; omega)))⟩
  | false =>
    have hcl := Lib.hid (show centL l = -1 by unfold centL; rw [hr]; rfl)
    go_enter Tryd.func44, Tryd.ntmps44
    go_wp2_with (first | (go_at_call 41; refine (hood_Right _ _ _ _ _ hR).mono ?_; rintro e w1 ⟨rfl, hb1⟩; obtain ⟨hc1, hf1⟩ := bcell hb1; have hs1 := hb1.size; (try simp only [World.size_alloc, World.size_setCell, World.size_drew] at hc1 hf1); (try simp at hs1)))
    go_ret
    exact ⟨ret_int hcl.out.symm, by (repeat' (first | exact Below.refl _ _ | assumption | (refine Below.alloc ?_ ?_ _) | (refine Below.setCell ?_ ?_ _) | (refine Below.drew ?_) | (refine below_drewN ?_ _) | (refine below_after (Ext.below _) ?_ ?_) | (refine below_after (by assumption) ?_ ?_) | (simp; done) | omega | (simp; omega)))⟩
theorem ref_Centre (A : Option Addr) (n c : Nat) (l : List (Int × Int)) (w : World) (hR : Rd encP 2 w A n l) (hn : n ≤ 1000000) :
    Calls Tryd.prog 47 #[.slice A n c] w fun e w' => e = .returned (.int .i64 (centL l)) ∧ Below w.heap.size w w' := by
  cases hr : rightL l with
  | true =>
    have hcl := Lib.hid (show centL l = idxP l 0 0 by unfold centL; rw [hr]; rfl)
    go_enter Tryd.func47, Tryd.ntmps47
    go_wp2_with (first | (go_at_call 45; refine (ref_Right7 _ _ _ _ _ hR).mono ?_; rintro e w1 ⟨rfl, hb1⟩; obtain ⟨hc1, hf1⟩ := bcell hb1; have hs1 := hb1.size; (try simp only [World.size_alloc, World.size_setCell, World.size_drew] at hc1 hf1); (try simp at hs1)) | (go_at_call 40; refine (ref_IndexP _ _ _ _ _ _ _ (hR.of (by (repeat' (first | exact Below.refl _ _ | assumption | (refine Below.alloc ?_ ?_ _) | (refine Below.setCell ?_ ?_ _) | (refine Below.drew ?_) | (refine below_drewN ?_ _) | (refine below_after (Ext.below _) ?_ ?_) | (refine below_after (by assumption) ?_ ?_) | (simp; done) | omega | (simp; omega))))) hn).mono ?_; rintro e w2 ⟨rfl, hb2⟩; obtain ⟨hc2, hf2⟩ := bcell hb2; have hs2 := hb2.size; (try simp only [World.size_alloc, World.size_setCell, World.size_drew] at hc2 hf2); (try simp at hs2)))
    go_ret
    exact ⟨ret_int hcl.out.symm, by (repeat' (first | exact Below.refl _ _ | assumption | (refine Below.alloc ?_ ?_ _) | (refine Below.setCell ?_ ?_ _) | (refine Below.drew ?_) | (refine below_drewN ?_ _) | (refine below_after (Ext.below _) ?_ ?_) | (refine below_after (by assumption) ?_ ?_) | (simp; done) | omega | (simp; omega)))⟩
  | false =>
    have hcl := Lib.hid (show centL l = -1 by unfold centL; rw [hr]; rfl)
    go_enter Tryd.func47, Tryd.ntmps47
    go_wp2_with (first | (go_at_call 45; refine (ref_Right7 _ _ _ _ _ hR).mono ?_; rintro e w1 ⟨rfl, hb1⟩; obtain ⟨hc1, hf1⟩ := bcell hb1; have hs1 := hb1.size; (try simp only [World.size_alloc, World.size_setCell, World.size_drew] at hc1 hf1); (try simp at hs1)))
    go_ret
    exact ⟨ret_int hcl.out.symm, by (repeat' (first | exact Below.refl _ _ | assumption | (refine Below.alloc ?_ ?_ _) | (refine Below.setCell ?_ ?_ _) | (refine Below.drew ?_) | (refine below_drewN ?_ _) | (refine below_after (Ext.below _) ?_ ?_) | (refine below_after (by assumption) ?_ ?_) | (simp; done) | omega | (simp; omega)))⟩
def absI (x : Int) : Int := max x (wrap64 (-x))
def radStep (r : Int) (p : Int × Int) : Int := max (max r (absI p.1)) (absI p.2)
def radAt (l : List (Int × Int)) (j : Nat) : Int := (l.take j).foldl radStep 0
def radL (l : List (Int × Int)) : Int := if rightL l = true then radAt l l.length else 0
theorem radAt_step {l : List (Int × Int)} {j : Nat} {x y : Int} (h : l[j]? = some (x, y)) : radAt l (j + 1) = max (max (radAt l j) (absI x)) (absI y) := by
  unfold radAt
  rw [List.take_add_one, List.foldl_append, h]; rfl
theorem ref_Abs (x : Int) (w : World) : Calls Tryd.prog 61 #[.int .i64 x] w fun e w' => e = .returned (.int .i64 (absI x)) ∧ Below w.heap.size w w' := by
  go_enter Tryd.func61, Tryd.ntmps61
  go_wp2
  go_ret
  exact ⟨ret_int (by unfold absI; rfl), Below.refl _ _⟩
end Go.Proofs.YtobbkclfbbblaaaDoor
