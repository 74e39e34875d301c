/- The contract of Tile's reference. -/
import Derived.Test.YtenckggfgbkfnaaDoorAlg6
import Derived.Test.YtenckggfgbkfnaaDoorTil1
namespace Go.Proofs.YtenckggfgbkfnaaDoor
open Go Go.RowKit
set_option linter.unusedSimpArgs false
set_option linter.unusedVariables false
set_option maxRecDepth 100000
attribute [local go_sem ↓ high] eq_cl neq_cl eq_pt neq_pt
theorem ref06_near (v : Int) (b : Bool) (h : Hid (decide (-1048576 ≤ v ∧ v ≤ 1048576) = b)) (w : World) :
    Calls Tryd.prog 49 #[.int .i64 v] w fun e w' => e = .returned (.bool b) ∧ w = w' := by
  cases b with
  | false =>
    have hh := of_decide_eq_false h.out
    rcases (show decide (-1048576 ≤ v) = false ∨ (decide (-1048576 ≤ v) = true ∧ decide (v ≤ 1048576) = false) by simp only [decide_eq_true_eq, decide_eq_false_iff_not]; omega) with d1 | ⟨d1, d2⟩
    all_goals
      clear h
      go_enter Tryd.func49, Tryd.ntmps49
      go_wp2
      go_ret
      exact ⟨rfl, rfl⟩
  | true =>
    have hh := of_decide_eq_true h.out
    have d1 : decide (-1048576 ≤ v) = true := decide_eq_true hh.1
    have d2 : decide (v ≤ 1048576) = true := decide_eq_true hh.2
    clear h hh
    go_enter Tryd.func49, Tryd.ntmps49
    go_wp2
    go_ret
    exact ⟨rfl, rfl⟩
theorem tlNum_no2 {dx dy nx ny : Int} (h : tlNum dx dy nx ny = false) : (decide (-1048576 ≤ dx ∧ dx ≤ 1048576) = false) ∨ (decide (-1048576 ≤ dx ∧ dx ≤ 1048576) = true ∧ decide (-1048576 ≤ dy ∧ dy ≤ 1048576) = false) ∨
    (decide (-1048576 ≤ dx ∧ dx ≤ 1048576) = true ∧ decide (-1048576 ≤ dy ∧ dy ≤ 1048576) = true ∧ (decide (nx < 0) = true ∨ (decide (nx < 0) = false ∧ decide (50 < nx) = true) ∨ (decide (nx < 0) = false ∧ decide (50 < nx) = false ∧ decide (ny < 0) = true) ∨ (decide (nx < 0) = false ∧ decide (50 < nx) = false ∧ decide (ny < 0) = false ∧ decide (50 < ny) = true))) := by
  unfold tlNum at h; simp only [decide_eq_true_eq, decide_eq_false_iff_not] at *; omega
theorem tile_no2 {x y : Int} (h : validB x y = false) : (decide (-1048576 ≤ x ∧ x ≤ 1048576) = false) ∨ (decide (-1048576 ≤ x ∧ x ≤ 1048576) = true ∧ decide (-1048576 ≤ y ∧ y ≤ 1048576) = false) := by
  have h1 : ¬ Pt x y := fun hp => by rw [validB_iff.2 hp] at h; cases h
  unfold Pt at h1; simp only [decide_eq_true_eq, decide_eq_false_iff_not] at *; omega
theorem tile_yes2 {x y : Int} (h : validB x y = true) : decide (-1048576 ≤ x ∧ x ≤ 1048576) = true ∧ decide (-1048576 ≤ y ∧ y ≤ 1048576) = true := by
  have h1 := validB_iff.1 h
  unfold Pt at h1; simp only [decide_eq_true_eq]; omega
theorem srt_nil : srtC [] = [] := rfl
set_option maxHeartbeats 8000000 in
theorem ref06_Tile_no (A : Option Addr) (n c : Nat) (l : List (Int × Int × Int)) (dx dy nx ny : Int) (w : World) (hR : Rd encC 3 w A n l) (hn : n ≤ 1000000) (hbad : ¬ (rightC l = true ∧ tlNum dx dy nx ny = true)) :
    Calls Tryd.prog 22 #[.slice A n c, .int .i64 dx, .int .i64 dy, .int .i64 nx, .int .i64 ny] w fun e w' => ∃ A2 n2 c2, e = .returned (.tuple #[.slice A2 n2 c2, .int .i64 (tlE l dx dy nx ny)]) ∧ Rd encC 3 w' A2 n2 (tlL l dx dy nx ny) ∧ n2 ≤ 5000 ∧ Below w.heap.size w w' := by
  cases hr : rightC l with
  | false =>
    have HE := Lib.hid (tl_bad (dx := dx) (dy := dy) (nx := nx) (ny := ny) (Or.inl hr))
    have kR := fun w1 (h : Rd encC 3 w1 A n l) => ref05_RightV (A := A) (n := n) (c := c) hr w1 h (by omega)
    clear hr
    go_enter Tryd.func22, Tryd.ntmps22
    go_wp2_with fail; go_at_call 23; refine (kR _ hR).mono ?_; rintro e w1 ⟨rfl, hb1⟩; have hs1 := hb1.size; (try simp only [World.size_alloc, World.size_drew, World.size_setCell] at hs1)
    go_wp2_with fail
    go_ret2
    exact ⟨none, 0, 0, ret_pe HE.out.1.symm, by rw [HE.out.2]; exact Rd.nil_, by omega, by (repeat' (first | exact Below.refl _ _ | assumption | (refine Below.alloc ?_ ?_ _) | (refine Below.setCell ?_ ?_ _) | (refine Below.drew ?_) | (refine below_drewN ?_ _) | (refine below_after (Ext.below _) ?_ ?_) | (refine below_after (by assumption) ?_ ?_) | (simp; done) | omega | (simp; omega)))⟩
  | true =>
    have hn5 : n ≤ 5000 := by rw [← hR.len]; exact (rightC_ok hr).1
    have kR := fun w1 (h : Rd encC 3 w1 A n l) => ref05_RightV (A := A) (n := n) (c := c) hr w1 h (by omega)
    cases ht : tlNum dx dy nx ny with
    | false =>
      have HE := Lib.hid (tl_bad (l := l) (Or.inr ht))
      have hways := tlNum_no2 ht
      clear hr ht
      rcases hways with d1 | ⟨d1, d2⟩ | ⟨d1, d2, h3⟩
      · have kX := ref06_near dx _ (Lib.hid d1)
        clear d1
        go_enter Tryd.func22, Tryd.ntmps22
        go_wp2_with fail; go_at_call 23; refine (kR _ hR).mono ?_; rintro e w1 ⟨rfl, hb1⟩; have hs1 := hb1.size; (try simp only [World.size_alloc, World.size_drew, World.size_setCell] at hs1)
        go_wp2_with (go_at_call 49; refine (kX _).mono ?_; rintro e w' ⟨rfl, rfl⟩)
        go_ret2
        exact ⟨none, 0, 0, ret_pe HE.out.1.symm, by rw [HE.out.2]; exact Rd.nil_, by omega, by (repeat' (first | exact Below.refl _ _ | assumption | (refine Below.alloc ?_ ?_ _) | (refine Below.setCell ?_ ?_ _) | (refine Below.drew ?_) | (refine below_drewN ?_ _) | (refine below_after (Ext.below _) ?_ ?_) | (refine below_after (by assumption) ?_ ?_) | (simp; done) | omega | (simp; omega)))⟩
      · have kX := ref06_near dx _ (Lib.hid d1)
        have kY := ref06_near dy _ (Lib.hid d2)
        clear d1 d2
        go_enter Tryd.func22, Tryd.ntmps22
        go_wp2_with fail; go_at_call 23; refine (kR _ hR).mono ?_; rintro e w1 ⟨rfl, hb1⟩; have hs1 := hb1.size; (try simp only [World.size_alloc, World.size_drew, World.size_setCell] at hs1)
        go_wp2_with (first | (go_at_call 49; refine (kX _).mono ?_; rintro e w' ⟨rfl, rfl⟩) | (go_at_call 49; refine (kY _).mono ?_; rintro e w' ⟨rfl, rfl⟩))
        go_ret2
        exact ⟨none, 0, 0, ret_pe HE.out.1.symm, by rw [HE.out.2]; exact Rd.nil_, by omega, by (repeat' (first | exact Below.refl _ _ | assumption | (refine Below.alloc ?_ ?_ _) | (refine Below.setCell ?_ ?_ _) | (refine Below.drew ?_) | (refine below_drewN ?_ _) | (refine below_after (Ext.below _) ?_ ?_) | (refine below_after (by assumption) ?_ ?_) | (simp; done) | omega | (simp; omega)))⟩
      · have kX := ref06_near dx _ (Lib.hid d1)
        have kY := ref06_near dy _ (Lib.hid d2)
        clear d1 d2
        rcases h3 with d1 | ⟨d1, d2⟩ | ⟨d1, d2, d3⟩ | ⟨d1, d2, d3, d4⟩
        all_goals
          go_enter Tryd.func22, Tryd.ntmps22
          go_wp2_with fail; go_at_call 23; refine (kR _ hR).mono ?_; rintro e w1 ⟨rfl, hb1⟩; have hs1 := hb1.size; (try simp only [World.size_alloc, World.size_drew, World.size_setCell] at hs1)
          go_wp2_with (first | (go_at_call 49; refine (kX _).mono ?_; rintro e w' ⟨rfl, rfl⟩) | (go_at_call 49; refine (kY _).mono ?_; rintro e w' ⟨rfl, rfl⟩))
          go_ret2
          exact ⟨none, 0, 0, ret_pe HE.out.1.symm, by rw [HE.out.2]; exact Rd.nil_, by omega, by (repeat' (first | exact Below.refl _ _ | assumption | (refine Below.alloc ?_ ?_ _) | (refine Below.setCell ?_ ?_ _) | (refine Below.drew ?_) | (refine below_drewN ?_ _) | (refine below_after (Ext.below _) ?_ ?_) | (refine below_after (by assumption) ?_ ?_) | (simp; done) | omega | (simp; omega)))⟩
    | true => exact absurd ⟨hr, ht⟩ hbad
end Go.Proofs.YtenckggfgbkfnaaDoor
