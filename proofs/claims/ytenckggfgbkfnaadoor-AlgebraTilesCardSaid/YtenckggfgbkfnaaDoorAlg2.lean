/- The contracts of algebra.pick, And, Without and Disjoint. -/
import Derived.Test.YtenckggfgbkfnaaDoorAlg1
import Derived.Test.YtenckggfgbkfnaaDoorPLN
namespace Go.Proofs.YtenckggfgbkfnaaDoor
open Go Go.RowKit
set_option linter.unusedSimpArgs false
set_option linter.unusedVariables false
set_option maxRecDepth 100000
attribute [local go_sem ↓ high] eq_cl neq_cl eq_pt neq_pt
set_option maxHeartbeats 4000000 in
theorem alg_pick_true (A A' : Option Addr) (n m c d : Nat) (l r : List (Int × Int × Int)) (w : World) (hR : Rd encC 3 w A n l) (hS : Rd encC 3 w A' m r) (hnc : n ≤ c) (hmd : m ≤ d) (hnm : n + m ≤ 1000000) :
    Calls Tryd.prog 52 #[.slice A n c, .slice A' m d, .bool true] w fun e w' => ∃ A2 n2 c2, e = .returned (.slice A2 n2 c2) ∧ Rd encC 3 w' A2 n2 (pkL 1 l r) ∧ n2 ≤ n ∧ n2 ≤ c2 ∧ Below w.heap.size w w' := by
  have hR := hR.of (show Below w.heap.size w (w.alloc (.cells #[.bool true] 4)) from (Below.refl _ _).alloc (Nat.le_refl _) _)
  have hS := hS.of (show Below w.heap.size w (w.alloc (.cells #[.bool true] 4)) from (Below.refl _ _).alloc (Nat.le_refl _) _)
  rcases both_ways l r with h1 | ⟨h1, h2⟩ | ⟨h1, h2⟩
  · have HE := Lib.hid (pkL_no 1 (a := l) (b := r) (.inl h1))
    have kR := fun w1 (h : Rd encC 3 w1 A n l) => pat_RightV (A := A) (n := n) (c := c) h1 w1 h (by omega)
    clear h1
    go_enter Tryd.func52, Tryd.ntmps52
    go_wp2_with fail; go_at_call 28; refine (kR _ hR).mono ?_; rintro e w1 ⟨rfl, hb1⟩; have hs1 := hb1.size; (try simp only [World.size_alloc, World.size_drew, World.size_setCell] at hs1)
    go_wp2_with fail
    go_ret
    exact ⟨none, 0, 0, rfl, by rw [HE.out]; exact Rd.nil_, by omega, by omega, by (repeat' (first | exact Below.refl _ _ | assumption | (refine Below.alloc ?_ ?_ _) | (refine Below.setCell ?_ ?_ _) | (refine Below.drew ?_) | (refine below_drewN ?_ _) | (refine below_after (Ext.below _) ?_ ?_) | (refine below_after (by assumption) ?_ ?_) | (simp; done) | omega | (simp; omega)))⟩
  · have HE := Lib.hid (pkL_no 1 (a := l) (b := r) (.inr h2))
    have kR := fun w1 (h : Rd encC 3 w1 A n l) => pat_RightV (A := A) (n := n) (c := c) h1 w1 h (by omega)
    have kS := fun w1 (h : Rd encC 3 w1 A' m r) => pat_RightV (A := A') (n := m) (c := d) h2 w1 h (by omega)
    clear h1 h2
    go_enter Tryd.func52, Tryd.ntmps52
    go_wp2_with fail; go_at_call 28; refine (kR _ hR).mono ?_; rintro e w1 ⟨rfl, hb1⟩; have hs1 := hb1.size; (try simp only [World.size_alloc, World.size_drew, World.size_setCell] at hs1)
    go_wp2_with fail; go_at_call 28; refine (kS _ (hS.of hb1)).mono ?_; rintro e w2 ⟨rfl, hb2⟩; have hs2 := hb2.size; (try simp only [World.size_alloc, World.size_drew, World.size_setCell] at hs2)
    go_wp2_with fail
    go_ret
    exact ⟨none, 0, 0, rfl, by rw [HE.out]; exact Rd.nil_, by omega, by omega, by (repeat' (first | exact Below.refl _ _ | assumption | (refine Below.alloc ?_ ?_ _) | (refine Below.setCell ?_ ?_ _) | (refine Below.drew ?_) | (refine below_drewN ?_ _) | (refine below_after (Ext.below _) ?_ ?_) | (refine below_after (by assumption) ?_ ?_) | (simp; done) | omega | (simp; omega)))⟩
  · have HE := Lib.hid (pkL_yes 1 h1 h2)
    have kR := fun w1 (h : Rd encC 3 w1 A n l) => pat_RightV (A := A) (n := n) (c := c) h1 w1 h (by omega)
    have kS := fun w1 (h : Rd encC 3 w1 A' m r) => pat_RightV (A := A') (n := m) (c := d) h2 w1 h (by omega)
    have hlr : (resL 1 l r).length ≤ n := by rw [← hR.len]; exact res_len1 (by omega) h1 h2
    clear h1 h2
    go_enter Tryd.func52, Tryd.ntmps52
    go_wp2_with fail; go_at_call 28; refine (kR _ hR).mono ?_; rintro e w1 ⟨rfl, hb1⟩; have hs1 := hb1.size; (try simp only [World.size_alloc, World.size_drew, World.size_setCell] at hs1)
    go_wp2_with fail; go_at_call 28; refine (kS _ (hS.of hb1)).mono ?_; rintro e w2 ⟨rfl, hb2⟩; have hs2 := hb2.size; (try simp only [World.size_alloc, World.size_drew, World.size_setCell] at hs2)
    have hB2 : Below w.heap.size w w2 := by (repeat' (first | exact Below.refl _ _ | assumption | (refine Below.alloc ?_ ?_ _) | (refine Below.setCell ?_ ?_ _) | (refine Below.drew ?_) | (refine below_drewN ?_ _) | (refine below_after (Ext.below _) ?_ ?_) | (refine below_after (by assumption) ?_ ?_) | (simp; done) | omega | (simp; omega)))
    have hh : w2.heap[w.heap.size]? = some (.cells #[.bool true] 4 (0, 0)) := (hb2.block _ (by omega)).trans ((hb1.block _ (by simp)).trans (heap_alloc_new w _))
    have HH := Lib.hid (show (w2.alloc (.cells #[.slice none 0 0] 23)).heap[w.heap.size]? = some (.cells #[.bool true] 4 (0, 0)) from (heap_alloc_old w2 _ (by omega)).trans hh)
    have rR : RdB w2.heap.size w2 A n l := RdB.mk' ((hR.of hb1).of hb2)
    have rS : RdB w2.heap.size w2 A' m r := RdB.mk' ((hS.of hb1).of hb2)
    have hs0 : w.heap.size < w2.heap.size := by omega
    have hown5 : Own encC 3 54 w2.heap.size w2 none 0 0 [] := Own.nil_
    clear hb1 hb2 hs1 hs2 kR kS hR hS hh
    go_wp2_with fail
    go_at_call 37
    refine (mrg_pick_true w2.heap.size _ A A' n m c d l r _ (rR.of (by (repeat' (first | exact Below.refl _ _ | assumption | (refine Below.alloc ?_ ?_ _) | (refine Below.setCell ?_ ?_ _) | (refine Below.drew ?_) | (refine below_drewN ?_ _) | (refine below_after (Ext.below _) ?_ ?_) | (refine below_after (by assumption) ?_ ?_) | (simp; done) | omega | (simp; omega))))) (rS.of (by (repeat' (first | exact Below.refl _ _ | assumption | (refine Below.alloc ?_ ?_ _) | (refine Below.setCell ?_ ?_ _) | (refine Below.drew ?_) | (refine below_drewN ?_ _) | (refine below_after (Ext.below _) ?_ ?_) | (refine below_after (by assumption) ?_ ?_) | (simp; done) | omega | (simp; omega))))) hnc hmd hnm (coll_new hown5 (Nat.le_refl _)) w.heap.size hs0 HH).mono ?_
    rintro e w6 ⟨rfl, hC6, hb6⟩
    have hB6 : Below w2.heap.size w2 w6 := (show Below w2.heap.size w2 _ from by (repeat' (first | exact Below.refl _ _ | assumption | (refine Below.alloc ?_ ?_ _) | (refine Below.setCell ?_ ?_ _) | (refine Below.drew ?_) | (refine below_drewN ?_ _) | (refine below_after (Ext.below _) ?_ ?_) | (refine below_after (by assumption) ?_ ?_) | (simp; done) | omega | (simp; omega)))).trans hb6
    obtain ⟨_, A6, n6, c6, h61, h62⟩ := hC6
    have g6 := cell_of_one h61
    have hcap := own_cap h62
    have hR6 := h62.rd encC_len
    clear h61 hb6 h62
    go_wp2_with fail
    go_ret
    exact ⟨A6, n6, c6, rfl, by rw [HE.out]; exact hR6, by rw [hR6.len] at hlr; exact hlr, hcap, hB2.trans (hB6.mono (by omega))⟩
set_option maxHeartbeats 4000000 in
theorem alg_pick_false (A A' : Option Addr) (n m c d : Nat) (l r : List (Int × Int × Int)) (w : World) (hR : Rd encC 3 w A n l) (hS : Rd encC 3 w A' m r) (hnc : n ≤ c) (hmd : m ≤ d) (hnm : n + m ≤ 1000000) :
    Calls Tryd.prog 52 #[.slice A n c, .slice A' m d, .bool false] w fun e w' => ∃ A2 n2 c2, e = .returned (.slice A2 n2 c2) ∧ Rd encC 3 w' A2 n2 (pkL 2 l r) ∧ n2 ≤ n ∧ n2 ≤ c2 ∧ Below w.heap.size w w' := by
  have hR := hR.of (show Below w.heap.size w (w.alloc (.cells #[.bool false] 4)) from (Below.refl _ _).alloc (Nat.le_refl _) _)
  have hS := hS.of (show Below w.heap.size w (w.alloc (.cells #[.bool false] 4)) from (Below.refl _ _).alloc (Nat.le_refl _) _)
  rcases both_ways l r with h1 | ⟨h1, h2⟩ | ⟨h1, h2⟩
  · have HE := Lib.hid (pkL_no 2 (a := l) (b := r) (.inl h1))
    have kR := fun w1 (h : Rd encC 3 w1 A n l) => pat_RightV (A := A) (n := n) (c := c) h1 w1 h (by omega)
    clear h1
    go_enter Tryd.func52, Tryd.ntmps52
    go_wp2_with fail; go_at_call 28; refine (kR _ hR).mono ?_; rintro e w1 ⟨rfl, hb1⟩; have hs1 := hb1.size; (try simp only [World.size_alloc, World.size_drew, World.size_setCell] at hs1)
    go_wp2_with fail
    go_ret
    exact ⟨none, 0, 0, rfl, by rw [HE.out]; exact Rd.nil_, by omega, by omega, by (repeat' (first | exact Below.refl _ _ | assumption | (refine Below.alloc ?_ ?_ _) | (refine Below.setCell ?_ ?_ _) | (refine Below.drew ?_) | (refine below_drewN ?_ _) | (refine below_after (Ext.below _) ?_ ?_) | (refine below_after (by assumption) ?_ ?_) | (simp; done) | omega | (simp; omega)))⟩
  · have HE := Lib.hid (pkL_no 2 (a := l) (b := r) (.inr h2))
    have kR := fun w1 (h : Rd encC 3 w1 A n l) => pat_RightV (A := A) (n := n) (c := c) h1 w1 h (by omega)
    have kS := fun w1 (h : Rd encC 3 w1 A' m r) => pat_RightV (A := A') (n := m) (c := d) h2 w1 h (by omega)
    clear h1 h2
    go_enter Tryd.func52, Tryd.ntmps52
    go_wp2_with fail; go_at_call 28; refine (kR _ hR).mono ?_; rintro e w1 ⟨rfl, hb1⟩; have hs1 := hb1.size; (try simp only [World.size_alloc, World.size_drew, World.size_setCell] at hs1)
    go_wp2_with fail; go_at_call 28; refine (kS _ (hS.of hb1)).mono ?_; rintro e w2 ⟨rfl, hb2⟩; have hs2 := hb2.size; (try simp only [World.size_alloc, World.size_drew, World.size_setCell] at hs2)
    go_wp2_with fail
    go_ret
    exact ⟨none, 0, 0, rfl, by rw [HE.out]; exact Rd.nil_, by omega, by omega, by (repeat' (first | exact Below.refl _ _ | assumption | (refine Below.alloc ?_ ?_ _) | (refine Below.setCell ?_ ?_ _) | (refine Below.drew ?_) | (refine below_drewN ?_ _) | (refine below_after (Ext.below _) ?_ ?_) | (refine below_after (by assumption) ?_ ?_) | (simp; done) | omega | (simp; omega)))⟩
  · have HE := Lib.hid (pkL_yes 2 h1 h2)
    have kR := fun w1 (h : Rd encC 3 w1 A n l) => pat_RightV (A := A) (n := n) (c := c) h1 w1 h (by omega)
    have kS := fun w1 (h : Rd encC 3 w1 A' m r) => pat_RightV (A := A') (n := m) (c := d) h2 w1 h (by omega)
    have hlr : (resL 2 l r).length ≤ n := by rw [← hR.len]; exact res_len1 (by omega) h1 h2
    clear h1 h2
    go_enter Tryd.func52, Tryd.ntmps52
    go_wp2_with fail; go_at_call 28; refine (kR _ hR).mono ?_; rintro e w1 ⟨rfl, hb1⟩; have hs1 := hb1.size; (try simp only [World.size_alloc, World.size_drew, World.size_setCell] at hs1)
    go_wp2_with fail; go_at_call 28; refine (kS _ (hS.of hb1)).mono ?_; rintro e w2 ⟨rfl, hb2⟩; have hs2 := hb2.size; (try simp only [World.size_alloc, World.size_drew, World.size_setCell] at hs2)
    have hB2 : Below w.heap.size w w2 := by (repeat' (first | exact Below.refl _ _ | assumption | (refine Below.alloc ?_ ?_ _) | (refine Below.setCell ?_ ?_ _) | (refine Below.drew ?_) | (refine below_drewN ?_ _) | (refine below_after (Ext.below _) ?_ ?_) | (refine below_after (by assumption) ?_ ?_) | (simp; done) | omega | (simp; omega)))
    have hh : w2.heap[w.heap.size]? = some (.cells #[.bool false] 4 (0, 0)) := (hb2.block _ (by omega)).trans ((hb1.block _ (by simp)).trans (heap_alloc_new w _))
    have HH := Lib.hid (show (w2.alloc (.cells #[.slice none 0 0] 23)).heap[w.heap.size]? = some (.cells #[.bool false] 4 (0, 0)) from (heap_alloc_old w2 _ (by omega)).trans hh)
    have rR : RdB w2.heap.size w2 A n l := RdB.mk' ((hR.of hb1).of hb2)
    have rS : RdB w2.heap.size w2 A' m r := RdB.mk' ((hS.of hb1).of hb2)
    have hs0 : w.heap.size < w2.heap.size := by omega
    have hown5 : Own encC 3 54 w2.heap.size w2 none 0 0 [] := Own.nil_
    clear hb1 hb2 hs1 hs2 kR kS hR hS hh
    go_wp2_with fail
    go_at_call 37
    refine (mrg_pick_false w2.heap.size _ A A' n m c d l r _ (rR.of (by (repeat' (first | exact Below.refl _ _ | assumption | (refine Below.alloc ?_ ?_ _) | (refine Below.setCell ?_ ?_ _) | (refine Below.drew ?_) | (refine below_drewN ?_ _) | (refine below_after (Ext.below _) ?_ ?_) | (refine below_after (by assumption) ?_ ?_) | (simp; done) | omega | (simp; omega))))) (rS.of (by (repeat' (first | exact Below.refl _ _ | assumption | (refine Below.alloc ?_ ?_ _) | (refine Below.setCell ?_ ?_ _) | (refine Below.drew ?_) | (refine below_drewN ?_ _) | (refine below_after (Ext.below _) ?_ ?_) | (refine below_after (by assumption) ?_ ?_) | (simp; done) | omega | (simp; omega))))) hnc hmd hnm (coll_new hown5 (Nat.le_refl _)) w.heap.size hs0 HH).mono ?_
    rintro e w6 ⟨rfl, hC6, hb6⟩
    have hB6 : Below w2.heap.size w2 w6 := (show Below w2.heap.size w2 _ from by (repeat' (first | exact Below.refl _ _ | assumption | (refine Below.alloc ?_ ?_ _) | (refine Below.setCell ?_ ?_ _) | (refine Below.drew ?_) | (refine below_drewN ?_ _) | (refine below_after (Ext.below _) ?_ ?_) | (refine below_after (by assumption) ?_ ?_) | (simp; done) | omega | (simp; omega)))).trans hb6
    obtain ⟨_, A6, n6, c6, h61, h62⟩ := hC6
    have g6 := cell_of_one h61
    have hcap := own_cap h62
    have hR6 := h62.rd encC_len
    clear h61 hb6 h62
    go_wp2_with fail
    go_ret
    exact ⟨A6, n6, c6, rfl, by rw [HE.out]; exact hR6, by rw [hR6.len] at hlr; exact hlr, hcap, hB2.trans (hB6.mono (by omega))⟩
theorem alg_And (A A' : Option Addr) (n m c d : Nat) (l r : List (Int × Int × Int)) (w : World) (hR : Rd encC 3 w A n l) (hS : Rd encC 3 w A' m r) (hnc : n ≤ c) (hmd : m ≤ d) (hnm : n + m ≤ 1000000) :
    Calls Tryd.prog 25 #[.slice A n c, .slice A' m d] w fun e w' => ∃ A2 n2 c2, e = .returned (.slice A2 n2 c2) ∧ Rd encC 3 w' A2 n2 (pkL 1 l r) ∧ n2 ≤ n ∧ n2 ≤ c2 ∧ Below w.heap.size w w' := by
  have kP := fun w1 (a : Rd encC 3 w1 A n l) (b : Rd encC 3 w1 A' m r) => alg_pick_true A A' n m c d l r w1 a b hnc hmd hnm
  go_enter Tryd.func25, Tryd.ntmps25
  go_wp2_with fail
  go_at_call 52
  refine (kP _ hR hS).mono ?_
  rintro e w1 ⟨A2, n2, c2, rfl, h1, h2, h3, hb1⟩
  go_wp2_with fail
  go_ret
  exact ⟨A2, n2, c2, rfl, h1, h2, h3, hb1⟩
theorem alg_Without (A A' : Option Addr) (n m c d : Nat) (l r : List (Int × Int × Int)) (w : World) (hR : Rd encC 3 w A n l) (hS : Rd encC 3 w A' m r) (hnc : n ≤ c) (hmd : m ≤ d) (hnm : n + m ≤ 1000000) :
    Calls Tryd.prog 24 #[.slice A n c, .slice A' m d] w fun e w' => ∃ A2 n2 c2, e = .returned (.slice A2 n2 c2) ∧ Rd encC 3 w' A2 n2 (pkL 2 l r) ∧ n2 ≤ n ∧ n2 ≤ c2 ∧ Below w.heap.size w w' := by
  have kP := fun w1 (a : Rd encC 3 w1 A n l) (b : Rd encC 3 w1 A' m r) => alg_pick_false A A' n m c d l r w1 a b hnc hmd hnm
  go_enter Tryd.func24, Tryd.ntmps24
  go_wp2_with fail
  go_at_call 52
  refine (kP _ hR hS).mono ?_
  rintro e w1 ⟨A2, n2, c2, rfl, h1, h2, h3, hb1⟩
  go_wp2_with fail
  go_ret
  exact ⟨A2, n2, c2, rfl, h1, h2, h3, hb1⟩
set_option maxHeartbeats 4000000 in
theorem alg_Disjoint (A A' : Option Addr) (n m c d : Nat) (l r : List (Int × Int × Int)) (w : World) (hR : Rd encC 3 w A n l) (hS : Rd encC 3 w A' m r) (hnc : n ≤ c) (hmd : m ≤ d) (hnm : n + m ≤ 1000000) :
    Calls Tryd.prog 26 #[.slice A n c, .slice A' m d] w fun e w' => e = .returned (.bool (djB l r)) ∧ Below w.heap.size w w' := by
  rcases both_ways l r with h1 | ⟨h1, h2⟩ | ⟨h1, h2⟩
  · have HE := Lib.hid (show djB l r = false by unfold djB; rw [h1]; rfl)
    have kR := fun w1 (h : Rd encC 3 w1 A n l) => pat_RightV (A := A) (n := n) (c := c) h1 w1 h (by omega)
    clear h1
    go_enter Tryd.func26, Tryd.ntmps26
    go_wp2_with fail; go_at_call 28; refine (kR _ hR).mono ?_; rintro e w1 ⟨rfl, hb1⟩; have hs1 := hb1.size; (try simp only [World.size_alloc, World.size_drew, World.size_setCell] at hs1)
    go_wp2_with fail
    go_ret
    exact ⟨ret_bool HE.out.symm, by (repeat' (first | exact Below.refl _ _ | assumption | (refine Below.alloc ?_ ?_ _) | (refine Below.setCell ?_ ?_ _) | (refine Below.drew ?_) | (refine below_drewN ?_ _) | (refine below_after (Ext.below _) ?_ ?_) | (refine below_after (by assumption) ?_ ?_) | (simp; done) | omega | (simp; omega)))⟩
  · have HE := Lib.hid (show djB l r = false by unfold djB; rw [h1, h2]; rfl)
    have kR := fun w1 (h : Rd encC 3 w1 A n l) => pat_RightV (A := A) (n := n) (c := c) h1 w1 h (by omega)
    have kS := fun w1 (h : Rd encC 3 w1 A' m r) => pat_RightV (A := A') (n := m) (c := d) h2 w1 h (by omega)
    clear h1 h2
    go_enter Tryd.func26, Tryd.ntmps26
    go_wp2_with fail; go_at_call 28; refine (kR _ hR).mono ?_; rintro e w1 ⟨rfl, hb1⟩; have hs1 := hb1.size; (try simp only [World.size_alloc, World.size_drew, World.size_setCell] at hs1)
    go_wp2_with fail; go_at_call 28; refine (kS _ (hS.of hb1)).mono ?_; rintro e w2 ⟨rfl, hb2⟩; have hs2 := hb2.size; (try simp only [World.size_alloc, World.size_drew, World.size_setCell] at hs2)
    go_wp2_with fail
    go_ret
    exact ⟨ret_bool HE.out.symm, by (repeat' (first | exact Below.refl _ _ | assumption | (refine Below.alloc ?_ ?_ _) | (refine Below.setCell ?_ ?_ _) | (refine Below.drew ?_) | (refine below_drewN ?_ _) | (refine below_after (Ext.below _) ?_ ?_) | (refine below_after (by assumption) ?_ ?_) | (simp; done) | omega | (simp; omega)))⟩
  · have HE := Lib.hid (show djB l r = (resL 1 l r).isEmpty by unfold djB; rw [h1, h2]; rfl)
    have HP := Lib.hid (pkL_yes 1 h1 h2)
    have kR := fun w1 (h : Rd encC 3 w1 A n l) => pat_RightV (A := A) (n := n) (c := c) h1 w1 h (by omega)
    have kS := fun w1 (h : Rd encC 3 w1 A' m r) => pat_RightV (A := A') (n := m) (c := d) h2 w1 h (by omega)
    clear h1 h2
    go_enter Tryd.func26, Tryd.ntmps26
    go_wp2_with fail; go_at_call 28; refine (kR _ hR).mono ?_; rintro e w1 ⟨rfl, hb1⟩; have hs1 := hb1.size; (try simp only [World.size_alloc, World.size_drew, World.size_setCell] at hs1)
    go_wp2_with fail; go_at_call 28; refine (kS _ (hS.of hb1)).mono ?_; rintro e w2 ⟨rfl, hb2⟩; have hs2 := hb2.size; (try simp only [World.size_alloc, World.size_drew, World.size_setCell] at hs2)
    go_wp2_with fail; go_at_call 25; refine (alg_And _ _ _ _ _ _ _ _ _ (hR.of (by (repeat' (first | exact Below.refl _ _ | assumption | (refine Below.alloc ?_ ?_ _) | (refine Below.setCell ?_ ?_ _) | (refine Below.drew ?_) | (refine below_drewN ?_ _) | (refine below_after (Ext.below _) ?_ ?_) | (refine below_after (by assumption) ?_ ?_) | (simp; done) | omega | (simp; omega))))) (hS.of (by (repeat' (first | exact Below.refl _ _ | assumption | (refine Below.alloc ?_ ?_ _) | (refine Below.setCell ?_ ?_ _) | (refine Below.drew ?_) | (refine below_drewN ?_ _) | (refine below_after (Ext.below _) ?_ ?_) | (refine below_after (by assumption) ?_ ?_) | (simp; done) | omega | (simp; omega))))) hnc hmd hnm).mono ?_; rintro e w3 ⟨A3, n3, c3, rfl, hR3, hn3, hc3, hb3⟩; have hs3 := hb3.size; (try simp only [World.size_alloc, World.size_drew, World.size_setCell] at hs3)
    rw [HP.out] at hR3
    have hlen := hR3.len
    have e3 : ((n3 : Int) == 0) = (resL 1 l r).isEmpty := by
      rw [← hlen]
      cases resL 1 l r with
      | nil => rfl
      | cons x q => simp; omega
    clear hlen
    go_wp2_with fail
    go_ret
    exact ⟨ret_bool HE.out.symm, by (repeat' (first | exact Below.refl _ _ | assumption | (refine Below.alloc ?_ ?_ _) | (refine Below.setCell ?_ ?_ _) | (refine Below.drew ?_) | (refine below_drewN ?_ _) | (refine below_after (Ext.below _) ?_ ?_) | (refine below_after (by assumption) ?_ ?_) | (simp; done) | omega | (simp; omega)))⟩
end Go.Proofs.YtenckggfgbkfnaaDoor
