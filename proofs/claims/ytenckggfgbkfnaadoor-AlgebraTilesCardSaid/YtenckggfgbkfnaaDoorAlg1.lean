/- The contracts of algebra.Over, Xor, And, Without and Disjoint. -/
import Derived.Test.YtenckggfgbkfnaaDoorMrg2
namespace Go.Proofs.YtenckggfgbkfnaaDoor
open Go Go.RowKit
set_option linter.unusedSimpArgs false
set_option linter.unusedVariables false
set_option maxRecDepth 100000
attribute [local go_sem ↓ high] eq_cl neq_cl eq_pt neq_pt
theorem coll_new {B n c : Nat} {w : World} {A : Option Addr} {l : List (Int × Int × Int)} (h : Own encC 3 54 B w A n c l) (hB : B ≤ w.heap.size) : Coll B w.heap.size (w.alloc (.cells #[.slice A n c] 23)) l :=
  ⟨hB, A, n, c, heap_alloc_new w _, h.alloc _⟩
theorem alg_sized (A : Option Addr) (n c : Nat) (w : World) : Calls Tryd.prog 39 #[.slice A n c] w fun e w' => e = .returned (if 5000 < n then .tuple #[.slice none 0 0, .int .i64 6] else .tuple #[.slice A n c, .int .i64 0]) ∧ w = w' := by
  by_cases h : 5000 < n
  · have d : decide ((5000 : Int) < (n : Int)) = true := decide_eq_true (by omega)
    rw [if_pos h]
    go_enter Tryd.func39, Tryd.ntmps39
    go_wp2
    go_ret2
    exact ⟨rfl, rfl⟩
  · have d : decide ((5000 : Int) < (n : Int)) = false := decide_eq_false (by omega)
    rw [if_neg h]
    go_enter Tryd.func39, Tryd.ntmps39
    go_wp2
    go_ret2
    exact ⟨rfl, rfl⟩
theorem alg_sizedN {A : Option Addr} {n c : Nat} (h : 5000 < n) (w : World) : Calls Tryd.prog 39 #[.slice A n c] w fun e w' => e = .returned (.tuple #[.slice none 0 0, .int .i64 6]) ∧ w = w' := by
  have := alg_sized A n c w; rwa [if_pos h] at this
theorem alg_sizedY {A : Option Addr} {n c : Nat} (h : n ≤ 5000) (w : World) : Calls Tryd.prog 39 #[.slice A n c] w fun e w' => e = .returned (.tuple #[.slice A n c, .int .i64 0]) ∧ w = w' := by
  have := alg_sized A n c w; rwa [if_neg (by omega)] at this
theorem both_ways (a b : List (Int × Int × Int)) : (rightC a = false) ∨ (rightC a = true ∧ rightC b = false) ∨ (rightC a = true ∧ rightC b = true) := by
  cases rightC a <;> cases rightC b <;> simp
set_option maxHeartbeats 4000000 in
theorem alg_Over (A A' : Option Addr) (n m c d : Nat) (l r : List (Int × Int × Int)) (w : World) (hR : Rd encC 3 w A n l) (hS : Rd encC 3 w A' m r) (hnc : n ≤ c) (hmd : m ≤ d) (hnm : n + m ≤ 1000000) :
    Calls Tryd.prog 12 #[.slice A n c, .slice A' m d] w fun e w' => ∃ A2 n2 c2, e = .returned (.tuple #[.slice A2 n2 c2, .int .i64 (alE 0 l r)]) ∧ Rd encC 3 w' A2 n2 (alL 0 l r) ∧ n2 ≤ n + m ∧ n2 ≤ c2 ∧ Below w.heap.size w w' := by
  rcases both_ways l r with h1 | ⟨h1, h2⟩ | ⟨h1, h2⟩
  · have HE := Lib.hid (alE_bad 0 (a := l) (b := r) (.inl h1))
    have kR := fun w1 (h : Rd encC 3 w1 A n l) => pat_RightV (A := A) (n := n) (c := c) h1 w1 h (by omega)
    clear h1
    go_enter Tryd.func12, Tryd.ntmps12
    go_wp2_with fail; go_at_call 28; refine (kR _ hR).mono ?_; rintro e w1 ⟨rfl, hb1⟩; have hs1 := hb1.size; (try simp only [World.size_alloc, World.size_drew, World.size_setCell] at hs1)
    go_wp2_with fail
    go_ret2
    exact ⟨none, 0, 0, ret_pe HE.out.symm, by rw [alL_no HE.out (by omega)]; exact Rd.nil_, by omega, by omega, by (repeat' (first | exact Below.refl _ _ | assumption | (refine Below.alloc ?_ ?_ _) | (refine Below.setCell ?_ ?_ _) | (refine Below.drew ?_) | (refine below_drewN ?_ _) | (refine below_after (Ext.below _) ?_ ?_) | (refine below_after (by assumption) ?_ ?_) | (simp; done) | omega | (simp; omega)))⟩
  · have HE := Lib.hid (alE_bad 0 (a := l) (b := r) (.inr h2))
    have kR := fun w1 (h : Rd encC 3 w1 A n l) => pat_RightV (A := A) (n := n) (c := c) h1 w1 h (by omega)
    have kS := fun w1 (h : Rd encC 3 w1 A' m r) => pat_RightV (A := A') (n := m) (c := d) h2 w1 h (by omega)
    clear h1 h2
    go_enter Tryd.func12, Tryd.ntmps12
    go_wp2_with fail; go_at_call 28; refine (kR _ hR).mono ?_; rintro e w1 ⟨rfl, hb1⟩; have hs1 := hb1.size; (try simp only [World.size_alloc, World.size_drew, World.size_setCell] at hs1)
    go_wp2_with fail; go_at_call 28; refine (kS _ (hS.of hb1)).mono ?_; rintro e w2 ⟨rfl, hb2⟩; have hs2 := hb2.size; (try simp only [World.size_alloc, World.size_drew, World.size_setCell] at hs2)
    go_wp2_with fail
    go_ret2
    exact ⟨none, 0, 0, ret_pe HE.out.symm, by rw [alL_no HE.out (by omega)]; exact Rd.nil_, by omega, by omega, by (repeat' (first | exact Below.refl _ _ | assumption | (refine Below.alloc ?_ ?_ _) | (refine Below.setCell ?_ ?_ _) | (refine Below.drew ?_) | (refine below_drewN ?_ _) | (refine below_after (Ext.below _) ?_ ?_) | (refine below_after (by assumption) ?_ ?_) | (simp; done) | omega | (simp; omega)))⟩
  · have HZ := Lib.hid (fun h5 => alE_size (k := 0) h1 h2 h5)
    have HK := Lib.hid (fun h5 => alE_ok (k := 0) h1 h2 h5)
    have kR := fun w1 (h : Rd encC 3 w1 A n l) => pat_RightV (A := A) (n := n) (c := c) h1 w1 h (by omega)
    have kS := fun w1 (h : Rd encC 3 w1 A' m r) => pat_RightV (A := A') (n := m) (c := d) h2 w1 h (by omega)
    have hlr : (resL 0 l r).length ≤ n + m := by rw [← hR.len, ← hS.len]; exact evL_len 0 l r
    have ew : IntKind.i64.wrap ((n : Int) + (m : Int)) = (n : Int) + (m : Int) := IntWalk.i64_in _ (by omega)
    have ez : (0 : Int) ≤ (n : Int) + (m : Int) := by omega
    clear h1 h2
    go_enter Tryd.func12, Tryd.ntmps12
    go_wp2_with fail; go_at_call 28; refine (kR _ hR).mono ?_; rintro e w1 ⟨rfl, hb1⟩; have hs1 := hb1.size; (try simp only [World.size_alloc, World.size_drew, World.size_setCell] at hs1)
    go_wp2_with fail; go_at_call 28; refine (kS _ (hS.of hb1)).mono ?_; rintro e w2 ⟨rfl, hb2⟩; have hs2 := hb2.size; (try simp only [World.size_alloc, World.size_drew, World.size_setCell] at hs2)
    have hB2 : Below w.heap.size w w2 := by (repeat' (first | exact Below.refl _ _ | assumption | (refine Below.alloc ?_ ?_ _) | (refine Below.setCell ?_ ?_ _) | (refine Below.drew ?_) | (refine below_drewN ?_ _) | (refine below_after (Ext.below _) ?_ ?_) | (refine below_after (by assumption) ?_ ?_) | (simp; done) | omega | (simp; omega)))
    have rR : RdB w2.heap.size w2 A n l := RdB.mk' (hR.of hB2)
    have rS : RdB w2.heap.size w2 A' m r := RdB.mk' (hS.of hB2)
    have hs0 := hB2.size
    clear hb1 hb2 hs1 hs2 kR kS hR hS
    go_wp2_with (first | (at_make; refine wpList_make_el rfl (.const (.int .i64 0)) (.tmp 19) 23 rfl encC 3 54 (.agg #[.int .i64 0, .int .i64 0, .int .i64 0]) 24 Tryd.underlying23 (by kernel_rfl) (w2.heap.size) _ (n + m) rfl rfl (by omega) (by omega) (by omega) (by first | omega | (simp; done) | (simp; omega)) ?_; intro w5 hown5 hb5; obtain ⟨hc5, hf5⟩ := bcell hb5; have hs5 := hb5.size; (try simp only [World.size_alloc, World.size_setCell, World.size_drew] at hc5 hf5); (try simp at hs5)))
    go_at_call 37
    refine (mrg_over w2.heap.size _ A A' n m c d l r _ (rR.of (by (repeat' (first | exact Below.refl _ _ | assumption | (refine Below.alloc ?_ ?_ _) | (refine Below.setCell ?_ ?_ _) | (refine Below.drew ?_) | (refine below_drewN ?_ _) | (refine below_after (Ext.below _) ?_ ?_) | (refine below_after (by assumption) ?_ ?_) | (simp; done) | omega | (simp; omega))))) (rS.of (by (repeat' (first | exact Below.refl _ _ | assumption | (refine Below.alloc ?_ ?_ _) | (refine Below.setCell ?_ ?_ _) | (refine Below.drew ?_) | (refine below_drewN ?_ _) | (refine below_after (Ext.below _) ?_ ?_) | (refine below_after (by assumption) ?_ ?_) | (simp; done) | omega | (simp; omega))))) hnc hmd hnm (coll_new hown5 (by omega))).mono ?_
    rintro e w6 ⟨rfl, hC6, hb6⟩
    have hB6 : Below w2.heap.size w2 w6 := (show Below w2.heap.size w2 _ from by (repeat' (first | exact Below.refl _ _ | assumption | (refine Below.alloc ?_ ?_ _) | (refine Below.setCell ?_ ?_ _) | (refine Below.drew ?_) | (refine below_drewN ?_ _) | (refine below_after (Ext.below _) ?_ ?_) | (refine below_after (by assumption) ?_ ?_) | (simp; done) | omega | (simp; omega)))).trans hb6
    obtain ⟨_, A6, n6, c6, h61, h62⟩ := hC6
    have g6 := cell_of_one h61
    have hcap := own_cap h62
    have hlen6 := h62.len
    clear h61 hb6
    by_cases h5 : n6 ≤ 5000
    · have HE := Lib.hid (HK.out (by rw [hlen6]; exact h5))
      have kz := fun w1 => alg_sizedY (A := A6) (c := c6) h5 w1
      have hR6 := h62.rd encC_len
      clear hlen6
      go_wp2_with fail
      (go_at_call 39; refine (kz _).mono ?_; rintro e w' ⟨rfl, rfl⟩)
      go_wp2_with fail
      go_ret2
      exact ⟨A6, n6, c6, ret_pe HE.out.symm, by rw [alL_ok HE.out]; exact hR6, by rw [hR6.len] at hlr; exact hlr, hcap, hB2.trans (hB6.mono (by omega))⟩
    · have HE := Lib.hid (HZ.out (by rw [hlen6]; omega))
      have kz := fun w1 => alg_sizedN (A := A6) (c := c6) (by omega : 5000 < n6) w1
      clear hlen6
      go_wp2_with fail
      (go_at_call 39; refine (kz _).mono ?_; rintro e w' ⟨rfl, rfl⟩)
      go_wp2_with fail
      go_ret2
      exact ⟨none, 0, 0, ret_pe HE.out.symm, by rw [alL_no HE.out (by omega)]; exact Rd.nil_, by omega, by omega, hB2.trans (hB6.mono (by omega))⟩
set_option maxHeartbeats 4000000 in
theorem alg_Xor (A A' : Option Addr) (n m c d : Nat) (l r : List (Int × Int × Int)) (w : World) (hR : Rd encC 3 w A n l) (hS : Rd encC 3 w A' m r) (hnc : n ≤ c) (hmd : m ≤ d) (hnm : n + m ≤ 1000000) :
    Calls Tryd.prog 14 #[.slice A n c, .slice A' m d] w fun e w' => ∃ A2 n2 c2, e = .returned (.tuple #[.slice A2 n2 c2, .int .i64 (alE 3 l r)]) ∧ Rd encC 3 w' A2 n2 (alL 3 l r) ∧ n2 ≤ n + m ∧ n2 ≤ c2 ∧ Below w.heap.size w w' := by
  rcases both_ways l r with h1 | ⟨h1, h2⟩ | ⟨h1, h2⟩
  · have HE := Lib.hid (alE_bad 3 (a := l) (b := r) (.inl h1))
    have kR := fun w1 (h : Rd encC 3 w1 A n l) => pat_RightV (A := A) (n := n) (c := c) h1 w1 h (by omega)
    clear h1
    go_enter Tryd.func14, Tryd.ntmps14
    go_wp2_with fail; go_at_call 28; refine (kR _ hR).mono ?_; rintro e w1 ⟨rfl, hb1⟩; have hs1 := hb1.size; (try simp only [World.size_alloc, World.size_drew, World.size_setCell] at hs1)
    go_wp2_with fail
    go_ret2
    exact ⟨none, 0, 0, ret_pe HE.out.symm, by rw [alL_no HE.out (by omega)]; exact Rd.nil_, by omega, by omega, by (repeat' (first | exact Below.refl _ _ | assumption | (refine Below.alloc ?_ ?_ _) | (refine Below.setCell ?_ ?_ _) | (refine Below.drew ?_) | (refine below_drewN ?_ _) | (refine below_after (Ext.below _) ?_ ?_) | (refine below_after (by assumption) ?_ ?_) | (simp; done) | omega | (simp; omega)))⟩
  · have HE := Lib.hid (alE_bad 3 (a := l) (b := r) (.inr h2))
    have kR := fun w1 (h : Rd encC 3 w1 A n l) => pat_RightV (A := A) (n := n) (c := c) h1 w1 h (by omega)
    have kS := fun w1 (h : Rd encC 3 w1 A' m r) => pat_RightV (A := A') (n := m) (c := d) h2 w1 h (by omega)
    clear h1 h2
    go_enter Tryd.func14, Tryd.ntmps14
    go_wp2_with fail; go_at_call 28; refine (kR _ hR).mono ?_; rintro e w1 ⟨rfl, hb1⟩; have hs1 := hb1.size; (try simp only [World.size_alloc, World.size_drew, World.size_setCell] at hs1)
    go_wp2_with fail; go_at_call 28; refine (kS _ (hS.of hb1)).mono ?_; rintro e w2 ⟨rfl, hb2⟩; have hs2 := hb2.size; (try simp only [World.size_alloc, World.size_drew, World.size_setCell] at hs2)
    go_wp2_with fail
    go_ret2
    exact ⟨none, 0, 0, ret_pe HE.out.symm, by rw [alL_no HE.out (by omega)]; exact Rd.nil_, by omega, by omega, by (repeat' (first | exact Below.refl _ _ | assumption | (refine Below.alloc ?_ ?_ _) | (refine Below.setCell ?_ ?_ _) | (refine Below.drew ?_) | (refine below_drewN ?_ _) | (refine below_after (Ext.below _) ?_ ?_) | (refine below_after (by assumption) ?_ ?_) | (simp; done) | omega | (simp; omega)))⟩
  · have HZ := Lib.hid (fun h5 => alE_size (k := 3) h1 h2 h5)
    have HK := Lib.hid (fun h5 => alE_ok (k := 3) h1 h2 h5)
    have kR := fun w1 (h : Rd encC 3 w1 A n l) => pat_RightV (A := A) (n := n) (c := c) h1 w1 h (by omega)
    have kS := fun w1 (h : Rd encC 3 w1 A' m r) => pat_RightV (A := A') (n := m) (c := d) h2 w1 h (by omega)
    have hlr : (resL 3 l r).length ≤ n + m := by rw [← hR.len, ← hS.len]; exact evL_len 3 l r
    have ew : IntKind.i64.wrap ((n : Int) + (m : Int)) = (n : Int) + (m : Int) := IntWalk.i64_in _ (by omega)
    have ez : (0 : Int) ≤ (n : Int) + (m : Int) := by omega
    clear h1 h2
    go_enter Tryd.func14, Tryd.ntmps14
    go_wp2_with fail; go_at_call 28; refine (kR _ hR).mono ?_; rintro e w1 ⟨rfl, hb1⟩; have hs1 := hb1.size; (try simp only [World.size_alloc, World.size_drew, World.size_setCell] at hs1)
    go_wp2_with fail; go_at_call 28; refine (kS _ (hS.of hb1)).mono ?_; rintro e w2 ⟨rfl, hb2⟩; have hs2 := hb2.size; (try simp only [World.size_alloc, World.size_drew, World.size_setCell] at hs2)
    have hB2 : Below w.heap.size w w2 := by (repeat' (first | exact Below.refl _ _ | assumption | (refine Below.alloc ?_ ?_ _) | (refine Below.setCell ?_ ?_ _) | (refine Below.drew ?_) | (refine below_drewN ?_ _) | (refine below_after (Ext.below _) ?_ ?_) | (refine below_after (by assumption) ?_ ?_) | (simp; done) | omega | (simp; omega)))
    have rR : RdB w2.heap.size w2 A n l := RdB.mk' (hR.of hB2)
    have rS : RdB w2.heap.size w2 A' m r := RdB.mk' (hS.of hB2)
    have hs0 := hB2.size
    clear hb1 hb2 hs1 hs2 kR kS hR hS
    have hown5 : Own encC 3 54 w2.heap.size w2 none 0 0 [] := Own.nil_
    go_wp2_with fail
    go_at_call 37
    refine (mrg_xor w2.heap.size _ A A' n m c d l r _ (rR.of (by (repeat' (first | exact Below.refl _ _ | assumption | (refine Below.alloc ?_ ?_ _) | (refine Below.setCell ?_ ?_ _) | (refine Below.drew ?_) | (refine below_drewN ?_ _) | (refine below_after (Ext.below _) ?_ ?_) | (refine below_after (by assumption) ?_ ?_) | (simp; done) | omega | (simp; omega))))) (rS.of (by (repeat' (first | exact Below.refl _ _ | assumption | (refine Below.alloc ?_ ?_ _) | (refine Below.setCell ?_ ?_ _) | (refine Below.drew ?_) | (refine below_drewN ?_ _) | (refine below_after (Ext.below _) ?_ ?_) | (refine below_after (by assumption) ?_ ?_) | (simp; done) | omega | (simp; omega))))) hnc hmd hnm (coll_new hown5 (by omega))).mono ?_
    rintro e w6 ⟨rfl, hC6, hb6⟩
    have hB6 : Below w2.heap.size w2 w6 := (show Below w2.heap.size w2 _ from by (repeat' (first | exact Below.refl _ _ | assumption | (refine Below.alloc ?_ ?_ _) | (refine Below.setCell ?_ ?_ _) | (refine Below.drew ?_) | (refine below_drewN ?_ _) | (refine below_after (Ext.below _) ?_ ?_) | (refine below_after (by assumption) ?_ ?_) | (simp; done) | omega | (simp; omega)))).trans hb6
    obtain ⟨_, A6, n6, c6, h61, h62⟩ := hC6
    have g6 := cell_of_one h61
    have hcap := own_cap h62
    have hlen6 := h62.len
    clear h61 hb6
    by_cases h5 : n6 ≤ 5000
    · have HE := Lib.hid (HK.out (by rw [hlen6]; exact h5))
      have kz := fun w1 => alg_sizedY (A := A6) (c := c6) h5 w1
      have hR6 := h62.rd encC_len
      clear hlen6
      go_wp2_with fail
      (go_at_call 39; refine (kz _).mono ?_; rintro e w' ⟨rfl, rfl⟩)
      go_wp2_with fail
      go_ret2
      exact ⟨A6, n6, c6, ret_pe HE.out.symm, by rw [alL_ok HE.out]; exact hR6, by rw [hR6.len] at hlr; exact hlr, hcap, hB2.trans (hB6.mono (by omega))⟩
    · have HE := Lib.hid (HZ.out (by rw [hlen6]; omega))
      have kz := fun w1 => alg_sizedN (A := A6) (c := c6) (by omega : 5000 < n6) w1
      clear hlen6
      go_wp2_with fail
      (go_at_call 39; refine (kz _).mono ?_; rintro e w' ⟨rfl, rfl⟩)
      go_wp2_with fail
      go_ret2
      exact ⟨none, 0, 0, ret_pe HE.out.symm, by rw [alL_no HE.out (by omega)]; exact Rd.nil_, by omega, by omega, hB2.trans (hB6.mono (by omega))⟩
end Go.Proofs.YtenckggfgbkfnaaDoor
