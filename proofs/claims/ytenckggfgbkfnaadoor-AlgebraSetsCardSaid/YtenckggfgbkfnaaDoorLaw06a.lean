/- The walks of AlgebraOvers, AlgebraTurns, AlgebraParts and AlgebraCells. -/
import Derived.Test.YtenckggfgbkfnaaDoorAwake06
namespace Go.Proofs.YtenckggfgbkfnaaDoor
open Go Go.RowKit
set_option linter.unusedSimpArgs false
set_option linter.unusedVariables false
set_option maxRecDepth 100000
attribute [local go_sem ↓ high] eq_cl neq_cl eq_pt neq_pt eq_box neq_box
theorem few06 {A B : Option Addr} {n c m d : Nat} {q : Bool} (h : decide (n ≤ 300 ∧ m ≤ 300) = q) (w : World) : Calls Tryd.prog 10 #[.slice A n c, .slice B m d] w fun e w' => e = .returned (.bool q) ∧ w = w' := by
  rcases (show (decide ((n : Int) ≤ 300) = false ∧ q = false) ∨ (decide ((n : Int) ≤ 300) = true ∧ decide ((m : Int) ≤ 300) = false ∧ q = false) ∨ (decide ((n : Int) ≤ 300) = true ∧ decide ((m : Int) ≤ 300) = true ∧ q = true) by
    rw [← h]; simp only [decide_eq_true_eq, decide_eq_false_iff_not]; omega) with ⟨d1, rfl⟩ | ⟨d1, d2, rfl⟩ | ⟨d1, d2, rfl⟩
  all_goals
    clear h
    go_enter Tryd.func10, Tryd.ntmps10
    go_wp2
    go_ret
    exact ⟨rfl, rfl⟩
set_option maxHeartbeats 8000000 in
theorem law_overs (A B : Option Addr) (n m c d : Nat) (l r : List (Int × Int × Int)) (w : World) (hM : Mx w) (hR : Rd encC 3 w A n l) (hS : Rd encC 3 w B m r) (hnc : n ≤ c) (hmd : m ≤ d) :
    Calls Tryd.prog 3 #[.slice A n c, .slice B m d] w fun e w' => e = .returned (.bool true) ∧ Below w.heap.size w w' := by
  cases hf : decide (n ≤ 300 ∧ m ≤ 300) with
  | false =>
    have kF := fun w1 => few06 (A := A) (B := B) (c := c) (d := d) hf w1
    clear hf
    go_enter Tryd.func3, Tryd.ntmps3
    go_wp2_with (first | (go_at_call 10; refine (kF _).mono ?_; rintro e w' ⟨rfl, rfl⟩) | (go_at_call 11; refine (awake_06 _ hM).mono ?_; rintro e w5 ⟨rfl, hb5⟩; obtain ⟨hc5, hf5⟩ := bcell hb5; have hs5 := hb5.size; (try simp only [World.size_alloc, World.size_setCell, World.size_drew] at hc5 hf5); (try simp at hs5)))
    go_ret
    exact ⟨rfl, by (repeat' (first | exact Below.refl _ _ | assumption | (refine Below.alloc ?_ ?_ _) | (refine Below.setCell ?_ ?_ _) | (refine Below.drew ?_) | (refine below_drewN ?_ _) | (refine below_after (Ext.below _) ?_ ?_) | (refine below_after (by assumption) ?_ ?_) | (simp; done) | omega | (simp; omega)))⟩
  | true =>
    have kF := fun w1 => few06 (A := A) (B := B) (c := c) (d := d) hf w1
    obtain ⟨hn, hm⟩ := of_decide_eq_true hf
    have kO := fun w1 h1 h2 => alg_Over A B n m c d l r w1 h1 h2 hnc hmd (by omega)
    have kP := fun w1 h1 h2 => ref06_Over A B n m c d l r w1 h1 h2 (by omega)
    have kX := fun w1 h1 h2 => alg_Xor A B n m c d l r w1 h1 h2 hnc hmd (by omega)
    have kY := fun w1 h1 h2 => ref06_Xor A B n m c d l r w1 h1 h2 (by omega)
    generalize alE 0 l r = q0 at kO kP
    generalize alL 0 l r = s0 at kO kP
    generalize alE 3 l r = q3 at kX kY
    generalize alL 3 l r = s3 at kX kY
    clear hf
    go_enter Tryd.func3, Tryd.ntmps3
    go_wp2_with fail
    (go_at_call 10; refine (kF _).mono ?_; rintro e w' ⟨rfl, rfl⟩)
    go_wp2_with fail; go_at_call 12; refine (kO _ hR hS).mono ?_; rintro e w1 ⟨A1, n1, c1, rfl, h1, hn1, hc1, hb1⟩; have hs1 := hb1.size; (try simp only [World.size_alloc, World.size_drew, World.size_setCell] at hs1)
    have hR1 := hR.of hb1
    have hS1 := hS.of hb1
    go_wp2_with fail; go_at_call 13; refine (kP _ hR1 hS1).mono ?_; rintro e w2 ⟨A2, n2, c2, rfl, h2, hn2, hb2⟩; have hs2 := hb2.size; (try simp only [World.size_alloc, World.size_drew, World.size_setCell] at hs2)
    have hR2 := hR1.of hb2
    have hS2 := hS1.of hb2
    go_wp2_with fail; go_at_call 14; refine (kX _ hR2 hS2).mono ?_; rintro e w3 ⟨A3, n3, c3, rfl, h3, hn3, hc3, hb3⟩; have hs3 := hb3.size; (try simp only [World.size_alloc, World.size_drew, World.size_setCell] at hs3)
    have hR3 := hR2.of hb3
    have hS3 := hS2.of hb3
    go_wp2_with fail; go_at_call 15; refine (kY _ hR3 hS3).mono ?_; rintro e w4 ⟨A4, n4, c4, rfl, h4, hn4, hb4⟩; have hs4 := hb4.size; (try simp only [World.size_alloc, World.size_drew, World.size_setCell] at hs4)
    go_wp2_with fail; go_at_call 16; refine (ref05_SameV (sameL_self s0) _ _ _ _ _ _ _ (h1.of (by (repeat' (first | exact Below.refl _ _ | assumption | (refine Below.alloc ?_ ?_ _) | (refine Below.setCell ?_ ?_ _) | (refine Below.drew ?_) | (refine below_drewN ?_ _) | (refine below_after (Ext.below _) ?_ ?_) | (refine below_after (by assumption) ?_ ?_) | (simp; done) | omega | (simp; omega))))) (h2.of (by (repeat' (first | exact Below.refl _ _ | assumption | (refine Below.alloc ?_ ?_ _) | (refine Below.setCell ?_ ?_ _) | (refine Below.drew ?_) | (refine below_drewN ?_ _) | (refine below_after (Ext.below _) ?_ ?_) | (refine below_after (by assumption) ?_ ?_) | (simp; done) | omega | (simp; omega))))) (by omega) (by omega)).mono ?_; rintro e w5 ⟨rfl, hb5⟩; have hs5 := hb5.size; (try simp only [World.size_alloc, World.size_drew, World.size_setCell] at hs5)
    go_wp2_with fail; go_at_call 16; refine (ref05_SameV (sameL_self s3) _ _ _ _ _ _ _ (h3.of (by (repeat' (first | exact Below.refl _ _ | assumption | (refine Below.alloc ?_ ?_ _) | (refine Below.setCell ?_ ?_ _) | (refine Below.drew ?_) | (refine below_drewN ?_ _) | (refine below_after (Ext.below _) ?_ ?_) | (refine below_after (by assumption) ?_ ?_) | (simp; done) | omega | (simp; omega))))) (h4.of (by (repeat' (first | exact Below.refl _ _ | assumption | (refine Below.alloc ?_ ?_ _) | (refine Below.setCell ?_ ?_ _) | (refine Below.drew ?_) | (refine below_drewN ?_ _) | (refine below_after (Ext.below _) ?_ ?_) | (refine below_after (by assumption) ?_ ?_) | (simp; done) | omega | (simp; omega))))) (by omega) (by omega)).mono ?_; rintro e w6 ⟨rfl, hb6⟩; have hs6 := hb6.size; (try simp only [World.size_alloc, World.size_drew, World.size_setCell] at hs6)
    go_wp2_with fail; go_at_call 11; refine (awake_06 _ (hM.of (by (repeat' (first | exact Below.refl _ _ | assumption | (refine Below.alloc ?_ ?_ _) | (refine Below.setCell ?_ ?_ _) | (refine Below.drew ?_) | (refine below_drewN ?_ _) | (refine below_after (Ext.below _) ?_ ?_) | (refine below_after (by assumption) ?_ ?_) | (simp; done) | omega | (simp; omega)))))).mono ?_; rintro e w7 ⟨rfl, hb7⟩; have hs7 := hb7.size; (try simp only [World.size_alloc, World.size_drew, World.size_setCell] at hs7)
    go_wp2_with fail
    go_ret
    exact ⟨rfl, by (repeat' (first | exact Below.refl _ _ | assumption | (refine Below.alloc ?_ ?_ _) | (refine Below.setCell ?_ ?_ _) | (refine Below.drew ?_) | (refine below_drewN ?_ _) | (refine below_after (Ext.below _) ?_ ?_) | (refine below_after (by assumption) ?_ ?_) | (simp; done) | omega | (simp; omega)))⟩
set_option maxHeartbeats 8000000 in
theorem law_aturns (k : Int) (A : Option Addr) (n c : Nat) (l : List (Int × Int × Int)) (w : World) (hM : Mx w) (hR : Rd encC 3 w A n l) (hnc : n ≤ c) :
    Calls Tryd.prog 4 #[.int .i64 k, .slice A n c] w fun e w' => e = .returned (.bool true) ∧ Below w.heap.size w w' := by
  by_cases hf : n ≤ 300
  · have df : decide (300 < (n : Int)) = false := decide_eq_false (by omega)
    have kT := fun w1 h0 h1 => alg_Turn k A n c l w1 h0 h1 (by omega)
    have kU := fun w1 h1 => ref06_Turn k A n c l w1 h1 (by omega)
    have kH := fun w1 h1 => alg_Home A n c l w1 h1 (by omega) hnc
    have kI := fun w1 h1 => ref06_Home A n c l w1 h1 (by omega)
    generalize tuE l = q0 at kT kU
    generalize tuL k l = s0 at kT kU
    generalize hmL l = s1 at kH kI
    go_enter Tryd.func4, Tryd.ntmps4
    go_wp2_with fail; go_at_call 17; refine (kT _ hM hR).mono ?_; rintro e w1 ⟨A1, n1, c1, rfl, h1, hn1, hc1, hb1⟩; have hs1 := hb1.size; (try simp only [World.size_alloc, World.size_drew, World.size_setCell] at hs1)
    have hR1 := hR.of hb1
    go_wp2_with fail; go_at_call 18; refine (kU _ hR1).mono ?_; rintro e w2 ⟨A2, n2, c2, rfl, h2, hn2, hb2⟩; have hs2 := hb2.size; (try simp only [World.size_alloc, World.size_drew, World.size_setCell] at hs2)
    have hR2 := hR1.of hb2
    go_wp2_with fail; go_at_call 16; refine (ref05_SameV (sameL_self s0) _ _ _ _ _ _ _ (h1.of (by (repeat' (first | exact Below.refl _ _ | assumption | (refine Below.alloc ?_ ?_ _) | (refine Below.setCell ?_ ?_ _) | (refine Below.drew ?_) | (refine below_drewN ?_ _) | (refine below_after (Ext.below _) ?_ ?_) | (refine below_after (by assumption) ?_ ?_) | (simp; done) | omega | (simp; omega))))) h2 (by omega) (by omega)).mono ?_; rintro e w3 ⟨rfl, hb3⟩; have hs3 := hb3.size; (try simp only [World.size_alloc, World.size_drew, World.size_setCell] at hs3)
    have hR3 := hR2.of hb3
    go_wp2_with fail; go_at_call 19; refine (kH _ hR3).mono ?_; rintro e w4 ⟨A4, c4, rfl, h4, hc4, hb4⟩; have hs4 := hb4.size; (try simp only [World.size_alloc, World.size_drew, World.size_setCell] at hs4)
    have hR4 := hR3.of hb4
    go_wp2_with fail; go_at_call 20; refine (kI _ hR4).mono ?_; rintro e w5 ⟨A5, c5, rfl, h5, hb5⟩; have hs5 := hb5.size; (try simp only [World.size_alloc, World.size_drew, World.size_setCell] at hs5)
    go_wp2_with fail; go_at_call 16; refine (ref05_SameV (sameL_self s1) _ _ _ _ _ _ _ (h4.of (by (repeat' (first | exact Below.refl _ _ | assumption | (refine Below.alloc ?_ ?_ _) | (refine Below.setCell ?_ ?_ _) | (refine Below.drew ?_) | (refine below_drewN ?_ _) | (refine below_after (Ext.below _) ?_ ?_) | (refine below_after (by assumption) ?_ ?_) | (simp; done) | omega | (simp; omega))))) h5 (by omega) (by omega)).mono ?_; rintro e w6 ⟨rfl, hb6⟩; have hs6 := hb6.size; (try simp only [World.size_alloc, World.size_drew, World.size_setCell] at hs6)
    go_wp2_with fail; go_at_call 11; refine (awake_06 _ (hM.of (by (repeat' (first | exact Below.refl _ _ | assumption | (refine Below.alloc ?_ ?_ _) | (refine Below.setCell ?_ ?_ _) | (refine Below.drew ?_) | (refine below_drewN ?_ _) | (refine below_after (Ext.below _) ?_ ?_) | (refine below_after (by assumption) ?_ ?_) | (simp; done) | omega | (simp; omega)))))).mono ?_; rintro e w7 ⟨rfl, hb7⟩; have hs7 := hb7.size; (try simp only [World.size_alloc, World.size_drew, World.size_setCell] at hs7)
    go_wp2_with fail
    go_ret
    exact ⟨rfl, by (repeat' (first | exact Below.refl _ _ | assumption | (refine Below.alloc ?_ ?_ _) | (refine Below.setCell ?_ ?_ _) | (refine Below.drew ?_) | (refine below_drewN ?_ _) | (refine below_after (Ext.below _) ?_ ?_) | (refine below_after (by assumption) ?_ ?_) | (simp; done) | omega | (simp; omega)))⟩
  · have df : decide (300 < (n : Int)) = true := decide_eq_true (by omega)
    go_enter Tryd.func4, Tryd.ntmps4
    go_wp2_with (first | (go_at_call 11; refine (awake_06 _ hM).mono ?_; rintro e w5 ⟨rfl, hb5⟩; obtain ⟨hc5, hf5⟩ := bcell hb5; have hs5 := hb5.size; (try simp only [World.size_alloc, World.size_setCell, World.size_drew] at hc5 hf5); (try simp at hs5)))
    go_ret
    exact ⟨rfl, by (repeat' (first | exact Below.refl _ _ | assumption | (refine Below.alloc ?_ ?_ _) | (refine Below.setCell ?_ ?_ _) | (refine Below.drew ?_) | (refine below_drewN ?_ _) | (refine below_after (Ext.below _) ?_ ?_) | (refine below_after (by assumption) ?_ ?_) | (simp; done) | omega | (simp; omega)))⟩
theorem res_small {l r : List (Int × Int × Int)} (k : Nat) (h : l.length + r.length ≤ 5000) (h1 : rightC l = true) (h2 : rightC r = true) : alE k l r = 0 ∧ alL k l r = resL k l r ∧ rightC (resL k l r) = true := by
  have hl := evL_len k l r
  have he := alE_ok (k := k) h1 h2 (by omega)
  exact ⟨he, alL_ok he, res_right k h1 h2 (by omega)⟩
set_option maxHeartbeats 8000000 in
theorem law_aparts (A B : Option Addr) (n m c d : Nat) (l r : List (Int × Int × Int)) (w : World) (hM : Mx w) (hR : Rd encC 3 w A n l) (hS : Rd encC 3 w B m r) (hnc : n ≤ c) (hmd : m ≤ d) :
    Calls Tryd.prog 6 #[.slice A n c, .slice B m d] w fun e w' => e = .returned (.bool true) ∧ Below w.heap.size w w' := by
  cases hf : decide (n ≤ 300 ∧ m ≤ 300) with
  | false =>
    have kF := fun w1 => few06 (A := A) (B := B) (c := c) (d := d) hf w1
    clear hf
    go_enter Tryd.func6, Tryd.ntmps6
    go_wp2_with (first | (go_at_call 10; refine (kF _).mono ?_; rintro e w' ⟨rfl, rfl⟩) | (go_at_call 11; refine (awake_06 _ hM).mono ?_; rintro e w5 ⟨rfl, hb5⟩; obtain ⟨hc5, hf5⟩ := bcell hb5; have hs5 := hb5.size; (try simp only [World.size_alloc, World.size_setCell, World.size_drew] at hc5 hf5); (try simp at hs5)))
    go_ret
    exact ⟨rfl, by (repeat' (first | exact Below.refl _ _ | assumption | (refine Below.alloc ?_ ?_ _) | (refine Below.setCell ?_ ?_ _) | (refine Below.drew ?_) | (refine below_drewN ?_ _) | (refine below_after (Ext.below _) ?_ ?_) | (refine below_after (by assumption) ?_ ?_) | (simp; done) | omega | (simp; omega)))⟩
  | true =>
    have kF := fun w1 => few06 (A := A) (B := B) (c := c) (d := d) hf w1
    obtain ⟨hn, hm⟩ := of_decide_eq_true hf
    clear hf
    cases hr : rightC l with
    | false =>
      have kR := fun w1 (h : Rd encC 3 w1 A n l) => ref05_RightV (A := A) (n := n) (c := c) hr w1 h (by omega)
      clear hr
      go_enter Tryd.func6, Tryd.ntmps6
      go_wp2_with fail
      (go_at_call 10; refine (kF _).mono ?_; rintro e w' ⟨rfl, rfl⟩)
      go_wp2_with fail; go_at_call 23; refine (kR _ hR).mono ?_; rintro e w1 ⟨rfl, hb1⟩; have hs1 := hb1.size; (try simp only [World.size_alloc, World.size_drew, World.size_setCell] at hs1)
      go_wp2_with fail; go_at_call 11; refine (awake_06 _ (hM.of (by (repeat' (first | exact Below.refl _ _ | assumption | (refine Below.alloc ?_ ?_ _) | (refine Below.setCell ?_ ?_ _) | (refine Below.drew ?_) | (refine below_drewN ?_ _) | (refine below_after (Ext.below _) ?_ ?_) | (refine below_after (by assumption) ?_ ?_) | (simp; done) | omega | (simp; omega)))))).mono ?_; rintro e w2 ⟨rfl, hb2⟩; have hs2 := hb2.size; (try simp only [World.size_alloc, World.size_drew, World.size_setCell] at hs2)
      go_wp2_with fail
      go_ret
      exact ⟨rfl, by (repeat' (first | exact Below.refl _ _ | assumption | (refine Below.alloc ?_ ?_ _) | (refine Below.setCell ?_ ?_ _) | (refine Below.drew ?_) | (refine below_drewN ?_ _) | (refine below_after (Ext.below _) ?_ ?_) | (refine below_after (by assumption) ?_ ?_) | (simp; done) | omega | (simp; omega)))⟩
    | true =>
    have kR := fun w1 (h : Rd encC 3 w1 A n l) => ref05_RightV (A := A) (n := n) (c := c) hr w1 h (by omega)
    cases hr2 : rightC r with
    | false =>
      have kS := fun w1 (h : Rd encC 3 w1 B m r) => ref05_RightV (A := B) (n := m) (c := d) hr2 w1 h (by omega)
      clear hr hr2
      go_enter Tryd.func6, Tryd.ntmps6
      go_wp2_with fail
      (go_at_call 10; refine (kF _).mono ?_; rintro e w' ⟨rfl, rfl⟩)
      go_wp2_with fail; go_at_call 23; refine (kR _ hR).mono ?_; rintro e w1 ⟨rfl, hb1⟩; have hs1 := hb1.size; (try simp only [World.size_alloc, World.size_drew, World.size_setCell] at hs1)
      have hS1 := hS.of hb1
      go_wp2_with fail; go_at_call 23; refine (kS _ hS1).mono ?_; rintro e w2 ⟨rfl, hb2⟩; have hs2 := hb2.size; (try simp only [World.size_alloc, World.size_drew, World.size_setCell] at hs2)
      go_wp2_with fail; go_at_call 11; refine (awake_06 _ (hM.of (by (repeat' (first | exact Below.refl _ _ | assumption | (refine Below.alloc ?_ ?_ _) | (refine Below.setCell ?_ ?_ _) | (refine Below.drew ?_) | (refine below_drewN ?_ _) | (refine below_after (Ext.below _) ?_ ?_) | (refine below_after (by assumption) ?_ ?_) | (simp; done) | omega | (simp; omega)))))).mono ?_; rintro e w3 ⟨rfl, hb3⟩; have hs3 := hb3.size; (try simp only [World.size_alloc, World.size_drew, World.size_setCell] at hs3)
      go_wp2_with fail
      go_ret
      exact ⟨rfl, by (repeat' (first | exact Below.refl _ _ | assumption | (refine Below.alloc ?_ ?_ _) | (refine Below.setCell ?_ ?_ _) | (refine Below.drew ?_) | (refine below_drewN ?_ _) | (refine below_after (Ext.below _) ?_ ?_) | (refine below_after (by assumption) ?_ ?_) | (simp; done) | omega | (simp; omega)))⟩
    | true =>
      have kS := fun w1 (h : Rd encC 3 w1 B m r) => ref05_RightV (A := B) (n := m) (c := d) hr2 w1 h (by omega)
      have hln := hR.len
      have hlm := hS.len
      have n1 := res_len1 (k := 2) (Or.inr rfl) hr hr2
      have n2 := res_len1 (k := 1) (Or.inl rfl) hr hr2
      have n3 := res_len1 (k := 2) (Or.inr rfl) hr2 hr
      have s1 := res_right 2 hr hr2 (by omega)
      have s2 := res_right 1 hr hr2 (by omega)
      have s3 := res_right 2 hr2 hr (by omega)
      have e1 := res_small 0 (by omega) s1 s2
      have e2 := res_small 0 (by omega) s1 s3
      have e3 := res_small 3 (by omega) hr hr2
      rw [parts_whole hr hr2] at e1
      rw [parts_differ hr hr2] at e2
      have kW := fun w1 h1 h2 => alg_Without A B n m c d l r w1 h1 h2 hnc hmd (by omega)
      have kN := fun w1 h1 h2 => alg_And A B n m c d l r w1 h1 h2 hnc hmd (by omega)
      have kV := fun w1 h1 h2 => alg_Without B A m n d c r l w1 h1 h2 hmd hnc (by omega)
      have kX := fun w1 h1 h2 => alg_Xor A B n m c d l r w1 h1 h2 hnc hmd (by omega)
      rw [pkL_yes 2 hr hr2] at kW
      rw [pkL_yes 1 hr hr2] at kN
      rw [pkL_yes 2 hr2 hr] at kV
      rw [e3.1, e3.2.1] at kX
      have hdj : djB l r = (resL 1 l r).isEmpty := by unfold djB; rw [hr, hr2]; rfl
      have hdj2 : djB (resL 2 l r) r = true := by unfold djB; rw [s1, hr2, parts_apart hr hr2]; rfl
      have kD := fun w1 h1 h2 => alg_Disjoint A B n m c d l r w1 h1 h2 hnc hmd (by omega)
      rw [hdj] at kD
      have kO1 := fun (A1 A2 : Option Addr) (p1 p2 c1 c2 : Nat) w1 h1 h2 => alg_Over A1 A2 p1 p2 c1 c2 (resL 2 l r) (resL 1 l r) w1 h1 h2
      have kO2 := fun (A1 A2 : Option Addr) (p1 p2 c1 c2 : Nat) w1 h1 h2 => alg_Over A1 A2 p1 p2 c1 c2 (resL 2 l r) (resL 2 r l) w1 h1 h2
      rw [e1.1, e1.2.1] at kO1
      rw [e2.1, e2.2.1] at kO2
      have kE := fun (A1 : Option Addr) (p1 c1 : Nat) w1 h1 h2 => alg_Disjoint A1 B p1 m c1 d (resL 2 l r) r w1 h1 h2
      rw [hdj2] at kE
      clear hr hr2 n1 n2 n3 s1 s2 s3 e1 e2 e3 hdj hdj2
      have hlen : ∀ (p : Nat), (resL 1 l r).length = p → (resL 1 l r).isEmpty = ((p : Int) == 0) := fun p hp => by
        rw [Bool.eq_iff_iff, List.isEmpty_iff_length_eq_zero, hp]; simp
      generalize resL 2 l r = t1 at *
      generalize resL 1 l r = t2 at *
      generalize resL 2 r l = t3 at *
      generalize resL 3 l r = t4 at *
      replace hlen := Lib.hid hlen
      clear hln hlm
      go_enter Tryd.func6, Tryd.ntmps6
      go_wp2_with fail
      (go_at_call 10; refine (kF _).mono ?_; rintro e w' ⟨rfl, rfl⟩)
      go_wp2_with fail; go_at_call 23; refine (kR _ hR).mono ?_; rintro e w1 ⟨rfl, hb1⟩; have hs1 := hb1.size; (try simp only [World.size_alloc, World.size_drew, World.size_setCell] at hs1)
      have hR1 := hR.of hb1
      have hS1 := hS.of hb1
      go_wp2_with fail; go_at_call 23; refine (kS _ hS1).mono ?_; rintro e w2 ⟨rfl, hb2⟩; have hs2 := hb2.size; (try simp only [World.size_alloc, World.size_drew, World.size_setCell] at hs2)
      have hR2 := hR1.of hb2
      have hS2 := hS1.of hb2
      go_wp2_with fail; go_at_call 24; refine (kW _ hR2 hS2).mono ?_; rintro e w3 ⟨A3, n3, c3, rfl, h3, hn3, hc3, hb3⟩; have hs3 := hb3.size; (try simp only [World.size_alloc, World.size_drew, World.size_setCell] at hs3)
      have hR3 := hR2.of hb3
      have hS3 := hS2.of hb3
      go_wp2_with fail; go_at_call 25; refine (kN _ hR3 hS3).mono ?_; rintro e w4 ⟨A4, n4, c4, rfl, h4, hn4, hc4, hb4⟩; have hs4 := hb4.size; (try simp only [World.size_alloc, World.size_drew, World.size_setCell] at hs4)
      have hR4 := hR3.of hb4
      have hS4 := hS3.of hb4
      go_wp2_with fail; go_at_call 24; refine (kV _ hS4 hR4).mono ?_; rintro e w5 ⟨A5, n5, c5, rfl, h5, hn5, hc5, hb5⟩; have hs5 := hb5.size; (try simp only [World.size_alloc, World.size_drew, World.size_setCell] at hs5)
      have hR5 := hR4.of hb5
      have hS5 := hS4.of hb5
      have g3 := (h3.of hb4).of hb5
      have g4 := h4.of hb5
      go_wp2_with fail; go_at_call 12; refine (kO1 _ _ _ _ _ _ _ g3 g4 hc3 hc4 (by omega)).mono ?_; rintro e w6 ⟨A6, n6, c6, rfl, h6, hn6, hc6, hb6⟩; have hs6 := hb6.size; (try simp only [World.size_alloc, World.size_drew, World.size_setCell] at hs6)
      have g3 := g3.of hb6
      have g4 := g4.of hb6
      have g5 := h5.of hb6
      go_wp2_with fail; go_at_call 12; refine (kO2 _ _ _ _ _ _ _ g3 g5 hc3 hc5 (by omega)).mono ?_; rintro e w7 ⟨A7, n7, c7, rfl, h7, hn7, hc7, hb7⟩; have hs7 := hb7.size; (try simp only [World.size_alloc, World.size_drew, World.size_setCell] at hs7)
      have hR7 := (hR5.of hb6).of hb7
      have hS7 := (hS5.of hb6).of hb7
      have g3 := g3.of hb7
      have g4 := g4.of hb7
      have g6 := h6.of hb7
      go_wp2_with fail; go_at_call 14; refine (kX _ hR7 hS7).mono ?_; rintro e w8 ⟨A8, n8, c8, rfl, h8, hn8, hc8, hb8⟩; have hs8 := hb8.size; (try simp only [World.size_alloc, World.size_drew, World.size_setCell] at hs8)
      have hR8 := hR7.of hb8
      have hS8 := hS7.of hb8
      have g3 := g3.of hb8
      have hB8 : Below w.heap.size w w8 := by (repeat' (first | exact Below.refl _ _ | assumption | (refine Below.alloc ?_ ?_ _) | (refine Below.setCell ?_ ?_ _) | (refine Below.drew ?_) | (refine below_drewN ?_ _) | (refine below_after (Ext.below _) ?_ ?_) | (refine below_after (by assumption) ?_ ?_) | (simp; done) | omega | (simp; omega)))
      have g6 := g6.of hb8
      have g7 := h7.of hb8
      have hl4 := g4.len
      replace hlen := hlen.out _ hl4
      rw [hlen] at kD
      clear hl4 hlen
      have hs0 := hB8.size
      clear hb1 hb2 hb3 hb4 hb5 hb6 hb7 hb8 hs1 hs2 hs3 hs4 hs5 hs6 hs7 hs8
      go_wp2_with fail; go_at_call 16; refine (ref05_SameV (sameL_self l) _ _ _ _ _ _ _ g6 hR8 (by omega) (by omega)).mono ?_; rintro e w9 ⟨rfl, hb9⟩; have hs9 := hb9.size; (try simp only [World.size_alloc, World.size_drew, World.size_setCell] at hs9)
      go_wp2_with fail; go_at_call 16; refine (ref05_SameV (sameL_self t4) _ _ _ _ _ _ _ (g7.of hb9) (h8.of hb9) (by omega) (by omega)).mono ?_; rintro e w10 ⟨rfl, hb10⟩; have hs10 := hb10.size; (try simp only [World.size_alloc, World.size_drew, World.size_setCell] at hs10)
      have hR10 := (hR8.of hb9).of hb10
      have hS10 := (hS8.of hb9).of hb10
      have g3 := (g3.of hb9).of hb10
      go_wp2_with fail; go_at_call 26; refine (kD _ hR10 hS10).mono ?_; rintro e w11 ⟨rfl, hb11⟩; have hs11 := hb11.size; (try simp only [World.size_alloc, World.size_drew, World.size_setCell] at hs11)
      go_wp2_with fail; go_at_call 26; refine (kE _ _ _ _ (g3.of hb11) (hS10.of hb11) hc3 hmd (by omega)).mono ?_; rintro e w12 ⟨rfl, hb12⟩; have hs12 := hb12.size; (try simp only [World.size_alloc, World.size_drew, World.size_setCell] at hs12)
      go_wp2_with fail; go_at_call 11; refine (awake_06 _ (hM.of (by (repeat' (first | exact Below.refl _ _ | assumption | (refine Below.alloc ?_ ?_ _) | (refine Below.setCell ?_ ?_ _) | (refine Below.drew ?_) | (refine below_drewN ?_ _) | (refine below_after (Ext.below _) ?_ ?_) | (refine below_after (by assumption) ?_ ?_) | (simp; done) | omega | (simp; omega)))))).mono ?_; rintro e w13 ⟨rfl, hb13⟩; have hs13 := hb13.size; (try simp only [World.size_alloc, World.size_drew, World.size_setCell] at hs13)
      go_wp2_with fail
      go_ret
      exact ⟨rfl, by (repeat' (first | exact Below.refl _ _ | assumption | (refine Below.alloc ?_ ?_ _) | (refine Below.setCell ?_ ?_ _) | (refine Below.drew ?_) | (refine below_drewN ?_ _) | (refine below_after (Ext.below _) ?_ ?_) | (refine below_after (by assumption) ?_ ?_) | (simp; done) | omega | (simp; omega)))⟩
end Go.Proofs.YtenckggfgbkfnaaDoor
