/- The walk of AlgebraCells. -/
import Derived.Test.YtenckggfgbkfnaaDoorLaw06a
namespace Go.Proofs.YtenckggfgbkfnaaDoor
open Go Go.RowKit
set_option linter.unusedSimpArgs false
set_option linter.unusedVariables false
set_option maxRecDepth 100000
attribute [local go_sem ↓ high] eq_cl neq_cl eq_pt neq_pt eq_box neq_box
set_option maxHeartbeats 8000000 in
theorem law_acells (A B : Option Addr) (n m c d : Nat) (l r : List (Int × Int × Int)) (x y : Int) (w : World) (hM : Mx w) (hR : Rd encC 3 w A n l) (hS : Rd encC 3 w B m r) (hnc : n ≤ c) (hmd : m ≤ d) :
    Calls Tryd.prog 7 #[.slice A n c, .slice B m d, .agg #[.int .i64 x, .int .i64 y]] w fun e w' => e = .returned (.bool true) ∧ Below w.heap.size w w' := by
  cases hf : decide (n ≤ 300 ∧ m ≤ 300) with
  | false =>
    have kF := fun w1 => few06 (A := A) (B := B) (c := c) (d := d) hf w1
    clear hf
    go_enter Tryd.func7, Tryd.ntmps7
    go_wp2_with (first | (go_at_call 10; refine (kF _).mono ?_; rintro e w' ⟨rfl, rfl⟩) | (go_at_call 11; refine (awake_06 _ (hM.of (by (repeat' (first | exact Below.refl _ _ | assumption | (refine Below.alloc ?_ ?_ _) | (refine Below.setCell ?_ ?_ _) | (refine Below.drew ?_) | (refine below_drewN ?_ _) | (refine below_after (Ext.below _) ?_ ?_) | (refine below_after (by assumption) ?_ ?_) | (simp; done) | omega | (simp; omega)))))).mono ?_; rintro e w5 ⟨rfl, hb5⟩; obtain ⟨hc5, hf5⟩ := bcell hb5; have hs5 := hb5.size; (try simp only [World.size_alloc, World.size_setCell, World.size_drew] at hc5 hf5); (try simp at hs5)))
    go_ret
    exact ⟨rfl, by (repeat' (first | exact Below.refl _ _ | assumption | (refine Below.alloc ?_ ?_ _) | (refine Below.setCell ?_ ?_ _) | (refine Below.drew ?_) | (refine below_drewN ?_ _) | (refine below_after (Ext.below _) ?_ ?_) | (refine below_after (by assumption) ?_ ?_) | (simp; done) | omega | (simp; omega)))⟩
  | true =>
    have kF := fun w1 => few06 (A := A) (B := B) (c := c) (d := d) hf w1
    obtain ⟨hn, hm⟩ := of_decide_eq_true hf
    clear hf
    cases hr : rightC l with
    | false =>
      have kR := fun w1 (h : Rd encC 3 w1 A n l) => ref05_RightV (A := A) (n := n) (c := c) hr w1 h (by omega)
      clear hr
      go_enter Tryd.func7, Tryd.ntmps7
      go_wp2_with fail
      (go_at_call 10; refine (kF _).mono ?_; rintro e w' ⟨rfl, rfl⟩)
      go_wp2_with fail; go_at_call 23; refine (kR _ (hR.of (by (repeat' (first | exact Below.refl _ _ | assumption | (refine Below.alloc ?_ ?_ _) | (refine Below.setCell ?_ ?_ _) | (refine Below.drew ?_) | (refine below_drewN ?_ _) | (refine below_after (Ext.below _) ?_ ?_) | (refine below_after (by assumption) ?_ ?_) | (simp; done) | omega | (simp; omega)))))).mono ?_; rintro e w1 ⟨rfl, hb1⟩; have hs1 := hb1.size; (try simp only [World.size_alloc, World.size_drew, World.size_setCell] at hs1)
      go_wp2_with fail; go_at_call 11; refine (awake_06 _ (hM.of (by (repeat' (first | exact Below.refl _ _ | assumption | (refine Below.alloc ?_ ?_ _) | (refine Below.setCell ?_ ?_ _) | (refine Below.drew ?_) | (refine below_drewN ?_ _) | (refine below_after (Ext.below _) ?_ ?_) | (refine below_after (by assumption) ?_ ?_) | (simp; done) | omega | (simp; omega)))))).mono ?_; rintro e w2 ⟨rfl, hb2⟩; have hs2 := hb2.size; (try simp only [World.size_alloc, World.size_drew, World.size_setCell] at hs2)
      go_wp2_with fail
      go_ret
      exact ⟨rfl, by (repeat' (first | exact Below.refl _ _ | assumption | (refine Below.alloc ?_ ?_ _) | (refine Below.setCell ?_ ?_ _) | (refine Below.drew ?_) | (refine below_drewN ?_ _) | (refine below_after (Ext.below _) ?_ ?_) | (refine below_after (by assumption) ?_ ?_) | (simp; done) | omega | (simp; omega)))⟩
    | true =>
    have kR := fun w1 (h : Rd encC 3 w1 A n l) => ref05_RightV (A := A) (n := n) (c := c) hr w1 h (by omega)
    cases hr2 : rightC r with
    | false =>
      have kS := fun w1 (h : Rd encC 3 w1 B m r) => ref05_RightV (A := B) (n := m) (c := d) hr2 w1 h (by omega)
      clear hr hr2
      go_enter Tryd.func7, Tryd.ntmps7
      go_wp2_with fail
      (go_at_call 10; refine (kF _).mono ?_; rintro e w' ⟨rfl, rfl⟩)
      go_wp2_with fail; go_at_call 23; refine (kR _ (hR.of (by (repeat' (first | exact Below.refl _ _ | assumption | (refine Below.alloc ?_ ?_ _) | (refine Below.setCell ?_ ?_ _) | (refine Below.drew ?_) | (refine below_drewN ?_ _) | (refine below_after (Ext.below _) ?_ ?_) | (refine below_after (by assumption) ?_ ?_) | (simp; done) | omega | (simp; omega)))))).mono ?_; rintro e w1 ⟨rfl, hb1⟩; have hs1 := hb1.size; (try simp only [World.size_alloc, World.size_drew, World.size_setCell] at hs1)
      go_wp2_with fail; go_at_call 23; refine (kS _ (hS.of (by (repeat' (first | exact Below.refl _ _ | assumption | (refine Below.alloc ?_ ?_ _) | (refine Below.setCell ?_ ?_ _) | (refine Below.drew ?_) | (refine below_drewN ?_ _) | (refine below_after (Ext.below _) ?_ ?_) | (refine below_after (by assumption) ?_ ?_) | (simp; done) | omega | (simp; omega)))))).mono ?_; rintro e w2 ⟨rfl, hb2⟩; have hs2 := hb2.size; (try simp only [World.size_alloc, World.size_drew, World.size_setCell] at hs2)
      go_wp2_with fail; go_at_call 11; refine (awake_06 _ (hM.of (by (repeat' (first | exact Below.refl _ _ | assumption | (refine Below.alloc ?_ ?_ _) | (refine Below.setCell ?_ ?_ _) | (refine Below.drew ?_) | (refine below_drewN ?_ _) | (refine below_after (Ext.below _) ?_ ?_) | (refine below_after (by assumption) ?_ ?_) | (simp; done) | omega | (simp; omega)))))).mono ?_; rintro e w3 ⟨rfl, hb3⟩; have hs3 := hb3.size; (try simp only [World.size_alloc, World.size_drew, World.size_setCell] at hs3)
      go_wp2_with fail
      go_ret
      exact ⟨rfl, by (repeat' (first | exact Below.refl _ _ | assumption | (refine Below.alloc ?_ ?_ _) | (refine Below.setCell ?_ ?_ _) | (refine Below.drew ?_) | (refine below_drewN ?_ _) | (refine below_after (Ext.below _) ?_ ?_) | (refine below_after (by assumption) ?_ ?_) | (simp; done) | omega | (simp; omega)))⟩
    | true =>
      have kS := fun w1 (h : Rd encC 3 w1 B m r) => ref05_RightV (A := B) (n := m) (c := d) hr2 w1 h (by omega)
      have hln := hR.len
      have hlm := hS.len
      have e1 := res_small (l := l) (r := r) 0 (by omega) hr hr2
      have hv := cells_over hr hr2 x y
      have kO := fun w1 h1 h2 => alg_Over A B n m c d l r w1 h1 h2 hnc hmd (by omega)
      rw [e1.1, e1.2.1] at kO
      have kG := fun w1 h1 => pat_Get A n c l x y w1 h1 (by omega)
      have kH := fun w1 h1 => pat_Get B m d r x y w1 h1 (by omega)
      have kT := fun (A1 : Option Addr) (p c1 : Nat) w1 (h : Rd encC 3 w1 A1 p (resL 0 l r)) (hp : p ≤ 1000000) => pat_RightV (A := A1) (n := p) (c := c1) e1.2.2 w1 h (by omega)
      have kV := fun (A1 : Option Addr) (p c1 : Nat) w1 h1 h2 => pat_Get A1 p c1 (resL 0 l r) x y w1 h1 h2
      rw [hv] at kV
      clear hv e1 hr hr2 hln hlm
      generalize resL 0 l r = s at *
      generalize getC r x y = g2 at *
      generalize getC l x y = g1 at *
      rcases (show g1 = 0 ∨ ((g1 == 0) = false ∧ g1 ≠ 0) by simp; omega) with rfl | ⟨d1, d2⟩
      · rw [if_pos rfl] at kV
        go_enter Tryd.func7, Tryd.ntmps7
        have xb := PtAt.new w x y 39
        go_wp2_with fail
        (go_at_call 10; refine (kF _).mono ?_; rintro e w' ⟨rfl, rfl⟩)
        go_wp2_with fail; go_at_call 23; refine (kR _ (hR.of (by (repeat' (first | exact Below.refl _ _ | assumption | (refine Below.alloc ?_ ?_ _) | (refine Below.setCell ?_ ?_ _) | (refine Below.drew ?_) | (refine below_drewN ?_ _) | (refine below_after (Ext.below _) ?_ ?_) | (refine below_after (by assumption) ?_ ?_) | (simp; done) | omega | (simp; omega)))))).mono ?_; rintro e w1 ⟨rfl, hb1⟩; have hs1 := hb1.size; (try simp only [World.size_alloc, World.size_drew, World.size_setCell] at hs1)
        go_wp2_with fail; go_at_call 23; refine (kS _ (hS.of (by (repeat' (first | exact Below.refl _ _ | assumption | (refine Below.alloc ?_ ?_ _) | (refine Below.setCell ?_ ?_ _) | (refine Below.drew ?_) | (refine below_drewN ?_ _) | (refine below_after (Ext.below _) ?_ ?_) | (refine below_after (by assumption) ?_ ?_) | (simp; done) | omega | (simp; omega)))))).mono ?_; rintro e w2 ⟨rfl, hb2⟩; have hs2 := hb2.size; (try simp only [World.size_alloc, World.size_drew, World.size_setCell] at hs2)
        have xb := (xb.of hb1).of hb2
        have hR2 : Rd encC 3 w2 A n l := hR.of (by (repeat' (first | exact Below.refl _ _ | assumption | (refine Below.alloc ?_ ?_ _) | (refine Below.setCell ?_ ?_ _) | (refine Below.drew ?_) | (refine below_drewN ?_ _) | (refine below_after (Ext.below _) ?_ ?_) | (refine below_after (by assumption) ?_ ?_) | (simp; done) | omega | (simp; omega))))
        have hS2 : Rd encC 3 w2 B m r := hS.of (by (repeat' (first | exact Below.refl _ _ | assumption | (refine Below.alloc ?_ ?_ _) | (refine Below.setCell ?_ ?_ _) | (refine Below.drew ?_) | (refine below_drewN ?_ _) | (refine below_after (Ext.below _) ?_ ?_) | (refine below_after (by assumption) ?_ ?_) | (simp; done) | omega | (simp; omega))))
        have hB2 : Below w.heap.size w w2 := by (repeat' (first | exact Below.refl _ _ | assumption | (refine Below.alloc ?_ ?_ _) | (refine Below.setCell ?_ ?_ _) | (refine Below.drew ?_) | (refine below_drewN ?_ _) | (refine below_after (Ext.below _) ?_ ?_) | (refine below_after (by assumption) ?_ ?_) | (simp; done) | omega | (simp; omega)))
        have hs0 := hB2.size
        clear hb1 hb2 hs1 hs2
        go_wp2_with fail; go_at_call 12; refine (kO _ hR2 hS2).mono ?_; rintro e w3 ⟨A3, n3, c3, rfl, h3, hn3, hc3, hb3⟩; have hs3 := hb3.size; (try simp only [World.size_alloc, World.size_drew, World.size_setCell] at hs3)
        have xb3 := xb.of hb3
        have hR3 := hR2.of hb3
        obtain ⟨q0, q1, q2⟩ := id xb3
        go_wp2_with fail; go_at_call 27; refine (kG _ hR3).mono ?_; rintro e w4 ⟨rfl, hb4⟩; have hs4 := hb4.size; (try simp only [World.size_alloc, World.size_drew, World.size_setCell] at hs4)
        have xb4 := xb3.of hb4
        have hS4 := (hS2.of hb3).of hb4
        have h4 := h3.of hb4
        clear q0 q1 q2
        obtain ⟨q0, q1, q2⟩ := id xb4
        go_wp2_with fail; go_at_call 27; refine (kH _ hS4).mono ?_; rintro e w5 ⟨rfl, hb5⟩; have hs5 := hb5.size; (try simp only [World.size_alloc, World.size_drew, World.size_setCell] at hs5)
        have xb5 := xb4.of hb5
        have h5 := h4.of hb5
        clear q0 q1 q2
        go_wp2_with fail; go_at_call 28; refine (kT _ _ _ _ h5 (by omega)).mono ?_; rintro e w6 ⟨rfl, hb6⟩; have hs6 := hb6.size; (try simp only [World.size_alloc, World.size_drew, World.size_setCell] at hs6)
        have xb6 := xb5.of hb6
        have h6 := h5.of hb6
        obtain ⟨q0, q1, q2⟩ := id xb6
        go_wp2_with fail; go_at_call 27; refine (kV _ _ _ _ h6 (by omega)).mono ?_; rintro e w7 ⟨rfl, hb7⟩; have hs7 := hb7.size; (try simp only [World.size_alloc, World.size_drew, World.size_setCell] at hs7)
        go_wp2_with fail; go_at_call 11; refine (awake_06 _ (hM.of (by (repeat' (first | exact Below.refl _ _ | assumption | (refine Below.alloc ?_ ?_ _) | (refine Below.setCell ?_ ?_ _) | (refine Below.drew ?_) | (refine below_drewN ?_ _) | (refine below_after (Ext.below _) ?_ ?_) | (refine below_after (by assumption) ?_ ?_) | (simp; done) | omega | (simp; omega)))))).mono ?_; rintro e w8 ⟨rfl, hb8⟩; have hs8 := hb8.size; (try simp only [World.size_alloc, World.size_drew, World.size_setCell] at hs8)
        go_wp2_with fail
        go_ret
        exact ⟨rfl, by (repeat' (first | exact Below.refl _ _ | assumption | (refine Below.alloc ?_ ?_ _) | (refine Below.setCell ?_ ?_ _) | (refine Below.drew ?_) | (refine below_drewN ?_ _) | (refine below_after (Ext.below _) ?_ ?_) | (refine below_after (by assumption) ?_ ?_) | (simp; done) | omega | (simp; omega)))⟩
      · rw [if_neg d2] at kV
        clear d2
        go_enter Tryd.func7, Tryd.ntmps7
        have xb := PtAt.new w x y 39
        go_wp2_with fail
        (go_at_call 10; refine (kF _).mono ?_; rintro e w' ⟨rfl, rfl⟩)
        go_wp2_with fail; go_at_call 23; refine (kR _ (hR.of (by (repeat' (first | exact Below.refl _ _ | assumption | (refine Below.alloc ?_ ?_ _) | (refine Below.setCell ?_ ?_ _) | (refine Below.drew ?_) | (refine below_drewN ?_ _) | (refine below_after (Ext.below _) ?_ ?_) | (refine below_after (by assumption) ?_ ?_) | (simp; done) | omega | (simp; omega)))))).mono ?_; rintro e w1 ⟨rfl, hb1⟩; have hs1 := hb1.size; (try simp only [World.size_alloc, World.size_drew, World.size_setCell] at hs1)
        go_wp2_with fail; go_at_call 23; refine (kS _ (hS.of (by (repeat' (first | exact Below.refl _ _ | assumption | (refine Below.alloc ?_ ?_ _) | (refine Below.setCell ?_ ?_ _) | (refine Below.drew ?_) | (refine below_drewN ?_ _) | (refine below_after (Ext.below _) ?_ ?_) | (refine below_after (by assumption) ?_ ?_) | (simp; done) | omega | (simp; omega)))))).mono ?_; rintro e w2 ⟨rfl, hb2⟩; have hs2 := hb2.size; (try simp only [World.size_alloc, World.size_drew, World.size_setCell] at hs2)
        have xb := (xb.of hb1).of hb2
        have hR2 : Rd encC 3 w2 A n l := hR.of (by (repeat' (first | exact Below.refl _ _ | assumption | (refine Below.alloc ?_ ?_ _) | (refine Below.setCell ?_ ?_ _) | (refine Below.drew ?_) | (refine below_drewN ?_ _) | (refine below_after (Ext.below _) ?_ ?_) | (refine below_after (by assumption) ?_ ?_) | (simp; done) | omega | (simp; omega))))
        have hS2 : Rd encC 3 w2 B m r := hS.of (by (repeat' (first | exact Below.refl _ _ | assumption | (refine Below.alloc ?_ ?_ _) | (refine Below.setCell ?_ ?_ _) | (refine Below.drew ?_) | (refine below_drewN ?_ _) | (refine below_after (Ext.below _) ?_ ?_) | (refine below_after (by assumption) ?_ ?_) | (simp; done) | omega | (simp; omega))))
        have hB2 : Below w.heap.size w w2 := by (repeat' (first | exact Below.refl _ _ | assumption | (refine Below.alloc ?_ ?_ _) | (refine Below.setCell ?_ ?_ _) | (refine Below.drew ?_) | (refine below_drewN ?_ _) | (refine below_after (Ext.below _) ?_ ?_) | (refine below_after (by assumption) ?_ ?_) | (simp; done) | omega | (simp; omega)))
        have hs0 := hB2.size
        clear hb1 hb2 hs1 hs2
        go_wp2_with fail; go_at_call 12; refine (kO _ hR2 hS2).mono ?_; rintro e w3 ⟨A3, n3, c3, rfl, h3, hn3, hc3, hb3⟩; have hs3 := hb3.size; (try simp only [World.size_alloc, World.size_drew, World.size_setCell] at hs3)
        have xb3 := xb.of hb3
        have hR3 := hR2.of hb3
        obtain ⟨q0, q1, q2⟩ := id xb3
        go_wp2_with fail; go_at_call 27; refine (kG _ hR3).mono ?_; rintro e w4 ⟨rfl, hb4⟩; have hs4 := hb4.size; (try simp only [World.size_alloc, World.size_drew, World.size_setCell] at hs4)
        have xb4 := xb3.of hb4
        have h4 := h3.of hb4
        clear q0 q1 q2
        go_wp2_with fail; go_at_call 28; refine (kT _ _ _ _ h4 (by omega)).mono ?_; rintro e w6 ⟨rfl, hb6⟩; have hs6 := hb6.size; (try simp only [World.size_alloc, World.size_drew, World.size_setCell] at hs6)
        have xb6 := xb4.of hb6
        have h6 := h4.of hb6
        obtain ⟨q0, q1, q2⟩ := id xb6
        go_wp2_with fail; go_at_call 27; refine (kV _ _ _ _ h6 (by omega)).mono ?_; rintro e w7 ⟨rfl, hb7⟩; have hs7 := hb7.size; (try simp only [World.size_alloc, World.size_drew, World.size_setCell] at hs7)
        go_wp2_with fail; go_at_call 11; refine (awake_06 _ (hM.of (by (repeat' (first | exact Below.refl _ _ | assumption | (refine Below.alloc ?_ ?_ _) | (refine Below.setCell ?_ ?_ _) | (refine Below.drew ?_) | (refine below_drewN ?_ _) | (refine below_after (Ext.below _) ?_ ?_) | (refine below_after (by assumption) ?_ ?_) | (simp; done) | omega | (simp; omega)))))).mono ?_; rintro e w8 ⟨rfl, hb8⟩; have hs8 := hb8.size; (try simp only [World.size_alloc, World.size_drew, World.size_setCell] at hs8)
        go_wp2_with fail
        go_ret
        exact ⟨rfl, by (repeat' (first | exact Below.refl _ _ | assumption | (refine Below.alloc ?_ ?_ _) | (refine Below.setCell ?_ ?_ _) | (refine Below.drew ?_) | (refine below_drewN ?_ _) | (refine below_after (Ext.below _) ?_ ?_) | (refine below_after (by assumption) ?_ ?_) | (simp; done) | omega | (simp; omega)))⟩
end Go.Proofs.YtenckggfgbkfnaaDoor
