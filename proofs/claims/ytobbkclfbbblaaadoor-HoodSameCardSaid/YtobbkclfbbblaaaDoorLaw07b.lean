/- The walks of HoodSame and HoodRight. -/
import Derived.Test.YtobbkclfbbblaaaDoorAlive07
import Derived.Test.YtobbkclfbbblaaaDoorLaw04d
namespace Go.Proofs.YtobbkclfbbblaaaDoor
open Go Go.RowKit
set_option linter.unusedSimpArgs false
set_option linter.unusedVariables false
set_option maxRecDepth 100000
attribute [local go_sem ↓ high] eq_pt neq_pt
theorem sameL_comm {α : Type} [DecidableEq α] (l r : List α) : sameL l r = sameL r l := by
  unfold sameL; rw [Bool.eq_iff_iff]; simp only [decide_eq_true_eq]; exact ⟨fun h => h.symm, fun h => h.symm⟩
theorem sameL_self {α : Type} [DecidableEq α] (l : List α) : sameL l l = true := by unfold sameL; simp
set_option maxHeartbeats 1000000 in
theorem law_hoodsame (A B : Option Addr) (n m c d : Nat) (l r : List (Int × Int)) (w : World) (hM : Mx w) (hR : Rd encP 2 w A n l) (hS : Rd encP 2 w B m r) :
    Calls Tryd.prog 10 #[.slice A n c, .slice B m d] w fun e w' => e = .returned (.bool true) ∧ Below w.heap.size w w' := by
  have hz := hM.1
  rcases Nat.lt_or_ge 100 n with h1 | h1
  · go_enter Tryd.func10, Tryd.ntmps10
    go_wp2_with (first | (go_at_call 39; refine (alive_07 _ (hM.of (by (repeat' (first | exact Below.refl _ _ | assumption | (refine Below.alloc ?_ ?_ _) | (refine Below.setCell ?_ ?_ _) | (refine Below.drew ?_) | (refine below_drewN ?_ _) | (refine below_after (Ext.below _) ?_ ?_) | (refine below_after (by assumption) ?_ ?_) | (simp; done) | omega | (simp; omega)))))).mono ?_; rintro e w5 ⟨rfl, hb5⟩; obtain ⟨hc5, hf5⟩ := bcell hb5; have hs5 := hb5.size; (try simp only [World.size_alloc, World.size_setCell, World.size_drew] at hc5 hf5); (try simp at hs5)))
    go_ret
    exact ⟨rfl, by (repeat' (first | exact Below.refl _ _ | assumption | (refine Below.alloc ?_ ?_ _) | (refine Below.setCell ?_ ?_ _) | (refine Below.drew ?_) | (refine below_drewN ?_ _) | (refine below_after (Ext.below _) ?_ ?_) | (refine below_after (by assumption) ?_ ?_) | (simp; done) | omega | (simp; omega)))⟩
  rcases Nat.lt_or_ge 100 m with h2 | h2
  · go_enter Tryd.func10, Tryd.ntmps10
    go_wp2_with (first | (go_at_call 39; refine (alive_07 _ (hM.of (by (repeat' (first | exact Below.refl _ _ | assumption | (refine Below.alloc ?_ ?_ _) | (refine Below.setCell ?_ ?_ _) | (refine Below.drew ?_) | (refine below_drewN ?_ _) | (refine below_after (Ext.below _) ?_ ?_) | (refine below_after (by assumption) ?_ ?_) | (simp; done) | omega | (simp; omega)))))).mono ?_; rintro e w5 ⟨rfl, hb5⟩; obtain ⟨hc5, hf5⟩ := bcell hb5; have hs5 := hb5.size; (try simp only [World.size_alloc, World.size_setCell, World.size_drew] at hc5 hf5); (try simp at hs5)))
    go_ret
    exact ⟨rfl, by (repeat' (first | exact Below.refl _ _ | assumption | (refine Below.alloc ?_ ?_ _) | (refine Below.setCell ?_ ?_ _) | (refine Below.drew ?_) | (refine below_drewN ?_ _) | (refine below_after (Ext.below _) ?_ ?_) | (refine below_after (by assumption) ?_ ?_) | (simp; done) | omega | (simp; omega)))⟩
  have hcomm := sameL_comm r l
  have hself := sameL_self l
  generalize hq : sameL l r = q at hcomm
  have c1 : ∀ w1 : World, Rd encP 2 w1 A n l → Rd encP 2 w1 B m r → Calls Tryd.prog 48 #[.slice A n c, .slice B m d] w1 fun e w' => e = .returned (.bool q) ∧ Below w1.heap.size w1 w' := fun w1 a b => by have := hood_Same A B n m c d l r w1 a b (by omega); rw [hq] at this; exact this
  have c2 : ∀ w1 : World, Rd encP 2 w1 A n l → Rd encP 2 w1 B m r → Calls Tryd.prog 34 #[.slice A n c, .slice B m d] w1 fun e w' => e = .returned (.bool q) ∧ Below w1.heap.size w1 w' := fun w1 a b => by have := ref_SameP A B n m c d l r w1 a b (by omega); rw [hq] at this; exact this
  have c3 : ∀ w1 : World, Rd encP 2 w1 A n l → Rd encP 2 w1 B m r → Calls Tryd.prog 48 #[.slice B m d, .slice A n c] w1 fun e w' => e = .returned (.bool q) ∧ Below w1.heap.size w1 w' := fun w1 a b => by have := hood_Same B A m n d c r l w1 b a (by omega); rw [hcomm] at this; exact this
  have c4 : ∀ w1 : World, Rd encP 2 w1 A n l → Calls Tryd.prog 48 #[.slice A n c, .slice A n c] w1 fun e w' => e = .returned (.bool true) ∧ Below w1.heap.size w1 w' := fun w1 a => by have := hood_Same A A n n c c l l w1 a a (by omega); rw [hself] at this; exact this
  clear hq hcomm hself
  go_enter Tryd.func10, Tryd.ntmps10
  go_wp2_with fail
  (go_at_call 48; refine (c1 _ hR hS).mono ?_; rintro e w1 ⟨rfl, hb1⟩; obtain ⟨hc1, hf1⟩ := bcell hb1; have hs1 := hb1.size; (try simp only [World.size_alloc, World.size_setCell, World.size_drew] at hc1 hf1); (try simp at hs1))
  go_wp2_with fail
  (go_at_call 34; refine (c2 _ (hR.of (by (repeat' (first | exact Below.refl _ _ | assumption | (refine Below.alloc ?_ ?_ _) | (refine Below.setCell ?_ ?_ _) | (refine Below.drew ?_) | (refine below_drewN ?_ _) | (refine below_after (Ext.below _) ?_ ?_) | (refine below_after (by assumption) ?_ ?_) | (simp; done) | omega | (simp; omega))))) (hS.of (by (repeat' (first | exact Below.refl _ _ | assumption | (refine Below.alloc ?_ ?_ _) | (refine Below.setCell ?_ ?_ _) | (refine Below.drew ?_) | (refine below_drewN ?_ _) | (refine below_after (Ext.below _) ?_ ?_) | (refine below_after (by assumption) ?_ ?_) | (simp; done) | omega | (simp; omega)))))).mono ?_; rintro e w2 ⟨rfl, hb2⟩; obtain ⟨hc2, hf2⟩ := bcell hb2; have hs2 := hb2.size; (try simp only [World.size_alloc, World.size_setCell, World.size_drew] at hc2 hf2); (try simp at hs2))
  cases q
  all_goals
    go_wp2_with fail
    (go_at_call 48; refine (c3 _ (hR.of (by (repeat' (first | exact Below.refl _ _ | assumption | (refine Below.alloc ?_ ?_ _) | (refine Below.setCell ?_ ?_ _) | (refine Below.drew ?_) | (refine below_drewN ?_ _) | (refine below_after (Ext.below _) ?_ ?_) | (refine below_after (by assumption) ?_ ?_) | (simp; done) | omega | (simp; omega))))) (hS.of (by (repeat' (first | exact Below.refl _ _ | assumption | (refine Below.alloc ?_ ?_ _) | (refine Below.setCell ?_ ?_ _) | (refine Below.drew ?_) | (refine below_drewN ?_ _) | (refine below_after (Ext.below _) ?_ ?_) | (refine below_after (by assumption) ?_ ?_) | (simp; done) | omega | (simp; omega)))))).mono ?_; rintro e w3 ⟨rfl, hb3⟩; obtain ⟨hc3, hf3⟩ := bcell hb3; have hs3 := hb3.size; (try simp only [World.size_alloc, World.size_setCell, World.size_drew] at hc3 hf3); (try simp at hs3))
    go_wp2_with fail
    (go_at_call 48; refine (c1 _ (hR.of (by (repeat' (first | exact Below.refl _ _ | assumption | (refine Below.alloc ?_ ?_ _) | (refine Below.setCell ?_ ?_ _) | (refine Below.drew ?_) | (refine below_drewN ?_ _) | (refine below_after (Ext.below _) ?_ ?_) | (refine below_after (by assumption) ?_ ?_) | (simp; done) | omega | (simp; omega))))) (hS.of (by (repeat' (first | exact Below.refl _ _ | assumption | (refine Below.alloc ?_ ?_ _) | (refine Below.setCell ?_ ?_ _) | (refine Below.drew ?_) | (refine below_drewN ?_ _) | (refine below_after (Ext.below _) ?_ ?_) | (refine below_after (by assumption) ?_ ?_) | (simp; done) | omega | (simp; omega)))))).mono ?_; rintro e w4 ⟨rfl, hb4⟩; obtain ⟨hc4, hf4⟩ := bcell hb4; have hs4 := hb4.size; (try simp only [World.size_alloc, World.size_setCell, World.size_drew] at hc4 hf4); (try simp at hs4))
    go_wp2_with fail
    (go_at_call 48; refine (c4 _ (hR.of (by (repeat' (first | exact Below.refl _ _ | assumption | (refine Below.alloc ?_ ?_ _) | (refine Below.setCell ?_ ?_ _) | (refine Below.drew ?_) | (refine below_drewN ?_ _) | (refine below_after (Ext.below _) ?_ ?_) | (refine below_after (by assumption) ?_ ?_) | (simp; done) | omega | (simp; omega)))))).mono ?_; rintro e w5 ⟨rfl, hb5⟩; obtain ⟨hc5, hf5⟩ := bcell hb5; have hs5 := hb5.size; (try simp only [World.size_alloc, World.size_setCell, World.size_drew] at hc5 hf5); (try simp at hs5))
    go_wp2_with fail
    (go_at_call 39; refine (alive_07 _ (hM.of (by (repeat' (first | exact Below.refl _ _ | assumption | (refine Below.alloc ?_ ?_ _) | (refine Below.setCell ?_ ?_ _) | (refine Below.drew ?_) | (refine below_drewN ?_ _) | (refine below_after (Ext.below _) ?_ ?_) | (refine below_after (by assumption) ?_ ?_) | (simp; done) | omega | (simp; omega)))))).mono ?_; rintro e w6 ⟨rfl, hb6⟩; obtain ⟨hc6, hf6⟩ := bcell hb6; have hs6 := hb6.size; (try simp only [World.size_alloc, World.size_setCell, World.size_drew] at hc6 hf6); (try simp at hs6))
    go_wp2_with fail
    go_ret
    exact ⟨rfl, by (repeat' (first | exact Below.refl _ _ | assumption | (refine Below.alloc ?_ ?_ _) | (refine Below.setCell ?_ ?_ _) | (refine Below.drew ?_) | (refine below_drewN ?_ _) | (refine below_after (Ext.below _) ?_ ?_) | (refine below_after (by assumption) ?_ ?_) | (simp; done) | omega | (simp; omega)))⟩
set_option maxHeartbeats 1000000 in
theorem law_hoodright (A : Option Addr) (n c : Nat) (l : List (Int × Int)) (w : World) (hM : Mx w) (hR : Rd encP 2 w A n l) :
    Calls Tryd.prog 9 #[.slice A n c] w fun e w' => e = .returned (.bool true) ∧ Below w.heap.size w w' := by
  have hz := hM.1
  rcases Nat.lt_or_ge 100 n with h1 | h1
  · go_enter Tryd.func9, Tryd.ntmps9
    go_wp2_with (first | (go_at_call 39; refine (alive_07 _ (hM.of (by (repeat' (first | exact Below.refl _ _ | assumption | (refine Below.alloc ?_ ?_ _) | (refine Below.setCell ?_ ?_ _) | (refine Below.drew ?_) | (refine below_drewN ?_ _) | (refine below_after (Ext.below _) ?_ ?_) | (refine below_after (by assumption) ?_ ?_) | (simp; done) | omega | (simp; omega)))))).mono ?_; rintro e w5 ⟨rfl, hb5⟩; obtain ⟨hc5, hf5⟩ := bcell hb5; have hs5 := hb5.size; (try simp only [World.size_alloc, World.size_setCell, World.size_drew] at hc5 hf5); (try simp at hs5)))
    go_ret
    exact ⟨rfl, by (repeat' (first | exact Below.refl _ _ | assumption | (refine Below.alloc ?_ ?_ _) | (refine Below.setCell ?_ ?_ _) | (refine Below.drew ?_) | (refine below_drewN ?_ _) | (refine below_after (Ext.below _) ?_ ?_) | (refine below_after (by assumption) ?_ ?_) | (simp; done) | omega | (simp; omega)))⟩
  rcases centL_at l with hc | ⟨i, hi, hil, hel⟩
  · have dc : decide (centL l < 0) = true := decide_eq_true hc
    clear hc
    go_enter Tryd.func9, Tryd.ntmps9
    go_wp2_with fail
    (go_at_call 44; refine (hood_Centre _ _ _ _ _ hR (by omega)).mono ?_; rintro e w1 ⟨rfl, hb1⟩; obtain ⟨hc1, hf1⟩ := bcell hb1; have hs1 := hb1.size; (try simp only [World.size_alloc, World.size_setCell, World.size_drew] at hc1 hf1); (try simp at hs1))
    go_wp2_with fail
    (go_at_call 41; refine (hood_Right _ _ _ _ _ (hR.of (by (repeat' (first | exact Below.refl _ _ | assumption | (refine Below.alloc ?_ ?_ _) | (refine Below.setCell ?_ ?_ _) | (refine Below.drew ?_) | (refine below_drewN ?_ _) | (refine below_after (Ext.below _) ?_ ?_) | (refine below_after (by assumption) ?_ ?_) | (simp; done) | omega | (simp; omega)))))).mono ?_; rintro e w2 ⟨rfl, hb2⟩; obtain ⟨hc2, hf2⟩ := bcell hb2; have hs2 := hb2.size; (try simp only [World.size_alloc, World.size_setCell, World.size_drew] at hc2 hf2); (try simp at hs2))
    go_wp2_with fail
    (go_at_call 45; refine (ref_Right7 _ _ _ _ _ (hR.of (by (repeat' (first | exact Below.refl _ _ | assumption | (refine Below.alloc ?_ ?_ _) | (refine Below.setCell ?_ ?_ _) | (refine Below.drew ?_) | (refine below_drewN ?_ _) | (refine below_after (Ext.below _) ?_ ?_) | (refine below_after (by assumption) ?_ ?_) | (simp; done) | omega | (simp; omega)))))).mono ?_; rintro e w3 ⟨rfl, hb3⟩; obtain ⟨hc3, hf3⟩ := bcell hb3; have hs3 := hb3.size; (try simp only [World.size_alloc, World.size_setCell, World.size_drew] at hc3 hf3); (try simp at hs3))
    go_wp2_with fail
    (go_at_call 42; refine (hood_Radius _ _ _ _ _ (hR.of (by (repeat' (first | exact Below.refl _ _ | assumption | (refine Below.alloc ?_ ?_ _) | (refine Below.setCell ?_ ?_ _) | (refine Below.drew ?_) | (refine below_drewN ?_ _) | (refine below_after (Ext.below _) ?_ ?_) | (refine below_after (by assumption) ?_ ?_) | (simp; done) | omega | (simp; omega))))) (by omega)).mono ?_; rintro e w4 ⟨rfl, hb4⟩; obtain ⟨hc4, hf4⟩ := bcell hb4; have hs4 := hb4.size; (try simp only [World.size_alloc, World.size_setCell, World.size_drew] at hc4 hf4); (try simp at hs4))
    go_wp2_with fail
    (go_at_call 46; refine (ref_Radius _ _ _ _ _ (hR.of (by (repeat' (first | exact Below.refl _ _ | assumption | (refine Below.alloc ?_ ?_ _) | (refine Below.setCell ?_ ?_ _) | (refine Below.drew ?_) | (refine below_drewN ?_ _) | (refine below_after (Ext.below _) ?_ ?_) | (refine below_after (by assumption) ?_ ?_) | (simp; done) | omega | (simp; omega))))) (by omega)).mono ?_; rintro e w5 ⟨rfl, hb5⟩; obtain ⟨hc5, hf5⟩ := bcell hb5; have hs5 := hb5.size; (try simp only [World.size_alloc, World.size_setCell, World.size_drew] at hc5 hf5); (try simp at hs5))
    go_wp2_with fail
    (go_at_call 47; refine (ref_Centre _ _ _ _ _ (hR.of (by (repeat' (first | exact Below.refl _ _ | assumption | (refine Below.alloc ?_ ?_ _) | (refine Below.setCell ?_ ?_ _) | (refine Below.drew ?_) | (refine below_drewN ?_ _) | (refine below_after (Ext.below _) ?_ ?_) | (refine below_after (by assumption) ?_ ?_) | (simp; done) | omega | (simp; omega))))) (by omega)).mono ?_; rintro e w6 ⟨rfl, hb6⟩; obtain ⟨hc6, hf6⟩ := bcell hb6; have hs6 := hb6.size; (try simp only [World.size_alloc, World.size_setCell, World.size_drew] at hc6 hf6); (try simp at hs6))
    go_wp2_with fail
    (go_at_call 39; refine (alive_07 _ (hM.of (by (repeat' (first | exact Below.refl _ _ | assumption | (refine Below.alloc ?_ ?_ _) | (refine Below.setCell ?_ ?_ _) | (refine Below.drew ?_) | (refine below_drewN ?_ _) | (refine below_after (Ext.below _) ?_ ?_) | (refine below_after (by assumption) ?_ ?_) | (simp; done) | omega | (simp; omega)))))).mono ?_; rintro e w7 ⟨rfl, hb7⟩; obtain ⟨hc7, hf7⟩ := bcell hb7; have hs7 := hb7.size; (try simp only [World.size_alloc, World.size_setCell, World.size_drew] at hc7 hf7); (try simp at hs7))
    go_wp2_with fail
    go_ret
    exact ⟨rfl, by (repeat' (first | exact Below.refl _ _ | assumption | (refine Below.alloc ?_ ?_ _) | (refine Below.setCell ?_ ?_ _) | (refine Below.drew ?_) | (refine below_drewN ?_ _) | (refine below_after (Ext.below _) ?_ ?_) | (refine below_after (by assumption) ?_ ?_) | (simp; done) | omega | (simp; omega)))⟩
  · have hin : i < n := by rw [hR.len] at hil; exact hil
    clear hil
    obtain ⟨x, y, b, o, hx, rfl, hbl, hcell, hcell2⟩ := hR.pt hin
    obtain ⟨rfl, rfl⟩ : (0 : Int) = x ∧ (0 : Int) = y := by have h2 := hx.out; rw [hel] at h2; simpa using h2
    have k1 : ∀ w1 : World, Rd encP 2 w1 (some ⟨b, o, none⟩) n l → Calls Tryd.prog 44 #[.slice (some ⟨b, o, none⟩) n c] w1 fun e w' => e = .returned (.int .i64 (i : Int)) ∧ Below w1.heap.size w1 w' := fun w1 a => by have := hood_Centre _ n c l w1 a (by omega); rw [hi] at this; exact this
    have k2 : ∀ w1 : World, Rd encP 2 w1 (some ⟨b, o, none⟩) n l → Calls Tryd.prog 47 #[.slice (some ⟨b, o, none⟩) n c] w1 fun e w' => e = .returned (.int .i64 (i : Int)) ∧ Below w1.heap.size w1 w' := fun w1 a => by have := ref_Centre _ n c l w1 a (by omega); rw [hi] at this; exact this
    clear hel hi hx
    have d1 : decide ((i : Int) < n) = true := decide_eq_true (by omega)
    have d2 : decide ((i : Int) < 0) = false := decide_eq_false (by omega)
    go_enter Tryd.func9, Tryd.ntmps9
    go_wp2_with fail
    (go_at_call 44; refine (k1 _ hR).mono ?_; rintro e w1 ⟨rfl, hb1⟩; obtain ⟨hc1, hf1⟩ := bcell hb1; have hs1 := hb1.size; (try simp only [World.size_alloc, World.size_setCell, World.size_drew] at hc1 hf1); (try simp at hs1))
    go_wp2_with fail
    (go_at_call 41; refine (hood_Right _ _ _ _ _ (hR.of (by (repeat' (first | exact Below.refl _ _ | assumption | (refine Below.alloc ?_ ?_ _) | (refine Below.setCell ?_ ?_ _) | (refine Below.drew ?_) | (refine below_drewN ?_ _) | (refine below_after (Ext.below _) ?_ ?_) | (refine below_after (by assumption) ?_ ?_) | (simp; done) | omega | (simp; omega)))))).mono ?_; rintro e w2 ⟨rfl, hb2⟩; obtain ⟨hc2, hf2⟩ := bcell hb2; have hs2 := hb2.size; (try simp only [World.size_alloc, World.size_setCell, World.size_drew] at hc2 hf2); (try simp at hs2))
    go_wp2_with fail
    (go_at_call 45; refine (ref_Right7 _ _ _ _ _ (hR.of (by (repeat' (first | exact Below.refl _ _ | assumption | (refine Below.alloc ?_ ?_ _) | (refine Below.setCell ?_ ?_ _) | (refine Below.drew ?_) | (refine below_drewN ?_ _) | (refine below_after (Ext.below _) ?_ ?_) | (refine below_after (by assumption) ?_ ?_) | (simp; done) | omega | (simp; omega)))))).mono ?_; rintro e w3 ⟨rfl, hb3⟩; obtain ⟨hc3, hf3⟩ := bcell hb3; have hs3 := hb3.size; (try simp only [World.size_alloc, World.size_setCell, World.size_drew] at hc3 hf3); (try simp at hs3))
    go_wp2_with fail
    (go_at_call 42; refine (hood_Radius _ _ _ _ _ (hR.of (by (repeat' (first | exact Below.refl _ _ | assumption | (refine Below.alloc ?_ ?_ _) | (refine Below.setCell ?_ ?_ _) | (refine Below.drew ?_) | (refine below_drewN ?_ _) | (refine below_after (Ext.below _) ?_ ?_) | (refine below_after (by assumption) ?_ ?_) | (simp; done) | omega | (simp; omega))))) (by omega)).mono ?_; rintro e w4 ⟨rfl, hb4⟩; obtain ⟨hc4, hf4⟩ := bcell hb4; have hs4 := hb4.size; (try simp only [World.size_alloc, World.size_setCell, World.size_drew] at hc4 hf4); (try simp at hs4))
    go_wp2_with fail
    (go_at_call 46; refine (ref_Radius _ _ _ _ _ (hR.of (by (repeat' (first | exact Below.refl _ _ | assumption | (refine Below.alloc ?_ ?_ _) | (refine Below.setCell ?_ ?_ _) | (refine Below.drew ?_) | (refine below_drewN ?_ _) | (refine below_after (Ext.below _) ?_ ?_) | (refine below_after (by assumption) ?_ ?_) | (simp; done) | omega | (simp; omega))))) (by omega)).mono ?_; rintro e w5 ⟨rfl, hb5⟩; obtain ⟨hc5, hf5⟩ := bcell hb5; have hs5 := hb5.size; (try simp only [World.size_alloc, World.size_setCell, World.size_drew] at hc5 hf5); (try simp at hs5))
    go_wp2_with fail
    (go_at_call 47; refine (k2 _ (hR.of (by (repeat' (first | exact Below.refl _ _ | assumption | (refine Below.alloc ?_ ?_ _) | (refine Below.setCell ?_ ?_ _) | (refine Below.drew ?_) | (refine below_drewN ?_ _) | (refine below_after (Ext.below _) ?_ ?_) | (refine below_after (by assumption) ?_ ?_) | (simp; done) | omega | (simp; omega)))))).mono ?_; rintro e w6 ⟨rfl, hb6⟩; obtain ⟨hc6, hf6⟩ := bcell hb6; have hs6 := hb6.size; (try simp only [World.size_alloc, World.size_setCell, World.size_drew] at hc6 hf6); (try simp at hs6))
    go_wp2_with fail
    (go_at_call 39; refine (alive_07 _ (hM.of (by (repeat' (first | exact Below.refl _ _ | assumption | (refine Below.alloc ?_ ?_ _) | (refine Below.setCell ?_ ?_ _) | (refine Below.drew ?_) | (refine below_drewN ?_ _) | (refine below_after (Ext.below _) ?_ ?_) | (refine below_after (by assumption) ?_ ?_) | (simp; done) | omega | (simp; omega)))))).mono ?_; rintro e w7 ⟨rfl, hb7⟩; obtain ⟨hc7, hf7⟩ := bcell hb7; have hs7 := hb7.size; (try simp only [World.size_alloc, World.size_setCell, World.size_drew] at hc7 hf7); (try simp at hs7))
    go_wp2_with fail
    go_ret
    exact ⟨rfl, by (repeat' (first | exact Below.refl _ _ | assumption | (refine Below.alloc ?_ ?_ _) | (refine Below.setCell ?_ ?_ _) | (refine Below.drew ?_) | (refine below_drewN ?_ _) | (refine below_after (Ext.below _) ?_ ?_) | (refine below_after (by assumption) ?_ ?_) | (simp; done) | omega | (simp; omega)))⟩
set_option maxHeartbeats 1000000 in
theorem law_hoodsyms (A : Option Addr) (n c : Nat) (l : List (Int × Int)) (w : World) (hM : Mx w) (hR : Rd encP 2 w A n l) :
    Calls Tryd.prog 11 #[.slice A n c] w fun e w' => e = .returned (.bool true) ∧ Below w.heap.size w w' := by
  have hz := hM.1
  rcases Nat.lt_or_ge 100 n with h1 | h1
  · go_enter Tryd.func11, Tryd.ntmps11
    go_wp2_with (first | (go_at_call 39; refine (alive_07 _ (hM.of (by (repeat' (first | exact Below.refl _ _ | assumption | (refine Below.alloc ?_ ?_ _) | (refine Below.setCell ?_ ?_ _) | (refine Below.drew ?_) | (refine below_drewN ?_ _) | (refine below_after (Ext.below _) ?_ ?_) | (refine below_after (by assumption) ?_ ?_) | (simp; done) | omega | (simp; omega)))))).mono ?_; rintro e w5 ⟨rfl, hb5⟩; obtain ⟨hc5, hf5⟩ := bcell hb5; have hs5 := hb5.size; (try simp only [World.size_alloc, World.size_setCell, World.size_drew] at hc5 hf5); (try simp at hs5)))
    go_ret
    exact ⟨rfl, by (repeat' (first | exact Below.refl _ _ | assumption | (refine Below.alloc ?_ ?_ _) | (refine Below.setCell ?_ ?_ _) | (refine Below.drew ?_) | (refine below_drewN ?_ _) | (refine below_after (Ext.below _) ?_ ?_) | (refine below_after (by assumption) ?_ ?_) | (simp; done) | omega | (simp; omega)))⟩
  have kR : ∀ w1 : World, Rd encP 2 w1 A n l → ∀ q, rightL l = q → Calls Tryd.prog 45 #[.slice A n c] w1 fun e w' => e = .returned (.bool q) ∧ Below w1.heap.size w1 w' := fun w1 a q hq => by have := ref_Right7 A n c l w1 a; rw [hq] at this; exact this
  go_enter Tryd.func11, Tryd.ntmps11
  go_wp2_with fail
  go_at_call 43
  refine (hood_Syms _ _ _ _ _ hM hR (by omega)).mono ?_
  rintro e w1 ⟨A1, n1, c1, rfl, hR1, hn1, hB1⟩
  have hRa := hR.of hB1
  go_wp2_with fail
  go_at_call 49
  refine (ref_Syms _ _ _ _ _ hRa (by omega)).mono ?_
  rintro e w2 ⟨A2, n2, c2, rfl, hR2, hn2, hb2⟩
  have hB2 := below_thru hB1 hb2
  have hR1 := hR1.of hb2
  have hRa := hRa.of hb2
  clear hB1 hb2
  go_wp2_with fail
  go_at_call 27
  refine (ref_SameV _ _ _ _ _ _ _ _ hR1 hR2 (by omega)).mono ?_
  rintro e w3 ⟨rfl, hb3⟩
  have hB3 := below_thru hB2 hb3
  have hR1 := hR1.of hb3
  have hRa := hRa.of hb3
  clear hB2 hb3 hR2
  go_wp2_with fail
  cases hq : rightL l with
  | false =>
    obtain rfl : n1 = 0 := by rw [← hR1.len]; unfold symsL; rw [hq]; rfl
    go_at_call 45
    refine (kR _ hRa _ hq).mono ?_
    rintro e w4 ⟨rfl, hb4⟩
    have hB4 := below_thru hB3 hb4
    clear hB3 hb4
    go_wp2_with fail
    go_at_call 39
    refine (alive_07 _ (hM.of hB4)).mono ?_
    rintro e w5 ⟨rfl, hb5⟩
    go_wp2_with fail
    go_ret
    exact ⟨rfl, below_thru hB4 hb5⟩
  | true =>
    go_at_call 45
    refine (kR _ hRa _ hq).mono ?_
    rintro e w4 ⟨rfl, hb4⟩
    have hB4 := below_thru hB3 hb4
    have hR1 := hR1.of hb4
    clear hB3 hb4
    go_wp2_with fail
    go_at_call 26
    refine (sym_Group _ _ _ _ _ (hM.of hB4) hR1 (by omega)).mono ?_
    rintro e w5 ⟨A5, n5, c5, rfl, hR5, hn5, hb5⟩
    rw [grp_symsL hq] at hR5
    have hB5 := below_thru hB4 hb5
    have hR1 := hR1.of hb5
    clear hB4 hb5
    go_wp2_with fail
    go_at_call 27
    refine (ref_SameV _ _ _ _ _ _ _ _ hR5 hR1 (by omega)).mono ?_
    rintro e w6 ⟨rfl, hb6⟩
    have hB6 := below_thru hB5 hb6
    clear hB5 hb6
    go_wp2_with fail
    go_at_call 39
    refine (alive_07 _ (hM.of hB6)).mono ?_
    rintro e w7 ⟨rfl, hb7⟩
    go_wp2_with fail
    go_ret
    exact ⟨rfl, below_thru hB6 hb7⟩
end Go.Proofs.YtobbkclfbbblaaaDoor
