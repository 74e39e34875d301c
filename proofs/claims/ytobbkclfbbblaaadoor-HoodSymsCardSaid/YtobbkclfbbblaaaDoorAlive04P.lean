/- The fixed examples of chapter 04: plain facts. -/
import Derived.Test.YtobbkclfbbblaaaDoorGrpT
import Derived.Test.YtobbkclfbbblaaaDoorOrbP
import Derived.Test.YtobbkclfbbblaaaDoorSym4
namespace Go.Proofs.YtobbkclfbbblaaaDoor
open Go Go.RowKit
set_option linter.unusedSimpArgs false
set_option linter.unusedVariables false
theorem over_dec {l : List Int} {S : Nat → Bool} (h0 : S 0 = true) (h1 : ∀ m, m ∈ l → S (r8 m) = true) (h2 : ∀ a : Nat, a < 8 → ∀ b : Nat, b < 8 → (S a && S b) = true → S (cm a b) = true) : Over l S :=
  ⟨h0, h1, fun a b ha hb h3 h4 => h2 a ha b hb (by simp [h3, h4])⟩
theorem filter_congr8 {p q : Nat → Bool} (h : ∀ k, k < 8 → p k = q k) : (List.range 8).filter p = (List.range 8).filter q :=
  List.filter_congr fun x hx => h x (by simpa using hx)
theorem grp_eq {l : List Int} {S : Nat → Bool} (h : ∀ k, k < 8 → grpB l k = S k) : grp l = ((List.range 8).filter S).map fun k => ((k : Nat) : Int) := by
  unfold grp; rw [filter_congr8 h]
theorem grp_2 : grp [2] = [0, 2] := by
  have h : ∀ k, k < 8 → grpB [2] k = (k == 0 || k == 2) := by
    refine grp_of (over_dec rfl (by decide) (by decide +kernel)) ?_
    intro k hk hs
    have hc : k = 0 ∨ k = 2 := by simpa using hs
    rcases hc with rfl | rfl
    · exact must_zero _
    · exact must_base (m := 2) (by simp)
  rw [grp_eq h]; rfl
theorem must_1 {l : List Int} (h : (1 : Int) ∈ l) : ∀ k, k < 4 → Must l k := by
  have m1 : Must l 1 := must_base h
  have m2 : Must l 2 := (show cm 1 1 = 2 by decide +kernel) ▸ must_comp (a := 1) (b := 1) (by omega) (by omega) m1 m1
  have m3 : Must l 3 := (show cm 1 2 = 3 by decide +kernel) ▸ must_comp (a := 1) (b := 2) (by omega) (by omega) m1 m2
  intro k hk
  have hc : k = 0 ∨ k = 1 ∨ k = 2 ∨ k = 3 := by omega
  rcases hc with rfl | rfl | rfl | rfl
  · exact must_zero _
  · exact m1
  · exact m2
  · exact m3
theorem grp_1_odd : anyOdd (grp [1]) = true := by
  have hm : grpB [1] 1 = true := grpB_iff.2 (must_1 (by simp) 1 (by omega))
  unfold anyOdd grp
  rw [List.any_map, List.any_filter, List.any_eq_true]
  exact ⟨1, by decide, by rw [hm]; decide⟩
theorem grp_14_len : (grp [1, 4]).length = 8 := by
  have m := must_1 (l := [1, 4]) (by simp)
  have m4 : Must [1, 4] 4 := must_base (m := 4) (by simp)
  have h : ∀ k, k < 8 → grpB [1, 4] k = true := by
    intro k hk
    rw [grpB_iff]
    have key : ∀ k : Nat, k < 8 → k < 4 ∨ ∃ j : Nat, j < 4 ∧ cm 4 j = k := by decide +kernel
    rcases key k hk with h | ⟨j, hj, rfl⟩
    · exact m k h
    · exact must_comp (by omega) (by omega) m4 (m j hj)
  rw [grp_eq (S := fun _ => true) h]; rfl
theorem even_2 : anyOdd (grp [2]) = false := by rw [grp_2]; rfl
theorem orb_2 : orb (wF 3 1) (grp [2]) 3 3 = [0, 1, 0] := by rw [grp_2]; decide +kernel
theorem ex_app1 : app 1 1 0 = (0, 1) := by decide +kernel
theorem ex_app5 : app 5 1 0 = (0, -1) := by decide +kernel
theorem ex_comp1 : comp 1 4 = 7 := by decide +kernel
theorem ex_comp2 : comp 4 1 = 5 := by decide +kernel
theorem ex_inv : inv 1 = 3 := by decide +kernel
theorem ex_turn : turnF (app 1) 0 0 3 2 = (-1, 0, 2, 3) := by decide +kernel
theorem ex_within : withinF (app 1) 0 0 3 2 2 1 = (0, 2) := by decide +kernel
theorem ex_right : rightB 0 0 3 2 = true := by decide +kernel
end Go.Proofs.YtobbkclfbbblaaaDoor
