/- The contract of slices.ContainsFunc at Orbits' own test, and of the reference's Keeps. -/
import Derived.Test.YtobbkclfbbblaaaDoorInts
import Derived.Test.YtobbkclfbbblaaaDoorSym
import Derived.Test.YtobbkclfbbblaaaDoorOrbP
namespace Go.Proofs.YtobbkclfbbblaaaDoor
open Go Go.RowKit
set_option linter.unusedSimpArgs false
set_option linter.unusedVariables false
set_option maxRecDepth 100000
theorem anyOdd_some {l : List Int} {i : Nat} {x : Int} (hx : l[i]? = some x) (h : odd x = true) : anyOdd l = true :=
  List.any_eq_true.2 ⟨x, List.mem_of_getElem? hx, h⟩
theorem anyOdd_none {l : List Int} {n : Nat} (hl : l.length = n) (h : ∀ i x, i < n → l[i]? = some x → odd x = false) : anyOdd l = false := by
  unfold anyOdd
  rw [List.any_eq_false]
  intro x hx
  obtain ⟨i, hi, e⟩ := List.getElem_of_mem hx
  rw [h i x (by omega) (by rw [List.getElem?_eq_getElem hi, e])]
  simp
theorem odd_step {l : List Int} {j : Nat} {x : Int} (h : ∀ i y, i < j → l[i]? = some y → odd y = false) (hx : l[j]? = some x) (ho : odd x = false) : ∀ i y, i < j + 1 → l[i]? = some y → odd y = false := by
  intro i y hi hy
  by_cases e : i = j
  · rw [e, hx] at hy; cases hy; exact ho
  · exact h i y (by omega) hy
theorem odd_test (k : Int) (w : World) : Calls Tryd.prog 56 #[.int .i64 k] w fun e w' => e = .returned (.bool (odd k)) ∧ w = w' := by
  go_enter Tryd.func56, Tryd.ntmps56
  go_wp2
  go_ret
  exact ⟨ret_bool (by rw [Bool.eq_iff_iff]; simp [odd]), rfl⟩
set_option maxHeartbeats 400000 in
theorem indexFunc_odd (A : Option Addr) (n c : Nat) (l : List Int) (w : World) (hR : Rd encI 1 w A n l) (hn : n ≤ 4611686018427387904) :
    Calls Tryd.prog 71 #[.slice A n c, .func (.func 56) #[] #[]] w fun e w' => ∃ r : Int, e = .returned (.int .i64 r) ∧ Hid (anyOdd l = decide (0 ≤ r)) ∧ w = w' := by
  go_enter Tryd.func71, Tryd.ntmps71
  go_wp2
  go_loop [8] (fun i => ∃ j : Nat, j ≤ n ∧ i = .int .i64 j ∧ Hid (∀ i x, i < j → l[i]? = some x → odd x = false)) (fun i => n - (intOf i).toNat)
  case atStart => exact ⟨0, by omega, rfl, fun r x hr => absurd hr (by omega)⟩
  case round =>
    obtain ⟨j, hj, rfl, hno⟩ := hrel
    by_cases hlt : j < n
    · obtain ⟨x, b, o, hx, rfl, hb, hcell⟩ := hR.int hlt
      cases hq : odd x with
      | true =>
        go_wp2_with (first | (go_at_call 56; refine (odd_test _ _).mono ?_; rintro e w' ⟨rfl, rfl⟩))
        go_ret
        exact ⟨_, rfl, by show _ = _; rw [anyOdd_some hx.out hq]; simp, rfl⟩
      | false =>
        go_wp2_with (first | (go_at_call 56; refine (odd_test _ _).mono ?_; rintro e w' ⟨rfl, rfl⟩))
        go_round
        case rel => exact ⟨j + 1, by omega, by go_num, odd_step hno.out hx.out hq⟩
        case measure => simp [intOf]; omega
    · obtain rfl : j = n := by omega
      go_wp2
      go_ret
      exact ⟨_, rfl, by show _ = _; rw [anyOdd_none hR.len hno.out]; simp, rfl⟩
theorem containsFunc_odd (A : Option Addr) (n c : Nat) (l : List Int) (w : World) (hR : Rd encI 1 w A n l) (hn : n ≤ 4611686018427387904) :
    Calls Tryd.prog 55 #[.slice A n c, .func (.func 56) #[] #[]] w fun e w' => e = .returned (.bool (anyOdd l)) ∧ w = w' := by
  go_enter Tryd.func55, Tryd.ntmps55
  go_wp2_with (first | (go_at_call 71; refine (indexFunc_odd _ _ _ _ _ hR hn).mono ?_; rintro e w' ⟨r, rfl, hr, rfl⟩))
  go_ret
  exact ⟨ret_bool hr.out.symm, rfl⟩
theorem ref_Keeps (k a b : Int) (w : World) : Calls Tryd.prog 57 #[.int .i64 k, .int .i64 a, .int .i64 b] w fun e w' => e = .returned (.bool (keeps k a b)) ∧ w = w' := by
  have h8 : 0 ≤ k % 8 ∧ k % 8 < 8 := by omega
  go_enter Tryd.func57, Tryd.ntmps57
  go_wp2_with (first | (go_at_call 50; refine (ref_Mod _ _).mono ?_; rintro e w' ⟨rfl, rfl⟩))
  all_goals (go_ret; refine ⟨ret_bool ?_, rfl⟩; rw [Bool.eq_iff_iff]; simp [keeps, odd]; have e := Int.tmod_eq_emod_of_nonneg (a := k % 8) (b := 2) h8.1; omega)
end Go.Proofs.YtobbkclfbbblaaaDoor
