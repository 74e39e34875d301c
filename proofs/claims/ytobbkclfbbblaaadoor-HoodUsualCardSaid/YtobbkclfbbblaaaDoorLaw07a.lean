/- The walk of HoodUsual. -/
import Derived.Test.YtobbkclfbbblaaaDoorAlive07
import Derived.Test.YtobbkclfbbblaaaDoorLaw07b
namespace Go.Proofs.YtobbkclfbbblaaaDoor
open Go Go.RowKit
set_option linter.unusedSimpArgs false
set_option linter.unusedVariables false
set_option maxRecDepth 100000
attribute [local go_sem ↓ high] eq_pt neq_pt
theorem ref_Neumann_no (r : Int) (h : r < 0 ∨ 2 < r) (w : World) : Calls Tryd.prog 36 #[.int .i64 r] w fun e w' => e = .returned (.slice none 0 0) ∧ w = w' := by
  have h1 := ref_Moore_no r h
  have H := Lib.hid h
  clear h
  go_enter Tryd.func36, Tryd.ntmps36
  go_wp2_with (first | (go_at_call 35; refine (h1 _).mono ?_; rintro e w' ⟨rfl, rfl⟩))
  go_loopw [4, 5] (fun v i wr => v = .slice none 0 0 ∧ i = .int .i64 0 ∧ w = wr) (fun _ _ _ => 0)
  case atStart => exact ⟨rfl, rfl, rfl⟩
  case round =>
    obtain ⟨rfl, rfl, rfl⟩ := hrel
    go_wp2
    go_ret
    exact ⟨rfl, rfl⟩
/-- What the three usual neighbourhoods are. -/
structure Usual (r : Nat) : Prop where
  sub : ∀ (i : Nat) (x y : Int), (sqL (neuB (r : Int)) r)[i]? = some (x, y) → 0 ≤ idxP (sqL (fun _ _ => true) r) x y
  rm : rightL (sqL (fun _ _ => true) r) = true
  rn : rightL (sqL (neuB (r : Int)) r) = true
  am : radL (sqL (fun _ _ => true) r) = r
  an : radL (sqL (neuB (r : Int)) r) = r
  sm : (symsL (sqL (fun _ _ => true) r)).length = 8
  sn : (symsL (sqL (neuB (r : Int)) r)).length = 8
theorem usual (r : Nat) (hr : r ≤ 2) : Usual r := by
  have key : (∀ p, p ∈ sqL (neuB (r : Int)) r → 0 ≤ idxP (sqL (fun _ _ => true) r) p.1 p.2) ∧ rightL (sqL (fun _ _ => true) r) = true ∧ rightL (sqL (neuB (r : Int)) r) = true ∧ radL (sqL (fun _ _ => true) r) = r ∧ radL (sqL (neuB (r : Int)) r) = r ∧
      (symsL (sqL (fun _ _ => true) r)).length = 8 ∧ (symsL (sqL (neuB (r : Int)) r)).length = 8 := by
    have hc : r = 0 ∨ r = 1 ∨ r = 2 := by omega
    rcases hc with rfl | rfl | rfl <;> decide +kernel
  obtain ⟨h1, h2, h3, h4, h5, h6, h7⟩ := key
  exact ⟨fun i x y h => h1 (x, y) (List.mem_of_getElem? h), h2, h3, h4, h5, h6, h7⟩
set_option maxHeartbeats 1000000 in
theorem law_usual_no (r : Int) (h : r < 0 ∨ 2 < r) (w : World) (hM : Mx w) :
    Calls Tryd.prog 8 #[.int .i64 r] w fun e w' => e = .returned (.bool true) ∧ Below w.heap.size w w' := by
  have hz := hM.1
  have k1 := hood_Moore_no r h
  have k2 := hood_Neumann_no r h
  have k3 := ref_Moore_no r h
  have k4 := ref_Neumann_no r h
  have hd : (decide (r < 0) = true) ∨ (decide (r < 0) = false ∧ decide (2 < r) = true) := by simp only [decide_eq_true_eq, decide_eq_false_iff_not]; omega
  have kS : ∀ w1 : World, Calls Tryd.prog 34 #[.slice none 0 0, .slice none 0 0] w1 fun e w' => e = .returned (.bool true) ∧ Below w1.heap.size w1 w' := fun w1 => by
    have := ref_SameP none none 0 0 0 0 [] [] w1 Rd.nil_ Rd.nil_ (by omega); exact this
  clear h
  go_enter Tryd.func8, Tryd.ntmps8
  go_wp2_with fail
  (go_at_call 32; refine (k1 _).mono ?_; rintro e w' ⟨rfl, rfl⟩)
  go_wp2_with fail
  go_at_call 33
  refine (k2 _).mono ?_
  rintro e w1 ⟨rfl, hB1⟩
  go_wp2_with fail
  (go_at_call 35; refine (k3 _).mono ?_; rintro e w' ⟨rfl, rfl⟩)
  go_wp2_with fail
  go_at_call 34
  refine (kS _).mono ?_
  rintro e w2 ⟨rfl, hb2⟩
  have hB2 := below_thru hB1 hb2
  clear hB1 hb2
  go_wp2_with fail
  (go_at_call 36; refine (k4 _).mono ?_; rintro e w' ⟨rfl, rfl⟩)
  go_wp2_with fail
  go_at_call 34
  refine (kS _).mono ?_
  rintro e w3 ⟨rfl, hb3⟩
  have hB3 := below_thru hB2 hb3
  clear hB2 hb3
  go_wp2_with fail
  go_at_call 37
  refine (hood_Hex _).mono ?_
  rintro e w4 ⟨A4, n4, c4, rfl, hR4, hn4, hb4⟩
  have hB4 := below_thru hB3 hb4
  clear hB3 hb4
  go_wp2_with fail
  go_at_call 38
  refine (ref_Hex _).mono ?_
  rintro e w5 ⟨A5, n5, c5, rfl, hR5, hn5, hb5⟩
  have hB5 := below_thru hB4 hb5
  have hR4 := hR4.of hb5
  clear hB4 hb5
  have hsame := ref_SameP _ _ _ _ c4 c5 _ _ _ hR4 hR5 (by omega)
  rw [sameL_self] at hsame
  go_wp2_with fail
  go_at_call 34
  refine hsame.mono ?_
  rintro e w6 ⟨rfl, hb6⟩
  have hB6 := below_thru hB5 hb6
  clear hB5 hb6 hsame hR4 hR5
  rcases hd with d1 | ⟨d1, d2⟩
  all_goals
    go_wp2_with fail
    go_at_call 39
    refine (alive_07 _ (hM.of hB6)).mono ?_
    rintro e w7 ⟨rfl, hb7⟩
    go_wp2_with fail
    go_ret
    exact ⟨rfl, below_thru hB6 hb7⟩
set_option maxHeartbeats 2000000 in
theorem law_usual_yes (r : Nat) (hr : r ≤ 2) (w : World) (hM : Mx w) :
    Calls Tryd.prog 8 #[.int .i64 (r : Int)] w fun e w' => e = .returned (.bool true) ∧ Below w.heap.size w w' := by
  have hz := hM.1
  have hu := usual r hr
  have d1 : decide ((r : Int) < 0) = false := decide_eq_false (by omega)
  have d2 : decide ((2 : Int) < r) = false := decide_eq_false (by omega)
  go_enter Tryd.func8, Tryd.ntmps8
  go_wp2_with fail
  go_at_call 32
  refine (hood_Moore r hr _).mono ?_
  rintro e w1 ⟨A, n, c, rfl, hR, hn, hB1⟩
  go_wp2_with fail
  go_at_call 33
  refine (hood_Neumann r hr _).mono ?_
  rintro e w2 ⟨B, m, d, rfl, hS, hm, hb2⟩
  have hB2 := below_thru hB1 hb2
  have hR := hR.of hb2
  clear hB1 hb2
  go_wp2_with fail
  go_at_call 35
  refine (ref_Moore r hr _).mono ?_
  rintro e w3 ⟨A3, n3, c3, rfl, hR3, hn3, hb3⟩
  have hB3 := below_thru hB2 hb3
  have hR := hR.of hb3
  have hS := hS.of hb3
  clear hB2 hb3
  have hsame := ref_SameP _ _ _ _ c c3 _ _ _ hR hR3 (by omega)
  rw [sameL_self] at hsame
  go_wp2_with fail
  go_at_call 34
  refine hsame.mono ?_
  rintro e w4 ⟨rfl, hb4⟩
  have hB4 := below_thru hB3 hb4
  have hR := hR.of hb4
  have hS := hS.of hb4
  clear hB3 hb4 hsame hR3
  go_wp2_with fail
  go_at_call 36
  refine (ref_Neumann r hr _).mono ?_
  rintro e w5 ⟨A5, n5, c5, rfl, hR5, hn5, hb5⟩
  have hB5 := below_thru hB4 hb5
  have hR := hR.of hb5
  have hS := hS.of hb5
  clear hB4 hb5
  have hsame := ref_SameP _ _ _ _ d c5 _ _ _ hS hR5 (by omega)
  rw [sameL_self] at hsame
  go_wp2_with fail
  go_at_call 34
  refine hsame.mono ?_
  rintro e w6 ⟨rfl, hb6⟩
  have hB6 := below_thru hB5 hb6
  have hR := hR.of hb6
  have hS := hS.of hb6
  clear hB5 hb6 hsame hR5
  go_wp2_with fail
  go_at_call 37
  refine (hood_Hex _).mono ?_
  rintro e w7 ⟨A7, n7, c7, rfl, hR7, hn7, hb7⟩
  have hB7 := below_thru hB6 hb7
  have hR := hR.of hb7
  have hS := hS.of hb7
  clear hB6 hb7
  go_wp2_with fail
  go_at_call 38
  refine (ref_Hex _).mono ?_
  rintro e w8 ⟨A8, n8, c8, rfl, hR8, hn8, hb8⟩
  have hB8 := below_thru hB7 hb8
  have hR := hR.of hb8
  have hS := hS.of hb8
  have hR7 := hR7.of hb8
  clear hB7 hb8
  have hsame := ref_SameP _ _ _ _ c7 c8 _ _ _ hR7 hR8 (by omega)
  rw [sameL_self] at hsame
  go_wp2_with fail
  go_at_call 34
  refine hsame.mono ?_
  rintro e w9 ⟨rfl, hb9⟩
  have hB9 := below_thru hB8 hb9
  have hR := hR.of hb9
  have hS := hS.of hb9
  clear hB8 hb9 hsame hR7 hR8
  go_wp2_with fail
  go_loopw [47] (fun i wr => ∃ j : Nat, i = .int .i64 j ∧ j ≤ m ∧ Below w9.heap.size w9 wr) (fun i _ => m - (intOf i).toNat)
  case atStart => exact ⟨0, rfl, by omega, Below.refl _ _⟩
  case round =>
    obtain ⟨j, rfl, hj, hbr⟩ := hrel
    obtain ⟨hcr, hfr⟩ := bcell hbr
    have hsr := hbr.size
    by_cases hlt : j < m
    · obtain ⟨x, y, b, o, hx, rfl, hbl, hcell, hcell2⟩ := hS.pt hlt
      have hix := Lib.hid (hu.sub _ _ _ hx.out)
      have k1 : Calls Tryd.prog 40 #[.slice A n c, .agg #[.int .i64 x, .int .i64 y]] wr fun e w' => ∃ q : Nat, e = .returned (.int .i64 (q : Int)) ∧ Below wr.heap.size wr w' := by
        refine (ref_IndexP A n c _ x y wr (hR.of hbr) (by omega)).mono ?_
        rintro e w1 ⟨rfl, hb⟩
        exact ⟨_, by rw [Int.toNat_of_nonneg hix.out], hb⟩
      go_wp2_with fail
      go_at_call 40
      refine k1.mono ?_
      rintro e wq ⟨q, rfl, hbq⟩
      have hbw := below_thru hbr hbq
      go_wp2_with fail
      go_roundw
      case rel => exact ⟨j + 1, by go_num, by omega, hbw⟩
      case measure => simp [intOf]; omega
    · obtain rfl : j = m := by omega
      have hB9 := below_thru hB9 hbr
      have hR := hR.of hbr
      have hS := hS.of hbr
      clear hbr hcr hfr hsr
      have q1 := hood_Right A n c _ wr hR
      rw [hu.rm] at q1
      go_wp2_with fail
      go_at_call 41
      refine q1.mono ?_
      rintro e w1 ⟨rfl, hb1⟩
      have hB1 := below_thru hB9 hb1
      have hR := hR.of hb1
      have hS := hS.of hb1
      clear hB9 hb1 q1
      have q1 := hood_Right B j d _ _ hS
      rw [hu.rn] at q1
      go_wp2_with fail
      go_at_call 41
      refine q1.mono ?_
      rintro e w2 ⟨rfl, hb2⟩
      have hB2 := below_thru hB1 hb2
      have hR := hR.of hb2
      have hS := hS.of hb2
      clear hB1 hb2 q1
      have q1 := hood_Radius A n c _ _ hR (by omega)
      rw [hu.am] at q1
      go_wp2_with fail
      go_at_call 42
      refine q1.mono ?_
      rintro e w3 ⟨rfl, hb3⟩
      have hB3 := below_thru hB2 hb3
      have hR := hR.of hb3
      have hS := hS.of hb3
      clear hB2 hb3 q1
      have q1 := hood_Radius B j d _ _ hS (by omega)
      rw [hu.an] at q1
      go_wp2_with fail
      go_at_call 42
      refine q1.mono ?_
      rintro e w4 ⟨rfl, hb4⟩
      have hB4 := below_thru hB3 hb4
      have hR := hR.of hb4
      have hS := hS.of hb4
      clear hB3 hb4 q1
      go_wp2_with fail
      go_at_call 43
      refine (hood_Syms _ _ _ _ _ (hM.of hB4) hR (by omega)).mono ?_
      rintro e w5 ⟨A5, n5, c5, rfl, hR5, _, hb5⟩
      obtain rfl : n5 = 8 := by rw [← hR5.len, hu.sm]
      have hB5 := below_thru hB4 hb5
      have hS := hS.of hb5
      clear hB4 hb5 hR5
      go_wp2_with fail
      go_at_call 43
      refine (hood_Syms _ _ _ _ _ (hM.of hB5) hS (by omega)).mono ?_
      rintro e w6 ⟨A6, n6, c6, rfl, hR6, _, hb6⟩
      obtain rfl : n6 = 8 := by rw [← hR6.len, hu.sn]
      have hB6 := below_thru hB5 hb6
      clear hB5 hb6 hR6
      go_wp2_with fail
      go_at_call 39
      refine (alive_07 _ (hM.of hB6)).mono ?_
      rintro e w7 ⟨rfl, hb7⟩
      go_wp2_with fail
      go_ret
      exact ⟨rfl, below_thru hB6 hb7⟩
theorem law_usual (r : Int) (w : World) (hM : Mx w) :
    Calls Tryd.prog 8 #[.int .i64 r] w fun e w' => e = .returned (.bool true) ∧ Below w.heap.size w w' := by
  by_cases h : r < 0 ∨ 2 < r
  · exact law_usual_no r h w hM
  · have h1 : (0 : Int) ≤ r := by omega
    obtain ⟨n, rfl⟩ := Int.eq_ofNat_of_zero_le h1
    exact law_usual_yes n (by omega) w hM
end Go.Proofs.YtobbkclfbbblaaaDoor
