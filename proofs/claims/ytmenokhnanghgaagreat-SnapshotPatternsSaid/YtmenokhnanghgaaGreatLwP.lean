/- Law of chapter 55: patterns and their forms. By mklaw55.py. -/
import Derived.Test.YtmenokhnanghgaaGreatLwL
import Derived.Test.YtmenokhnanghgaaGreatRgB
namespace Go.Proofs.YtmenokhnanghgaaGreat
open Go Go.RowKit
set_option linter.unusedSimpArgs false
set_option linter.unusedVariables false
set_option maxRecDepth 100000
set_option linter.unusedSimpArgs false
set_option linter.unusedVariables false
set_option maxHeartbeats 64000000 in
theorem law_LwP (PA D : Option Addr) (n c k dc : Nat) (l : List Cel) (data : List Int) (w : World) (hP : Rd encC 3 w PA n l) (hD : Rd encU 1 w D k data) (hby : ByL data) :
    Calls Tryz.prog 3 #[.slice PA n c, .slice D k dc] w fun e w' => e = .returned (.bool true) ∧ Below w.heap.size w w' := by
  have hPl := Lib.hid hP.len
  have hDl := Lib.hid hD.len
  replace hby := Lib.hid hby
  have hways : decide (800 < (n : Int)) = true ∨ (decide (800 < (n : Int)) = false ∧ decide (2000 < (k : Int)) = true) ∨ (decide (800 < (n : Int)) = false ∧ n ≤ 800 ∧ decide (2000 < (k : Int)) = false ∧ k ≤ 2000) := by
    simp only [decide_eq_true_eq, decide_eq_false_iff_not]; omega
  rcases hways with d1 | ⟨d1, d2⟩ | ⟨d1, g1, d2, g2⟩
  · skip
    go_enter Tryz.func3, Tryz.ntmps3
    have hB : Below w.heap.size w w := Below.refl _ _
    go_wp2_with fail
    go_at_call 9
    refine (awake_55 _).mono ?_
    rintro e1 w1 ⟨rfl, hb1⟩
    replace hP := hP.of hb1
    replace hD := hD.of hb1
    replace hB := below_thru hB hb1
    clear hb1
    go_wp2_with fail
    go_ret
    exact ⟨rfl, hB⟩
  · skip
    go_enter Tryz.func3, Tryz.ntmps3
    have hB : Below w.heap.size w w := Below.refl _ _
    go_wp2_with fail
    go_at_call 9
    refine (awake_55 _).mono ?_
    rintro e1 w1 ⟨rfl, hb1⟩
    replace hP := hP.of hb1
    replace hD := hD.of hb1
    replace hB := below_thru hB hb1
    clear hb1
    go_wp2_with fail
    go_ret
    exact ⟨rfl, hB⟩
  · skip
    go_enter Tryz.func3, Tryz.ntmps3
    have hB : Below w.heap.size w w := Below.refl _ _
    go_wp2_with fail
    obtain ⟨v1, hv1⟩ : ∃ q, q = fpE l := ⟨_, rfl⟩
    replace hv1 := Lib.hid hv1
    obtain ⟨v2, hv2⟩ : ∃ q, q = tpE (unB data) := ⟨_, rfl⟩
    replace hv2 := Lib.hid hv2
    have dv1 : (v1 == v1) = true := by simp
    have dv2 : (v2 == v2) = true := by simp
    have kK := snp_Pattern PA n c l w hP (by omega)
    rw [← hv1.out] at kK
    go_at_call 10
    refine (kK).mono ?_
    rintro e1 w1 ⟨A1, n1, c1, rfl, hA1, hb1⟩
    replace hP := hP.of hb1
    replace hD := hD.of hb1
    replace hB := below_thru hB hb1
    clear hb1
    clear kK
    go_wp2_with fail
    have kK := ref55_Pattern PA n c l w1 hP (by omega)
    rw [← hv1.out] at kK
    go_at_call 11
    refine (kK).mono ?_
    rintro e2 w2 ⟨A2, n2, c2, rfl, hA2, hb2⟩
    replace hP := hP.of hb2
    replace hD := hD.of hb2
    replace hA1 := hA1.of hb2
    replace hB := below_thru hB hb2
    clear hb2
    clear kK
    go_wp2_with fail
    have kK := snp_TakePattern D k dc data w2 hD hby.out (by omega)
    rw [← hv2.out] at kK
    go_at_call 12
    refine (kK).mono ?_
    rintro e3 w3 ⟨Q1, m1, r1, rfl, hQ1, hb3⟩
    replace hP := hP.of hb3
    replace hD := hD.of hb3
    replace hA1 := hA1.of hb3
    replace hA2 := hA2.of hb3
    replace hB := below_thru hB hb3
    clear hb3
    clear kK
    go_wp2_with fail
    have kK := ref55_TakePattern D k dc data w3 hD hby.out (by omega)
    rw [← hv2.out] at kK
    go_at_call 13
    refine (kK).mono ?_
    rintro e4 w4 ⟨Q2, m2, r2, rfl, hQ2, hm2, hb4⟩
    replace hP := hP.of hb4
    replace hD := hD.of hb4
    replace hA1 := hA1.of hb4
    replace hA2 := hA2.of hb4
    replace hQ1 := hQ1.of hb4
    replace hB := below_thru hB hb4
    clear hb4
    clear kK
    go_wp2_with fail
    go_at_call 14
    refine (ref02_SameV _ _ _ _ _ _ _ _ hA1 hA2 (by rw [← hA1.len]; have := (fpL_by l).2; omega)).mono ?_
    rintro e5 w5 ⟨rfl, hb5⟩
    replace hP := hP.of hb5
    replace hD := hD.of hb5
    replace hA1 := hA1.of hb5
    replace hA2 := hA2.of hb5
    replace hQ1 := hQ1.of hb5
    replace hQ2 := hQ2.of hb5
    replace hB := below_thru hB hb5
    clear hb5
    go_wp2_with fail
    go_at_call 15
    refine (ref05_SameV (sameL_selfA (tpL (unB data))) _ _ _ _ _ _ _ hQ1 hQ2 (by rw [← hQ1.len, hQ2.len]; exact hm2) hm2).mono ?_
    rintro e6 w6 ⟨rfl, hb6⟩
    replace hP := hP.of hb6
    replace hD := hD.of hb6
    replace hA1 := hA1.of hb6
    replace hA2 := hA2.of hb6
    replace hQ1 := hQ1.of hb6
    replace hQ2 := hQ2.of hb6
    replace hB := below_thru hB hb6
    clear hb6
    go_wp2_with fail
    go_at_call 9
    refine (awake_55 _).mono ?_
    rintro e7 w7 ⟨rfl, hb7⟩
    replace hP := hP.of hb7
    replace hD := hD.of hb7
    replace hA1 := hA1.of hb7
    replace hA2 := hA2.of hb7
    replace hQ1 := hQ1.of hb7
    replace hQ2 := hQ2.of hb7
    replace hB := below_thru hB hb7
    clear hb7
    go_wp2_with fail
    go_ret
    exact ⟨rfl, hB⟩
end Go.Proofs.YtmenokhnanghgaaGreat
