/- The walk of ProblemSolves. -/
import Derived.Test.YtnhapgbjaeaamaaGreatDoorLaw44b
import Derived.Test.YtnhapgbjaeaamaaGreatDoorLaw20a
import Derived.Test.YtnhapgbjaeaamaaGreatDoorPrb15
namespace Go.Proofs.YtnhapgbjaeaamaaGreatDoor
open Go Go.RowKit
set_option linter.unusedSimpArgs false
set_option linter.unusedVariables false
set_option maxRecDepth 100000
set_option linter.unusedSimpArgs false
set_option linter.unusedVariables false
set_option maxHeartbeats 16000000 in
theorem law_psolves (st : Int) (A B P D : Option Addr) (n c m d ns cs k e : Nat) (Hd : List (Int × Int)) (N : List (Int × List Int)) (W H G DX DY : Int) (S : List Int) (p : List (Int × Int × Int)) (w : World) (hM : Mx w) (hH : Rd encP 2 w A n Hd) (hN : RdX ekN w B m N) (hR : Rd encI 1 w P ns S) (hP : Rd encC 3 w D k p) (hke : k ≤ e) :
    Calls Tryz.prog 4 #[.agg #[.int .i64 st, .slice A n c, .slice B m d], .agg #[.int .i64 W, .int .i64 H, .int .i64 G, .int .i64 DX, .int .i64 DY, .slice P ns cs], .slice D k e] w fun e w' => e = .returned (.bool true) ∧ Below w.heap.size w w' := by
  obtain ⟨v, hv⟩ : ∃ v, (fewT Hd N && decide (k ≤ 60)) = v := ⟨_, rfl⟩
  have kF := fun w1 h1 h2 => law_Small st A B D n c m d k e Hd N w1 rfl hv h1 h2
  cases v with
  | false =>
    clear hv
    go_enter Tryz.func4, Tryz.ntmps4
    go_wp2_with fail
    obtain ⟨we, hwe, hbt, hbp, hB, hsw⟩ := two_boxes w (.int .i64 st) (.slice A n c) (.slice B m d) 25 28 W H G DX DY (.slice P ns cs)
    rw [← hwe]
    clear hwe
    replace hM := hM.of hB
    replace hH := hH.of hB
    replace hN := hN.of hB
    have ⟨_, t0, t1, t2⟩ := hbt.open
    have ⟨_, p0, p1, p2, p3, p4, p5⟩ := hbp.open
    go_wp2_with fail
    go_at_call 18
    refine (kF _ hH hN).mono ?_
    rintro e1 w1 ⟨rfl, hb1⟩
    clear t0 t1 t2 p0 p1 p2 p3 p4 p5
    replace hM := hM.of hb1
    replace hH := hH.of hb1
    replace hN := hN.of hb1
    replace hbt := hbt.of hb1
    replace hbp := hbp.of hb1
    replace hB := below_thru hB hb1
    clear hb1
    have ⟨_, t0, t1, t2⟩ := hbt.open
    have ⟨_, p0, p1, p2, p3, p4, p5⟩ := hbp.open
    go_wp2_with fail
    go_at_call 9
    refine (awake_44 _ hM).mono ?_
    rintro ez wz ⟨rfl, hbz⟩
    have hfin := below_thru hB hbz
    go_wp2_with fail
    go_ret
    exact ⟨rfl, hfin⟩
  | true =>
    have hk : k ≤ 60 := by rw [Bool.and_eq_true, decide_eq_true_eq] at hv; exact hv.2
    clear hv
    by_cases h20 : ns ≤ 20
    · have kf := fun w1 => law_few W H G DX DY P ns cs true (decide_eq_true h20) w1
      have kP := fun w1 h1 h2 h3 h4 h5 => prb_Solves st A B P D n c m d ns cs k e Hd N W H G DX DY S p w1 h1 h2 h3 h4 (by omega) h5 (by omega) hke
      have kQ := fun w1 h2 h3 h4 h5 => ref44_Solves st A B P D n c m d ns cs k e Hd N W H G DX DY S p w1 h2 h3 h4 (by omega) h5 (by omega) hke
      have kR := fun w1 h1 h2 h3 h4 h5 => prb_Exact st A B P D n c m d ns cs k e Hd N W H G DX DY S p w1 h1 h2 h3 h4 (by omega) h5 (by omega) hke
      have kT := fun w1 h2 h3 h4 h5 => ref44_Exact st A B P D n c m d ns cs k e Hd N W H G DX DY S p w1 h2 h3 h4 (by omega) h5 (by omega) hke
      generalize begE st Hd N W H G DX DY S p = q0 at kP kQ kR kT
      generalize slvB st Hd N W H G DX DY S p = b0 at kP kQ
      generalize excB st Hd N W H G DX DY S p = b1 at kR kT
      have e0 : (q0 == q0) = true := beq_self_eq_true _
      have e1 : (b0 == b0) = true := beq_self_eq_true _
      have e2 : (b1 == b1) = true := beq_self_eq_true _
      go_enter Tryz.func4, Tryz.ntmps4
      go_wp2_with fail
      obtain ⟨we, hwe, hbt, hbp, hB, hsw⟩ := two_boxes w (.int .i64 st) (.slice A n c) (.slice B m d) 25 28 W H G DX DY (.slice P ns cs)
      rw [← hwe]
      clear hwe
      replace hM := hM.of hB
      replace hH := hH.of hB
      replace hN := hN.of hB
      replace hR := hR.of hB
      replace hP := hP.of hB
      have ⟨_, t0, t1, t2⟩ := hbt.open
      have ⟨_, p0, p1, p2, p3, p4, p5⟩ := hbp.open
      go_wp2_with fail
      go_at_call 18
      refine (kF _ hH hN).mono ?_
      rintro e1 w1 ⟨rfl, hb1⟩
      clear t0 t1 t2 p0 p1 p2 p3 p4 p5
      replace hM := hM.of hb1
      replace hH := hH.of hb1
      replace hN := hN.of hb1
      replace hR := hR.of hb1
      replace hP := hP.of hb1
      replace hbt := hbt.of hb1
      replace hbp := hbp.of hb1
      replace hB := below_thru hB hb1
      clear hb1
      have ⟨_, t0, t1, t2⟩ := hbt.open
      have ⟨_, p0, p1, p2, p3, p4, p5⟩ := hbp.open
      go_wp2_with fail
      go_at_call 8
      refine (kf _).mono ?_
      rintro e2 w2 ⟨rfl, hb2⟩
      clear t0 t1 t2 p0 p1 p2 p3 p4 p5
      replace hM := hM.of hb2
      replace hH := hH.of hb2
      replace hN := hN.of hb2
      replace hR := hR.of hb2
      replace hP := hP.of hb2
      replace hbt := hbt.of hb2
      replace hbp := hbp.of hb2
      replace hB := below_thru hB hb2
      clear hb2
      have ⟨_, t0, t1, t2⟩ := hbt.open
      have ⟨_, p0, p1, p2, p3, p4, p5⟩ := hbp.open
      go_wp2_with fail
      go_at_call 19
      refine (kP _ hM hH hN hR hP).mono ?_
      rintro e3 w3 ⟨rfl, hb3⟩
      clear t0 t1 t2 p0 p1 p2 p3 p4 p5
      replace hM := hM.of hb3
      replace hH := hH.of hb3
      replace hN := hN.of hb3
      replace hR := hR.of hb3
      replace hP := hP.of hb3
      replace hbt := hbt.of hb3
      replace hbp := hbp.of hb3
      replace hB := below_thru hB hb3
      clear hb3
      have ⟨_, t0, t1, t2⟩ := hbt.open
      have ⟨_, p0, p1, p2, p3, p4, p5⟩ := hbp.open
      go_wp2_with fail
      go_at_call 20
      refine (kQ _ hH hN hR hP).mono ?_
      rintro e4 w4 ⟨rfl, hb4⟩
      clear t0 t1 t2 p0 p1 p2 p3 p4 p5
      replace hM := hM.of hb4
      replace hH := hH.of hb4
      replace hN := hN.of hb4
      replace hR := hR.of hb4
      replace hP := hP.of hb4
      replace hbt := hbt.of hb4
      replace hbp := hbp.of hb4
      replace hB := below_thru hB hb4
      clear hb4
      have ⟨_, t0, t1, t2⟩ := hbt.open
      have ⟨_, p0, p1, p2, p3, p4, p5⟩ := hbp.open
      go_wp2_with fail
      go_at_call 21
      refine (kR _ hM hH hN hR hP).mono ?_
      rintro e5 w5 ⟨rfl, hb5⟩
      clear t0 t1 t2 p0 p1 p2 p3 p4 p5
      replace hM := hM.of hb5
      replace hH := hH.of hb5
      replace hN := hN.of hb5
      replace hR := hR.of hb5
      replace hP := hP.of hb5
      replace hbt := hbt.of hb5
      replace hbp := hbp.of hb5
      replace hB := below_thru hB hb5
      clear hb5
      have ⟨_, t0, t1, t2⟩ := hbt.open
      have ⟨_, p0, p1, p2, p3, p4, p5⟩ := hbp.open
      go_wp2_with fail
      go_at_call 22
      refine (kT _ hH hN hR hP).mono ?_
      rintro e6 w6 ⟨rfl, hb6⟩
      clear t0 t1 t2 p0 p1 p2 p3 p4 p5
      replace hM := hM.of hb6
      replace hH := hH.of hb6
      replace hN := hN.of hb6
      replace hR := hR.of hb6
      replace hP := hP.of hb6
      replace hbt := hbt.of hb6
      replace hbp := hbp.of hb6
      replace hB := below_thru hB hb6
      clear hb6
      have ⟨_, t0, t1, t2⟩ := hbt.open
      have ⟨_, p0, p1, p2, p3, p4, p5⟩ := hbp.open
      go_wp2_with fail
      go_at_call 9
      refine (awake_44 _ hM).mono ?_
      rintro ez wz ⟨rfl, hbz⟩
      have hfin := below_thru hB hbz
      go_wp2_with fail
      go_ret
      exact ⟨rfl, hfin⟩
    · have kf := fun w1 => law_few W H G DX DY P ns cs false (decide_eq_false h20) w1
      go_enter Tryz.func4, Tryz.ntmps4
      go_wp2_with fail
      obtain ⟨we, hwe, hbt, hbp, hB, hsw⟩ := two_boxes w (.int .i64 st) (.slice A n c) (.slice B m d) 25 28 W H G DX DY (.slice P ns cs)
      rw [← hwe]
      clear hwe
      replace hM := hM.of hB
      replace hH := hH.of hB
      replace hN := hN.of hB
      have ⟨_, t0, t1, t2⟩ := hbt.open
      have ⟨_, p0, p1, p2, p3, p4, p5⟩ := hbp.open
      go_wp2_with fail
      go_at_call 18
      refine (kF _ hH hN).mono ?_
      rintro e1 w1 ⟨rfl, hb1⟩
      clear t0 t1 t2 p0 p1 p2 p3 p4 p5
      replace hM := hM.of hb1
      replace hH := hH.of hb1
      replace hN := hN.of hb1
      replace hbt := hbt.of hb1
      replace hbp := hbp.of hb1
      replace hB := below_thru hB hb1
      clear hb1
      have ⟨_, t0, t1, t2⟩ := hbt.open
      have ⟨_, p0, p1, p2, p3, p4, p5⟩ := hbp.open
      go_wp2_with fail
      go_at_call 8
      refine (kf _).mono ?_
      rintro e2 w2 ⟨rfl, hb2⟩
      clear t0 t1 t2 p0 p1 p2 p3 p4 p5
      replace hM := hM.of hb2
      replace hH := hH.of hb2
      replace hN := hN.of hb2
      replace hbt := hbt.of hb2
      replace hbp := hbp.of hb2
      replace hB := below_thru hB hb2
      clear hb2
      have ⟨_, t0, t1, t2⟩ := hbt.open
      have ⟨_, p0, p1, p2, p3, p4, p5⟩ := hbp.open
      go_wp2_with fail
      go_at_call 9
      refine (awake_44 _ hM).mono ?_
      rintro ez wz ⟨rfl, hbz⟩
      have hfin := below_thru hB hbz
      go_wp2_with fail
      go_ret
      exact ⟨rfl, hfin⟩
end Go.Proofs.YtnhapgbjaeaamaaGreatDoor
