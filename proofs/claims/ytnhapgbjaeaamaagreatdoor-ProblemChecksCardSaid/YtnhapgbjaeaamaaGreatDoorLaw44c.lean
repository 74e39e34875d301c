/- The walk of ProblemChecks. -/
import Derived.Test.YtnhapgbjaeaamaaGreatDoorLaw44b
import Derived.Test.YtnhapgbjaeaamaaGreatDoorLaw20a
namespace Go.Proofs.YtnhapgbjaeaamaaGreatDoor
open Go Go.RowKit
set_option linter.unusedSimpArgs false
set_option linter.unusedVariables false
set_option maxRecDepth 100000
set_option linter.unusedSimpArgs false
set_option linter.unusedVariables false
theorem cel_lenL {W H G DX DY : Int} {S l : List Int} (h : l.length ≤ 40) : (celL W H G DX DY S l).length ≤ 1000000 := by
  have hp : ∀ (a j : Nat), (celP a l j).length ≤ j := by
    intro a j
    induction j with
    | zero => exact Nat.le_refl _
    | succ j ih =>
      show (celP a l j ++ _).length ≤ _
      rw [List.length_append]
      split <;> simp <;> omega
  unfold celL
  split
  · exact Nat.le_trans (hp _ _) (by omega)
  · simp
set_option maxHeartbeats 16000000 in
theorem law_pchecks (st : Int) (A B P Q : Option Addr) (n c m d ns cs nl cl : Nat) (Hd : List (Int × Int)) (N : List (Int × List Int)) (W H G DX DY : Int) (S l : List Int) (w : World) (hM : Mx w) (hH : Rd encP 2 w A n Hd) (hN : RdX ekN w B m N) (hR : Rd encI 1 w P ns S) (hQ : Rd encI 1 w Q nl l) :
    Calls Tryz.prog 3 #[.agg #[.int .i64 st, .slice A n c, .slice B m d], .agg #[.int .i64 W, .int .i64 H, .int .i64 G, .int .i64 DX, .int .i64 DY, .slice P ns cs], .slice Q nl cl] w fun e w' => e = .returned (.bool true) ∧ Below w.heap.size w w' := by
  have kF := fun w1 h1 h2 => law_Few st A B n c m d Hd N w1 h1 h2
  cases hf : fewT Hd N with
  | false =>
    rw [hf] at kF
    clear hf
    go_enter Tryz.func3, Tryz.ntmps3
    go_wp2_with fail
    obtain ⟨we, hwe, hbt, hbp, hB, hsw⟩ := two_boxes w (.int .i64 st) (.slice A n c) (.slice B m d) 25 28 W H G DX DY (.slice P ns cs)
    rw [← hwe]
    clear hwe
    replace hM := hM.of hB
    replace hH := hH.of hB
    replace hN := hN.of hB
    have ⟨_, t0, t1, t2⟩ := hbt.open
    have ⟨_, p0, p1, p2, p3, p4, p5⟩ := hbp.open
    go_wp2_with fail
    go_at_call 7
    refine (kF _ hH hN).mono ?_
    rintro e1 w1 ⟨rfl, hb1⟩
    clear t0 t1 t2 p0 p1 p2 p3 p4 p5
    replace hM := hM.of hb1
    replace hH := hH.of hb1
    replace hN := hN.of hb1
    replace hbt := hbt.of hb1
    replace hbp := hbp.of hb1
    replace hB := below_thru hB hb1
    clear hb1
    have ⟨_, t0, t1, t2⟩ := hbt.open
    have ⟨_, p0, p1, p2, p3, p4, p5⟩ := hbp.open
    go_wp2_with fail
    go_at_call 9
    refine (awake_44 _ hM).mono ?_
    rintro ez wz ⟨rfl, hbz⟩
    have hfin := below_thru hB hbz
    go_wp2_with fail
    go_ret
    exact ⟨rfl, hfin⟩
  | true =>
    rw [hf] at kF
    clear hf
    by_cases h20 : ns ≤ 20
    · have kf := fun w1 => law_few W H G DX DY P ns cs true (decide_eq_true h20) w1
      by_cases h40 : nl ≤ 40
      · have d40 : decide ((40 : Int) < (nl : Int)) = false := decide_eq_false (by omega)
        have d40' : decide (40 < nl) = false := decide_eq_false (by omega)
        have kP := fun w1 h1 h2 => prb_Free W H G DX DY S P ns cs w1 h1 h2 (by omega)
        have kQ := fun w1 h1 h2 => ref44_Free W H G DX DY S P ns cs w1 h1 h2 (by omega)
        have kR := fun w1 h1 h2 => prb_Cells W H G DX DY S P Q ns cs nl cl l w1 h1 (by omega) h2 (by omega)
        have kT := fun w1 h1 h2 => ref44_Cells W H G DX DY S P Q ns cs nl cl l w1 h1 (by omega) h2 (by omega)
        have kU := fun w1 h1 h2 h3 => prb_Check st A B P n c m d ns cs Hd N W H G DX DY S w1 h1 h2 h3 (by omega)
        have kV := fun w1 h1 h2 h3 => ref44_Check st A B P n c m d ns cs Hd N W H G DX DY S w1 h1 h2 h3 (by omega)
        have hsz := Lib.hid (cel_lenL (W := W) (H := H) (G := G) (DX := DX) (DY := DY) (S := S) (l := l) (by rw [hQ.len]; exact h40))
        generalize chkE st Hd N W H G DX DY S = q0 at kU kV
        generalize boxE W H G DX DY S = q1 at kP kQ
        generalize freL W H G DX DY S = s1 at kP kQ
        generalize celE W H G DX DY S l = q2 at kR kT
        generalize celL W H G DX DY S l = s2 at kR kT hsz
        have e0 : (q0 == q0) = true := beq_self_eq_true _
        have e1 : (q1 == q1) = true := beq_self_eq_true _
        have e2 : (q2 == q2) = true := beq_self_eq_true _
        go_enter Tryz.func3, Tryz.ntmps3
        go_wp2_with fail
        obtain ⟨we, hwe, hbt, hbp, hB, hsw⟩ := two_boxes w (.int .i64 st) (.slice A n c) (.slice B m d) 25 28 W H G DX DY (.slice P ns cs)
        rw [← hwe]
        clear hwe
        replace hM := hM.of hB
        replace hH := hH.of hB
        replace hN := hN.of hB
        replace hR := hR.of hB
        replace hQ := hQ.of hB
        have ⟨_, t0, t1, t2⟩ := hbt.open
        have ⟨_, p0, p1, p2, p3, p4, p5⟩ := hbp.open
        go_wp2_with fail
        go_at_call 7
        refine (kF _ hH hN).mono ?_
        rintro e1 w1 ⟨rfl, hb1⟩
        clear t0 t1 t2 p0 p1 p2 p3 p4 p5
        replace hM := hM.of hb1
        replace hH := hH.of hb1
        replace hN := hN.of hb1
        replace hR := hR.of hb1
        replace hQ := hQ.of hb1
        replace hbt := hbt.of hb1
        replace hbp := hbp.of hb1
        replace hB := below_thru hB hb1
        clear hb1
        have ⟨_, t0, t1, t2⟩ := hbt.open
        have ⟨_, p0, p1, p2, p3, p4, p5⟩ := hbp.open
        go_wp2_with fail
        go_at_call 8
        refine (kf _).mono ?_
        rintro e2 w2 ⟨rfl, hb2⟩
        clear t0 t1 t2 p0 p1 p2 p3 p4 p5
        replace hM := hM.of hb2
        replace hH := hH.of hb2
        replace hN := hN.of hb2
        replace hR := hR.of hb2
        replace hQ := hQ.of hb2
        replace hbt := hbt.of hb2
        replace hbp := hbp.of hb2
        replace hB := below_thru hB hb2
        clear hb2
        have ⟨_, t0, t1, t2⟩ := hbt.open
        have ⟨_, p0, p1, p2, p3, p4, p5⟩ := hbp.open
        go_wp2_with fail
        go_at_call 10
        refine (kP _ hM hR).mono ?_
        rintro e3 w3 ⟨A3, n3, c3, rfl, hR3, hn3, hc3, hb3⟩
        clear t0 t1 t2 p0 p1 p2 p3 p4 p5
        replace hM := hM.of hb3
        replace hH := hH.of hb3
        replace hN := hN.of hb3
        replace hR := hR.of hb3
        replace hQ := hQ.of hb3
        replace hbt := hbt.of hb3
        replace hbp := hbp.of hb3
        replace hB := below_thru hB hb3
        clear hb3
        have ⟨_, t0, t1, t2⟩ := hbt.open
        have ⟨_, p0, p1, p2, p3, p4, p5⟩ := hbp.open
        go_wp2_with fail
        go_at_call 11
        refine (kQ _ hM hR).mono ?_
        rintro e4 w4 ⟨A4, n4, c4, rfl, hR4, hn4, hc4, hb4⟩
        clear t0 t1 t2 p0 p1 p2 p3 p4 p5
        replace hM := hM.of hb4
        replace hH := hH.of hb4
        replace hN := hN.of hb4
        replace hR := hR.of hb4
        replace hQ := hQ.of hb4
        replace hR3 := hR3.of hb4
        replace hbt := hbt.of hb4
        replace hbp := hbp.of hb4
        replace hB := below_thru hB hb4
        clear hb4
        have ⟨_, t0, t1, t2⟩ := hbt.open
        have ⟨_, p0, p1, p2, p3, p4, p5⟩ := hbp.open
        go_wp2_with fail
        go_at_call 12
        refine (kR _ hR hQ).mono ?_
        rintro e5 w5 ⟨A5, n5, c5, rfl, hR5, hb5⟩
        clear t0 t1 t2 p0 p1 p2 p3 p4 p5
        replace hM := hM.of hb5
        replace hH := hH.of hb5
        replace hN := hN.of hb5
        replace hR := hR.of hb5
        replace hQ := hQ.of hb5
        replace hR3 := hR3.of hb5
        replace hR4 := hR4.of hb5
        replace hbt := hbt.of hb5
        replace hbp := hbp.of hb5
        replace hB := below_thru hB hb5
        clear hb5
        have ⟨_, t0, t1, t2⟩ := hbt.open
        have ⟨_, p0, p1, p2, p3, p4, p5⟩ := hbp.open
        go_wp2_with fail
        go_at_call 13
        refine (kT _ hR hQ).mono ?_
        rintro e6 w6 ⟨A6, n6, c6, rfl, hR6, hb6⟩
        clear t0 t1 t2 p0 p1 p2 p3 p4 p5
        replace hM := hM.of hb6
        replace hH := hH.of hb6
        replace hN := hN.of hb6
        replace hR := hR.of hb6
        replace hQ := hQ.of hb6
        replace hR3 := hR3.of hb6
        replace hR4 := hR4.of hb6
        replace hR5 := hR5.of hb6
        replace hbt := hbt.of hb6
        replace hbp := hbp.of hb6
        replace hB := below_thru hB hb6
        clear hb6
        have ⟨_, t0, t1, t2⟩ := hbt.open
        have ⟨_, p0, p1, p2, p3, p4, p5⟩ := hbp.open
        have hn5 : n5 ≤ 1000000 := by rw [← hR5.rd.len]; exact hsz.out
        have hn6 : n6 ≤ 1000000 := by rw [← hR6.rd.len]; exact hsz.out
        have kI := fun w1 h1 h2 => law_Ints A3 A4 n3 n4 c3 c4 s1 s1 w1 h1 h2 (by omega) (by omega)
        rw [sameL_self] at kI
        have kS := fun w1 h1 h2 => ref05_SameV (sameL_self s2) A5 A6 n5 n6 c5 c6 w1 h1 h2 hn5 hn6
        have hR5' := hR5.rd
        have hR6' := hR6.rd
        go_wp2_with fail
        (refine wp_region_ext_lit (by kernel_rfl) (by kernel_rfl) ?_; (repeat (go_big_quiet_step (first | (go_at_call 14; exact calls_ext (kU _ (hH.of (by (repeat' (first | exact Below.refl _ _ | assumption | (refine Below.alloc ?_ ?_ _) | (refine Below.setCell ?_ ?_ _) | (refine Below.drew ?_) | (refine below_drewN ?_ _) | (refine below_after (Ext.below _) ?_ ?_) | (refine below_after (by assumption) ?_ ?_) | (simp; done) | omega | (simp; omega))))) (hN.of (by (repeat' (first | exact Below.refl _ _ | assumption | (refine Below.alloc ?_ ?_ _) | (refine Below.setCell ?_ ?_ _) | (refine Below.drew ?_) | (refine below_drewN ?_ _) | (refine below_after (Ext.below _) ?_ ?_) | (refine below_after (by assumption) ?_ ?_) | (simp; done) | omega | (simp; omega))))) (hR.of (by (repeat' (first | exact Below.refl _ _ | assumption | (refine Below.alloc ?_ ?_ _) | (refine Below.setCell ?_ ?_ _) | (refine Below.drew ?_) | (refine below_drewN ?_ _) | (refine below_after (Ext.below _) ?_ ?_) | (refine below_after (by assumption) ?_ ?_) | (simp; done) | omega | (simp; omega))))))) | (go_at_call 15; exact calls_ext (kV _ (hH.of (by (repeat' (first | exact Below.refl _ _ | assumption | (refine Below.alloc ?_ ?_ _) | (refine Below.setCell ?_ ?_ _) | (refine Below.drew ?_) | (refine below_drewN ?_ _) | (refine below_after (Ext.below _) ?_ ?_) | (refine below_after (by assumption) ?_ ?_) | (simp; done) | omega | (simp; omega))))) (hN.of (by (repeat' (first | exact Below.refl _ _ | assumption | (refine Below.alloc ?_ ?_ _) | (refine Below.setCell ?_ ?_ _) | (refine Below.drew ?_) | (refine below_drewN ?_ _) | (refine below_after (Ext.below _) ?_ ?_) | (refine below_after (by assumption) ?_ ?_) | (simp; done) | omega | (simp; omega))))) (hR.of (by (repeat' (first | exact Below.refl _ _ | assumption | (refine Below.alloc ?_ ?_ _) | (refine Below.setCell ?_ ?_ _) | (refine Below.drew ?_) | (refine below_drewN ?_ _) | (refine below_after (Ext.below _) ?_ ?_) | (refine below_after (by assumption) ?_ ?_) | (simp; done) | omega | (simp; omega))))))) | (go_at_call 16; exact calls_ext (kI _ (hR3.of (by (repeat' (first | exact Below.refl _ _ | assumption | (refine Below.alloc ?_ ?_ _) | (refine Below.setCell ?_ ?_ _) | (refine Below.drew ?_) | (refine below_drewN ?_ _) | (refine below_after (Ext.below _) ?_ ?_) | (refine below_after (by assumption) ?_ ?_) | (simp; done) | omega | (simp; omega))))) (hR4.of (by (repeat' (first | exact Below.refl _ _ | assumption | (refine Below.alloc ?_ ?_ _) | (refine Below.setCell ?_ ?_ _) | (refine Below.drew ?_) | (refine below_drewN ?_ _) | (refine below_after (Ext.below _) ?_ ?_) | (refine below_after (by assumption) ?_ ?_) | (simp; done) | omega | (simp; omega))))))) | (go_at_call 17; exact calls_ext (kS _ (hR5'.of (by (repeat' (first | exact Below.refl _ _ | assumption | (refine Below.alloc ?_ ?_ _) | (refine Below.setCell ?_ ?_ _) | (refine Below.drew ?_) | (refine below_drewN ?_ _) | (refine below_after (Ext.below _) ?_ ?_) | (refine below_after (by assumption) ?_ ?_) | (simp; done) | omega | (simp; omega))))) (hR6'.of (by (repeat' (first | exact Below.refl _ _ | assumption | (refine Below.alloc ?_ ?_ _) | (refine Below.setCell ?_ ?_ _) | (refine Below.drew ?_) | (refine below_drewN ?_ _) | (refine below_after (Ext.below _) ?_ ?_) | (refine below_after (by assumption) ?_ ?_) | (simp; done) | omega | (simp; omega))))))) | (go_at_call 9; exact calls_ext (awake_44 _ (hM.of (by (repeat' (first | exact Below.refl _ _ | assumption | (refine Below.alloc ?_ ?_ _) | (refine Below.setCell ?_ ?_ _) | (refine Below.drew ?_) | (refine below_drewN ?_ _) | (refine below_after (Ext.below _) ?_ ?_) | (refine below_after (by assumption) ?_ ?_) | (simp; done) | omega | (simp; omega)))))))))); refine wpQuiet_nil ?_; intro _ hw'; obtain ⟨z7, hw''⟩ := hw'; subst hw''; have hs7 := z7.size; obtain ⟨hc7, hf7⟩ := bcell z7.below; (try simp only [World.size_alloc, World.size_setCell, World.size_drew] at hc7 hf7); (try simp at hs7))
        go_wp2_with fail
        go_ret
        exact ⟨rfl, by (repeat' (first | exact Below.refl _ _ | assumption | (refine Below.alloc ?_ ?_ _) | (refine Below.setCell ?_ ?_ _) | (refine Below.drew ?_) | (refine below_drewN ?_ _) | (refine below_after (Ext.below _) ?_ ?_) | (refine below_after (by assumption) ?_ ?_) | (simp; done) | omega | (simp; omega)))⟩
      · have d40 : decide ((40 : Int) < (nl : Int)) = true := decide_eq_true (by omega)
        have d40' : decide (40 < nl) = true := decide_eq_true (by omega)
        go_enter Tryz.func3, Tryz.ntmps3
        go_wp2_with fail
        obtain ⟨we, hwe, hbt, hbp, hB, hsw⟩ := two_boxes w (.int .i64 st) (.slice A n c) (.slice B m d) 25 28 W H G DX DY (.slice P ns cs)
        rw [← hwe]
        clear hwe
        replace hM := hM.of hB
        replace hH := hH.of hB
        replace hN := hN.of hB
        have ⟨_, t0, t1, t2⟩ := hbt.open
        have ⟨_, p0, p1, p2, p3, p4, p5⟩ := hbp.open
        go_wp2_with fail
        go_at_call 7
        refine (kF _ hH hN).mono ?_
        rintro e1 w1 ⟨rfl, hb1⟩
        clear t0 t1 t2 p0 p1 p2 p3 p4 p5
        replace hM := hM.of hb1
        replace hH := hH.of hb1
        replace hN := hN.of hb1
        replace hbt := hbt.of hb1
        replace hbp := hbp.of hb1
        replace hB := below_thru hB hb1
        clear hb1
        have ⟨_, t0, t1, t2⟩ := hbt.open
        have ⟨_, p0, p1, p2, p3, p4, p5⟩ := hbp.open
        go_wp2_with fail
        go_at_call 8
        refine (kf _).mono ?_
        rintro e2 w2 ⟨rfl, hb2⟩
        clear t0 t1 t2 p0 p1 p2 p3 p4 p5
        replace hM := hM.of hb2
        replace hH := hH.of hb2
        replace hN := hN.of hb2
        replace hbt := hbt.of hb2
        replace hbp := hbp.of hb2
        replace hB := below_thru hB hb2
        clear hb2
        have ⟨_, t0, t1, t2⟩ := hbt.open
        have ⟨_, p0, p1, p2, p3, p4, p5⟩ := hbp.open
        go_wp2_with fail
        go_at_call 9
        refine (awake_44 _ hM).mono ?_
        rintro ez wz ⟨rfl, hbz⟩
        have hfin := below_thru hB hbz
        go_wp2_with fail
        go_ret
        exact ⟨rfl, hfin⟩
    · have kf := fun w1 => law_few W H G DX DY P ns cs false (decide_eq_false h20) w1
      go_enter Tryz.func3, Tryz.ntmps3
      go_wp2_with fail
      obtain ⟨we, hwe, hbt, hbp, hB, hsw⟩ := two_boxes w (.int .i64 st) (.slice A n c) (.slice B m d) 25 28 W H G DX DY (.slice P ns cs)
      rw [← hwe]
      clear hwe
      replace hM := hM.of hB
      replace hH := hH.of hB
      replace hN := hN.of hB
      have ⟨_, t0, t1, t2⟩ := hbt.open
      have ⟨_, p0, p1, p2, p3, p4, p5⟩ := hbp.open
      go_wp2_with fail
      go_at_call 7
      refine (kF _ hH hN).mono ?_
      rintro e1 w1 ⟨rfl, hb1⟩
      clear t0 t1 t2 p0 p1 p2 p3 p4 p5
      replace hM := hM.of hb1
      replace hH := hH.of hb1
      replace hN := hN.of hb1
      replace hbt := hbt.of hb1
      replace hbp := hbp.of hb1
      replace hB := below_thru hB hb1
      clear hb1
      have ⟨_, t0, t1, t2⟩ := hbt.open
      have ⟨_, p0, p1, p2, p3, p4, p5⟩ := hbp.open
      go_wp2_with fail
      go_at_call 8
      refine (kf _).mono ?_
      rintro e2 w2 ⟨rfl, hb2⟩
      clear t0 t1 t2 p0 p1 p2 p3 p4 p5
      replace hM := hM.of hb2
      replace hH := hH.of hb2
      replace hN := hN.of hb2
      replace hbt := hbt.of hb2
      replace hbp := hbp.of hb2
      replace hB := below_thru hB hb2
      clear hb2
      have ⟨_, t0, t1, t2⟩ := hbt.open
      have ⟨_, p0, p1, p2, p3, p4, p5⟩ := hbp.open
      go_wp2_with fail
      go_at_call 9
      refine (awake_44 _ hM).mono ?_
      rintro ez wz ⟨rfl, hbz⟩
      have hfin := below_thru hB hbz
      go_wp2_with fail
      go_ret
      exact ⟨rfl, hfin⟩
end Go.Proofs.YtnhapgbjaeaamaaGreatDoor
