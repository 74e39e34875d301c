/- The walk of ProblemTwice. -/
import Derived.Test.YtnhapgbjaeaamaaDoorLaw44b
import Derived.Test.YtnhapgbjaeaamaaDoorLaw20a
import Derived.Test.YtnhapgbjaeaamaaDoorPrbT
namespace Go.Proofs.YtnhapgbjaeaamaaDoor
open Go Go.RowKit
set_option linter.unusedSimpArgs false
set_option linter.unusedVariables false
set_option maxRecDepth 100000
set_option linter.unusedSimpArgs false
set_option linter.unusedVariables false
/-- A block whose cells may be written. -/
def FzAt (w : World) (b : Nat) : Prop := b < w.heap.size ∧ ∀ i, w.frozen? ⟨b, i, none⟩ = false
theorem FzAt.of {w w' : World} {b : Nat} (h : FzAt w b) (hb : Below w.heap.size w w') : FzAt w' b := ⟨Nat.lt_of_lt_of_le h.1 hb.size, fun i => (hb.frozen (p := ⟨b, i, none⟩) h.1).trans (h.2 i)⟩
theorem two_boxesF (w : World) (x y z : Value) (t t' : TypeId) (W H G DX DY : Int) (v : Value) : ∃ we, we = (w.alloc (.cells #[x, y, z] t)).alloc (.cells #[.int .i64 W, .int .i64 H, .int .i64 G, .int .i64 DX, .int .i64 DY, v] t') ∧
    TrAt we w.heap.size x y z ∧ PbAt we (w.heap.size + 1) W H G DX DY v ∧ Below w.heap.size w we ∧ we.heap.size = w.heap.size + 2 ∧ FzAt we (w.heap.size + 1) := by
  obtain ⟨we, h, h1, h2, h3, h4⟩ := two_boxes w x y z t t' W H G DX DY v
  refine ⟨we, h, h1, h2, h3, h4, by omega, fun i => ?_⟩
  rw [h, frozen_alloc_if, World.size_alloc, if_neg (by omega)]
set_option maxHeartbeats 16000000 in
theorem law_ptwice (st : Int) (A B P D : Option Addr) (n c m d ns cs k e : Nat) (Hd : List (Int × Int)) (N : List (Int × List Int)) (W H G DX DY : Int) (S : List Int) (p : List (Int × Int × Int)) (w : World) (hM : Mx w) (hH : Rd encP 2 w A n Hd) (hN : RdX ekN w B m N) (hR : Rd encI 1 w P ns S) (hP : Rd encC 3 w D k p) (hke : k ≤ e) :
    Calls Tryd.prog 3 #[.agg #[.int .i64 st, .slice A n c, .slice B m d], .agg #[.int .i64 W, .int .i64 H, .int .i64 G, .int .i64 DX, .int .i64 DY, .slice P ns cs], .slice D k e] w fun e w' => e = .returned (.bool true) ∧ Below w.heap.size w w' := by
  obtain ⟨v, hv⟩ : ∃ v, (fewT Hd N && decide (k ≤ 60)) = v := ⟨_, rfl⟩
  have kF := fun w1 h1 h2 => law_Small st A B D n c m d k e Hd N w1 rfl hv h1 h2
  cases v with
  | false =>
    clear hv
    go_enter Tryd.func3, Tryd.ntmps3
    go_wp2_with fail
    obtain ⟨we, hwe, hbt, hbp, hB, hsw⟩ := two_boxes w (.int .i64 st) (.slice A n c) (.slice B m d) 25 28 W H G DX DY (.slice P ns cs)
    rw [← hwe]
    clear hwe
    replace hM := hM.of hB
    replace hH := hH.of hB
    replace hN := hN.of hB
    have ⟨_, t0, t1, t2⟩ := hbt.open
    have ⟨_, p0, p1, p2, p3, p4, p5⟩ := hbp.open
    go_wp2_with fail
    go_at_call 4
    refine (kF _ hH hN).mono ?_
    rintro e1 w1 ⟨rfl, hb1⟩
    clear t0 t1 t2 p0 p1 p2 p3 p4 p5
    replace hM := hM.of hb1
    replace hH := hH.of hb1
    replace hN := hN.of hb1
    replace hbt := hbt.of hb1
    replace hbp := hbp.of hb1
    replace hB := below_thru hB hb1
    clear hb1
    have ⟨_, t0, t1, t2⟩ := hbt.open
    have ⟨_, p0, p1, p2, p3, p4, p5⟩ := hbp.open
    go_wp2_with fail
    go_at_call 6
    refine (awake_44 _ hM).mono ?_
    rintro ez wz ⟨rfl, hbz⟩
    have hfin := below_thru hB hbz
    go_wp2_with fail
    go_ret
    exact ⟨rfl, hfin⟩
  | true =>
    have hk : k ≤ 60 := by rw [Bool.and_eq_true, decide_eq_true_eq] at hv; exact hv.2
    clear hv
    by_cases h20 : ns ≤ 20
    · have kf := fun w1 => law_few W H G DX DY P ns cs true (decide_eq_true h20) w1
      have kP := fun w1 h1 h2 h3 h4 h5 => prb_Solves st A B P D n c m d ns cs k e Hd N W H G DX DY S p w1 h1 h2 h3 h4 (by omega) h5 (by omega) hke
      have kQ := fun w1 h1 h2 h3 h4 h5 => prb_Solves st A B P D n c m d ns cs k e Hd N W H (2 * G) (2 * DX) (2 * DY) S p w1 h1 h2 h3 h4 (by omega) h5 (by omega) hke
      have hlaw := Lib.hid (fun h0 h1 h2 h3 h4 => twice_law (st := st) (Hd := Hd) (N := N) (W := W) (H := H) (G := G) (DX := DX) (DY := DY) (S := S) (p := p) h0 h1 h2 h3 h4)
      generalize begE st Hd N W H G DX DY S p = q0 at kP hlaw
      generalize slvB st Hd N W H G DX DY S p = b0 at kP hlaw
      generalize begE st Hd N W H (2 * G) (2 * DX) (2 * DY) S p = q1 at kQ hlaw
      generalize slvB st Hd N W H (2 * G) (2 * DX) (2 * DY) S p = b1 at kQ hlaw
      have hM0 := hM
      have hH0 := hH
      have hN0 := hN
      have hR0 := hR
      have hP0 := hP
      by_cases hq : q0 = 0
      · subst hq
        cases b0 with
        | false =>
          clear kQ hlaw
          go_enter Tryd.func3, Tryd.ntmps3
          go_wp2_with fail
          obtain ⟨we, hwe, hbt, hbp, hB, hsw, hfz⟩ := two_boxesF w (.int .i64 st) (.slice A n c) (.slice B m d) 25 28 W H G DX DY (.slice P ns cs)
          rw [← hwe]
          clear hwe
          replace hM := hM.of hB
          replace hH := hH.of hB
          replace hN := hN.of hB
          replace hR := hR.of hB
          replace hP := hP.of hB
          have ⟨_, t0, t1, t2⟩ := hbt.open
          have ⟨_, p0, p1, p2, p3, p4, p5⟩ := hbp.open
          go_wp2_with fail
          go_at_call 4
          refine (kF _ hH hN).mono ?_
          rintro e1 w1 ⟨rfl, hb1⟩
          clear t0 t1 t2 p0 p1 p2 p3 p4 p5
          replace hM := hM.of hb1
          replace hH := hH.of hb1
          replace hN := hN.of hb1
          replace hR := hR.of hb1
          replace hP := hP.of hb1
          replace hfz := hfz.of hb1
          replace hbt := hbt.of hb1
          replace hbp := hbp.of hb1
          replace hB := below_thru hB hb1
          clear hb1
          have ⟨_, t0, t1, t2⟩ := hbt.open
          have ⟨_, p0, p1, p2, p3, p4, p5⟩ := hbp.open
          go_wp2_with fail
          go_at_call 5
          refine (kf _).mono ?_
          rintro e2 w2 ⟨rfl, hb2⟩
          clear t0 t1 t2 p0 p1 p2 p3 p4 p5
          replace hM := hM.of hb2
          replace hH := hH.of hb2
          replace hN := hN.of hb2
          replace hR := hR.of hb2
          replace hP := hP.of hb2
          replace hfz := hfz.of hb2
          replace hbt := hbt.of hb2
          replace hbp := hbp.of hb2
          replace hB := below_thru hB hb2
          clear hb2
          have ⟨_, t0, t1, t2⟩ := hbt.open
          have ⟨_, p0, p1, p2, p3, p4, p5⟩ := hbp.open
          go_wp2_with fail
          go_at_call 7
          refine (kP _ hM hH hN hR hP).mono ?_
          rintro e3 w3 ⟨rfl, hb3⟩
          clear t0 t1 t2 p0 p1 p2 p3 p4 p5
          replace hM := hM.of hb3
          replace hH := hH.of hb3
          replace hN := hN.of hb3
          replace hR := hR.of hb3
          replace hP := hP.of hb3
          replace hfz := hfz.of hb3
          replace hbt := hbt.of hb3
          replace hbp := hbp.of hb3
          replace hB := below_thru hB hb3
          clear hb3
          have ⟨_, t0, t1, t2⟩ := hbt.open
          have ⟨_, p0, p1, p2, p3, p4, p5⟩ := hbp.open
          go_wp2_with fail
          go_at_call 6
          refine (awake_44 _ hM).mono ?_
          rintro ez wz ⟨rfl, hbz⟩
          have hfin := below_thru hB hbz
          go_wp2_with fail
          go_ret
          exact ⟨rfl, hfin⟩
        | true =>
          by_cases hin : G ≤ 3 ∧ (-12 ≤ DX ∧ DX ≤ 12) ∧ (-12 ≤ DY ∧ DY ≤ 12)
          · obtain ⟨hg1, e1, e2⟩ := hlaw.out rfl rfl hin.1 hin.2.1 hin.2.2
            subst e1 e2
            clear hlaw
            have d1 : decide (3 < G) = false := decide_eq_false (by omega)
            have d2 : decide (DX < -12) = false := decide_eq_false (by omega)
            have d3 : decide (12 < DX) = false := decide_eq_false (by omega)
            have d4 : decide (DY < -12) = false := decide_eq_false (by omega)
            have d5 : decide (12 < DY) = false := decide_eq_false (by omega)
            have m1 : IntKind.i64.wrap (2 * G) = 2 * G := IntWalk.i64_in _ (by omega)
            have m2 : IntKind.i64.wrap (2 * DX) = 2 * DX := IntWalk.i64_in _ (by omega)
            have m3 : IntKind.i64.wrap (2 * DY) = 2 * DY := IntWalk.i64_in _ (by omega)
            have m1' : wrap64 (2 * G) = 2 * G := by unfold wrap64; omega
            have m2' : wrap64 (2 * DX) = 2 * DX := by unfold wrap64; omega
            have m3' : wrap64 (2 * DY) = 2 * DY := by unfold wrap64; omega
            clear hin hg1
            go_enter Tryd.func3, Tryd.ntmps3
            go_wp2_with fail
            obtain ⟨we, hwe, hbt, hbp, hB, hsw, hfz⟩ := two_boxesF w (.int .i64 st) (.slice A n c) (.slice B m d) 25 28 W H G DX DY (.slice P ns cs)
            rw [← hwe]
            clear hwe
            replace hM := hM.of hB
            replace hH := hH.of hB
            replace hN := hN.of hB
            replace hR := hR.of hB
            replace hP := hP.of hB
            have ⟨_, t0, t1, t2⟩ := hbt.open
            have ⟨_, p0, p1, p2, p3, p4, p5⟩ := hbp.open
            go_wp2_with fail
            go_at_call 4
            refine (kF _ hH hN).mono ?_
            rintro e1 w1 ⟨rfl, hb1⟩
            clear t0 t1 t2 p0 p1 p2 p3 p4 p5
            replace hM := hM.of hb1
            replace hH := hH.of hb1
            replace hN := hN.of hb1
            replace hR := hR.of hb1
            replace hP := hP.of hb1
            replace hfz := hfz.of hb1
            replace hbt := hbt.of hb1
            replace hbp := hbp.of hb1
            replace hB := below_thru hB hb1
            clear hb1
            have ⟨_, t0, t1, t2⟩ := hbt.open
            have ⟨_, p0, p1, p2, p3, p4, p5⟩ := hbp.open
            go_wp2_with fail
            go_at_call 5
            refine (kf _).mono ?_
            rintro e2 w2 ⟨rfl, hb2⟩
            clear t0 t1 t2 p0 p1 p2 p3 p4 p5
            replace hM := hM.of hb2
            replace hH := hH.of hb2
            replace hN := hN.of hb2
            replace hR := hR.of hb2
            replace hP := hP.of hb2
            replace hfz := hfz.of hb2
            replace hbt := hbt.of hb2
            replace hbp := hbp.of hb2
            replace hB := below_thru hB hb2
            clear hb2
            have ⟨_, t0, t1, t2⟩ := hbt.open
            have ⟨_, p0, p1, p2, p3, p4, p5⟩ := hbp.open
            go_wp2_with fail
            go_at_call 7
            refine (kP _ hM hH hN hR hP).mono ?_
            rintro e3 w3 ⟨rfl, hb3⟩
            clear t0 t1 t2 p0 p1 p2 p3 p4 p5
            replace hM := hM.of hb3
            replace hH := hH.of hb3
            replace hN := hN.of hb3
            replace hR := hR.of hb3
            replace hP := hP.of hb3
            replace hfz := hfz.of hb3
            replace hbt := hbt.of hb3
            replace hbp := hbp.of hb3
            replace hB := below_thru hB hb3
            clear hb3
            have ⟨_, t0, t1, t2⟩ := hbt.open
            have ⟨_, p0, p1, p2, p3, p4, p5⟩ := hbp.open
            have z2 := hfz.2 2
            have z3 := hfz.2 3
            have z4 := hfz.2 4
            have hsw3 := hB.size
            have hlt3 := hfz.1
            clear hM hH hN hR hP hbt hbp hfz
            go_wp2_with fail
            go_at_call 7
            refine (kQ _ (hM0.of (by (repeat' (first | exact Below.refl _ _ | assumption | (refine Below.alloc ?_ ?_ _) | (refine Below.setCell ?_ ?_ _) | (refine Below.drew ?_) | (refine below_drewN ?_ _) | (refine below_after (Ext.below _) ?_ ?_) | (refine below_after (by assumption) ?_ ?_) | (simp; done) | omega | (simp; omega))))) (hH0.of (by (repeat' (first | exact Below.refl _ _ | assumption | (refine Below.alloc ?_ ?_ _) | (refine Below.setCell ?_ ?_ _) | (refine Below.drew ?_) | (refine below_drewN ?_ _) | (refine below_after (Ext.below _) ?_ ?_) | (refine below_after (by assumption) ?_ ?_) | (simp; done) | omega | (simp; omega))))) (hN0.of (by (repeat' (first | exact Below.refl _ _ | assumption | (refine Below.alloc ?_ ?_ _) | (refine Below.setCell ?_ ?_ _) | (refine Below.drew ?_) | (refine below_drewN ?_ _) | (refine below_after (Ext.below _) ?_ ?_) | (refine below_after (by assumption) ?_ ?_) | (simp; done) | omega | (simp; omega))))) (hR0.of (by (repeat' (first | exact Below.refl _ _ | assumption | (refine Below.alloc ?_ ?_ _) | (refine Below.setCell ?_ ?_ _) | (refine Below.drew ?_) | (refine below_drewN ?_ _) | (refine below_after (Ext.below _) ?_ ?_) | (refine below_after (by assumption) ?_ ?_) | (simp; done) | omega | (simp; omega))))) (hP0.of (by (repeat' (first | exact Below.refl _ _ | assumption | (refine Below.alloc ?_ ?_ _) | (refine Below.setCell ?_ ?_ _) | (refine Below.drew ?_) | (refine below_drewN ?_ _) | (refine below_after (Ext.below _) ?_ ?_) | (refine below_after (by assumption) ?_ ?_) | (simp; done) | omega | (simp; omega)))))).mono ?_
            rintro e4 w4 ⟨rfl, hb4⟩
            have hB4 : Below w.heap.size w w4 := below_thru (by (repeat' (first | exact Below.refl _ _ | assumption | (refine Below.alloc ?_ ?_ _) | (refine Below.setCell ?_ ?_ _) | (refine Below.drew ?_) | (refine below_drewN ?_ _) | (refine below_after (Ext.below _) ?_ ?_) | (refine below_after (by assumption) ?_ ?_) | (simp; done) | omega | (simp; omega)))) hb4
            go_wp2_with fail
            go_at_call 6
            refine (awake_44 _ (hM0.of hB4)).mono ?_
            rintro ez wz ⟨rfl, hbz⟩
            have hfin := below_thru hB4 hbz
            go_wp2_with fail
            go_ret
            exact ⟨rfl, hfin⟩
          · have hways : decide (3 < G) = true ∨ (decide (3 < G) = false ∧ decide (DX < -12) = true) ∨ (decide (3 < G) = false ∧ decide (DX < -12) = false ∧ decide (12 < DX) = true) ∨ (decide (3 < G) = false ∧ decide (DX < -12) = false ∧ decide (12 < DX) = false ∧ decide (DY < -12) = true) ∨ (decide (3 < G) = false ∧ decide (DX < -12) = false ∧ decide (12 < DX) = false ∧ decide (DY < -12) = false ∧ decide (12 < DY) = true) := by
              simp only [decide_eq_true_eq, decide_eq_false_iff_not]; omega
            clear hin hlaw kQ
            rcases hways with d1 | ⟨d1, d2⟩ | ⟨d1, d2, d3⟩ | ⟨d1, d2, d3, d4⟩ | ⟨d1, d2, d3, d4, d5⟩
            all_goals
              go_enter Tryd.func3, Tryd.ntmps3
              go_wp2_with fail
              obtain ⟨we, hwe, hbt, hbp, hB, hsw, hfz⟩ := two_boxesF w (.int .i64 st) (.slice A n c) (.slice B m d) 25 28 W H G DX DY (.slice P ns cs)
              rw [← hwe]
              clear hwe
              replace hM := hM.of hB
              replace hH := hH.of hB
              replace hN := hN.of hB
              replace hR := hR.of hB
              replace hP := hP.of hB
              have ⟨_, t0, t1, t2⟩ := hbt.open
              have ⟨_, p0, p1, p2, p3, p4, p5⟩ := hbp.open
              go_wp2_with fail
              go_at_call 4
              refine (kF _ hH hN).mono ?_
              rintro e1 w1 ⟨rfl, hb1⟩
              clear t0 t1 t2 p0 p1 p2 p3 p4 p5
              replace hM := hM.of hb1
              replace hH := hH.of hb1
              replace hN := hN.of hb1
              replace hR := hR.of hb1
              replace hP := hP.of hb1
              replace hfz := hfz.of hb1
              replace hbt := hbt.of hb1
              replace hbp := hbp.of hb1
              replace hB := below_thru hB hb1
              clear hb1
              have ⟨_, t0, t1, t2⟩ := hbt.open
              have ⟨_, p0, p1, p2, p3, p4, p5⟩ := hbp.open
              go_wp2_with fail
              go_at_call 5
              refine (kf _).mono ?_
              rintro e2 w2 ⟨rfl, hb2⟩
              clear t0 t1 t2 p0 p1 p2 p3 p4 p5
              replace hM := hM.of hb2
              replace hH := hH.of hb2
              replace hN := hN.of hb2
              replace hR := hR.of hb2
              replace hP := hP.of hb2
              replace hfz := hfz.of hb2
              replace hbt := hbt.of hb2
              replace hbp := hbp.of hb2
              replace hB := below_thru hB hb2
              clear hb2
              have ⟨_, t0, t1, t2⟩ := hbt.open
              have ⟨_, p0, p1, p2, p3, p4, p5⟩ := hbp.open
              go_wp2_with fail
              go_at_call 7
              refine (kP _ hM hH hN hR hP).mono ?_
              rintro e3 w3 ⟨rfl, hb3⟩
              clear t0 t1 t2 p0 p1 p2 p3 p4 p5
              replace hM := hM.of hb3
              replace hH := hH.of hb3
              replace hN := hN.of hb3
              replace hR := hR.of hb3
              replace hP := hP.of hb3
              replace hfz := hfz.of hb3
              replace hbt := hbt.of hb3
              replace hbp := hbp.of hb3
              replace hB := below_thru hB hb3
              clear hb3
              have ⟨_, t0, t1, t2⟩ := hbt.open
              have ⟨_, p0, p1, p2, p3, p4, p5⟩ := hbp.open
              go_wp2_with fail
              go_at_call 6
              refine (awake_44 _ hM).mono ?_
              rintro ez wz ⟨rfl, hbz⟩
              have hfin := below_thru hB hbz
              go_wp2_with fail
              go_ret
              exact ⟨rfl, hfin⟩
      · have t0' : (q0 != 0) = true := by simpa using hq
        clear hq hlaw kQ
        go_enter Tryd.func3, Tryd.ntmps3
        go_wp2_with fail
        obtain ⟨we, hwe, hbt, hbp, hB, hsw, hfz⟩ := two_boxesF w (.int .i64 st) (.slice A n c) (.slice B m d) 25 28 W H G DX DY (.slice P ns cs)
        rw [← hwe]
        clear hwe
        replace hM := hM.of hB
        replace hH := hH.of hB
        replace hN := hN.of hB
        replace hR := hR.of hB
        replace hP := hP.of hB
        have ⟨_, t0, t1, t2⟩ := hbt.open
        have ⟨_, p0, p1, p2, p3, p4, p5⟩ := hbp.open
        go_wp2_with fail
        go_at_call 4
        refine (kF _ hH hN).mono ?_
        rintro e1 w1 ⟨rfl, hb1⟩
        clear t0 t1 t2 p0 p1 p2 p3 p4 p5
        replace hM := hM.of hb1
        replace hH := hH.of hb1
        replace hN := hN.of hb1
        replace hR := hR.of hb1
        replace hP := hP.of hb1
        replace hfz := hfz.of hb1
        replace hbt := hbt.of hb1
        replace hbp := hbp.of hb1
        replace hB := below_thru hB hb1
        clear hb1
        have ⟨_, t0, t1, t2⟩ := hbt.open
        have ⟨_, p0, p1, p2, p3, p4, p5⟩ := hbp.open
        go_wp2_with fail
        go_at_call 5
        refine (kf _).mono ?_
        rintro e2 w2 ⟨rfl, hb2⟩
        clear t0 t1 t2 p0 p1 p2 p3 p4 p5
        replace hM := hM.of hb2
        replace hH := hH.of hb2
        replace hN := hN.of hb2
        replace hR := hR.of hb2
        replace hP := hP.of hb2
        replace hfz := hfz.of hb2
        replace hbt := hbt.of hb2
        replace hbp := hbp.of hb2
        replace hB := below_thru hB hb2
        clear hb2
        have ⟨_, t0, t1, t2⟩ := hbt.open
        have ⟨_, p0, p1, p2, p3, p4, p5⟩ := hbp.open
        go_wp2_with fail
        go_at_call 7
        refine (kP _ hM hH hN hR hP).mono ?_
        rintro e3 w3 ⟨rfl, hb3⟩
        clear t0 t1 t2 p0 p1 p2 p3 p4 p5
        replace hM := hM.of hb3
        replace hH := hH.of hb3
        replace hN := hN.of hb3
        replace hR := hR.of hb3
        replace hP := hP.of hb3
        replace hfz := hfz.of hb3
        replace hbt := hbt.of hb3
        replace hbp := hbp.of hb3
        replace hB := below_thru hB hb3
        clear hb3
        have ⟨_, t0, t1, t2⟩ := hbt.open
        have ⟨_, p0, p1, p2, p3, p4, p5⟩ := hbp.open
        go_wp2_with fail
        go_at_call 6
        refine (awake_44 _ hM).mono ?_
        rintro ez wz ⟨rfl, hbz⟩
        have hfin := below_thru hB hbz
        go_wp2_with fail
        go_ret
        exact ⟨rfl, hfin⟩
    · have kf := fun w1 => law_few W H G DX DY P ns cs false (decide_eq_false h20) w1
      go_enter Tryd.func3, Tryd.ntmps3
      go_wp2_with fail
      obtain ⟨we, hwe, hbt, hbp, hB, hsw⟩ := two_boxes w (.int .i64 st) (.slice A n c) (.slice B m d) 25 28 W H G DX DY (.slice P ns cs)
      rw [← hwe]
      clear hwe
      replace hM := hM.of hB
      replace hH := hH.of hB
      replace hN := hN.of hB
      have ⟨_, t0, t1, t2⟩ := hbt.open
      have ⟨_, p0, p1, p2, p3, p4, p5⟩ := hbp.open
      go_wp2_with fail
      go_at_call 4
      refine (kF _ hH hN).mono ?_
      rintro e1 w1 ⟨rfl, hb1⟩
      clear t0 t1 t2 p0 p1 p2 p3 p4 p5
      replace hM := hM.of hb1
      replace hH := hH.of hb1
      replace hN := hN.of hb1
      replace hbt := hbt.of hb1
      replace hbp := hbp.of hb1
      replace hB := below_thru hB hb1
      clear hb1
      have ⟨_, t0, t1, t2⟩ := hbt.open
      have ⟨_, p0, p1, p2, p3, p4, p5⟩ := hbp.open
      go_wp2_with fail
      go_at_call 5
      refine (kf _).mono ?_
      rintro e2 w2 ⟨rfl, hb2⟩
      clear t0 t1 t2 p0 p1 p2 p3 p4 p5
      replace hM := hM.of hb2
      replace hH := hH.of hb2
      replace hN := hN.of hb2
      replace hbt := hbt.of hb2
      replace hbp := hbp.of hb2
      replace hB := below_thru hB hb2
      clear hb2
      have ⟨_, t0, t1, t2⟩ := hbt.open
      have ⟨_, p0, p1, p2, p3, p4, p5⟩ := hbp.open
      go_wp2_with fail
      go_at_call 6
      refine (awake_44 _ hM).mono ?_
      rintro ez wz ⟨rfl, hbz⟩
      have hfin := below_thru hB hbz
      go_wp2_with fail
      go_ret
      exact ⟨rfl, hfin⟩
end Go.Proofs.YtnhapgbjaeaamaaDoor
