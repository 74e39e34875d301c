/- The walk of ProblemMotion. -/
import Derived.Test.YtnhapgbjaeaamaaGreatDoorLaw44b
import Derived.Test.YtnhapgbjaeaamaaGreatDoorLaw20a
import Derived.Test.YtnhapgbjaeaamaaGreatDoorPrb16
namespace Go.Proofs.YtnhapgbjaeaamaaGreatDoor
open Go Go.RowKit
set_option linter.unusedSimpArgs false
set_option linter.unusedVariables false
set_option maxRecDepth 100000
set_option linter.unusedSimpArgs false
set_option linter.unusedVariables false
theorem in_snoc {W H : Int} {p : List (Int × Int × Int)} {j : Nat} {c : Int × Int × Int} (h : p[j]? = some c) : inPB W H (p.take (j + 1)) = (inPB W H (p.take j) && inPC W H c) := by
  unfold inPB
  rw [List.take_add_one, h, List.all_append]
  simp
set_option maxHeartbeats 16000000 in
theorem law_pmotion (st : Int) (A B P D : Option Addr) (n c m d ns cs k e : Nat) (Hd : List (Int × Int)) (N : List (Int × List Int)) (W H G DX DY : Int) (p : List (Int × Int × Int)) (w : World) (hM : Mx w) (hH : Rd encP 2 w A n Hd) (hN : RdX ekN w B m N) (hP : Rd encC 3 w D k p) (hke : k ≤ e) :
    Calls Tryz.prog 5 #[.agg #[.int .i64 st, .slice A n c, .slice B m d], .agg #[.int .i64 W, .int .i64 H, .int .i64 G, .int .i64 DX, .int .i64 DY, .slice P ns cs], .slice D k e] w fun e w' => e = .returned (.bool true) ∧ Below w.heap.size w w' := by
  obtain ⟨v, hv⟩ : ∃ v, (fewT Hd N && decide (k ≤ 60)) = v := ⟨_, rfl⟩
  have kF := fun w1 h1 h2 => law_Small st A B D n c m d k e Hd N w1 rfl hv h1 h2
  cases v with
  | false =>
    clear hv
    go_enter Tryz.func5, Tryz.ntmps5
    go_wp2_with fail
    obtain ⟨we, hwe, hbt, hbp, hB, hsw⟩ := two_boxes w (.int .i64 st) (.slice A n c) (.slice B m d) 25 28 W H G DX DY (.slice none 0 0)
    rw [← hwe]
    clear hwe
    replace hM := hM.of hB
    replace hH := hH.of hB
    replace hN := hN.of hB
    have ⟨_, t0, t1, t2⟩ := hbt.open
    have ⟨_, p0, p1, p2, p3, p4, p5⟩ := hbp.open
    go_wp2_with fail
    go_at_call 18
    refine (kF _ hH hN).mono ?_
    rintro e1 w1 ⟨rfl, hb1⟩
    clear t0 t1 t2 p0 p1 p2 p3 p4 p5
    replace hM := hM.of hb1
    replace hH := hH.of hb1
    replace hN := hN.of hb1
    replace hbt := hbt.of hb1
    replace hbp := hbp.of hb1
    replace hB := below_thru hB hb1
    clear hb1
    have ⟨_, t0, t1, t2⟩ := hbt.open
    have ⟨_, p0, p1, p2, p3, p4, p5⟩ := hbp.open
    go_wp2_with fail
    go_at_call 9
    refine (awake_44 _ hM).mono ?_
    rintro ez wz ⟨rfl, hbz⟩
    have hfin := below_thru hB hbz
    go_wp2_with fail
    go_ret
    exact ⟨rfl, hfin⟩
  | true =>
    have hk : k ≤ 60 := by rw [Bool.and_eq_true, decide_eq_true_eq] at hv; exact hv.2
    clear hv
    have kG := fun w1 h1 h2 h3 => ref20_Fits st A B D n c m d k e Hd N p w1 h1 h2 h3 (by omega)
    by_cases hf0 : fitE st Hd N p = 0
    · rw [hf0] at kG
      have hf := fit_iff.1 hf0
      have kC := fun w1 h1 h2 => ref44_Check st A B none n c m d 0 0 Hd N W H G DX DY [] w1 h1 h2 Rd.nil_ (by omega)
      by_cases hc0 : chkE st Hd N W H G DX DY [] = 0
      · rw [hc0] at kC
        by_cases hk0 : k = 0
        · subst hk0
          clear hf hf0 hc0
          go_enter Tryz.func5, Tryz.ntmps5
          go_wp2_with fail
          obtain ⟨we, hwe, hbt, hbp, hB, hsw⟩ := two_boxes w (.int .i64 st) (.slice A n c) (.slice B m d) 25 28 W H G DX DY (.slice none 0 0)
          rw [← hwe]
          clear hwe
          replace hM := hM.of hB
          replace hH := hH.of hB
          replace hN := hN.of hB
          replace hP := hP.of hB
          have ⟨_, t0, t1, t2⟩ := hbt.open
          have ⟨_, p0, p1, p2, p3, p4, p5⟩ := hbp.open
          go_wp2_with fail
          go_at_call 18
          refine (kF _ hH hN).mono ?_
          rintro e1 w1 ⟨rfl, hb1⟩
          clear t0 t1 t2 p0 p1 p2 p3 p4 p5
          replace hM := hM.of hb1
          replace hH := hH.of hb1
          replace hN := hN.of hb1
          replace hP := hP.of hb1
          replace hbt := hbt.of hb1
          replace hbp := hbp.of hb1
          replace hB := below_thru hB hb1
          clear hb1
          have ⟨_, t0, t1, t2⟩ := hbt.open
          have ⟨_, p0, p1, p2, p3, p4, p5⟩ := hbp.open
          go_wp2_with fail
          go_at_call 23
          refine (kG _ hH hN hP).mono ?_
          rintro e2 w2 ⟨rfl, hb2⟩
          clear t0 t1 t2 p0 p1 p2 p3 p4 p5
          replace hM := hM.of hb2
          replace hH := hH.of hb2
          replace hN := hN.of hb2
          replace hP := hP.of hb2
          replace hbt := hbt.of hb2
          replace hbp := hbp.of hb2
          replace hB := below_thru hB hb2
          clear hb2
          have ⟨_, t0, t1, t2⟩ := hbt.open
          have ⟨_, p0, p1, p2, p3, p4, p5⟩ := hbp.open
          go_wp2_with fail
          go_at_call 15
          refine (kC _ hH hN).mono ?_
          rintro e3 w3 ⟨rfl, hb3⟩
          clear t0 t1 t2 p0 p1 p2 p3 p4 p5
          replace hM := hM.of hb3
          replace hH := hH.of hb3
          replace hN := hN.of hb3
          replace hP := hP.of hb3
          replace hbt := hbt.of hb3
          replace hbp := hbp.of hb3
          replace hB := below_thru hB hb3
          clear hb3
          have ⟨_, t0, t1, t2⟩ := hbt.open
          have ⟨_, p0, p1, p2, p3, p4, p5⟩ := hbp.open
          go_wp2_with fail
          go_at_call 9
          refine (awake_44 _ hM).mono ?_
          rintro ez wz ⟨rfl, hbz⟩
          have hfin := below_thru hB hbz
          go_wp2_with fail
          go_ret
          exact ⟨rfl, hfin⟩
        · have hb0 : begE st Hd N W H G DX DY [] p = 0 := by unfold begE; rw [if_pos hc0]; exact hf0
          have ho := (chk_zero hc0).2
          obtain ⟨a, rfl⟩ := Int.eq_ofNat_of_zero_le (show 0 ≤ W by have := ho.w; omega)
          obtain ⟨b, rfl⟩ := Int.eq_ofNat_of_zero_le (show 0 ≤ H by have := ho.h; omega)
          obtain ⟨GG, rfl⟩ := Int.eq_ofNat_of_zero_le (show 0 ≤ G by have := ho.g; omega)
          have h0 : p ≠ [] := fun h => hk0 (by rw [← hP.len, h]; rfl)
          have hPl := Lib.hid hP.len
          have kE := fun w1 g1 g2 g3 g5 => prb_Exact st A B none D n c m d 0 0 k e Hd N a b GG DX DY [] p w1 g1 g2 g3 Rd.nil_ (by omega) g5 (by omega) hke
          rw [hb0] at kE
          have kN := fun w1 g2 g3 g5 => ref34_Find st A B D n c m d k e Hd N p w1 g2 g3 g5 hke hf h0
          have hlaw := Lib.hid (fun P X Y has hF => motion_law (P := P) (X := X) (Y := Y) (has := has) hf ho h0 hF)
          generalize excB st Hd N a b GG DX DY [] p = q at kE hlaw
          have t0' : ((k : Int) == 0) = false := by simpa using hk0
          have t0'' : (k == 0) = false := by simpa using hk0
          clear hf hf0 hc0 hb0 ho h0 hk0
          go_enter Tryz.func5, Tryz.ntmps5
          go_wp2_with fail
          obtain ⟨we, hwe, hbt, hbp, hB, hsw⟩ := two_boxes w (.int .i64 st) (.slice A n c) (.slice B m d) 25 28 a b GG DX DY (.slice none 0 0)
          rw [← hwe]
          clear hwe
          replace hM := hM.of hB
          replace hH := hH.of hB
          replace hN := hN.of hB
          replace hP := hP.of hB
          have ⟨_, t0, t1, t2⟩ := hbt.open
          have ⟨_, p0, p1, p2, p3, p4, p5⟩ := hbp.open
          go_wp2_with fail
          go_at_call 18
          refine (kF _ hH hN).mono ?_
          rintro e1 w1 ⟨rfl, hb1⟩
          clear t0 t1 t2 p0 p1 p2 p3 p4 p5
          replace hM := hM.of hb1
          replace hH := hH.of hb1
          replace hN := hN.of hb1
          replace hP := hP.of hb1
          replace hbt := hbt.of hb1
          replace hbp := hbp.of hb1
          replace hB := below_thru hB hb1
          clear hb1
          have ⟨_, t0, t1, t2⟩ := hbt.open
          have ⟨_, p0, p1, p2, p3, p4, p5⟩ := hbp.open
          go_wp2_with fail
          go_at_call 23
          refine (kG _ hH hN hP).mono ?_
          rintro e2 w2 ⟨rfl, hb2⟩
          clear t0 t1 t2 p0 p1 p2 p3 p4 p5
          replace hM := hM.of hb2
          replace hH := hH.of hb2
          replace hN := hN.of hb2
          replace hP := hP.of hb2
          replace hbt := hbt.of hb2
          replace hbp := hbp.of hb2
          replace hB := below_thru hB hb2
          clear hb2
          have ⟨_, t0, t1, t2⟩ := hbt.open
          have ⟨_, p0, p1, p2, p3, p4, p5⟩ := hbp.open
          go_wp2_with fail
          go_at_call 15
          refine (kC _ hH hN).mono ?_
          rintro e3 w3 ⟨rfl, hb3⟩
          clear t0 t1 t2 p0 p1 p2 p3 p4 p5
          replace hM := hM.of hb3
          replace hH := hH.of hb3
          replace hN := hN.of hb3
          replace hP := hP.of hb3
          replace hbt := hbt.of hb3
          replace hbp := hbp.of hb3
          replace hB := below_thru hB hb3
          clear hb3
          have ⟨_, t0, t1, t2⟩ := hbt.open
          have ⟨_, p0, p1, p2, p3, p4, p5⟩ := hbp.open
          clear t0 t1 t2 p0 p1 p2 p3 p4 p5
          have hBs := hB.size
          have ⟨_, p0, p1, p2, p3, p4, p5⟩ := hbp.open
          go_wp2_with fail
          clear p0 p1 p2 p3 p4 p5
          go_loopw [7, 40] (fun v t wr => ∃ j : Nat, v = .bool (inPB a b (p.take j)) ∧ t = .int .i64 j ∧ j ≤ k ∧ Below w3.heap.size w3 wr) (fun _ t _ => k - (intOf t).toNat)
          case atStart => exact ⟨0, rfl, rfl, by omega, Below.refl _ _⟩
          case round =>
            obtain ⟨j, rfl, rfl, hj, hb0⟩ := hrel
            have hsz := hb0.size
            by_cases hlj : j < k
            · have ⟨_, p0, p1, _, _, _, _⟩ := (hbp.of hb0).open
              have dj : decide ((j : Int) < k) = true := decide_eq_true (by omega)
              have dj' : decide (j < k) = true := decide_eq_true hlj
              obtain ⟨x, y, s, bo, o, hx, rfl, hbo, g1, g2, g3⟩ := (hP.of hb0).cell hlj
              have hst := in_snoc (W := a) (H := b) hx.out
              have i0 : (0 : Int) ≤ (j : Int) := by omega
              have i1 : (j : Int) < (k : Int) := by omega
              cases hv : inPB a b (p.take j) with
              | false =>
                rw [hv, Bool.false_and] at hst
                replace hst := Lib.hid hst
                clear hv
                go_wp2_with fail
                (refine wp_region_ext_lit (by kernel_rfl) (by kernel_rfl) ?_; (repeat (go_big_quiet_step (fail))); refine wpQuiet_nil ?_; intro _ hw'; obtain ⟨z7, hw''⟩ := hw'; subst hw''; have hs7 := z7.size; obtain ⟨hc7, hf7⟩ := bcell z7.below; (try simp only [World.size_alloc, World.size_setCell, World.size_drew] at hc7 hf7); (try simp at hs7))
                go_wp2_with fail
                go_roundw
                case rel => exact ⟨j + 1, by rw [hst.out], by go_num, by omega, by (repeat' (first | exact Below.refl _ _ | assumption | (refine Below.alloc ?_ ?_ _) | (refine Below.setCell ?_ ?_ _) | (refine Below.drew ?_) | (refine below_drewN ?_ _) | (refine below_after (Ext.below _) ?_ ?_) | (refine below_after (by assumption) ?_ ?_) | (simp; done) | omega | (simp; omega)))⟩
                case measure => simp [intOf]; omega
              | true =>
                rw [hv, Bool.true_and] at hst
                clear hv
                by_cases hic : 0 ≤ x ∧ x < (a : Int) ∧ 0 ≤ y ∧ y < (b : Int)
                · have hcc : inPC a b (x, y, s) = true := decide_eq_true hic
                  rw [hcc] at hst
                  have d1 : decide (0 ≤ x) = true := decide_eq_true hic.1
                  have d2 : decide (x < (a : Int)) = true := decide_eq_true hic.2.1
                  have d3 : decide (0 ≤ y) = true := decide_eq_true hic.2.2.1
                  have d4 : decide (y < (b : Int)) = true := decide_eq_true hic.2.2.2
                  replace hst := Lib.hid hst
                  clear hic hcc
                  go_wp2_with fail
                  (refine wp_region_ext_lit (by kernel_rfl) (by kernel_rfl) ?_; (repeat (go_big_quiet_step (fail))); refine wpQuiet_nil ?_; intro _ hw'; obtain ⟨z7, hw''⟩ := hw'; subst hw''; have hs7 := z7.size; obtain ⟨hc7, hf7⟩ := bcell z7.below; (try simp only [World.size_alloc, World.size_setCell, World.size_drew] at hc7 hf7); (try simp at hs7))
                  go_wp2_with fail
                  go_roundw
                  case rel => exact ⟨j + 1, by rw [hst.out], by go_num, by omega, by (repeat' (first | exact Below.refl _ _ | assumption | (refine Below.alloc ?_ ?_ _) | (refine Below.setCell ?_ ?_ _) | (refine Below.drew ?_) | (refine below_drewN ?_ _) | (refine below_after (Ext.below _) ?_ ?_) | (refine below_after (by assumption) ?_ ?_) | (simp; done) | omega | (simp; omega)))⟩
                  case measure => simp [intOf]; omega
                · have hcc : inPC a b (x, y, s) = false := decide_eq_false hic
                  rw [hcc] at hst
                  replace hst := Lib.hid hst
                  have hways : decide (0 ≤ x) = false ∨ (decide (0 ≤ x) = true ∧ decide (x < (a : Int)) = false) ∨ (decide (0 ≤ x) = true ∧ decide (x < (a : Int)) = true ∧ decide (0 ≤ y) = false) ∨ (decide (0 ≤ x) = true ∧ decide (x < (a : Int)) = true ∧ decide (0 ≤ y) = true ∧ decide (y < (b : Int)) = false) := by
                    simp only [decide_eq_true_eq, decide_eq_false_iff_not]; omega
                  clear hic hcc
                  rcases hways with d1 | ⟨d1, d2⟩ | ⟨d1, d2, d3⟩ | ⟨d1, d2, d3, d4⟩
                  all_goals
                    go_wp2_with fail
                    (refine wp_region_ext_lit (by kernel_rfl) (by kernel_rfl) ?_; (repeat (go_big_quiet_step (fail))); refine wpQuiet_nil ?_; intro _ hw'; obtain ⟨z7, hw''⟩ := hw'; subst hw''; have hs7 := z7.size; obtain ⟨hc7, hf7⟩ := bcell z7.below; (try simp only [World.size_alloc, World.size_setCell, World.size_drew] at hc7 hf7); (try simp at hs7))
                    go_wp2_with fail
                    go_roundw
                    case rel => exact ⟨j + 1, by rw [hst.out], by go_num, by omega, by (repeat' (first | exact Below.refl _ _ | assumption | (refine Below.alloc ?_ ?_ _) | (refine Below.setCell ?_ ?_ _) | (refine Below.drew ?_) | (refine below_drewN ?_ _) | (refine below_after (Ext.below _) ?_ ?_) | (refine below_after (by assumption) ?_ ?_) | (simp; done) | omega | (simp; omega)))⟩
                    case measure => simp [intOf]; omega
            · obtain rfl : j = k := by omega
              have dj : decide ((j : Int) < j) = false := decide_eq_false (by omega)
              have dj' : decide (j < j) = false := decide_eq_false (by omega)
              rw [List.take_of_length_le (by rw [hPl.out]; exact Nat.le_refl _)]
              generalize inPB a b p = inn at hlaw ⊢
              replace hM := hM.of hb0
              replace hH := hH.of hb0
              replace hN := hN.of hb0
              replace hP := hP.of hb0
              replace hbt := hbt.of hb0
              replace hbp := hbp.of hb0
              replace hB := below_thru hB hb0
              clear hb0 hsz
              have ⟨_, t0, t1, t2⟩ := hbt.open
              have ⟨_, p0, p1, p2, p3, p4, p5⟩ := hbp.open
              go_wp2_with fail
              go_at_call 21
              refine (kE _ hM hH hN hP).mono ?_
              rintro e4 w4 ⟨rfl, hb4⟩
              clear t0 t1 t2 p0 p1 p2 p3 p4 p5
              replace hM := hM.of hb4
              replace hH := hH.of hb4
              replace hN := hN.of hb4
              replace hP := hP.of hb4
              replace hbt := hbt.of hb4
              replace hbp := hbp.of hb4
              replace hB := below_thru hB hb4
              clear hb4
              have ⟨_, t0, t1, t2⟩ := hbt.open
              have ⟨_, p0, p1, p2, p3, p4, p5⟩ := hbp.open
              go_wp2_with fail
              go_at_call 24
              refine (kN _ hH hN hP).mono ?_
              rintro e5 w5 ⟨er, has, X, Y, Z, rfl, hF, hb5⟩
              clear t0 t1 t2 p0 p1 p2 p3 p4 p5
              replace hM := hM.of hb5
              replace hH := hH.of hb5
              replace hN := hN.of hb5
              replace hP := hP.of hb5
              replace hbt := hbt.of hb5
              replace hbp := hbp.of hb5
              replace hB := below_thru hB hb5
              clear hb5
              have ⟨_, t0, t1, t2⟩ := hbt.open
              have ⟨_, p0, p1, p2, p3, p4, p5⟩ := hbp.open
              by_cases her : er = 0
              · subst her
                have hq := hlaw.out X Y Z has hF
                cases inn with
                | false =>
                  rw [Bool.false_and, Bool.false_and] at hq
                  subst hq
                  go_wp2_with fail
                  go_at_call 9
                  refine (awake_44 _ (hM.of ((Below.refl _ _).alloc (Nat.le_refl _) _))).mono ?_
                  rintro ez wz ⟨rfl, hbz⟩
                  have hfin := below_thru (below_thru hB ((Below.refl _ _).alloc (Nat.le_refl _) _)) hbz
                  go_wp2_with fail
                  go_ret
                  exact ⟨rfl, hfin⟩
                | true =>
                  cases has with
                  | false =>
                    rw [Bool.true_and, Bool.false_and] at hq
                    subst hq
                    go_wp2_with fail
                    go_at_call 9
                    refine (awake_44 _ (hM.of ((Below.refl _ _).alloc (Nat.le_refl _) _))).mono ?_
                    rintro ez wz ⟨rfl, hbz⟩
                    have hfin := below_thru (below_thru hB ((Below.refl _ _).alloc (Nat.le_refl _) _)) hbz
                    go_wp2_with fail
                    go_ret
                    exact ⟨rfl, hfin⟩
                  | true =>
                    rw [Bool.true_and, Bool.true_and] at hq
                    by_cases hX : X = (GG : Int) ∧ Y = DX ∧ Z = DY
                    · have hXX := decide_eq_true hX
                      rw [hXX] at hq
                      subst hq
                      clear hXX
                      obtain ⟨rfl, rfl, rfl⟩ := hX
                      go_wp2_with fail
                      go_at_call 9
                      refine (awake_44 _ (hM.of ((Below.refl _ _).alloc (Nat.le_refl _) _))).mono ?_
                      rintro ez wz ⟨rfl, hbz⟩
                      have hfin := below_thru (below_thru hB ((Below.refl _ _).alloc (Nat.le_refl _) _)) hbz
                      go_wp2_with fail
                      go_ret
                      exact ⟨rfl, hfin⟩
                    · have hXX := decide_eq_false hX
                      rw [hXX] at hq
                      subst hq
                      clear hXX
                      go_wp2_with fail
                      all_goals
                        go_at_call 9
                        refine (awake_44 _ (hM.of ((Below.refl _ _).alloc (Nat.le_refl _) _))).mono ?_
                        rintro ez wz ⟨rfl, hbz⟩
                        have hfin := below_thru (below_thru hB ((Below.refl _ _).alloc (Nat.le_refl _) _)) hbz
                        go_wp2_with fail
                        go_ret
                        exact ⟨rfl, hfin⟩
              · have t9 : (er != 0) = true := by simpa using her
                clear her hlaw
                go_wp2_with fail
                go_at_call 9
                refine (awake_44 _ (hM.of ((Below.refl _ _).alloc (Nat.le_refl _) _))).mono ?_
                rintro ez wz ⟨rfl, hbz⟩
                have hfin := below_thru (below_thru hB ((Below.refl _ _).alloc (Nat.le_refl _) _)) hbz
                go_wp2_with fail
                go_ret
                exact ⟨rfl, hfin⟩
      · generalize chkE st Hd N W H G DX DY [] = r at hc0 kC
        have t0' : (r != 0) = true := by simpa using hc0
        clear hc0 hf hf0
        go_enter Tryz.func5, Tryz.ntmps5
        go_wp2_with fail
        obtain ⟨we, hwe, hbt, hbp, hB, hsw⟩ := two_boxes w (.int .i64 st) (.slice A n c) (.slice B m d) 25 28 W H G DX DY (.slice none 0 0)
        rw [← hwe]
        clear hwe
        replace hM := hM.of hB
        replace hH := hH.of hB
        replace hN := hN.of hB
        replace hP := hP.of hB
        have ⟨_, t0, t1, t2⟩ := hbt.open
        have ⟨_, p0, p1, p2, p3, p4, p5⟩ := hbp.open
        go_wp2_with fail
        go_at_call 18
        refine (kF _ hH hN).mono ?_
        rintro e1 w1 ⟨rfl, hb1⟩
        clear t0 t1 t2 p0 p1 p2 p3 p4 p5
        replace hM := hM.of hb1
        replace hH := hH.of hb1
        replace hN := hN.of hb1
        replace hP := hP.of hb1
        replace hbt := hbt.of hb1
        replace hbp := hbp.of hb1
        replace hB := below_thru hB hb1
        clear hb1
        have ⟨_, t0, t1, t2⟩ := hbt.open
        have ⟨_, p0, p1, p2, p3, p4, p5⟩ := hbp.open
        go_wp2_with fail
        go_at_call 23
        refine (kG _ hH hN hP).mono ?_
        rintro e2 w2 ⟨rfl, hb2⟩
        clear t0 t1 t2 p0 p1 p2 p3 p4 p5
        replace hM := hM.of hb2
        replace hH := hH.of hb2
        replace hN := hN.of hb2
        replace hP := hP.of hb2
        replace hbt := hbt.of hb2
        replace hbp := hbp.of hb2
        replace hB := below_thru hB hb2
        clear hb2
        have ⟨_, t0, t1, t2⟩ := hbt.open
        have ⟨_, p0, p1, p2, p3, p4, p5⟩ := hbp.open
        go_wp2_with fail
        go_at_call 15
        refine (kC _ hH hN).mono ?_
        rintro e3 w3 ⟨rfl, hb3⟩
        clear t0 t1 t2 p0 p1 p2 p3 p4 p5
        replace hM := hM.of hb3
        replace hH := hH.of hb3
        replace hN := hN.of hb3
        replace hP := hP.of hb3
        replace hbt := hbt.of hb3
        replace hbp := hbp.of hb3
        replace hB := below_thru hB hb3
        clear hb3
        have ⟨_, t0, t1, t2⟩ := hbt.open
        have ⟨_, p0, p1, p2, p3, p4, p5⟩ := hbp.open
        go_wp2_with fail
        go_at_call 9
        refine (awake_44 _ hM).mono ?_
        rintro ez wz ⟨rfl, hbz⟩
        have hfin := below_thru hB hbz
        go_wp2_with fail
        go_ret
        exact ⟨rfl, hfin⟩
    · generalize fitE st Hd N p = r at hf0 kG
      have t0' : (r != 0) = true := by simpa using hf0
      clear hf0
      go_enter Tryz.func5, Tryz.ntmps5
      go_wp2_with fail
      obtain ⟨we, hwe, hbt, hbp, hB, hsw⟩ := two_boxes w (.int .i64 st) (.slice A n c) (.slice B m d) 25 28 W H G DX DY (.slice none 0 0)
      rw [← hwe]
      clear hwe
      replace hM := hM.of hB
      replace hH := hH.of hB
      replace hN := hN.of hB
      replace hP := hP.of hB
      have ⟨_, t0, t1, t2⟩ := hbt.open
      have ⟨_, p0, p1, p2, p3, p4, p5⟩ := hbp.open
      go_wp2_with fail
      go_at_call 18
      refine (kF _ hH hN).mono ?_
      rintro e1 w1 ⟨rfl, hb1⟩
      clear t0 t1 t2 p0 p1 p2 p3 p4 p5
      replace hM := hM.of hb1
      replace hH := hH.of hb1
      replace hN := hN.of hb1
      replace hP := hP.of hb1
      replace hbt := hbt.of hb1
      replace hbp := hbp.of hb1
      replace hB := below_thru hB hb1
      clear hb1
      have ⟨_, t0, t1, t2⟩ := hbt.open
      have ⟨_, p0, p1, p2, p3, p4, p5⟩ := hbp.open
      go_wp2_with fail
      go_at_call 23
      refine (kG _ hH hN hP).mono ?_
      rintro e2 w2 ⟨rfl, hb2⟩
      clear t0 t1 t2 p0 p1 p2 p3 p4 p5
      replace hM := hM.of hb2
      replace hH := hH.of hb2
      replace hN := hN.of hb2
      replace hP := hP.of hb2
      replace hbt := hbt.of hb2
      replace hbp := hbp.of hb2
      replace hB := below_thru hB hb2
      clear hb2
      have ⟨_, t0, t1, t2⟩ := hbt.open
      have ⟨_, p0, p1, p2, p3, p4, p5⟩ := hbp.open
      go_wp2_with fail
      go_at_call 9
      refine (awake_44 _ hM).mono ?_
      rintro ez wz ⟨rfl, hbz⟩
      have hfin := below_thru hB hbz
      go_wp2_with fail
      go_ret
      exact ⟨rfl, hfin⟩
end Go.Proofs.YtnhapgbjaeaamaaGreatDoor
