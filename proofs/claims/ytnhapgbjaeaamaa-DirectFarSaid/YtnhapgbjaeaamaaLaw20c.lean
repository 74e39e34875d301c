/- The walks of DirectRuns and DirectFar. -/
import Derived.Test.YtnhapgbjaeaamaaLaw20b
import Derived.Test.YtnhapgbjaeaamaaMEM
import Derived.Test.YtnhapgbjaeaamaaDirV
import Derived.Test.YtnhapgbjaeaamaaCell8
namespace Go.Proofs.Ytnhapgbjaeaamaa
open Go Go.RowKit
set_option linter.unusedSimpArgs false
set_option linter.unusedVariables false
set_option maxRecDepth 100000
set_option linter.unusedSimpArgs false
set_option linter.unusedVariables false
set_option maxHeartbeats 16000000 in
theorem law_druns (st : Int) (A B D : Option Addr) (n c m d k e : Nat) (H : List (Int × Int)) (N : List (Int × List Int)) (p : List (Int × Int × Int)) (w : World) (hH : Rd encP 2 w A n H) (hN : RdX ekN w B m N) (hR : Rd encC 3 w D k p) (hke : k ≤ e) (nn : Int) :
    Calls Try.prog 5 #[.agg #[.int .i64 st, .slice A n c, .slice B m d], .slice D k e, .int .i64 nn] w fun e w' => e = .returned (.bool true) ∧ Below w.heap.size w w' := by
  obtain ⟨v, hv⟩ : ∃ v, (fewT H N && decide (k ≤ 60)) = v := ⟨_, rfl⟩
  have kS := fun w1 h1 h2 => law_Small st A B D n c m d k e H N w1 rfl hv h1 h2
  cases v with
  | false =>
    clear hv
    go_enter Try.func5, Try.ntmps5
    go_wp2_with fail
    have hbx := TrAt.new w (.int .i64 st) (.slice A n c) (.slice B m d) 25
    have hB : Below w.heap.size w (w.alloc (.cells #[.int .i64 st, .slice A n c, .slice B m d] 25)) := by (repeat' (first | exact Below.refl _ _ | assumption | (refine Below.alloc ?_ ?_ _) | (refine Below.setCell ?_ ?_ _) | (refine Below.drew ?_) | (refine below_drewN ?_ _) | (refine below_after (Ext.below _) ?_ ?_) | (refine below_after (by assumption) ?_ ?_) | (simp; done) | omega | (simp; omega)))
    obtain ⟨we, hwe⟩ : ∃ we, we = w.alloc (.cells #[.int .i64 st, .slice A n c, .slice B m d] 25) := ⟨_, rfl⟩
    rw [← hwe] at hbx hB ⊢
    replace hH := hH.of hB
    replace hN := hN.of hB
    replace hR := hR.of hB
    clear hwe
    have ⟨_, t0, t1, t2⟩ := hbx
    go_wp2_with fail
    go_at_call 9
    refine (kS _ hH hN).mono ?_
    rintro e1 w1 ⟨rfl, hb1⟩
    clear t0 t1 t2
    replace hH := hH.of hb1
    replace hN := hN.of hb1
    replace hR := hR.of hb1
    replace hbx := hbx.of hb1
    replace hB := below_thru hB hb1
    clear hb1
    have ⟨_, t0, t1, t2⟩ := hbx
    go_wp2_with fail
    go_at_call 10
    refine (awake_20 _).mono ?_
    rintro ez wz ⟨rfl, hbz⟩
    have hfin := below_thru hB hbz
    go_wp2_with fail
    go_ret
    exact ⟨rfl, hfin⟩
  | true =>
    have hk : k ≤ 60 := by rw [Bool.and_eq_true, decide_eq_true_eq] at hv; exact hv.2
    clear hv
    rcases (show (8 < nn ∧ nn ≤ 10000) ∨ (8 < nn ∧ 10000 < nn) ∨ nn ≤ 8 by omega) with ⟨h8, h9⟩ | h8
    · have d1 : decide (8 < nn) = true := decide_eq_true h8
      have d2 : decide (nn ≤ 10000) = true := decide_eq_true h9
      go_enter Try.func5, Try.ntmps5
      go_wp2_with fail
      have hbx := TrAt.new w (.int .i64 st) (.slice A n c) (.slice B m d) 25
      have hB : Below w.heap.size w (w.alloc (.cells #[.int .i64 st, .slice A n c, .slice B m d] 25)) := by (repeat' (first | exact Below.refl _ _ | assumption | (refine Below.alloc ?_ ?_ _) | (refine Below.setCell ?_ ?_ _) | (refine Below.drew ?_) | (refine below_drewN ?_ _) | (refine below_after (Ext.below _) ?_ ?_) | (refine below_after (by assumption) ?_ ?_) | (simp; done) | omega | (simp; omega)))
      obtain ⟨we, hwe⟩ : ∃ we, we = w.alloc (.cells #[.int .i64 st, .slice A n c, .slice B m d] 25) := ⟨_, rfl⟩
      rw [← hwe] at hbx hB ⊢
      replace hH := hH.of hB
      replace hN := hN.of hB
      replace hR := hR.of hB
      clear hwe
      have ⟨_, t0, t1, t2⟩ := hbx
      go_wp2_with fail
      go_at_call 9
      refine (kS _ hH hN).mono ?_
      rintro e1 w1 ⟨rfl, hb1⟩
      clear t0 t1 t2
      replace hH := hH.of hb1
      replace hN := hN.of hb1
      replace hR := hR.of hb1
      replace hbx := hbx.of hb1
      replace hB := below_thru hB hb1
      clear hb1
      have ⟨_, t0, t1, t2⟩ := hbx
      go_wp2_with fail
      go_at_call 10
      refine (awake_20 _).mono ?_
      rintro ez wz ⟨rfl, hbz⟩
      have hfin := below_thru hB hbz
      go_wp2_with fail
      go_ret
      exact ⟨rfl, hfin⟩
    · have hways : (decide (8 < nn) = true ∧ decide (nn ≤ 10000) = false) ∨ decide (8 < nn) = false := by
        simp only [decide_eq_true_eq, decide_eq_false_iff_not]; omega
      clear h8
      have kP := fun w1 h1 h2 h3 => direct_Run st A B D n c m d k e H N p w1 nn h1 h2 h3 (by omega) hke
      have kQ := fun w1 h1 h2 h3 => ref20_Run st A B D n c m d k e H N p w1 nn h1 h2 h3 (by omega) hke
      have kT := fun w1 h1 h2 h3 => direct_History st A B D n c m d k e H N p w1 nn h1 h2 h3 (by omega) hke
      have kU := fun w1 h1 h2 h3 => ref20_History st A B D n c m d k e H N p w1 nn h1 h2 h3 (by omega) hke
      have hsz := Lib.hid (run_len (st := st) (H := H) (N := N) (p := p) (nn := nn))
      have hsz2 := Lib.hid (his_len1 (st := st) (H := H) (N := N) (p := p) (nn := nn))
      generalize runE st H N p nn = q0 at kP kQ kT kU
      generalize runL st H N p nn = s0 at kP kQ hsz
      generalize hisL st H N p nn = s1 at kT kU hsz2
      have e2 : (q0 == q0) = true := beq_self_eq_true _
      have e2n : (q0 != q0) = false := by simp
      rcases hways with ⟨d1, d2⟩ | d1
      · go_enter Try.func5, Try.ntmps5
        go_wp2_with fail
        have hbx := TrAt.new w (.int .i64 st) (.slice A n c) (.slice B m d) 25
        have hB : Below w.heap.size w (w.alloc (.cells #[.int .i64 st, .slice A n c, .slice B m d] 25)) := by (repeat' (first | exact Below.refl _ _ | assumption | (refine Below.alloc ?_ ?_ _) | (refine Below.setCell ?_ ?_ _) | (refine Below.drew ?_) | (refine below_drewN ?_ _) | (refine below_after (Ext.below _) ?_ ?_) | (refine below_after (by assumption) ?_ ?_) | (simp; done) | omega | (simp; omega)))
        obtain ⟨we, hwe⟩ : ∃ we, we = w.alloc (.cells #[.int .i64 st, .slice A n c, .slice B m d] 25) := ⟨_, rfl⟩
        rw [← hwe] at hbx hB ⊢
        replace hH := hH.of hB
        replace hN := hN.of hB
        replace hR := hR.of hB
        clear hwe
        have ⟨_, t0, t1, t2⟩ := hbx
        go_wp2_with fail
        go_at_call 9
        refine (kS _ hH hN).mono ?_
        rintro e1 w1 ⟨rfl, hb1⟩
        clear t0 t1 t2
        replace hH := hH.of hb1
        replace hN := hN.of hb1
        replace hR := hR.of hb1
        replace hbx := hbx.of hb1
        replace hB := below_thru hB hb1
        clear hb1
        have ⟨_, t0, t1, t2⟩ := hbx
        go_wp2_with fail
        go_at_call 17
        refine (kP _ hH hN hR).mono ?_
        rintro e2 w2 ⟨A2, n2, c2, rfl, hR2, hc2, hb2⟩
        clear t0 t1 t2
        replace hH := hH.of hb2
        replace hN := hN.of hb2
        replace hR := hR.of hb2
        replace hbx := hbx.of hb2
        replace hB := below_thru hB hb2
        clear hb2
        have ⟨_, t0, t1, t2⟩ := hbx
        go_wp2_with fail
        go_at_call 18
        refine (kQ _ hH hN hR).mono ?_
        rintro e3 w3 ⟨A3, n3, c3, rfl, hR3, hc3, hb3⟩
        clear t0 t1 t2
        replace hH := hH.of hb3
        replace hN := hN.of hb3
        replace hR := hR.of hb3
        replace hR2 := hR2.of hb3
        replace hbx := hbx.of hb3
        replace hB := below_thru hB hb3
        clear hb3
        have ⟨_, t0, t1, t2⟩ := hbx
        go_wp2_with fail
        go_at_call 19
        refine (kT _ hH hN hR).mono ?_
        rintro e4 w4 ⟨A4, n4, c4, rfl, hX4, hc4, hb4⟩
        clear t0 t1 t2
        replace hH := hH.of hb4
        replace hN := hN.of hb4
        replace hR := hR.of hb4
        replace hR2 := hR2.of hb4
        replace hR3 := hR3.of hb4
        replace hbx := hbx.of hb4
        replace hB := below_thru hB hb4
        clear hb4
        have ⟨_, t0, t1, t2⟩ := hbx
        go_wp2_with fail
        go_at_call 20
        refine (kU _ hH hN hR).mono ?_
        rintro e5 w5 ⟨A5, n5, c5, rfl, hX5, hc5, hb5⟩
        clear t0 t1 t2
        replace hH := hH.of hb5
        replace hN := hN.of hb5
        replace hR := hR.of hb5
        replace hR2 := hR2.of hb5
        replace hR3 := hR3.of hb5
        replace hX4 := hX4.of hb5
        replace hbx := hbx.of hb5
        replace hB := below_thru hB hb5
        clear hb5
        have ⟨_, t0, t1, t2⟩ := hbx
        obtain rfl : n5 = n4 := by rw [← hX5.len, ← hX4.len]
        have hn5 : n5 ≤ 10001 := by rw [← hX4.len]; exact hsz2.out.1
        have hn2 : n2 ≤ 1000000 := by rw [← hR2.len]; exact hsz.out
        have hn3 : n3 ≤ 1000000 := by rw [← hR3.len]; exact hsz.out
        go_wp2_with fail
        go_at_call 13
        refine (ref05_SameV (sameL_self s0) _ _ _ _ _ _ _ hR2 hR3 hn2 hn3).mono ?_
        rintro e6 w6 ⟨rfl, hb6⟩
        clear t0 t1 t2
        replace hH := hH.of hb6
        replace hN := hN.of hb6
        replace hR := hR.of hb6
        replace hR2 := hR2.of hb6
        replace hR3 := hR3.of hb6
        replace hX4 := hX4.of hb6
        replace hX5 := hX5.of hb6
        replace hbx := hbx.of hb6
        replace hB := below_thru hB hb6
        clear hb6
        have ⟨_, t0, t1, t2⟩ := hbx
        have hsB := hB.size
        go_wp2_with fail
        clear t0 t1 t2 hbx hR2 hR3 hH hN hR
        have hB0 := hB
        go_loopw [80] (fun t wr => ∃ j : Nat, t = .int .i64 j ∧ j ≤ n5 ∧ Below w6.heap.size w6 wr) (fun t _ => n5 - (intOf t).toNat)
        case atStart => exact ⟨0, rfl, by omega, Below.refl _ _⟩
        case round =>
          obtain ⟨j, rfl, hj, hb⟩ := hrel
          have hsz7 := hb.size
          by_cases hlj : j < n5
          · have dj : decide ((j : Int) < n5) = true := decide_eq_true (by omega)
            obtain ⟨F, mf, cf, lf, bo, o, hlf, rfl, hbo, g1, hRf, hmf⟩ := (hX4.of hb).pat hlj
            obtain ⟨F', mf', cf', lf', bo', o', hlf', rfl, hbo', g1', hRf', hmf'⟩ := (hX5.of hb).pat hlj
            obtain rfl : lf' = lf := by have := hlf'.out; rw [hlf.out] at this; injection this with this; exact this.symm
            have hle := hsz2.out.2 _ (List.mem_of_getElem? hlf.out)
            have i0 : (0 : Int) ≤ (j : Int) := by omega
            have i1 : (j : Int) < (n5 : Int) := by omega
            have hm1 : mf ≤ 1000000 := by rw [← hRf.len]; exact hle
            have hm2 : mf' ≤ 1000000 := by rw [← hRf'.len]; exact hle
            clear hlf hlf' hle
            go_wp2_with fail
            (refine wp_region_ext_lit (by kernel_rfl) (by kernel_rfl) ?_; (repeat (go_big_quiet_step ((go_at_call 13; exact calls_ext (ref05_SameV (sameL_self lf') _ _ _ _ _ _ _ (hRf.of (by (repeat' (first | exact Below.refl _ _ | assumption | (refine Below.alloc ?_ ?_ _) | (refine Below.setCell ?_ ?_ _) | (refine Below.drew ?_) | (refine below_drewN ?_ _) | (refine below_after (Ext.below _) ?_ ?_) | (refine below_after (by assumption) ?_ ?_) | (simp; done) | omega | (simp; omega))))) (hRf'.of (by (repeat' (first | exact Below.refl _ _ | assumption | (refine Below.alloc ?_ ?_ _) | (refine Below.setCell ?_ ?_ _) | (refine Below.drew ?_) | (refine below_drewN ?_ _) | (refine below_after (Ext.below _) ?_ ?_) | (refine below_after (by assumption) ?_ ?_) | (simp; done) | omega | (simp; omega))))) hm1 hm2))))); refine wpQuiet_nil ?_; intro _ hw'; obtain ⟨z8, hw''⟩ := hw'; subst hw''; have hs8 := z8.size; obtain ⟨hc8, hf8⟩ := bcell z8.below; (try simp only [World.size_alloc, World.size_setCell, World.size_drew] at hc8 hf8); (try simp at hs8))
            have hb8 : Below w6.heap.size w6 z8.world := below_thru hb z8.below
            go_wp2_with fail
            go_roundw
            case rel => exact ⟨j + 1, by go_num, by omega, hb8⟩
            case measure => simp [intOf]; omega
          · obtain rfl : j = n5 := by omega
            have dj : decide ((j : Int) < j) = false := decide_eq_false (by omega)
            have hBw := below_thru hB hb
            go_wp2_with fail
            go_at_call 10
            refine (awake_20 _).mono ?_
            rintro ez wz ⟨rfl, hbz⟩
            have hfin := below_thru hBw hbz
            go_wp2_with fail
            go_ret
            exact ⟨rfl, hfin⟩
      · go_enter Try.func5, Try.ntmps5
        go_wp2_with fail
        have hbx := TrAt.new w (.int .i64 st) (.slice A n c) (.slice B m d) 25
        have hB : Below w.heap.size w (w.alloc (.cells #[.int .i64 st, .slice A n c, .slice B m d] 25)) := by (repeat' (first | exact Below.refl _ _ | assumption | (refine Below.alloc ?_ ?_ _) | (refine Below.setCell ?_ ?_ _) | (refine Below.drew ?_) | (refine below_drewN ?_ _) | (refine below_after (Ext.below _) ?_ ?_) | (refine below_after (by assumption) ?_ ?_) | (simp; done) | omega | (simp; omega)))
        obtain ⟨we, hwe⟩ : ∃ we, we = w.alloc (.cells #[.int .i64 st, .slice A n c, .slice B m d] 25) := ⟨_, rfl⟩
        rw [← hwe] at hbx hB ⊢
        replace hH := hH.of hB
        replace hN := hN.of hB
        replace hR := hR.of hB
        clear hwe
        have ⟨_, t0, t1, t2⟩ := hbx
        go_wp2_with fail
        go_at_call 9
        refine (kS _ hH hN).mono ?_
        rintro e1 w1 ⟨rfl, hb1⟩
        clear t0 t1 t2
        replace hH := hH.of hb1
        replace hN := hN.of hb1
        replace hR := hR.of hb1
        replace hbx := hbx.of hb1
        replace hB := below_thru hB hb1
        clear hb1
        have ⟨_, t0, t1, t2⟩ := hbx
        go_wp2_with fail
        go_at_call 17
        refine (kP _ hH hN hR).mono ?_
        rintro e2 w2 ⟨A2, n2, c2, rfl, hR2, hc2, hb2⟩
        clear t0 t1 t2
        replace hH := hH.of hb2
        replace hN := hN.of hb2
        replace hR := hR.of hb2
        replace hbx := hbx.of hb2
        replace hB := below_thru hB hb2
        clear hb2
        have ⟨_, t0, t1, t2⟩ := hbx
        go_wp2_with fail
        go_at_call 18
        refine (kQ _ hH hN hR).mono ?_
        rintro e3 w3 ⟨A3, n3, c3, rfl, hR3, hc3, hb3⟩
        clear t0 t1 t2
        replace hH := hH.of hb3
        replace hN := hN.of hb3
        replace hR := hR.of hb3
        replace hR2 := hR2.of hb3
        replace hbx := hbx.of hb3
        replace hB := below_thru hB hb3
        clear hb3
        have ⟨_, t0, t1, t2⟩ := hbx
        go_wp2_with fail
        go_at_call 19
        refine (kT _ hH hN hR).mono ?_
        rintro e4 w4 ⟨A4, n4, c4, rfl, hX4, hc4, hb4⟩
        clear t0 t1 t2
        replace hH := hH.of hb4
        replace hN := hN.of hb4
        replace hR := hR.of hb4
        replace hR2 := hR2.of hb4
        replace hR3 := hR3.of hb4
        replace hbx := hbx.of hb4
        replace hB := below_thru hB hb4
        clear hb4
        have ⟨_, t0, t1, t2⟩ := hbx
        go_wp2_with fail
        go_at_call 20
        refine (kU _ hH hN hR).mono ?_
        rintro e5 w5 ⟨A5, n5, c5, rfl, hX5, hc5, hb5⟩
        clear t0 t1 t2
        replace hH := hH.of hb5
        replace hN := hN.of hb5
        replace hR := hR.of hb5
        replace hR2 := hR2.of hb5
        replace hR3 := hR3.of hb5
        replace hX4 := hX4.of hb5
        replace hbx := hbx.of hb5
        replace hB := below_thru hB hb5
        clear hb5
        have ⟨_, t0, t1, t2⟩ := hbx
        obtain rfl : n5 = n4 := by rw [← hX5.len, ← hX4.len]
        have hn5 : n5 ≤ 10001 := by rw [← hX4.len]; exact hsz2.out.1
        have hn2 : n2 ≤ 1000000 := by rw [← hR2.len]; exact hsz.out
        have hn3 : n3 ≤ 1000000 := by rw [← hR3.len]; exact hsz.out
        go_wp2_with fail
        go_at_call 13
        refine (ref05_SameV (sameL_self s0) _ _ _ _ _ _ _ hR2 hR3 hn2 hn3).mono ?_
        rintro e6 w6 ⟨rfl, hb6⟩
        clear t0 t1 t2
        replace hH := hH.of hb6
        replace hN := hN.of hb6
        replace hR := hR.of hb6
        replace hR2 := hR2.of hb6
        replace hR3 := hR3.of hb6
        replace hX4 := hX4.of hb6
        replace hX5 := hX5.of hb6
        replace hbx := hbx.of hb6
        replace hB := below_thru hB hb6
        clear hb6
        have ⟨_, t0, t1, t2⟩ := hbx
        have hsB := hB.size
        go_wp2_with fail
        clear t0 t1 t2 hbx hR2 hR3 hH hN hR
        have hB0 := hB
        go_loopw [80] (fun t wr => ∃ j : Nat, t = .int .i64 j ∧ j ≤ n5 ∧ Below w6.heap.size w6 wr) (fun t _ => n5 - (intOf t).toNat)
        case atStart => exact ⟨0, rfl, by omega, Below.refl _ _⟩
        case round =>
          obtain ⟨j, rfl, hj, hb⟩ := hrel
          have hsz7 := hb.size
          by_cases hlj : j < n5
          · have dj : decide ((j : Int) < n5) = true := decide_eq_true (by omega)
            obtain ⟨F, mf, cf, lf, bo, o, hlf, rfl, hbo, g1, hRf, hmf⟩ := (hX4.of hb).pat hlj
            obtain ⟨F', mf', cf', lf', bo', o', hlf', rfl, hbo', g1', hRf', hmf'⟩ := (hX5.of hb).pat hlj
            obtain rfl : lf' = lf := by have := hlf'.out; rw [hlf.out] at this; injection this with this; exact this.symm
            have hle := hsz2.out.2 _ (List.mem_of_getElem? hlf.out)
            have i0 : (0 : Int) ≤ (j : Int) := by omega
            have i1 : (j : Int) < (n5 : Int) := by omega
            have hm1 : mf ≤ 1000000 := by rw [← hRf.len]; exact hle
            have hm2 : mf' ≤ 1000000 := by rw [← hRf'.len]; exact hle
            clear hlf hlf' hle
            go_wp2_with fail
            (refine wp_region_ext_lit (by kernel_rfl) (by kernel_rfl) ?_; (repeat (go_big_quiet_step ((go_at_call 13; exact calls_ext (ref05_SameV (sameL_self lf') _ _ _ _ _ _ _ (hRf.of (by (repeat' (first | exact Below.refl _ _ | assumption | (refine Below.alloc ?_ ?_ _) | (refine Below.setCell ?_ ?_ _) | (refine Below.drew ?_) | (refine below_drewN ?_ _) | (refine below_after (Ext.below _) ?_ ?_) | (refine below_after (by assumption) ?_ ?_) | (simp; done) | omega | (simp; omega))))) (hRf'.of (by (repeat' (first | exact Below.refl _ _ | assumption | (refine Below.alloc ?_ ?_ _) | (refine Below.setCell ?_ ?_ _) | (refine Below.drew ?_) | (refine below_drewN ?_ _) | (refine below_after (Ext.below _) ?_ ?_) | (refine below_after (by assumption) ?_ ?_) | (simp; done) | omega | (simp; omega))))) hm1 hm2))))); refine wpQuiet_nil ?_; intro _ hw'; obtain ⟨z8, hw''⟩ := hw'; subst hw''; have hs8 := z8.size; obtain ⟨hc8, hf8⟩ := bcell z8.below; (try simp only [World.size_alloc, World.size_setCell, World.size_drew] at hc8 hf8); (try simp at hs8))
            have hb8 : Below w6.heap.size w6 z8.world := below_thru hb z8.below
            go_wp2_with fail
            go_roundw
            case rel => exact ⟨j + 1, by go_num, by omega, hb8⟩
            case measure => simp [intOf]; omega
          · obtain rfl : j = n5 := by omega
            have dj : decide ((j : Int) < j) = false := decide_eq_false (by omega)
            have hBw := below_thru hB hb
            go_wp2_with fail
            go_at_call 10
            refine (awake_20 _).mono ?_
            rintro ez wz ⟨rfl, hbz⟩
            have hfin := below_thru hBw hbz
            go_wp2_with fail
            go_ret
            exact ⟨rfl, hfin⟩
theorem own_empty (w : World) : Own encC 3 64 w.heap.size (w.alloc (.cells #[] 64)) (some ⟨w.heap.size, 0, none⟩) 0 0 [] :=
  Own.lit encC_len w 64 w.heap.size (Nat.le_refl _) [] 0 rfl (by omega) [] rfl
set_option maxHeartbeats 16000000 in
theorem law_dfar (st : Int) (A B D : Option Addr) (n c m d k e : Nat) (H : List (Int × Int)) (N : List (Int × List Int)) (p : List (Int × Int × Int)) (D2 : Option Addr) (k2 e2 : Nat) (p2 : List (Int × Int × Int)) (w : World) (hH : Rd encP 2 w A n H) (hN : RdX ekN w B m N) (hR : Rd encC 3 w D k p) (hT : Rd encC 3 w D2 k2 p2) :
    Calls Try.prog 8 #[.agg #[.int .i64 st, .slice A n c, .slice B m d], .slice D k e, .slice D2 k2 e2] w fun e w' => e = .returned (.bool true) ∧ Below w.heap.size w w' := by
  obtain ⟨v, hv⟩ : ∃ v, (fewT H N && decide (k ≤ 60)) = v := ⟨_, rfl⟩
  have kS := fun w1 h1 h2 => law_Small st A B D n c m d k e H N w1 rfl hv h1 h2
  obtain ⟨v2, hv2⟩ : ∃ v2, (fewT H N && decide (k2 ≤ 60)) = v2 := ⟨_, rfl⟩
  have kS2 := fun w1 h1 h2 => law_Small st A B D2 n c m d k2 e2 H N w1 rfl hv2 h1 h2
  have kQ := fun w1 h1 h2 => ref12_Quiet st A B n c m d H N w1 h1 h2
  have hkk : v = true → k ≤ 60 := fun h => by rw [h, Bool.and_eq_true, decide_eq_true_eq] at hv; exact hv.2
  have hkk2 : v2 = true → k2 ≤ 60 := fun h => by rw [h, Bool.and_eq_true, decide_eq_true_eq] at hv2; exact hv2.2
  have kR1 := fun w1 h1 hk => ref05_Right D k e p w1 h1 hk
  have kR2 := fun w1 h1 hk => ref05_Right D2 k2 e2 p2 w1 h1 hk
  clear hv hv2
  cases v with
  | false =>
    go_enter Try.func8, Try.ntmps8
    go_wp2_with fail
    have hbx := TrAt.new w (.int .i64 st) (.slice A n c) (.slice B m d) 25
    have hB : Below w.heap.size w (w.alloc (.cells #[.int .i64 st, .slice A n c, .slice B m d] 25)) := by (repeat' (first | exact Below.refl _ _ | assumption | (refine Below.alloc ?_ ?_ _) | (refine Below.setCell ?_ ?_ _) | (refine Below.drew ?_) | (refine below_drewN ?_ _) | (refine below_after (Ext.below _) ?_ ?_) | (refine below_after (by assumption) ?_ ?_) | (simp; done) | omega | (simp; omega)))
    obtain ⟨we, hwe⟩ : ∃ we, we = w.alloc (.cells #[.int .i64 st, .slice A n c, .slice B m d] 25) := ⟨_, rfl⟩
    rw [← hwe] at hbx hB ⊢
    replace hH := hH.of hB
    replace hN := hN.of hB
    replace hR := hR.of hB
    replace hT := hT.of hB
    clear hwe
    have ⟨_, t0, t1, t2⟩ := hbx
    go_wp2_with fail
    go_at_call 9
    refine (kS _ hH hN).mono ?_
    rintro e1 w1 ⟨rfl, hb1⟩
    clear t0 t1 t2
    replace hH := hH.of hb1
    replace hN := hN.of hb1
    replace hR := hR.of hb1
    replace hT := hT.of hb1
    replace hbx := hbx.of hb1
    replace hB := below_thru hB hb1
    clear hb1
    have ⟨_, t0, t1, t2⟩ := hbx
    go_wp2_with fail
    go_at_call 10
    refine (awake_20 _).mono ?_
    rintro ez wz ⟨rfl, hbz⟩
    have hfin := below_thru hB hbz
    go_wp2_with fail
    go_ret
    exact ⟨rfl, hfin⟩
  | true =>
    have hk : k ≤ 60 := hkk rfl
    cases v2 with
    | false =>
      go_enter Try.func8, Try.ntmps8
      go_wp2_with fail
      have hbx := TrAt.new w (.int .i64 st) (.slice A n c) (.slice B m d) 25
      have hB : Below w.heap.size w (w.alloc (.cells #[.int .i64 st, .slice A n c, .slice B m d] 25)) := by (repeat' (first | exact Below.refl _ _ | assumption | (refine Below.alloc ?_ ?_ _) | (refine Below.setCell ?_ ?_ _) | (refine Below.drew ?_) | (refine below_drewN ?_ _) | (refine below_after (Ext.below _) ?_ ?_) | (refine below_after (by assumption) ?_ ?_) | (simp; done) | omega | (simp; omega)))
      obtain ⟨we, hwe⟩ : ∃ we, we = w.alloc (.cells #[.int .i64 st, .slice A n c, .slice B m d] 25) := ⟨_, rfl⟩
      rw [← hwe] at hbx hB ⊢
      replace hH := hH.of hB
      replace hN := hN.of hB
      replace hR := hR.of hB
      replace hT := hT.of hB
      clear hwe
      have ⟨_, t0, t1, t2⟩ := hbx
      go_wp2_with fail
      go_at_call 9
      refine (kS _ hH hN).mono ?_
      rintro e1 w1 ⟨rfl, hb1⟩
      clear t0 t1 t2
      replace hH := hH.of hb1
      replace hN := hN.of hb1
      replace hR := hR.of hb1
      replace hT := hT.of hb1
      replace hbx := hbx.of hb1
      replace hB := below_thru hB hb1
      clear hb1
      have ⟨_, t0, t1, t2⟩ := hbx
      go_wp2_with fail
      go_at_call 9
      refine (kS2 _ hH hN).mono ?_
      rintro e2 w2 ⟨rfl, hb2⟩
      clear t0 t1 t2
      replace hH := hH.of hb2
      replace hN := hN.of hb2
      replace hR := hR.of hb2
      replace hT := hT.of hb2
      replace hbx := hbx.of hb2
      replace hB := below_thru hB hb2
      clear hb2
      have ⟨_, t0, t1, t2⟩ := hbx
      go_wp2_with fail
      go_at_call 10
      refine (awake_20 _).mono ?_
      rintro ez wz ⟨rfl, hbz⟩
      have hfin := below_thru hB hbz
      go_wp2_with fail
      go_ret
      exact ⟨rfl, hfin⟩
    | true =>
      have hk2 : k2 ≤ 60 := hkk2 rfl
      clear hkk hkk2
      cases hq : trQ st H N with
      | false =>
        rw [hq] at kQ
        clear hq
        go_enter Try.func8, Try.ntmps8
        go_wp2_with fail
        have hbx := TrAt.new w (.int .i64 st) (.slice A n c) (.slice B m d) 25
        have hB : Below w.heap.size w (w.alloc (.cells #[.int .i64 st, .slice A n c, .slice B m d] 25)) := by (repeat' (first | exact Below.refl _ _ | assumption | (refine Below.alloc ?_ ?_ _) | (refine Below.setCell ?_ ?_ _) | (refine Below.drew ?_) | (refine below_drewN ?_ _) | (refine below_after (Ext.below _) ?_ ?_) | (refine below_after (by assumption) ?_ ?_) | (simp; done) | omega | (simp; omega)))
        obtain ⟨we, hwe⟩ : ∃ we, we = w.alloc (.cells #[.int .i64 st, .slice A n c, .slice B m d] 25) := ⟨_, rfl⟩
        rw [← hwe] at hbx hB ⊢
        replace hH := hH.of hB
        replace hN := hN.of hB
        replace hR := hR.of hB
        replace hT := hT.of hB
        clear hwe
        have ⟨_, t0, t1, t2⟩ := hbx
        go_wp2_with fail
        go_at_call 9
        refine (kS _ hH hN).mono ?_
        rintro e1 w1 ⟨rfl, hb1⟩
        clear t0 t1 t2
        replace hH := hH.of hb1
        replace hN := hN.of hb1
        replace hR := hR.of hb1
        replace hT := hT.of hb1
        replace hbx := hbx.of hb1
        replace hB := below_thru hB hb1
        clear hb1
        have ⟨_, t0, t1, t2⟩ := hbx
        go_wp2_with fail
        go_at_call 9
        refine (kS2 _ hH hN).mono ?_
        rintro e2 w2 ⟨rfl, hb2⟩
        clear t0 t1 t2
        replace hH := hH.of hb2
        replace hN := hN.of hb2
        replace hR := hR.of hb2
        replace hT := hT.of hb2
        replace hbx := hbx.of hb2
        replace hB := below_thru hB hb2
        clear hb2
        have ⟨_, t0, t1, t2⟩ := hbx
        go_wp2_with fail
        go_at_call 22
        refine (kQ _ hH hN).mono ?_
        rintro e3 w3 ⟨rfl, hb3⟩
        clear t0 t1 t2
        replace hH := hH.of hb3
        replace hN := hN.of hb3
        replace hR := hR.of hb3
        replace hT := hT.of hb3
        replace hbx := hbx.of hb3
        replace hB := below_thru hB hb3
        clear hb3
        have ⟨_, t0, t1, t2⟩ := hbx
        go_wp2_with fail
        go_at_call 10
        refine (awake_20 _).mono ?_
        rintro ez wz ⟨rfl, hbz⟩
        have hfin := below_thru hB hbz
        go_wp2_with fail
        go_ret
        exact ⟨rfl, hfin⟩
      | true =>
        cases hr : rightC p with
        | false =>
          rw [hq] at kQ
          rw [hr] at kR1
          clear hq hr
          go_enter Try.func8, Try.ntmps8
          go_wp2_with fail
          have hbx := TrAt.new w (.int .i64 st) (.slice A n c) (.slice B m d) 25
          have hB : Below w.heap.size w (w.alloc (.cells #[.int .i64 st, .slice A n c, .slice B m d] 25)) := by (repeat' (first | exact Below.refl _ _ | assumption | (refine Below.alloc ?_ ?_ _) | (refine Below.setCell ?_ ?_ _) | (refine Below.drew ?_) | (refine below_drewN ?_ _) | (refine below_after (Ext.below _) ?_ ?_) | (refine below_after (by assumption) ?_ ?_) | (simp; done) | omega | (simp; omega)))
          obtain ⟨we, hwe⟩ : ∃ we, we = w.alloc (.cells #[.int .i64 st, .slice A n c, .slice B m d] 25) := ⟨_, rfl⟩
          rw [← hwe] at hbx hB ⊢
          replace hH := hH.of hB
          replace hN := hN.of hB
          replace hR := hR.of hB
          replace hT := hT.of hB
          clear hwe
          have ⟨_, t0, t1, t2⟩ := hbx
          go_wp2_with fail
          go_at_call 9
          refine (kS _ hH hN).mono ?_
          rintro e1 w1 ⟨rfl, hb1⟩
          clear t0 t1 t2
          replace hH := hH.of hb1
          replace hN := hN.of hb1
          replace hR := hR.of hb1
          replace hT := hT.of hb1
          replace hbx := hbx.of hb1
          replace hB := below_thru hB hb1
          clear hb1
          have ⟨_, t0, t1, t2⟩ := hbx
          go_wp2_with fail
          go_at_call 9
          refine (kS2 _ hH hN).mono ?_
          rintro e2 w2 ⟨rfl, hb2⟩
          clear t0 t1 t2
          replace hH := hH.of hb2
          replace hN := hN.of hb2
          replace hR := hR.of hb2
          replace hT := hT.of hb2
          replace hbx := hbx.of hb2
          replace hB := below_thru hB hb2
          clear hb2
          have ⟨_, t0, t1, t2⟩ := hbx
          go_wp2_with fail
          go_at_call 22
          refine (kQ _ hH hN).mono ?_
          rintro e3 w3 ⟨rfl, hb3⟩
          clear t0 t1 t2
          replace hH := hH.of hb3
          replace hN := hN.of hb3
          replace hR := hR.of hb3
          replace hT := hT.of hb3
          replace hbx := hbx.of hb3
          replace hB := below_thru hB hb3
          clear hb3
          have ⟨_, t0, t1, t2⟩ := hbx
          go_wp2_with fail
          go_at_call 23
          refine (kR1 _ hR (by omega)).mono ?_
          rintro e4 w4 ⟨rfl, hb4⟩
          clear t0 t1 t2
          replace hH := hH.of hb4
          replace hN := hN.of hb4
          replace hR := hR.of hb4
          replace hT := hT.of hb4
          replace hbx := hbx.of hb4
          replace hB := below_thru hB hb4
          clear hb4
          have ⟨_, t0, t1, t2⟩ := hbx
          go_wp2_with fail
          go_at_call 10
          refine (awake_20 _).mono ?_
          rintro ez wz ⟨rfl, hbz⟩
          have hfin := below_thru hB hbz
          go_wp2_with fail
          go_ret
          exact ⟨rfl, hfin⟩
        | true =>
          cases hr2 : rightC p2 with
          | false =>
            rw [hq] at kQ
            rw [hr] at kR1
            rw [hr2] at kR2
            clear hq hr hr2
            go_enter Try.func8, Try.ntmps8
            go_wp2_with fail
            have hbx := TrAt.new w (.int .i64 st) (.slice A n c) (.slice B m d) 25
            have hB : Below w.heap.size w (w.alloc (.cells #[.int .i64 st, .slice A n c, .slice B m d] 25)) := by (repeat' (first | exact Below.refl _ _ | assumption | (refine Below.alloc ?_ ?_ _) | (refine Below.setCell ?_ ?_ _) | (refine Below.drew ?_) | (refine below_drewN ?_ _) | (refine below_after (Ext.below _) ?_ ?_) | (refine below_after (by assumption) ?_ ?_) | (simp; done) | omega | (simp; omega)))
            obtain ⟨we, hwe⟩ : ∃ we, we = w.alloc (.cells #[.int .i64 st, .slice A n c, .slice B m d] 25) := ⟨_, rfl⟩
            rw [← hwe] at hbx hB ⊢
            replace hH := hH.of hB
            replace hN := hN.of hB
            replace hR := hR.of hB
            replace hT := hT.of hB
            clear hwe
            have ⟨_, t0, t1, t2⟩ := hbx
            go_wp2_with fail
            go_at_call 9
            refine (kS _ hH hN).mono ?_
            rintro e1 w1 ⟨rfl, hb1⟩
            clear t0 t1 t2
            replace hH := hH.of hb1
            replace hN := hN.of hb1
            replace hR := hR.of hb1
            replace hT := hT.of hb1
            replace hbx := hbx.of hb1
            replace hB := below_thru hB hb1
            clear hb1
            have ⟨_, t0, t1, t2⟩ := hbx
            go_wp2_with fail
            go_at_call 9
            refine (kS2 _ hH hN).mono ?_
            rintro e2 w2 ⟨rfl, hb2⟩
            clear t0 t1 t2
            replace hH := hH.of hb2
            replace hN := hN.of hb2
            replace hR := hR.of hb2
            replace hT := hT.of hb2
            replace hbx := hbx.of hb2
            replace hB := below_thru hB hb2
            clear hb2
            have ⟨_, t0, t1, t2⟩ := hbx
            go_wp2_with fail
            go_at_call 22
            refine (kQ _ hH hN).mono ?_
            rintro e3 w3 ⟨rfl, hb3⟩
            clear t0 t1 t2
            replace hH := hH.of hb3
            replace hN := hN.of hb3
            replace hR := hR.of hb3
            replace hT := hT.of hb3
            replace hbx := hbx.of hb3
            replace hB := below_thru hB hb3
            clear hb3
            have ⟨_, t0, t1, t2⟩ := hbx
            go_wp2_with fail
            go_at_call 23
            refine (kR1 _ hR (by omega)).mono ?_
            rintro e4 w4 ⟨rfl, hb4⟩
            clear t0 t1 t2
            replace hH := hH.of hb4
            replace hN := hN.of hb4
            replace hR := hR.of hb4
            replace hT := hT.of hb4
            replace hbx := hbx.of hb4
            replace hB := below_thru hB hb4
            clear hb4
            have ⟨_, t0, t1, t2⟩ := hbx
            go_wp2_with fail
            go_at_call 23
            refine (kR2 _ hT (by omega)).mono ?_
            rintro e5 w5 ⟨rfl, hb5⟩
            clear t0 t1 t2
            replace hH := hH.of hb5
            replace hN := hN.of hb5
            replace hR := hR.of hb5
            replace hT := hT.of hb5
            replace hbx := hbx.of hb5
            replace hB := below_thru hB hb5
            clear hb5
            have ⟨_, t0, t1, t2⟩ := hbx
            go_wp2_with fail
            go_at_call 10
            refine (awake_20 _).mono ?_
            rintro ez wz ⟨rfl, hbz⟩
            have hfin := below_thru hB hbz
            go_wp2_with fail
            go_ret
            exact ⟨rfl, hfin⟩
          | true =>
            have kF := fun w1 h1 h2 => law_far D D2 k e k2 e2 w1 p p2 h1 h2 hr hr2
            cases hf : farL p p2 with
            | false =>
              rw [hq] at kQ
              rw [hr] at kR1
              rw [hr2] at kR2
              rw [hf] at kF
              clear hq hr hr2 hf
              go_enter Try.func8, Try.ntmps8
              go_wp2_with fail
              have hbx := TrAt.new w (.int .i64 st) (.slice A n c) (.slice B m d) 25
              have hB : Below w.heap.size w (w.alloc (.cells #[.int .i64 st, .slice A n c, .slice B m d] 25)) := by (repeat' (first | exact Below.refl _ _ | assumption | (refine Below.alloc ?_ ?_ _) | (refine Below.setCell ?_ ?_ _) | (refine Below.drew ?_) | (refine below_drewN ?_ _) | (refine below_after (Ext.below _) ?_ ?_) | (refine below_after (by assumption) ?_ ?_) | (simp; done) | omega | (simp; omega)))
              obtain ⟨we, hwe⟩ : ∃ we, we = w.alloc (.cells #[.int .i64 st, .slice A n c, .slice B m d] 25) := ⟨_, rfl⟩
              rw [← hwe] at hbx hB ⊢
              replace hH := hH.of hB
              replace hN := hN.of hB
              replace hR := hR.of hB
              replace hT := hT.of hB
              clear hwe
              have ⟨_, t0, t1, t2⟩ := hbx
              go_wp2_with fail
              go_at_call 9
              refine (kS _ hH hN).mono ?_
              rintro e1 w1 ⟨rfl, hb1⟩
              clear t0 t1 t2
              replace hH := hH.of hb1
              replace hN := hN.of hb1
              replace hR := hR.of hb1
              replace hT := hT.of hb1
              replace hbx := hbx.of hb1
              replace hB := below_thru hB hb1
              clear hb1
              have ⟨_, t0, t1, t2⟩ := hbx
              go_wp2_with fail
              go_at_call 9
              refine (kS2 _ hH hN).mono ?_
              rintro e2 w2 ⟨rfl, hb2⟩
              clear t0 t1 t2
              replace hH := hH.of hb2
              replace hN := hN.of hb2
              replace hR := hR.of hb2
              replace hT := hT.of hb2
              replace hbx := hbx.of hb2
              replace hB := below_thru hB hb2
              clear hb2
              have ⟨_, t0, t1, t2⟩ := hbx
              go_wp2_with fail
              go_at_call 22
              refine (kQ _ hH hN).mono ?_
              rintro e3 w3 ⟨rfl, hb3⟩
              clear t0 t1 t2
              replace hH := hH.of hb3
              replace hN := hN.of hb3
              replace hR := hR.of hb3
              replace hT := hT.of hb3
              replace hbx := hbx.of hb3
              replace hB := below_thru hB hb3
              clear hb3
              have ⟨_, t0, t1, t2⟩ := hbx
              go_wp2_with fail
              go_at_call 23
              refine (kR1 _ hR (by omega)).mono ?_
              rintro e4 w4 ⟨rfl, hb4⟩
              clear t0 t1 t2
              replace hH := hH.of hb4
              replace hN := hN.of hb4
              replace hR := hR.of hb4
              replace hT := hT.of hb4
              replace hbx := hbx.of hb4
              replace hB := below_thru hB hb4
              clear hb4
              have ⟨_, t0, t1, t2⟩ := hbx
              go_wp2_with fail
              go_at_call 23
              refine (kR2 _ hT (by omega)).mono ?_
              rintro e5 w5 ⟨rfl, hb5⟩
              clear t0 t1 t2
              replace hH := hH.of hb5
              replace hN := hN.of hb5
              replace hR := hR.of hb5
              replace hT := hT.of hb5
              replace hbx := hbx.of hb5
              replace hB := below_thru hB hb5
              clear hb5
              have ⟨_, t0, t1, t2⟩ := hbx
              go_wp2_with fail
              go_at_call 24
              refine (kF _ hR hT).mono ?_
              rintro e6 w6 ⟨rfl, hb6⟩
              clear t0 t1 t2
              replace hH := hH.of hb6
              replace hN := hN.of hb6
              replace hR := hR.of hb6
              replace hT := hT.of hb6
              replace hbx := hbx.of hb6
              replace hB := below_thru hB hb6
              clear hb6
              have ⟨_, t0, t1, t2⟩ := hbx
              go_wp2_with fail
              go_at_call 10
              refine (awake_20 _).mono ?_
              rintro ez wz ⟨rfl, hbz⟩
              have hfin := below_thru hB hbz
              go_wp2_with fail
              go_ret
              exact ⟨rfl, hfin⟩
            | true =>
              have hlaw := far_law (st := st) (H := H) (N := N) hq hr hr2 hf (by rw [hR.len]; exact hk) (by rw [hT.len]; exact hk2)
              have hbo := far_both hr hr2 hf (by rw [hR.len, hT.len]; omega)
              have hlen := Lib.hid (show (p ++ p2).length = k + k2 by rw [List.length_append, hR.len, hT.len])
              rw [hq] at kQ
              rw [hr] at kR1
              rw [hr2] at kR2
              rw [hf] at kF
              have kA := fun E q g w1 h1 hq => ref05_FromNV hbo.1 hbo.2.1 E q g w1 h1 hq
              have hal := Lib.hid (show (srtC (p ++ p2)).length ≤ 1000000 from Nat.le_trans (rightC_ok hbo.2.2).1 (by omega))
              clear hq hr hr2 hf hbo
              have k1 := fun w1 h1 h2 h3 => direct_Step st A B D n c m d k e H N p w1 h1 h2 h3 (by omega)
              have k2s := fun w1 h1 h2 h3 => direct_Step st A B D2 n c m d k2 e2 H N p2 w1 h1 h2 h3 (by omega)
              have k3 := fun E q g w1 h1 h2 h3 hq => direct_Step st A B E n c m d q g H N (srtC (p ++ p2)) w1 h1 h2 h3 hq
              have z1 := Lib.hid (stp_right (st := st) (H := H) (N := N) (p := p))
              have z2 := Lib.hid (stp_right (st := st) (H := H) (N := N) (p := p2))
              have z3 := Lib.hid (stp_right (st := st) (H := H) (N := N) (p := srtC (p ++ p2)))
              generalize stpE st H N p = f1 at k1 hlaw
              generalize stpL st H N p = s1 at k1 hlaw z1
              generalize stpE st H N p2 = f2 at k2s hlaw
              generalize stpL st H N p2 = s2 at k2s hlaw z2
              generalize stpE st H N (srtC (p ++ p2)) = f3 at k3 hlaw
              generalize stpL st H N (srtC (p ++ p2)) = s3 at k3 hlaw z3
              generalize srtC (p ++ p2) = s0 at kA k3 hal
              rcases (show f1 ≠ 0 ∨ (f1 = 0 ∧ f2 ≠ 0) ∨ (f1 = 0 ∧ f2 = 0) by omega) with g1 | ⟨g1, g2⟩ | ⟨g1, g2⟩
              · have hne := hlaw.2 (fun h => g1 h.1)
                have x3 : (f3 == 0) = false := by simpa using hne
                have x3n : (f3 != 0) = true := by simpa using hne
                have x1 : (f1 == 0) = false := by simpa using g1
                have x1n : (f1 != 0) = true := by simpa using g1
                clear g1 hne hlaw
                go_enter Try.func8, Try.ntmps8
                go_wp2_with fail
                have hbx := TrAt.new w (.int .i64 st) (.slice A n c) (.slice B m d) 25
                have hB : Below w.heap.size w (w.alloc (.cells #[.int .i64 st, .slice A n c, .slice B m d] 25)) := by (repeat' (first | exact Below.refl _ _ | assumption | (refine Below.alloc ?_ ?_ _) | (refine Below.setCell ?_ ?_ _) | (refine Below.drew ?_) | (refine below_drewN ?_ _) | (refine below_after (Ext.below _) ?_ ?_) | (refine below_after (by assumption) ?_ ?_) | (simp; done) | omega | (simp; omega)))
                obtain ⟨we, hwe⟩ : ∃ we, we = w.alloc (.cells #[.int .i64 st, .slice A n c, .slice B m d] 25) := ⟨_, rfl⟩
                rw [← hwe] at hbx hB ⊢
                replace hH := hH.of hB
                replace hN := hN.of hB
                replace hR := hR.of hB
                replace hT := hT.of hB
                clear hwe
                have ⟨_, t0, t1, t2⟩ := hbx
                go_wp2_with fail
                go_at_call 9
                refine (kS _ hH hN).mono ?_
                rintro e1 w1 ⟨rfl, hb1⟩
                clear t0 t1 t2
                replace hH := hH.of hb1
                replace hN := hN.of hb1
                replace hR := hR.of hb1
                replace hT := hT.of hb1
                replace hbx := hbx.of hb1
                replace hB := below_thru hB hb1
                clear hb1
                have ⟨_, t0, t1, t2⟩ := hbx
                go_wp2_with fail
                go_at_call 9
                refine (kS2 _ hH hN).mono ?_
                rintro e2 w2 ⟨rfl, hb2⟩
                clear t0 t1 t2
                replace hH := hH.of hb2
                replace hN := hN.of hb2
                replace hR := hR.of hb2
                replace hT := hT.of hb2
                replace hbx := hbx.of hb2
                replace hB := below_thru hB hb2
                clear hb2
                have ⟨_, t0, t1, t2⟩ := hbx
                go_wp2_with fail
                go_at_call 22
                refine (kQ _ hH hN).mono ?_
                rintro e3 w3 ⟨rfl, hb3⟩
                clear t0 t1 t2
                replace hH := hH.of hb3
                replace hN := hN.of hb3
                replace hR := hR.of hb3
                replace hT := hT.of hb3
                replace hbx := hbx.of hb3
                replace hB := below_thru hB hb3
                clear hb3
                have ⟨_, t0, t1, t2⟩ := hbx
                go_wp2_with fail
                go_at_call 23
                refine (kR1 _ hR (by omega)).mono ?_
                rintro e4 w4 ⟨rfl, hb4⟩
                clear t0 t1 t2
                replace hH := hH.of hb4
                replace hN := hN.of hb4
                replace hR := hR.of hb4
                replace hT := hT.of hb4
                replace hbx := hbx.of hb4
                replace hB := below_thru hB hb4
                clear hb4
                have ⟨_, t0, t1, t2⟩ := hbx
                go_wp2_with fail
                go_at_call 23
                refine (kR2 _ hT (by omega)).mono ?_
                rintro e5 w5 ⟨rfl, hb5⟩
                clear t0 t1 t2
                replace hH := hH.of hb5
                replace hN := hN.of hb5
                replace hR := hR.of hb5
                replace hT := hT.of hb5
                replace hbx := hbx.of hb5
                replace hB := below_thru hB hb5
                clear hb5
                have ⟨_, t0, t1, t2⟩ := hbx
                go_wp2_with fail
                go_at_call 24
                refine (kF _ hR hT).mono ?_
                rintro e6 w6 ⟨rfl, hb6⟩
                clear t0 t1 t2
                replace hH := hH.of hb6
                replace hN := hN.of hb6
                replace hR := hR.of hb6
                replace hT := hT.of hb6
                replace hbx := hbx.of hb6
                replace hB := below_thru hB hb6
                clear hb6
                have ⟨_, t0, t1, t2⟩ := hbx
                have hbA : Below w6.heap.size w6 (w6.alloc (.cells #[] 64)) := (Below.refl _ _).alloc (Nat.le_refl _) _
                have hRA := (hR).of hbA
                go_wp2_with (first | ((at_builtin; refine wpList_append_els rfl (.tmp 50) (.tmp 51) 26 27 rfl encC 3 64 (.agg #[.int .i64 0, .int .i64 0, .int .i64 0]) 24 Try.underlying26 Try.underlying27 (by kernel_rfl) rfl (by decide) encC_len encC_one (w6.heap.size) _ _ _ _ rfl (own_empty w6) _ _ _ _ rfl (hRA) (by omega) (by omega) (by first | omega | (simp; done) | (simp; omega)) ?_; intro A7 c7 w7 hown7 hg7 hb7; obtain ⟨hc7, hf7⟩ := bcell hb7; have hs7 := hb7.size; (try simp only [World.size_alloc, World.size_setCell, World.size_drew] at hc7 hf7); (try simp at hs7); (try simp only [Nat.zero_add, List.nil_append] at hown7)); have hbW := hbA.trans hb7; have hTA := (hT).of hbW) | (at_builtin; refine wpList_append_els rfl (.tmp 52) (.tmp 53) 26 27 rfl encC 3 64 (.agg #[.int .i64 0, .int .i64 0, .int .i64 0]) 24 Try.underlying26 Try.underlying27 (by kernel_rfl) rfl (by decide) encC_len encC_one (w6.heap.size) _ _ _ _ rfl (hown7) _ _ _ _ rfl (hTA) (by omega) (by omega) (by first | omega | (simp; done) | (simp; omega)) ?_; intro A8 c8 w8 hown8 hg8 hb8; obtain ⟨hc8, hf8⟩ := bcell hb8; have hs8 := hb8.size; (try simp only [World.size_alloc, World.size_setCell, World.size_drew] at hc8 hf8); (try simp at hs8); (try simp only [Nat.zero_add, List.nil_append] at hown8)))
                have hbZ := hbW.trans hb8
                have hRd := hown8.rd encC_len
                go_at_call 25
                refine (kA _ _ _ _ hRd (by omega)).mono ?_
                rintro e9 w9 ⟨A9, n9, c9, rfl, hR9, hb9⟩
                have hb69 : Below w6.heap.size w6 w9 := below_thru hbZ hb9
                clear t0 t1 t2
                replace hH := hH.of hb69
                replace hN := hN.of hb69
                replace hR := hR.of hb69
                replace hT := hT.of hb69
                replace hbx := hbx.of hb69
                replace hB := below_thru hB hb69
                clear hbA hRA hbW hTA hbZ hRd hb7 hb8 hb9 hb69 hc7 hf7 hs7 hc8 hf8 hs8 hown7 hown8 hg7 hg8
                have ⟨_, t0, t1, t2⟩ := hbx
                have hn9 : n9 ≤ 1000000 := by rw [← hR9.rd.len]; exact hal.out
                go_wp2_with fail
                go_at_call 11
                refine (k1 _ hH hN hR).mono ?_
                rintro e10 w10 ⟨A10, n10, c10, rfl, hS1, hb10⟩
                clear t0 t1 t2
                replace hH := hH.of hb10
                replace hN := hN.of hb10
                replace hR := hR.of hb10
                replace hT := hT.of hb10
                replace hR9 := hR9.of hb10
                replace hbx := hbx.of hb10
                replace hB := below_thru hB hb10
                clear hb10
                have ⟨_, t0, t1, t2⟩ := hbx
                go_wp2_with fail
                go_at_call 11
                refine (k2s _ hH hN hT).mono ?_
                rintro e11 w11 ⟨A11, n11, c11, rfl, hS2, hb11⟩
                clear t0 t1 t2
                replace hH := hH.of hb11
                replace hN := hN.of hb11
                replace hR := hR.of hb11
                replace hT := hT.of hb11
                replace hR9 := hR9.of hb11
                replace hS1 := hS1.of hb11
                replace hbx := hbx.of hb11
                replace hB := below_thru hB hb11
                clear hb11
                have ⟨_, t0, t1, t2⟩ := hbx
                go_wp2_with fail
                go_at_call 11
                refine (k3 _ _ _ _ hH hN hR9.rd hn9).mono ?_
                rintro e12 w12 ⟨A12, n12, c12, rfl, hS3, hb12⟩
                clear t0 t1 t2
                replace hH := hH.of hb12
                replace hN := hN.of hb12
                replace hR := hR.of hb12
                replace hT := hT.of hb12
                replace hR9 := hR9.of hb12
                replace hS1 := hS1.of hb12
                replace hS2 := hS2.of hb12
                replace hbx := hbx.of hb12
                replace hB := below_thru hB hb12
                clear hb12
                have ⟨_, t0, t1, t2⟩ := hbx
                go_wp2_with fail
                go_at_call 10
                refine (awake_20 _).mono ?_
                rintro ez wz ⟨rfl, hbz⟩
                have hfin := below_thru hB hbz
                go_wp2_with fail
                go_ret
                exact ⟨rfl, hfin⟩
              · have hne := hlaw.2 (fun h => g2 h.2)
                have x3 : (f3 == 0) = false := by simpa using hne
                have x3n : (f3 != 0) = true := by simpa using hne
                subst g1
                have x1 : (f2 == 0) = false := by simpa using g2
                have x1n : (f2 != 0) = true := by simpa using g2
                clear g2 hne hlaw
                go_enter Try.func8, Try.ntmps8
                go_wp2_with fail
                have hbx := TrAt.new w (.int .i64 st) (.slice A n c) (.slice B m d) 25
                have hB : Below w.heap.size w (w.alloc (.cells #[.int .i64 st, .slice A n c, .slice B m d] 25)) := by (repeat' (first | exact Below.refl _ _ | assumption | (refine Below.alloc ?_ ?_ _) | (refine Below.setCell ?_ ?_ _) | (refine Below.drew ?_) | (refine below_drewN ?_ _) | (refine below_after (Ext.below _) ?_ ?_) | (refine below_after (by assumption) ?_ ?_) | (simp; done) | omega | (simp; omega)))
                obtain ⟨we, hwe⟩ : ∃ we, we = w.alloc (.cells #[.int .i64 st, .slice A n c, .slice B m d] 25) := ⟨_, rfl⟩
                rw [← hwe] at hbx hB ⊢
                replace hH := hH.of hB
                replace hN := hN.of hB
                replace hR := hR.of hB
                replace hT := hT.of hB
                clear hwe
                have ⟨_, t0, t1, t2⟩ := hbx
                go_wp2_with fail
                go_at_call 9
                refine (kS _ hH hN).mono ?_
                rintro e1 w1 ⟨rfl, hb1⟩
                clear t0 t1 t2
                replace hH := hH.of hb1
                replace hN := hN.of hb1
                replace hR := hR.of hb1
                replace hT := hT.of hb1
                replace hbx := hbx.of hb1
                replace hB := below_thru hB hb1
                clear hb1
                have ⟨_, t0, t1, t2⟩ := hbx
                go_wp2_with fail
                go_at_call 9
                refine (kS2 _ hH hN).mono ?_
                rintro e2 w2 ⟨rfl, hb2⟩
                clear t0 t1 t2
                replace hH := hH.of hb2
                replace hN := hN.of hb2
                replace hR := hR.of hb2
                replace hT := hT.of hb2
                replace hbx := hbx.of hb2
                replace hB := below_thru hB hb2
                clear hb2
                have ⟨_, t0, t1, t2⟩ := hbx
                go_wp2_with fail
                go_at_call 22
                refine (kQ _ hH hN).mono ?_
                rintro e3 w3 ⟨rfl, hb3⟩
                clear t0 t1 t2
                replace hH := hH.of hb3
                replace hN := hN.of hb3
                replace hR := hR.of hb3
                replace hT := hT.of hb3
                replace hbx := hbx.of hb3
                replace hB := below_thru hB hb3
                clear hb3
                have ⟨_, t0, t1, t2⟩ := hbx
                go_wp2_with fail
                go_at_call 23
                refine (kR1 _ hR (by omega)).mono ?_
                rintro e4 w4 ⟨rfl, hb4⟩
                clear t0 t1 t2
                replace hH := hH.of hb4
                replace hN := hN.of hb4
                replace hR := hR.of hb4
                replace hT := hT.of hb4
                replace hbx := hbx.of hb4
                replace hB := below_thru hB hb4
                clear hb4
                have ⟨_, t0, t1, t2⟩ := hbx
                go_wp2_with fail
                go_at_call 23
                refine (kR2 _ hT (by omega)).mono ?_
                rintro e5 w5 ⟨rfl, hb5⟩
                clear t0 t1 t2
                replace hH := hH.of hb5
                replace hN := hN.of hb5
                replace hR := hR.of hb5
                replace hT := hT.of hb5
                replace hbx := hbx.of hb5
                replace hB := below_thru hB hb5
                clear hb5
                have ⟨_, t0, t1, t2⟩ := hbx
                go_wp2_with fail
                go_at_call 24
                refine (kF _ hR hT).mono ?_
                rintro e6 w6 ⟨rfl, hb6⟩
                clear t0 t1 t2
                replace hH := hH.of hb6
                replace hN := hN.of hb6
                replace hR := hR.of hb6
                replace hT := hT.of hb6
                replace hbx := hbx.of hb6
                replace hB := below_thru hB hb6
                clear hb6
                have ⟨_, t0, t1, t2⟩ := hbx
                have hbA : Below w6.heap.size w6 (w6.alloc (.cells #[] 64)) := (Below.refl _ _).alloc (Nat.le_refl _) _
                have hRA := (hR).of hbA
                go_wp2_with (first | ((at_builtin; refine wpList_append_els rfl (.tmp 50) (.tmp 51) 26 27 rfl encC 3 64 (.agg #[.int .i64 0, .int .i64 0, .int .i64 0]) 24 Try.underlying26 Try.underlying27 (by kernel_rfl) rfl (by decide) encC_len encC_one (w6.heap.size) _ _ _ _ rfl (own_empty w6) _ _ _ _ rfl (hRA) (by omega) (by omega) (by first | omega | (simp; done) | (simp; omega)) ?_; intro A7 c7 w7 hown7 hg7 hb7; obtain ⟨hc7, hf7⟩ := bcell hb7; have hs7 := hb7.size; (try simp only [World.size_alloc, World.size_setCell, World.size_drew] at hc7 hf7); (try simp at hs7); (try simp only [Nat.zero_add, List.nil_append] at hown7)); have hbW := hbA.trans hb7; have hTA := (hT).of hbW) | (at_builtin; refine wpList_append_els rfl (.tmp 52) (.tmp 53) 26 27 rfl encC 3 64 (.agg #[.int .i64 0, .int .i64 0, .int .i64 0]) 24 Try.underlying26 Try.underlying27 (by kernel_rfl) rfl (by decide) encC_len encC_one (w6.heap.size) _ _ _ _ rfl (hown7) _ _ _ _ rfl (hTA) (by omega) (by omega) (by first | omega | (simp; done) | (simp; omega)) ?_; intro A8 c8 w8 hown8 hg8 hb8; obtain ⟨hc8, hf8⟩ := bcell hb8; have hs8 := hb8.size; (try simp only [World.size_alloc, World.size_setCell, World.size_drew] at hc8 hf8); (try simp at hs8); (try simp only [Nat.zero_add, List.nil_append] at hown8)))
                have hbZ := hbW.trans hb8
                have hRd := hown8.rd encC_len
                go_at_call 25
                refine (kA _ _ _ _ hRd (by omega)).mono ?_
                rintro e9 w9 ⟨A9, n9, c9, rfl, hR9, hb9⟩
                have hb69 : Below w6.heap.size w6 w9 := below_thru hbZ hb9
                clear t0 t1 t2
                replace hH := hH.of hb69
                replace hN := hN.of hb69
                replace hR := hR.of hb69
                replace hT := hT.of hb69
                replace hbx := hbx.of hb69
                replace hB := below_thru hB hb69
                clear hbA hRA hbW hTA hbZ hRd hb7 hb8 hb9 hb69 hc7 hf7 hs7 hc8 hf8 hs8 hown7 hown8 hg7 hg8
                have ⟨_, t0, t1, t2⟩ := hbx
                have hn9 : n9 ≤ 1000000 := by rw [← hR9.rd.len]; exact hal.out
                go_wp2_with fail
                go_at_call 11
                refine (k1 _ hH hN hR).mono ?_
                rintro e10 w10 ⟨A10, n10, c10, rfl, hS1, hb10⟩
                clear t0 t1 t2
                replace hH := hH.of hb10
                replace hN := hN.of hb10
                replace hR := hR.of hb10
                replace hT := hT.of hb10
                replace hR9 := hR9.of hb10
                replace hbx := hbx.of hb10
                replace hB := below_thru hB hb10
                clear hb10
                have ⟨_, t0, t1, t2⟩ := hbx
                go_wp2_with fail
                go_at_call 11
                refine (k2s _ hH hN hT).mono ?_
                rintro e11 w11 ⟨A11, n11, c11, rfl, hS2, hb11⟩
                clear t0 t1 t2
                replace hH := hH.of hb11
                replace hN := hN.of hb11
                replace hR := hR.of hb11
                replace hT := hT.of hb11
                replace hR9 := hR9.of hb11
                replace hS1 := hS1.of hb11
                replace hbx := hbx.of hb11
                replace hB := below_thru hB hb11
                clear hb11
                have ⟨_, t0, t1, t2⟩ := hbx
                go_wp2_with fail
                go_at_call 11
                refine (k3 _ _ _ _ hH hN hR9.rd hn9).mono ?_
                rintro e12 w12 ⟨A12, n12, c12, rfl, hS3, hb12⟩
                clear t0 t1 t2
                replace hH := hH.of hb12
                replace hN := hN.of hb12
                replace hR := hR.of hb12
                replace hT := hT.of hb12
                replace hR9 := hR9.of hb12
                replace hS1 := hS1.of hb12
                replace hS2 := hS2.of hb12
                replace hbx := hbx.of hb12
                replace hB := below_thru hB hb12
                clear hb12
                have ⟨_, t0, t1, t2⟩ := hbx
                go_wp2_with fail
                go_at_call 10
                refine (awake_20 _).mono ?_
                rintro ez wz ⟨rfl, hbz⟩
                have hfin := below_thru hB hbz
                go_wp2_with fail
                go_ret
                exact ⟨rfl, hfin⟩
              · obtain ⟨u1, u2, u3⟩ := hlaw.1 ⟨g1, g2⟩
                subst g1 g2 u1
                have kB := fun E q g w1 h1 hq => ref05_FromNV u2 u3 E q g w1 h1 hq
                clear hlaw u2 u3
                go_enter Try.func8, Try.ntmps8
                go_wp2_with fail
                have hbx := TrAt.new w (.int .i64 st) (.slice A n c) (.slice B m d) 25
                have hB : Below w.heap.size w (w.alloc (.cells #[.int .i64 st, .slice A n c, .slice B m d] 25)) := by (repeat' (first | exact Below.refl _ _ | assumption | (refine Below.alloc ?_ ?_ _) | (refine Below.setCell ?_ ?_ _) | (refine Below.drew ?_) | (refine below_drewN ?_ _) | (refine below_after (Ext.below _) ?_ ?_) | (refine below_after (by assumption) ?_ ?_) | (simp; done) | omega | (simp; omega)))
                obtain ⟨we, hwe⟩ : ∃ we, we = w.alloc (.cells #[.int .i64 st, .slice A n c, .slice B m d] 25) := ⟨_, rfl⟩
                rw [← hwe] at hbx hB ⊢
                replace hH := hH.of hB
                replace hN := hN.of hB
                replace hR := hR.of hB
                replace hT := hT.of hB
                clear hwe
                have ⟨_, t0, t1, t2⟩ := hbx
                go_wp2_with fail
                go_at_call 9
                refine (kS _ hH hN).mono ?_
                rintro e1 w1 ⟨rfl, hb1⟩
                clear t0 t1 t2
                replace hH := hH.of hb1
                replace hN := hN.of hb1
                replace hR := hR.of hb1
                replace hT := hT.of hb1
                replace hbx := hbx.of hb1
                replace hB := below_thru hB hb1
                clear hb1
                have ⟨_, t0, t1, t2⟩ := hbx
                go_wp2_with fail
                go_at_call 9
                refine (kS2 _ hH hN).mono ?_
                rintro e2 w2 ⟨rfl, hb2⟩
                clear t0 t1 t2
                replace hH := hH.of hb2
                replace hN := hN.of hb2
                replace hR := hR.of hb2
                replace hT := hT.of hb2
                replace hbx := hbx.of hb2
                replace hB := below_thru hB hb2
                clear hb2
                have ⟨_, t0, t1, t2⟩ := hbx
                go_wp2_with fail
                go_at_call 22
                refine (kQ _ hH hN).mono ?_
                rintro e3 w3 ⟨rfl, hb3⟩
                clear t0 t1 t2
                replace hH := hH.of hb3
                replace hN := hN.of hb3
                replace hR := hR.of hb3
                replace hT := hT.of hb3
                replace hbx := hbx.of hb3
                replace hB := below_thru hB hb3
                clear hb3
                have ⟨_, t0, t1, t2⟩ := hbx
                go_wp2_with fail
                go_at_call 23
                refine (kR1 _ hR (by omega)).mono ?_
                rintro e4 w4 ⟨rfl, hb4⟩
                clear t0 t1 t2
                replace hH := hH.of hb4
                replace hN := hN.of hb4
                replace hR := hR.of hb4
                replace hT := hT.of hb4
                replace hbx := hbx.of hb4
                replace hB := below_thru hB hb4
                clear hb4
                have ⟨_, t0, t1, t2⟩ := hbx
                go_wp2_with fail
                go_at_call 23
                refine (kR2 _ hT (by omega)).mono ?_
                rintro e5 w5 ⟨rfl, hb5⟩
                clear t0 t1 t2
                replace hH := hH.of hb5
                replace hN := hN.of hb5
                replace hR := hR.of hb5
                replace hT := hT.of hb5
                replace hbx := hbx.of hb5
                replace hB := below_thru hB hb5
                clear hb5
                have ⟨_, t0, t1, t2⟩ := hbx
                go_wp2_with fail
                go_at_call 24
                refine (kF _ hR hT).mono ?_
                rintro e6 w6 ⟨rfl, hb6⟩
                clear t0 t1 t2
                replace hH := hH.of hb6
                replace hN := hN.of hb6
                replace hR := hR.of hb6
                replace hT := hT.of hb6
                replace hbx := hbx.of hb6
                replace hB := below_thru hB hb6
                clear hb6
                have ⟨_, t0, t1, t2⟩ := hbx
                have hbA : Below w6.heap.size w6 (w6.alloc (.cells #[] 64)) := (Below.refl _ _).alloc (Nat.le_refl _) _
                have hRA := (hR).of hbA
                go_wp2_with (first | ((at_builtin; refine wpList_append_els rfl (.tmp 50) (.tmp 51) 26 27 rfl encC 3 64 (.agg #[.int .i64 0, .int .i64 0, .int .i64 0]) 24 Try.underlying26 Try.underlying27 (by kernel_rfl) rfl (by decide) encC_len encC_one (w6.heap.size) _ _ _ _ rfl (own_empty w6) _ _ _ _ rfl (hRA) (by omega) (by omega) (by first | omega | (simp; done) | (simp; omega)) ?_; intro A7 c7 w7 hown7 hg7 hb7; obtain ⟨hc7, hf7⟩ := bcell hb7; have hs7 := hb7.size; (try simp only [World.size_alloc, World.size_setCell, World.size_drew] at hc7 hf7); (try simp at hs7); (try simp only [Nat.zero_add, List.nil_append] at hown7)); have hbW := hbA.trans hb7; have hTA := (hT).of hbW) | (at_builtin; refine wpList_append_els rfl (.tmp 52) (.tmp 53) 26 27 rfl encC 3 64 (.agg #[.int .i64 0, .int .i64 0, .int .i64 0]) 24 Try.underlying26 Try.underlying27 (by kernel_rfl) rfl (by decide) encC_len encC_one (w6.heap.size) _ _ _ _ rfl (hown7) _ _ _ _ rfl (hTA) (by omega) (by omega) (by first | omega | (simp; done) | (simp; omega)) ?_; intro A8 c8 w8 hown8 hg8 hb8; obtain ⟨hc8, hf8⟩ := bcell hb8; have hs8 := hb8.size; (try simp only [World.size_alloc, World.size_setCell, World.size_drew] at hc8 hf8); (try simp at hs8); (try simp only [Nat.zero_add, List.nil_append] at hown8)))
                have hbZ := hbW.trans hb8
                have hRd := hown8.rd encC_len
                go_at_call 25
                refine (kA _ _ _ _ hRd (by omega)).mono ?_
                rintro e9 w9 ⟨A9, n9, c9, rfl, hR9, hb9⟩
                have hb69 : Below w6.heap.size w6 w9 := below_thru hbZ hb9
                clear t0 t1 t2
                replace hH := hH.of hb69
                replace hN := hN.of hb69
                replace hR := hR.of hb69
                replace hT := hT.of hb69
                replace hbx := hbx.of hb69
                replace hB := below_thru hB hb69
                clear hbA hRA hbW hTA hbZ hRd hb7 hb8 hb9 hb69 hc7 hf7 hs7 hc8 hf8 hs8 hown7 hown8 hg7 hg8
                have ⟨_, t0, t1, t2⟩ := hbx
                have hn9 : n9 ≤ 1000000 := by rw [← hR9.rd.len]; exact hal.out
                go_wp2_with fail
                go_at_call 11
                refine (k1 _ hH hN hR).mono ?_
                rintro e10 w10 ⟨A10, n10, c10, rfl, hS1, hb10⟩
                clear t0 t1 t2
                replace hH := hH.of hb10
                replace hN := hN.of hb10
                replace hR := hR.of hb10
                replace hT := hT.of hb10
                replace hR9 := hR9.of hb10
                replace hbx := hbx.of hb10
                replace hB := below_thru hB hb10
                clear hb10
                have ⟨_, t0, t1, t2⟩ := hbx
                go_wp2_with fail
                go_at_call 11
                refine (k2s _ hH hN hT).mono ?_
                rintro e11 w11 ⟨A11, n11, c11, rfl, hS2, hb11⟩
                clear t0 t1 t2
                replace hH := hH.of hb11
                replace hN := hN.of hb11
                replace hR := hR.of hb11
                replace hT := hT.of hb11
                replace hR9 := hR9.of hb11
                replace hS1 := hS1.of hb11
                replace hbx := hbx.of hb11
                replace hB := below_thru hB hb11
                clear hb11
                have ⟨_, t0, t1, t2⟩ := hbx
                go_wp2_with fail
                go_at_call 11
                refine (k3 _ _ _ _ hH hN hR9.rd hn9).mono ?_
                rintro e12 w12 ⟨A12, n12, c12, rfl, hS3, hb12⟩
                clear t0 t1 t2
                replace hH := hH.of hb12
                replace hN := hN.of hb12
                replace hR := hR.of hb12
                replace hT := hT.of hb12
                replace hR9 := hR9.of hb12
                replace hS1 := hS1.of hb12
                replace hS2 := hS2.of hb12
                replace hbx := hbx.of hb12
                replace hB := below_thru hB hb12
                clear hb12
                have ⟨_, t0, t1, t2⟩ := hbx
                have hn10 : n10 ≤ 5000 := by rw [← hS1.rd.len]; exact z1.out
                have hn11 : n11 ≤ 5000 := by rw [← hS2.rd.len]; exact z2.out
                have hn12 : n12 ≤ 1000000 := by have := z3.out; rw [hS3.rd.len] at this; omega
                have hbA : Below w12.heap.size w12 (w12.alloc (.cells #[] 64)) := (Below.refl _ _).alloc (Nat.le_refl _) _
                have hRA := (hS1.rd).of hbA
                go_wp2_with (first | ((at_builtin; refine wpList_append_els rfl (.tmp 90) (.tmp 91) 26 27 rfl encC 3 64 (.agg #[.int .i64 0, .int .i64 0, .int .i64 0]) 24 Try.underlying26 Try.underlying27 (by kernel_rfl) rfl (by decide) encC_len encC_one (w12.heap.size) _ _ _ _ rfl (own_empty w12) _ _ _ _ rfl (hRA) (by omega) (by omega) (by first | omega | (simp; done) | (simp; omega)) ?_; intro A13 c13 w13 hown13 hg13 hb13; obtain ⟨hc13, hf13⟩ := bcell hb13; have hs13 := hb13.size; (try simp only [World.size_alloc, World.size_setCell, World.size_drew] at hc13 hf13); (try simp at hs13); (try simp only [Nat.zero_add, List.nil_append] at hown13)); have hbW := hbA.trans hb13; have hTA := (hS2.rd).of hbW) | (at_builtin; refine wpList_append_els rfl (.tmp 92) (.tmp 93) 26 27 rfl encC 3 64 (.agg #[.int .i64 0, .int .i64 0, .int .i64 0]) 24 Try.underlying26 Try.underlying27 (by kernel_rfl) rfl (by decide) encC_len encC_one (w12.heap.size) _ _ _ _ rfl (hown13) _ _ _ _ rfl (hTA) (by omega) (by omega) (by first | omega | (simp; done) | (simp; omega)) ?_; intro A14 c14 w14 hown14 hg14 hb14; obtain ⟨hc14, hf14⟩ := bcell hb14; have hs14 := hb14.size; (try simp only [World.size_alloc, World.size_setCell, World.size_drew] at hc14 hf14); (try simp at hs14); (try simp only [Nat.zero_add, List.nil_append] at hown14)))
                have hbZ := hbW.trans hb14
                have hRd := hown14.rd encC_len
                go_at_call 25
                refine (kB _ _ _ _ hRd (by omega)).mono ?_
                rintro e15 w15 ⟨A15, n15, c15, rfl, hR15, hb15⟩
                have hbf : Below w12.heap.size w12 w15 := below_thru hbZ hb15
                clear t0 t1 t2
                replace hS3 := hS3.of hbf
                replace hbx := hbx.of hbf
                replace hB := below_thru hB hbf
                have ⟨_, t0, t1, t2⟩ := hbx
                have hn15 : n15 ≤ 1000000 := by have := z3.out; rw [hR15.rd.len] at this; omega
                clear hbA hRA hbW hTA hbZ hRd hb13 hb14 hb15 hbf hc13 hf13 hs13 hc14 hf14 hs14 hown13 hown14 hg13 hg14
                go_wp2_with fail
                go_at_call 13
                refine (ref05_SameV (sameL_self s3) _ _ _ _ _ _ _ hS3.rd hR15.rd hn12 hn15).mono ?_
                rintro e16 w16 ⟨rfl, hb16⟩
                clear t0 t1 t2
                replace hS3 := hS3.of hb16
                replace hbx := hbx.of hb16
                replace hB := below_thru hB hb16
                clear hb16
                have ⟨_, t0, t1, t2⟩ := hbx
                go_wp2_with fail
                go_at_call 10
                refine (awake_20 _).mono ?_
                rintro ez wz ⟨rfl, hbz⟩
                have hfin := below_thru hB hbz
                go_wp2_with fail
                go_ret
                exact ⟨rfl, hfin⟩
end Go.Proofs.Ytnhapgbjaeaamaa
