/- The walks of DirectSteps, DirectNext, DirectRuns, DirectParts and DirectMoves. -/
import Derived.Test.YtnhapgbjaeaamaaAwake20
import Derived.Test.YtnhapgbjaeaamaaDirV
import Derived.Test.YtnhapgbjaeaamaaCell8
namespace Go.Proofs.Ytnhapgbjaeaamaa
open Go Go.RowKit
set_option linter.unusedSimpArgs false
set_option linter.unusedVariables false
set_option maxRecDepth 100000
set_option linter.unusedSimpArgs false
set_option linter.unusedVariables false
theorem stp_right {st : Int} {H : List (Int × Int)} {N : List (Int × List Int)} {p : List (Int × Int × Int)} : (stpL st H N p).length ≤ 5000 := by
  unfold stpL
  by_cases hf : fitE st H N p = 0
  · rw [if_pos hf]; exact (rightC_ok (st_fits (fit_iff.1 hf)).pat).1
  · rw [if_neg hf]; simp
theorem stp_len (st : Int) (H : List (Int × Int)) (N : List (Int × List Int)) (p : List (Int × Int × Int)) (_h : p.length ≤ 60) : (stpL st H N p).length ≤ 1000000 := Nat.le_trans stp_right (by omega)
theorem run_len {st nn : Int} {H : List (Int × Int)} {N : List (Int × List Int)} {p : List (Int × Int × Int)} : (runL st H N p nn).length ≤ 1000000 := by
  unfold runL
  by_cases h : runE st H N p nn = 0
  · rw [if_pos h]
    unfold runE at h
    by_cases hf : fitE st H N p = 0
    · exact Nat.le_trans (rightC_ok (it_fits (fit_iff.1 hf) _).pat).1 (by omega)
    · rw [if_neg hf] at h; exact absurd h hf
  · rw [if_neg h]; simp
theorem his_len1 {st nn : Int} {H : List (Int × Int)} {N : List (Int × List Int)} {p : List (Int × Int × Int)} : (hisL st H N p nn).length ≤ 10001 ∧ ∀ l ∈ hisL st H N p nn, l.length ≤ 1000000 := by
  unfold hisL
  by_cases h : runE st H N p nn = 0
  · rw [if_pos h]
    unfold runE at h
    by_cases hf : fitE st H N p = 0
    · rw [if_pos hf] at h
      by_cases hb : nn < 0 ∨ 10000 < nn
      · rw [if_pos hb] at h; omega
      · refine ⟨by rw [List.length_map, List.length_range]; omega, fun l hl => ?_⟩
        obtain ⟨k, _, rfl⟩ := List.mem_map.1 hl
        exact Nat.le_trans (rightC_ok (it_fits (fit_iff.1 hf) _).pat).1 (by omega)
    · rw [if_neg hf] at h; exact absurd h hf
  · rw [if_neg h]; exact ⟨by simp, fun l hl => by cases hl⟩
set_option maxHeartbeats 16000000 in
theorem law_dsteps (st : Int) (A B D : Option Addr) (n c m d k e : Nat) (H : List (Int × Int)) (N : List (Int × List Int)) (p : List (Int × Int × Int)) (w : World) (hH : Rd encP 2 w A n H) (hN : RdX ekN w B m N) (hR : Rd encC 3 w D k p) :
    Calls Try.prog 3 #[.agg #[.int .i64 st, .slice A n c, .slice B m d], .slice D k e] w fun e w' => e = .returned (.bool true) ∧ Below w.heap.size w w' := by
  obtain ⟨v, hv⟩ : ∃ v, (fewT H N && decide (k ≤ 60)) = v := ⟨_, rfl⟩
  have kS := fun w1 h1 h2 => law_Small st A B D n c m d k e H N w1 rfl hv h1 h2
  cases v with
  | false =>
    clear hv
    go_enter Try.func3, Try.ntmps3
    go_wp2_with fail
    have hbx := TrAt.new w (.int .i64 st) (.slice A n c) (.slice B m d) 25
    have hB : Below w.heap.size w (w.alloc (.cells #[.int .i64 st, .slice A n c, .slice B m d] 25)) := by (repeat' (first | exact Below.refl _ _ | assumption | (refine Below.alloc ?_ ?_ _) | (refine Below.setCell ?_ ?_ _) | (refine Below.drew ?_) | (refine below_drewN ?_ _) | (refine below_after (Ext.below _) ?_ ?_) | (refine below_after (by assumption) ?_ ?_) | (simp; done) | omega | (simp; omega)))
    obtain ⟨we, hwe⟩ : ∃ we, we = w.alloc (.cells #[.int .i64 st, .slice A n c, .slice B m d] 25) := ⟨_, rfl⟩
    rw [← hwe] at hbx hB ⊢
    replace hH := hH.of hB
    replace hN := hN.of hB
    replace hR := hR.of hB
    clear hwe
    have ⟨_, t0, t1, t2⟩ := hbx
    go_wp2_with fail
    go_at_call 9
    refine (kS _ hH hN).mono ?_
    rintro e1 w1 ⟨rfl, hb1⟩
    clear t0 t1 t2
    replace hH := hH.of hb1
    replace hN := hN.of hb1
    replace hR := hR.of hb1
    replace hbx := hbx.of hb1
    replace hB := below_thru hB hb1
    clear hb1
    have ⟨_, t0, t1, t2⟩ := hbx
    go_wp2_with fail
    go_at_call 10
    refine (awake_20 _).mono ?_
    rintro ez wz ⟨rfl, hbz⟩
    have hfin := below_thru hB hbz
    go_wp2_with fail
    go_ret
    exact ⟨rfl, hfin⟩
  | true =>
    have hk : k ≤ 60 := by rw [Bool.and_eq_true, decide_eq_true_eq] at hv; exact hv.2
    clear hv
    have kP := fun w1 h1 h2 h3 => direct_Step st A B D n c m d k e H N p w1 h1 h2 h3 (by omega)
    have kQ := fun w1 h1 h2 h3 => ref20_Step st A B D n c m d k e H N p w1 h1 h2 h3 (by omega)
    have hsz := Lib.hid (stp_len st H N p (show p.length ≤ 60 by rw [hR.len]; exact hk))
    generalize stpE st H N p = q0 at kP kQ
    generalize stpL st H N p = s0 at kP kQ hsz
    have e2 : (q0 == q0) = true := beq_self_eq_true _
    go_enter Try.func3, Try.ntmps3
    go_wp2_with fail
    have hbx := TrAt.new w (.int .i64 st) (.slice A n c) (.slice B m d) 25
    have hB : Below w.heap.size w (w.alloc (.cells #[.int .i64 st, .slice A n c, .slice B m d] 25)) := by (repeat' (first | exact Below.refl _ _ | assumption | (refine Below.alloc ?_ ?_ _) | (refine Below.setCell ?_ ?_ _) | (refine Below.drew ?_) | (refine below_drewN ?_ _) | (refine below_after (Ext.below _) ?_ ?_) | (refine below_after (by assumption) ?_ ?_) | (simp; done) | omega | (simp; omega)))
    obtain ⟨we, hwe⟩ : ∃ we, we = w.alloc (.cells #[.int .i64 st, .slice A n c, .slice B m d] 25) := ⟨_, rfl⟩
    rw [← hwe] at hbx hB ⊢
    replace hH := hH.of hB
    replace hN := hN.of hB
    replace hR := hR.of hB
    clear hwe
    have ⟨_, t0, t1, t2⟩ := hbx
    go_wp2_with fail
    go_at_call 9
    refine (kS _ hH hN).mono ?_
    rintro e1 w1 ⟨rfl, hb1⟩
    clear t0 t1 t2
    replace hH := hH.of hb1
    replace hN := hN.of hb1
    replace hR := hR.of hb1
    replace hbx := hbx.of hb1
    replace hB := below_thru hB hb1
    clear hb1
    have ⟨_, t0, t1, t2⟩ := hbx
    go_wp2_with fail
    go_at_call 11
    refine (kP _ hH hN hR).mono ?_
    rintro e2 w2 ⟨A2, n2, c2, rfl, hR2, hb2⟩
    clear t0 t1 t2
    replace hH := hH.of hb2
    replace hN := hN.of hb2
    replace hR := hR.of hb2
    replace hbx := hbx.of hb2
    replace hB := below_thru hB hb2
    clear hb2
    have ⟨_, t0, t1, t2⟩ := hbx
    go_wp2_with fail
    go_at_call 12
    refine (kQ _ hH hN hR).mono ?_
    rintro e3 w3 ⟨A3, n3, c3, rfl, hR3, hb3⟩
    clear t0 t1 t2
    replace hH := hH.of hb3
    replace hN := hN.of hb3
    replace hR := hR.of hb3
    replace hR2 := hR2.of hb3
    replace hbx := hbx.of hb3
    replace hB := below_thru hB hb3
    clear hb3
    have ⟨_, t0, t1, t2⟩ := hbx
    have hn2 : n2 ≤ 1000000 := by rw [← hR2.rd.len]; exact hsz.out
    have hn3 : n3 ≤ 1000000 := by rw [← hR3.rd.len]; exact hsz.out
    go_wp2_with fail
    go_at_call 13
    refine (ref05_SameV (sameL_self s0) _ _ _ _ _ _ _ hR2.rd hR3.rd hn2 hn3).mono ?_
    rintro e4 w4 ⟨rfl, hb4⟩
    clear t0 t1 t2
    replace hH := hH.of hb4
    replace hN := hN.of hb4
    replace hR := hR.of hb4
    replace hR2 := hR2.of hb4
    replace hR3 := hR3.of hb4
    replace hbx := hbx.of hb4
    replace hB := below_thru hB hb4
    clear hb4
    have ⟨_, t0, t1, t2⟩ := hbx
    go_wp2_with fail
    go_at_call 10
    refine (awake_20 _).mono ?_
    rintro ez wz ⟨rfl, hbz⟩
    have hfin := below_thru hB hbz
    go_wp2_with fail
    go_ret
    exact ⟨rfl, hfin⟩
theorem ref05_GetV {A : Option Addr} {n c : Nat} {l : List (Int × Int × Int)} {x y s : Int} (h : getC l x y = s) (w : World) (hR : Rd encC 3 w A n l) (hn : n ≤ 1000000) : Calls Try.prog 16 #[.slice A n c, .int .i64 x, .int .i64 y] w fun e w' => e = .returned (.int .i64 s) ∧ Below w.heap.size w w' := by
  rw [← h]; exact ref05_Get A n c l x y w hR hn
set_option maxHeartbeats 16000000 in
theorem law_dnext (st : Int) (A B D : Option Addr) (n c m d k e : Nat) (H : List (Int × Int)) (N : List (Int × List Int)) (p : List (Int × Int × Int)) (w : World) (hH : Rd encP 2 w A n H) (hN : RdX ekN w B m N) (hR : Rd encC 3 w D k p) (x y : Int) :
    Calls Try.prog 4 #[.agg #[.int .i64 st, .slice A n c, .slice B m d], .slice D k e, .agg #[.int .i64 x, .int .i64 y]] w fun e w' => e = .returned (.bool true) ∧ Below w.heap.size w w' := by
  obtain ⟨v, hv⟩ : ∃ v, (fewT H N && decide (k ≤ 60)) = v := ⟨_, rfl⟩
  have kS := fun w1 h1 h2 => law_Small st A B D n c m d k e H N w1 rfl hv h1 h2
  cases v with
  | false =>
    clear hv
    go_enter Try.func4, Try.ntmps4
    go_wp2_with fail
    have hbx := TrAt.new w (.int .i64 st) (.slice A n c) (.slice B m d) 25
    have hdx := DuAt.new (w.alloc (.cells #[.int .i64 st, .slice A n c, .slice B m d] 25)) (.int .i64 x) (.int .i64 y) 35
    rw [World.size_alloc] at hdx
    replace hbx := hbx.of ((Below.refl _ _).alloc (Nat.le_refl _) (.cells #[.int .i64 x, .int .i64 y] 35))
    have hB : Below w.heap.size w ((w.alloc (.cells #[.int .i64 st, .slice A n c, .slice B m d] 25)).alloc (.cells #[.int .i64 x, .int .i64 y] 35)) := by (repeat' (first | exact Below.refl _ _ | assumption | (refine Below.alloc ?_ ?_ _) | (refine Below.setCell ?_ ?_ _) | (refine Below.drew ?_) | (refine below_drewN ?_ _) | (refine below_after (Ext.below _) ?_ ?_) | (refine below_after (by assumption) ?_ ?_) | (simp; done) | omega | (simp; omega)))
    obtain ⟨we, hwe⟩ : ∃ we, we = (w.alloc (.cells #[.int .i64 st, .slice A n c, .slice B m d] 25)).alloc (.cells #[.int .i64 x, .int .i64 y] 35) := ⟨_, rfl⟩
    rw [← hwe] at hbx hB hdx ⊢
    replace hH := hH.of hB
    replace hN := hN.of hB
    replace hR := hR.of hB
    clear hwe
    have ⟨_, t0, t1, t2⟩ := hbx
    have ⟨_, y0, y1⟩ := hdx
    go_wp2_with fail
    go_at_call 9
    refine (kS _ hH hN).mono ?_
    rintro e1 w1 ⟨rfl, hb1⟩
    clear t0 t1 t2 y0 y1
    replace hH := hH.of hb1
    replace hN := hN.of hb1
    replace hR := hR.of hb1
    replace hbx := hbx.of hb1
    replace hdx := hdx.of hb1
    replace hB := below_thru hB hb1
    clear hb1
    have ⟨_, t0, t1, t2⟩ := hbx
    have ⟨_, y0, y1⟩ := hdx
    go_wp2_with fail
    go_at_call 10
    refine (awake_20 _).mono ?_
    rintro ez wz ⟨rfl, hbz⟩
    have hfin := below_thru hB hbz
    go_wp2_with fail
    go_ret
    exact ⟨rfl, hfin⟩
  | true =>
    have hk : k ≤ 60 := by rw [Bool.and_eq_true, decide_eq_true_eq] at hv; exact hv.2
    clear hv
    have kP := fun w1 h1 h2 h3 => direct_Next st A B D n c m d k e H N p w1 x y h1 h2 h3 (by omega)
    have kQ := fun w1 h1 h2 h3 => ref20_Next st A B D n c m d k e H N p w1 x y h1 h2 h3 (by omega)
    have kR := fun w1 h1 h2 h3 => direct_Step st A B D n c m d k e H N p w1 h1 h2 h3 (by omega)
    have hnx := dir_next (st := st) (H := H) (N := N) (p := p) (x := x) (y := y)
    have hsz := Lib.hid (stp_len st H N p (show p.length ≤ 60 by rw [hR.len]; exact hk))
    generalize nxE st H N p x y = q0 at kP kQ hnx
    generalize nxV st H N p x y = v0 at kP kQ hnx
    generalize stpE st H N p = q1 at kR hnx
    generalize stpL st H N p = s1 at kR hnx hsz
    have e1 : (v0 == v0) = true := beq_self_eq_true _
    have e1n : (v0 != v0) = false := by simp
    have e2 : (q0 == q0) = true := beq_self_eq_true _
    have e2n : (q0 != q0) = false := by simp
    replace hnx := Lib.hid hnx
    rcases (show (q0 ≠ 0) ∨ (q0 = 0 ∧ q1 ≠ 0) ∨ (q0 = 0 ∧ q1 = 0) by omega) with h0 | ⟨h0, h1⟩ | ⟨h0, h1⟩
    · have d1 : (q0 == 0) = false := by simpa using h0
      have d2 : (q0 != 0) = true := by simpa using h0
      clear h0
      go_enter Try.func4, Try.ntmps4
      go_wp2_with fail
      have hbx := TrAt.new w (.int .i64 st) (.slice A n c) (.slice B m d) 25
      have hdx := DuAt.new (w.alloc (.cells #[.int .i64 st, .slice A n c, .slice B m d] 25)) (.int .i64 x) (.int .i64 y) 35
      rw [World.size_alloc] at hdx
      replace hbx := hbx.of ((Below.refl _ _).alloc (Nat.le_refl _) (.cells #[.int .i64 x, .int .i64 y] 35))
      have hB : Below w.heap.size w ((w.alloc (.cells #[.int .i64 st, .slice A n c, .slice B m d] 25)).alloc (.cells #[.int .i64 x, .int .i64 y] 35)) := by (repeat' (first | exact Below.refl _ _ | assumption | (refine Below.alloc ?_ ?_ _) | (refine Below.setCell ?_ ?_ _) | (refine Below.drew ?_) | (refine below_drewN ?_ _) | (refine below_after (Ext.below _) ?_ ?_) | (refine below_after (by assumption) ?_ ?_) | (simp; done) | omega | (simp; omega)))
      obtain ⟨we, hwe⟩ : ∃ we, we = (w.alloc (.cells #[.int .i64 st, .slice A n c, .slice B m d] 25)).alloc (.cells #[.int .i64 x, .int .i64 y] 35) := ⟨_, rfl⟩
      rw [← hwe] at hbx hB hdx ⊢
      replace hH := hH.of hB
      replace hN := hN.of hB
      replace hR := hR.of hB
      clear hwe
      have ⟨_, t0, t1, t2⟩ := hbx
      have ⟨_, y0, y1⟩ := hdx
      go_wp2_with fail
      go_at_call 9
      refine (kS _ hH hN).mono ?_
      rintro e1 w1 ⟨rfl, hb1⟩
      clear t0 t1 t2 y0 y1
      replace hH := hH.of hb1
      replace hN := hN.of hb1
      replace hR := hR.of hb1
      replace hbx := hbx.of hb1
      replace hdx := hdx.of hb1
      replace hB := below_thru hB hb1
      clear hb1
      have ⟨_, t0, t1, t2⟩ := hbx
      have ⟨_, y0, y1⟩ := hdx
      go_wp2_with fail
      go_at_call 14
      refine (kP _ hH hN hR).mono ?_
      rintro e2 w2 ⟨rfl, hb2⟩
      clear t0 t1 t2 y0 y1
      replace hH := hH.of hb2
      replace hN := hN.of hb2
      replace hR := hR.of hb2
      replace hbx := hbx.of hb2
      replace hdx := hdx.of hb2
      replace hB := below_thru hB hb2
      clear hb2
      have ⟨_, t0, t1, t2⟩ := hbx
      have ⟨_, y0, y1⟩ := hdx
      go_wp2_with fail
      go_at_call 15
      refine (kQ _ hH hN hR).mono ?_
      rintro e3 w3 ⟨rfl, hb3⟩
      clear t0 t1 t2 y0 y1
      replace hH := hH.of hb3
      replace hN := hN.of hb3
      replace hR := hR.of hb3
      replace hbx := hbx.of hb3
      replace hdx := hdx.of hb3
      replace hB := below_thru hB hb3
      clear hb3
      have ⟨_, t0, t1, t2⟩ := hbx
      have ⟨_, y0, y1⟩ := hdx
      go_wp2_with fail
      go_at_call 11
      refine (kR _ hH hN hR).mono ?_
      rintro e4 w4 ⟨A4, n4, c4, rfl, hR4, hb4⟩
      clear t0 t1 t2 y0 y1
      replace hH := hH.of hb4
      replace hN := hN.of hb4
      replace hR := hR.of hb4
      replace hbx := hbx.of hb4
      replace hdx := hdx.of hb4
      replace hB := below_thru hB hb4
      clear hb4
      have ⟨_, t0, t1, t2⟩ := hbx
      have ⟨_, y0, y1⟩ := hdx
      go_wp2_with fail
      go_at_call 10
      refine (awake_20 _).mono ?_
      rintro ez wz ⟨rfl, hbz⟩
      have hfin := below_thru hB hbz
      go_wp2_with fail
      go_ret
      exact ⟨rfl, hfin⟩
    · subst h0
      have d1 : (q1 == 0) = false := by simpa using h1
      have d2 : (q1 != 0) = true := by simpa using h1
      clear h1
      go_enter Try.func4, Try.ntmps4
      go_wp2_with fail
      have hbx := TrAt.new w (.int .i64 st) (.slice A n c) (.slice B m d) 25
      have hdx := DuAt.new (w.alloc (.cells #[.int .i64 st, .slice A n c, .slice B m d] 25)) (.int .i64 x) (.int .i64 y) 35
      rw [World.size_alloc] at hdx
      replace hbx := hbx.of ((Below.refl _ _).alloc (Nat.le_refl _) (.cells #[.int .i64 x, .int .i64 y] 35))
      have hB : Below w.heap.size w ((w.alloc (.cells #[.int .i64 st, .slice A n c, .slice B m d] 25)).alloc (.cells #[.int .i64 x, .int .i64 y] 35)) := by (repeat' (first | exact Below.refl _ _ | assumption | (refine Below.alloc ?_ ?_ _) | (refine Below.setCell ?_ ?_ _) | (refine Below.drew ?_) | (refine below_drewN ?_ _) | (refine below_after (Ext.below _) ?_ ?_) | (refine below_after (by assumption) ?_ ?_) | (simp; done) | omega | (simp; omega)))
      obtain ⟨we, hwe⟩ : ∃ we, we = (w.alloc (.cells #[.int .i64 st, .slice A n c, .slice B m d] 25)).alloc (.cells #[.int .i64 x, .int .i64 y] 35) := ⟨_, rfl⟩
      rw [← hwe] at hbx hB hdx ⊢
      replace hH := hH.of hB
      replace hN := hN.of hB
      replace hR := hR.of hB
      clear hwe
      have ⟨_, t0, t1, t2⟩ := hbx
      have ⟨_, y0, y1⟩ := hdx
      go_wp2_with fail
      go_at_call 9
      refine (kS _ hH hN).mono ?_
      rintro e1 w1 ⟨rfl, hb1⟩
      clear t0 t1 t2 y0 y1
      replace hH := hH.of hb1
      replace hN := hN.of hb1
      replace hR := hR.of hb1
      replace hbx := hbx.of hb1
      replace hdx := hdx.of hb1
      replace hB := below_thru hB hb1
      clear hb1
      have ⟨_, t0, t1, t2⟩ := hbx
      have ⟨_, y0, y1⟩ := hdx
      go_wp2_with fail
      go_at_call 14
      refine (kP _ hH hN hR).mono ?_
      rintro e2 w2 ⟨rfl, hb2⟩
      clear t0 t1 t2 y0 y1
      replace hH := hH.of hb2
      replace hN := hN.of hb2
      replace hR := hR.of hb2
      replace hbx := hbx.of hb2
      replace hdx := hdx.of hb2
      replace hB := below_thru hB hb2
      clear hb2
      have ⟨_, t0, t1, t2⟩ := hbx
      have ⟨_, y0, y1⟩ := hdx
      go_wp2_with fail
      go_at_call 15
      refine (kQ _ hH hN hR).mono ?_
      rintro e3 w3 ⟨rfl, hb3⟩
      clear t0 t1 t2 y0 y1
      replace hH := hH.of hb3
      replace hN := hN.of hb3
      replace hR := hR.of hb3
      replace hbx := hbx.of hb3
      replace hdx := hdx.of hb3
      replace hB := below_thru hB hb3
      clear hb3
      have ⟨_, t0, t1, t2⟩ := hbx
      have ⟨_, y0, y1⟩ := hdx
      go_wp2_with fail
      go_at_call 11
      refine (kR _ hH hN hR).mono ?_
      rintro e4 w4 ⟨A4, n4, c4, rfl, hR4, hb4⟩
      clear t0 t1 t2 y0 y1
      replace hH := hH.of hb4
      replace hN := hN.of hb4
      replace hR := hR.of hb4
      replace hbx := hbx.of hb4
      replace hdx := hdx.of hb4
      replace hB := below_thru hB hb4
      clear hb4
      have ⟨_, t0, t1, t2⟩ := hbx
      have ⟨_, y0, y1⟩ := hdx
      go_wp2_with fail
      go_at_call 10
      refine (awake_20 _).mono ?_
      rintro ez wz ⟨rfl, hbz⟩
      have hfin := below_thru hB hbz
      go_wp2_with fail
      go_ret
      exact ⟨rfl, hfin⟩
    · subst h0 h1
      replace hnx := Lib.hid (hnx.out rfl rfl)
      go_enter Try.func4, Try.ntmps4
      go_wp2_with fail
      have hbx := TrAt.new w (.int .i64 st) (.slice A n c) (.slice B m d) 25
      have hdx := DuAt.new (w.alloc (.cells #[.int .i64 st, .slice A n c, .slice B m d] 25)) (.int .i64 x) (.int .i64 y) 35
      rw [World.size_alloc] at hdx
      replace hbx := hbx.of ((Below.refl _ _).alloc (Nat.le_refl _) (.cells #[.int .i64 x, .int .i64 y] 35))
      have hB : Below w.heap.size w ((w.alloc (.cells #[.int .i64 st, .slice A n c, .slice B m d] 25)).alloc (.cells #[.int .i64 x, .int .i64 y] 35)) := by (repeat' (first | exact Below.refl _ _ | assumption | (refine Below.alloc ?_ ?_ _) | (refine Below.setCell ?_ ?_ _) | (refine Below.drew ?_) | (refine below_drewN ?_ _) | (refine below_after (Ext.below _) ?_ ?_) | (refine below_after (by assumption) ?_ ?_) | (simp; done) | omega | (simp; omega)))
      obtain ⟨we, hwe⟩ : ∃ we, we = (w.alloc (.cells #[.int .i64 st, .slice A n c, .slice B m d] 25)).alloc (.cells #[.int .i64 x, .int .i64 y] 35) := ⟨_, rfl⟩
      rw [← hwe] at hbx hB hdx ⊢
      replace hH := hH.of hB
      replace hN := hN.of hB
      replace hR := hR.of hB
      clear hwe
      have ⟨_, t0, t1, t2⟩ := hbx
      have ⟨_, y0, y1⟩ := hdx
      go_wp2_with fail
      go_at_call 9
      refine (kS _ hH hN).mono ?_
      rintro e1 w1 ⟨rfl, hb1⟩
      clear t0 t1 t2 y0 y1
      replace hH := hH.of hb1
      replace hN := hN.of hb1
      replace hR := hR.of hb1
      replace hbx := hbx.of hb1
      replace hdx := hdx.of hb1
      replace hB := below_thru hB hb1
      clear hb1
      have ⟨_, t0, t1, t2⟩ := hbx
      have ⟨_, y0, y1⟩ := hdx
      go_wp2_with fail
      go_at_call 14
      refine (kP _ hH hN hR).mono ?_
      rintro e2 w2 ⟨rfl, hb2⟩
      clear t0 t1 t2 y0 y1
      replace hH := hH.of hb2
      replace hN := hN.of hb2
      replace hR := hR.of hb2
      replace hbx := hbx.of hb2
      replace hdx := hdx.of hb2
      replace hB := below_thru hB hb2
      clear hb2
      have ⟨_, t0, t1, t2⟩ := hbx
      have ⟨_, y0, y1⟩ := hdx
      go_wp2_with fail
      go_at_call 15
      refine (kQ _ hH hN hR).mono ?_
      rintro e3 w3 ⟨rfl, hb3⟩
      clear t0 t1 t2 y0 y1
      replace hH := hH.of hb3
      replace hN := hN.of hb3
      replace hR := hR.of hb3
      replace hbx := hbx.of hb3
      replace hdx := hdx.of hb3
      replace hB := below_thru hB hb3
      clear hb3
      have ⟨_, t0, t1, t2⟩ := hbx
      have ⟨_, y0, y1⟩ := hdx
      go_wp2_with fail
      go_at_call 11
      refine (kR _ hH hN hR).mono ?_
      rintro e4 w4 ⟨A4, n4, c4, rfl, hR4, hb4⟩
      clear t0 t1 t2 y0 y1
      replace hH := hH.of hb4
      replace hN := hN.of hb4
      replace hR := hR.of hb4
      replace hbx := hbx.of hb4
      replace hdx := hdx.of hb4
      replace hB := below_thru hB hb4
      clear hb4
      have ⟨_, t0, t1, t2⟩ := hbx
      have ⟨_, y0, y1⟩ := hdx
      have hn4 : n4 ≤ 1000000 := by rw [← hR4.rd.len]; exact hsz.out
      go_wp2_with fail
      go_at_call 16
      refine (ref05_GetV hnx.out _ hR4.rd hn4).mono ?_
      rintro e5 w5 ⟨rfl, hb5⟩
      clear t0 t1 t2 y0 y1
      replace hH := hH.of hb5
      replace hN := hN.of hb5
      replace hR := hR.of hb5
      replace hR4 := hR4.of hb5
      replace hbx := hbx.of hb5
      replace hdx := hdx.of hb5
      replace hB := below_thru hB hb5
      clear hb5
      have ⟨_, t0, t1, t2⟩ := hbx
      have ⟨_, y0, y1⟩ := hdx
      go_wp2_with fail
      go_at_call 10
      refine (awake_20 _).mono ?_
      rintro ez wz ⟨rfl, hbz⟩
      have hfin := below_thru hB hbz
      go_wp2_with fail
      go_ret
      exact ⟨rfl, hfin⟩
set_option maxHeartbeats 16000000 in
theorem law_dparts (st : Int) (A B D : Option Addr) (n c m d k e : Nat) (H : List (Int × Int)) (N : List (Int × List Int)) (p : List (Int × Int × Int)) (w : World) (hH : Rd encP 2 w A n H) (hN : RdX ekN w B m N) (hR : Rd encC 3 w D k p) (hke : k ≤ e) (a b : Nat) (ha8 : a ≤ 255) (hb8 : b ≤ 255) :
    Calls Try.prog 6 #[.agg #[.int .i64 st, .slice A n c, .slice B m d], .slice D k e, .agg #[.int .u8 (a : Int), .int .u8 (b : Int)]] w fun e w' => e = .returned (.bool true) ∧ Below w.heap.size w w' := by
  obtain ⟨v, hv⟩ : ∃ v, (fewT H N && decide (k ≤ 60)) = v := ⟨_, rfl⟩
  have kS := fun w1 h1 h2 => law_Small st A B D n c m d k e H N w1 rfl hv h1 h2
  cases v with
  | false =>
    clear hv
    go_enter Try.func6, Try.ntmps6
    go_wp2_with fail
    have hbx := TrAt.new w (.int .i64 st) (.slice A n c) (.slice B m d) 25
    have hdx := DuAt.new (w.alloc (.cells #[.int .i64 st, .slice A n c, .slice B m d] 25)) (.int .u8 (a : Int)) (.int .u8 (b : Int)) 45
    rw [World.size_alloc] at hdx
    replace hbx := hbx.of ((Below.refl _ _).alloc (Nat.le_refl _) (.cells #[.int .u8 (a : Int), .int .u8 (b : Int)] 45))
    have hB : Below w.heap.size w ((w.alloc (.cells #[.int .i64 st, .slice A n c, .slice B m d] 25)).alloc (.cells #[.int .u8 (a : Int), .int .u8 (b : Int)] 45)) := by (repeat' (first | exact Below.refl _ _ | assumption | (refine Below.alloc ?_ ?_ _) | (refine Below.setCell ?_ ?_ _) | (refine Below.drew ?_) | (refine below_drewN ?_ _) | (refine below_after (Ext.below _) ?_ ?_) | (refine below_after (by assumption) ?_ ?_) | (simp; done) | omega | (simp; omega)))
    obtain ⟨we, hwe⟩ : ∃ we, we = (w.alloc (.cells #[.int .i64 st, .slice A n c, .slice B m d] 25)).alloc (.cells #[.int .u8 (a : Int), .int .u8 (b : Int)] 45) := ⟨_, rfl⟩
    rw [← hwe] at hbx hB hdx ⊢
    replace hH := hH.of hB
    replace hN := hN.of hB
    replace hR := hR.of hB
    clear hwe
    have ⟨_, t0, t1, t2⟩ := hbx
    have ⟨_, y0, y1⟩ := hdx
    go_wp2_with fail
    go_at_call 9
    refine (kS _ hH hN).mono ?_
    rintro e1 w1 ⟨rfl, hb1⟩
    clear t0 t1 t2 y0 y1
    replace hH := hH.of hb1
    replace hN := hN.of hb1
    replace hR := hR.of hb1
    replace hbx := hbx.of hb1
    replace hdx := hdx.of hb1
    replace hB := below_thru hB hb1
    clear hb1
    have ⟨_, t0, t1, t2⟩ := hbx
    have ⟨_, y0, y1⟩ := hdx
    go_wp2_with fail
    go_at_call 10
    refine (awake_20 _).mono ?_
    rintro ez wz ⟨rfl, hbz⟩
    have hfin := below_thru hB hbz
    go_wp2_with fail
    go_ret
    exact ⟨rfl, hfin⟩
  | true =>
    have hk : k ≤ 60 := by rw [Bool.and_eq_true, decide_eq_true_eq] at hv; exact hv.2
    clear hv
    rcases (show 6 < a ∨ (a ≤ 6 ∧ 6 < b) ∨ (a ≤ 6 ∧ b ≤ 6) by omega) with h6 | ⟨h6, h7⟩ | ⟨h6, h7⟩
    · have d1 : decide (6 < (a : Int)) = true := decide_eq_true (by omega)
      have d1n : decide (6 < a) = true := decide_eq_true (by omega)
      go_enter Try.func6, Try.ntmps6
      go_wp2_with fail
      have hbx := TrAt.new w (.int .i64 st) (.slice A n c) (.slice B m d) 25
      have hdx := DuAt.new (w.alloc (.cells #[.int .i64 st, .slice A n c, .slice B m d] 25)) (.int .u8 (a : Int)) (.int .u8 (b : Int)) 45
      rw [World.size_alloc] at hdx
      replace hbx := hbx.of ((Below.refl _ _).alloc (Nat.le_refl _) (.cells #[.int .u8 (a : Int), .int .u8 (b : Int)] 45))
      have hB : Below w.heap.size w ((w.alloc (.cells #[.int .i64 st, .slice A n c, .slice B m d] 25)).alloc (.cells #[.int .u8 (a : Int), .int .u8 (b : Int)] 45)) := by (repeat' (first | exact Below.refl _ _ | assumption | (refine Below.alloc ?_ ?_ _) | (refine Below.setCell ?_ ?_ _) | (refine Below.drew ?_) | (refine below_drewN ?_ _) | (refine below_after (Ext.below _) ?_ ?_) | (refine below_after (by assumption) ?_ ?_) | (simp; done) | omega | (simp; omega)))
      obtain ⟨we, hwe⟩ : ∃ we, we = (w.alloc (.cells #[.int .i64 st, .slice A n c, .slice B m d] 25)).alloc (.cells #[.int .u8 (a : Int), .int .u8 (b : Int)] 45) := ⟨_, rfl⟩
      rw [← hwe] at hbx hB hdx ⊢
      replace hH := hH.of hB
      replace hN := hN.of hB
      replace hR := hR.of hB
      clear hwe
      have ⟨_, t0, t1, t2⟩ := hbx
      have ⟨_, y0, y1⟩ := hdx
      go_wp2_with fail
      go_at_call 9
      refine (kS _ hH hN).mono ?_
      rintro e1 w1 ⟨rfl, hb1⟩
      clear t0 t1 t2 y0 y1
      replace hH := hH.of hb1
      replace hN := hN.of hb1
      replace hR := hR.of hb1
      replace hbx := hbx.of hb1
      replace hdx := hdx.of hb1
      replace hB := below_thru hB hb1
      clear hb1
      have ⟨_, t0, t1, t2⟩ := hbx
      have ⟨_, y0, y1⟩ := hdx
      go_wp2_with fail
      go_at_call 10
      refine (awake_20 _).mono ?_
      rintro ez wz ⟨rfl, hbz⟩
      have hfin := below_thru hB hbz
      go_wp2_with fail
      go_ret
      exact ⟨rfl, hfin⟩
    · have d1 : decide (6 < (a : Int)) = false := decide_eq_false (by omega)
      have d1n : decide (6 < a) = false := decide_eq_false (by omega)
      have d2 : decide (6 < (b : Int)) = true := decide_eq_true (by omega)
      have d2n : decide (6 < b) = true := decide_eq_true (by omega)
      go_enter Try.func6, Try.ntmps6
      go_wp2_with fail
      have hbx := TrAt.new w (.int .i64 st) (.slice A n c) (.slice B m d) 25
      have hdx := DuAt.new (w.alloc (.cells #[.int .i64 st, .slice A n c, .slice B m d] 25)) (.int .u8 (a : Int)) (.int .u8 (b : Int)) 45
      rw [World.size_alloc] at hdx
      replace hbx := hbx.of ((Below.refl _ _).alloc (Nat.le_refl _) (.cells #[.int .u8 (a : Int), .int .u8 (b : Int)] 45))
      have hB : Below w.heap.size w ((w.alloc (.cells #[.int .i64 st, .slice A n c, .slice B m d] 25)).alloc (.cells #[.int .u8 (a : Int), .int .u8 (b : Int)] 45)) := by (repeat' (first | exact Below.refl _ _ | assumption | (refine Below.alloc ?_ ?_ _) | (refine Below.setCell ?_ ?_ _) | (refine Below.drew ?_) | (refine below_drewN ?_ _) | (refine below_after (Ext.below _) ?_ ?_) | (refine below_after (by assumption) ?_ ?_) | (simp; done) | omega | (simp; omega)))
      obtain ⟨we, hwe⟩ : ∃ we, we = (w.alloc (.cells #[.int .i64 st, .slice A n c, .slice B m d] 25)).alloc (.cells #[.int .u8 (a : Int), .int .u8 (b : Int)] 45) := ⟨_, rfl⟩
      rw [← hwe] at hbx hB hdx ⊢
      replace hH := hH.of hB
      replace hN := hN.of hB
      replace hR := hR.of hB
      clear hwe
      have ⟨_, t0, t1, t2⟩ := hbx
      have ⟨_, y0, y1⟩ := hdx
      go_wp2_with fail
      go_at_call 9
      refine (kS _ hH hN).mono ?_
      rintro e1 w1 ⟨rfl, hb1⟩
      clear t0 t1 t2 y0 y1
      replace hH := hH.of hb1
      replace hN := hN.of hb1
      replace hR := hR.of hb1
      replace hbx := hbx.of hb1
      replace hdx := hdx.of hb1
      replace hB := below_thru hB hb1
      clear hb1
      have ⟨_, t0, t1, t2⟩ := hbx
      have ⟨_, y0, y1⟩ := hdx
      go_wp2_with fail
      go_at_call 10
      refine (awake_20 _).mono ?_
      rintro ez wz ⟨rfl, hbz⟩
      have hfin := below_thru hB hbz
      go_wp2_with fail
      go_ret
      exact ⟨rfl, hfin⟩
    · have d1 : decide (6 < (a : Int)) = false := decide_eq_false (by omega)
      have d1n : decide (6 < a) = false := decide_eq_false (by omega)
      have d2 : decide (6 < (b : Int)) = false := decide_eq_false (by omega)
      have d2n : decide (6 < b) = false := decide_eq_false (by omega)
      have kP := fun w1 h1 h2 h3 => direct_Run st A B D n c m d k e H N p w1 (a : Int) h1 h2 h3 (by omega) hke
      have kT := fun w1 h1 h2 h3 => direct_Run st A B D n c m d k e H N p w1 ((a : Int) + (b : Int)) h1 h2 h3 (by omega) hke
      have kQ := fun E q g w1 h1 h2 h3 hq hqg => direct_Run st A B E n c m d q g H N (runL st H N p (a : Int)) w1 (b : Int) h1 h2 h3 hq hqg
      have hpt := fun h => dir_parts (st := st) (H := H) (N := N) (p := p) (m := a) (k := b) h (by omega) (by omega)
      have her := run_err (st := st) (H := H) (N := N) (p := p) (nn := (a : Int))
      have hsz := Lib.hid (run_len (st := st) (H := H) (N := N) (p := p) (nn := (a : Int)))
      have hsz2 := Lib.hid (run_len (st := st) (H := H) (N := N) (p := p) (nn := (a : Int) + (b : Int)))
      have cu : IntKind.i64.wrap (a : Int) = (a : Int) := IntWalk.i64_in _ (by omega)
      have cv : IntKind.i64.wrap (b : Int) = (b : Int) := IntWalk.i64_in _ (by omega)
      have cs : IntKind.i64.wrap ((a : Int) + (b : Int)) = (a : Int) + (b : Int) := IntWalk.i64_in _ (by omega)
      by_cases h0 : runE st H N p (a : Int) = 0
      · obtain ⟨hp1, hp2⟩ := hpt h0
        rw [h0] at kP
        clear h0 hpt her
        rw [hp1, hp2] at kQ
        clear hp1 hp2
        generalize runE st H N p ((a : Int) + (b : Int)) = q1 at kQ kT
        generalize runL st H N p ((a : Int) + (b : Int)) = s1 at kQ kT hsz2
        generalize runL st H N p (a : Int) = s0 at kP kQ hsz
        have e2 : (q1 == q1) = true := beq_self_eq_true _
        go_enter Try.func6, Try.ntmps6
        go_wp2_with fail
        have hbx := TrAt.new w (.int .i64 st) (.slice A n c) (.slice B m d) 25
        have hdx := DuAt.new (w.alloc (.cells #[.int .i64 st, .slice A n c, .slice B m d] 25)) (.int .u8 (a : Int)) (.int .u8 (b : Int)) 45
        rw [World.size_alloc] at hdx
        replace hbx := hbx.of ((Below.refl _ _).alloc (Nat.le_refl _) (.cells #[.int .u8 (a : Int), .int .u8 (b : Int)] 45))
        have hB : Below w.heap.size w ((w.alloc (.cells #[.int .i64 st, .slice A n c, .slice B m d] 25)).alloc (.cells #[.int .u8 (a : Int), .int .u8 (b : Int)] 45)) := by (repeat' (first | exact Below.refl _ _ | assumption | (refine Below.alloc ?_ ?_ _) | (refine Below.setCell ?_ ?_ _) | (refine Below.drew ?_) | (refine below_drewN ?_ _) | (refine below_after (Ext.below _) ?_ ?_) | (refine below_after (by assumption) ?_ ?_) | (simp; done) | omega | (simp; omega)))
        obtain ⟨we, hwe⟩ : ∃ we, we = (w.alloc (.cells #[.int .i64 st, .slice A n c, .slice B m d] 25)).alloc (.cells #[.int .u8 (a : Int), .int .u8 (b : Int)] 45) := ⟨_, rfl⟩
        rw [← hwe] at hbx hB hdx ⊢
        replace hH := hH.of hB
        replace hN := hN.of hB
        replace hR := hR.of hB
        clear hwe
        have ⟨_, t0, t1, t2⟩ := hbx
        have ⟨_, y0, y1⟩ := hdx
        go_wp2_with fail
        go_at_call 9
        refine (kS _ hH hN).mono ?_
        rintro e1 w1 ⟨rfl, hb1⟩
        clear t0 t1 t2 y0 y1
        replace hH := hH.of hb1
        replace hN := hN.of hb1
        replace hR := hR.of hb1
        replace hbx := hbx.of hb1
        replace hdx := hdx.of hb1
        replace hB := below_thru hB hb1
        clear hb1
        have ⟨_, t0, t1, t2⟩ := hbx
        have ⟨_, y0, y1⟩ := hdx
        go_wp2_with fail
        go_at_call 17
        refine (kP _ hH hN hR).mono ?_
        rintro e2 w2 ⟨A2, n2, c2, rfl, hR2, hc2, hb2⟩
        clear t0 t1 t2 y0 y1
        replace hH := hH.of hb2
        replace hN := hN.of hb2
        replace hR := hR.of hb2
        replace hbx := hbx.of hb2
        replace hdx := hdx.of hb2
        replace hB := below_thru hB hb2
        clear hb2
        have ⟨_, t0, t1, t2⟩ := hbx
        have ⟨_, y0, y1⟩ := hdx
        have hn2 : n2 ≤ 1000000 := by rw [← hR2.len]; exact hsz.out
        go_wp2_with fail
        go_at_call 17
        refine (kQ _ _ _ _ hH hN hR2 hn2 hc2).mono ?_
        rintro e3 w3 ⟨A3, n3, c3, rfl, hR3, hc3, hb3⟩
        clear t0 t1 t2 y0 y1
        replace hH := hH.of hb3
        replace hN := hN.of hb3
        replace hR := hR.of hb3
        replace hR2 := hR2.of hb3
        replace hbx := hbx.of hb3
        replace hdx := hdx.of hb3
        replace hB := below_thru hB hb3
        clear hb3
        have ⟨_, t0, t1, t2⟩ := hbx
        have ⟨_, y0, y1⟩ := hdx
        go_wp2_with fail
        go_at_call 17
        refine (kT _ hH hN hR).mono ?_
        rintro e4 w4 ⟨A4, n4, c4, rfl, hR4, hc4, hb4⟩
        clear t0 t1 t2 y0 y1
        replace hH := hH.of hb4
        replace hN := hN.of hb4
        replace hR := hR.of hb4
        replace hR2 := hR2.of hb4
        replace hR3 := hR3.of hb4
        replace hbx := hbx.of hb4
        replace hdx := hdx.of hb4
        replace hB := below_thru hB hb4
        clear hb4
        have ⟨_, t0, t1, t2⟩ := hbx
        have ⟨_, y0, y1⟩ := hdx
        have hn3 : n3 ≤ 1000000 := by rw [← hR3.len]; exact hsz2.out
        have hn4 : n4 ≤ 1000000 := by rw [← hR4.len]; exact hsz2.out
        go_wp2_with fail
        go_at_call 13
        refine (ref05_SameV (sameL_self s1) _ _ _ _ _ _ _ hR3 hR4 hn3 hn4).mono ?_
        rintro e5 w5 ⟨rfl, hb5⟩
        clear t0 t1 t2 y0 y1
        replace hH := hH.of hb5
        replace hN := hN.of hb5
        replace hR := hR.of hb5
        replace hR2 := hR2.of hb5
        replace hR3 := hR3.of hb5
        replace hR4 := hR4.of hb5
        replace hbx := hbx.of hb5
        replace hdx := hdx.of hb5
        replace hB := below_thru hB hb5
        clear hb5
        have ⟨_, t0, t1, t2⟩ := hbx
        have ⟨_, y0, y1⟩ := hdx
        go_wp2_with fail
        go_at_call 10
        refine (awake_20 _).mono ?_
        rintro ez wz ⟨rfl, hbz⟩
        have hfin := below_thru hB hbz
        go_wp2_with fail
        go_ret
        exact ⟨rfl, hfin⟩
      · have her := Lib.hid (her h0)
        generalize runE st H N p (a : Int) = q0 at kP h0
        generalize runL st H N p (a : Int) = s0 at kP her
        have d3 : (q0 == 0) = false := by simpa using h0
        have d4 : (q0 != 0) = true := by simpa using h0
        clear h0 hpt kQ kT hsz hsz2
        go_enter Try.func6, Try.ntmps6
        go_wp2_with fail
        have hbx := TrAt.new w (.int .i64 st) (.slice A n c) (.slice B m d) 25
        have hdx := DuAt.new (w.alloc (.cells #[.int .i64 st, .slice A n c, .slice B m d] 25)) (.int .u8 (a : Int)) (.int .u8 (b : Int)) 45
        rw [World.size_alloc] at hdx
        replace hbx := hbx.of ((Below.refl _ _).alloc (Nat.le_refl _) (.cells #[.int .u8 (a : Int), .int .u8 (b : Int)] 45))
        have hB : Below w.heap.size w ((w.alloc (.cells #[.int .i64 st, .slice A n c, .slice B m d] 25)).alloc (.cells #[.int .u8 (a : Int), .int .u8 (b : Int)] 45)) := by (repeat' (first | exact Below.refl _ _ | assumption | (refine Below.alloc ?_ ?_ _) | (refine Below.setCell ?_ ?_ _) | (refine Below.drew ?_) | (refine below_drewN ?_ _) | (refine below_after (Ext.below _) ?_ ?_) | (refine below_after (by assumption) ?_ ?_) | (simp; done) | omega | (simp; omega)))
        obtain ⟨we, hwe⟩ : ∃ we, we = (w.alloc (.cells #[.int .i64 st, .slice A n c, .slice B m d] 25)).alloc (.cells #[.int .u8 (a : Int), .int .u8 (b : Int)] 45) := ⟨_, rfl⟩
        rw [← hwe] at hbx hB hdx ⊢
        replace hH := hH.of hB
        replace hN := hN.of hB
        replace hR := hR.of hB
        clear hwe
        have ⟨_, t0, t1, t2⟩ := hbx
        have ⟨_, y0, y1⟩ := hdx
        go_wp2_with fail
        go_at_call 9
        refine (kS _ hH hN).mono ?_
        rintro e1 w1 ⟨rfl, hb1⟩
        clear t0 t1 t2 y0 y1
        replace hH := hH.of hb1
        replace hN := hN.of hb1
        replace hR := hR.of hb1
        replace hbx := hbx.of hb1
        replace hdx := hdx.of hb1
        replace hB := below_thru hB hb1
        clear hb1
        have ⟨_, t0, t1, t2⟩ := hbx
        have ⟨_, y0, y1⟩ := hdx
        go_wp2_with fail
        go_at_call 17
        refine (kP _ hH hN hR).mono ?_
        rintro e2 w2 ⟨A2, n2, c2, rfl, hR2, hc2, hb2⟩
        clear t0 t1 t2 y0 y1
        replace hH := hH.of hb2
        replace hN := hN.of hb2
        replace hR := hR.of hb2
        replace hbx := hbx.of hb2
        replace hdx := hdx.of hb2
        replace hB := below_thru hB hb2
        clear hb2
        have ⟨_, t0, t1, t2⟩ := hbx
        have ⟨_, y0, y1⟩ := hdx
        obtain rfl : n2 = 0 := by have := hR2.len; rw [her.out] at this; exact this.symm
        go_wp2_with fail
        go_at_call 10
        refine (awake_20 _).mono ?_
        rintro ez wz ⟨rfl, hbz⟩
        have hfin := below_thru hB hbz
        go_wp2_with fail
        go_ret
        exact ⟨rfl, hfin⟩
set_option maxHeartbeats 16000000 in
theorem law_dmoves (st : Int) (A B D : Option Addr) (n c m d k e : Nat) (H : List (Int × Int)) (N : List (Int × List Int)) (p : List (Int × Int × Int)) (w : World) (hH : Rd encP 2 w A n H) (hN : RdX ekN w B m N) (hR : Rd encC 3 w D k p) (x y : Int) :
    Calls Try.prog 7 #[.agg #[.int .i64 st, .slice A n c, .slice B m d], .slice D k e, .agg #[.int .i64 x, .int .i64 y]] w fun e w' => e = .returned (.bool true) ∧ Below w.heap.size w w' := by
  obtain ⟨v, hv⟩ : ∃ v, (fewT H N && decide (k ≤ 60)) = v := ⟨_, rfl⟩
  have kS := fun w1 h1 h2 => law_Small st A B D n c m d k e H N w1 rfl hv h1 h2
  cases v with
  | false =>
    clear hv
    go_enter Try.func7, Try.ntmps7
    go_wp2_with fail
    have hbx := TrAt.new w (.int .i64 st) (.slice A n c) (.slice B m d) 25
    have hdx := DuAt.new (w.alloc (.cells #[.int .i64 st, .slice A n c, .slice B m d] 25)) (.int .i64 x) (.int .i64 y) 35
    rw [World.size_alloc] at hdx
    replace hbx := hbx.of ((Below.refl _ _).alloc (Nat.le_refl _) (.cells #[.int .i64 x, .int .i64 y] 35))
    have hB : Below w.heap.size w ((w.alloc (.cells #[.int .i64 st, .slice A n c, .slice B m d] 25)).alloc (.cells #[.int .i64 x, .int .i64 y] 35)) := by (repeat' (first | exact Below.refl _ _ | assumption | (refine Below.alloc ?_ ?_ _) | (refine Below.setCell ?_ ?_ _) | (refine Below.drew ?_) | (refine below_drewN ?_ _) | (refine below_after (Ext.below _) ?_ ?_) | (refine below_after (by assumption) ?_ ?_) | (simp; done) | omega | (simp; omega)))
    obtain ⟨we, hwe⟩ : ∃ we, we = (w.alloc (.cells #[.int .i64 st, .slice A n c, .slice B m d] 25)).alloc (.cells #[.int .i64 x, .int .i64 y] 35) := ⟨_, rfl⟩
    rw [← hwe] at hbx hB hdx ⊢
    replace hH := hH.of hB
    replace hN := hN.of hB
    replace hR := hR.of hB
    clear hwe
    have ⟨_, t0, t1, t2⟩ := hbx
    have ⟨_, y0, y1⟩ := hdx
    go_wp2_with fail
    go_at_call 9
    refine (kS _ hH hN).mono ?_
    rintro e1 w1 ⟨rfl, hb1⟩
    clear t0 t1 t2 y0 y1
    replace hH := hH.of hb1
    replace hN := hN.of hb1
    replace hR := hR.of hb1
    replace hbx := hbx.of hb1
    replace hdx := hdx.of hb1
    replace hB := below_thru hB hb1
    clear hb1
    have ⟨_, t0, t1, t2⟩ := hbx
    have ⟨_, y0, y1⟩ := hdx
    go_wp2_with fail
    go_at_call 10
    refine (awake_20 _).mono ?_
    rintro ez wz ⟨rfl, hbz⟩
    have hfin := below_thru hB hbz
    go_wp2_with fail
    go_ret
    exact ⟨rfl, hfin⟩
  | true =>
    have hk : k ≤ 60 := by rw [Bool.and_eq_true, decide_eq_true_eq] at hv; exact hv.2
    clear hv
    have kP := fun w1 h1 => ref05_Shift D k e p x y w1 h1 (by omega)
    have kQ := fun w1 h1 h2 h3 => direct_Step st A B D n c m d k e H N p w1 h1 h2 h3 (by omega)
    have kT := fun E q g w1 h1 h2 h3 hq => direct_Step st A B E n c m d q g H N (shL p x y) w1 h1 h2 h3 hq
    have kU := fun E q g w1 h1 hq => ref05_Shift E q g (stpL st H N p) x y w1 h1 hq
    have hmv := dir_moves (st := st) (H := H) (N := N) (p := p) (dx := x) (dy := y)
    have hsz := Lib.hid (stp_len st H N p (show p.length ≤ 60 by rw [hR.len]; exact hk))
    have hsz2 := Lib.hid (stp_right (st := st) (H := H) (N := N) (p := shL p x y))
    generalize shE p x y = q0 at kP hmv
    generalize shL p x y = s0 at kP kT hmv hsz2
    generalize stpE st H N p = q1 at kQ hmv
    generalize stpL st H N p = s1 at kQ kU hmv hsz
    rcases (show (q0 ≠ 0) ∨ (q0 = 0 ∧ q1 ≠ 0) ∨ (q0 = 0 ∧ q1 = 0) by omega) with h0 | ⟨h0, h1⟩ | ⟨h0, h1⟩
    · have d1 : (q0 == 0) = false := by simpa using h0
      have d2 : (q0 != 0) = true := by simpa using h0
      clear h0 hmv
      go_enter Try.func7, Try.ntmps7
      go_wp2_with fail
      have hbx := TrAt.new w (.int .i64 st) (.slice A n c) (.slice B m d) 25
      have hdx := DuAt.new (w.alloc (.cells #[.int .i64 st, .slice A n c, .slice B m d] 25)) (.int .i64 x) (.int .i64 y) 35
      rw [World.size_alloc] at hdx
      replace hbx := hbx.of ((Below.refl _ _).alloc (Nat.le_refl _) (.cells #[.int .i64 x, .int .i64 y] 35))
      have hB : Below w.heap.size w ((w.alloc (.cells #[.int .i64 st, .slice A n c, .slice B m d] 25)).alloc (.cells #[.int .i64 x, .int .i64 y] 35)) := by (repeat' (first | exact Below.refl _ _ | assumption | (refine Below.alloc ?_ ?_ _) | (refine Below.setCell ?_ ?_ _) | (refine Below.drew ?_) | (refine below_drewN ?_ _) | (refine below_after (Ext.below _) ?_ ?_) | (refine below_after (by assumption) ?_ ?_) | (simp; done) | omega | (simp; omega)))
      obtain ⟨we, hwe⟩ : ∃ we, we = (w.alloc (.cells #[.int .i64 st, .slice A n c, .slice B m d] 25)).alloc (.cells #[.int .i64 x, .int .i64 y] 35) := ⟨_, rfl⟩
      rw [← hwe] at hbx hB hdx ⊢
      replace hH := hH.of hB
      replace hN := hN.of hB
      replace hR := hR.of hB
      clear hwe
      have ⟨_, t0, t1, t2⟩ := hbx
      have ⟨_, y0, y1⟩ := hdx
      go_wp2_with fail
      go_at_call 9
      refine (kS _ hH hN).mono ?_
      rintro e1 w1 ⟨rfl, hb1⟩
      clear t0 t1 t2 y0 y1
      replace hH := hH.of hb1
      replace hN := hN.of hb1
      replace hR := hR.of hb1
      replace hbx := hbx.of hb1
      replace hdx := hdx.of hb1
      replace hB := below_thru hB hb1
      clear hb1
      have ⟨_, t0, t1, t2⟩ := hbx
      have ⟨_, y0, y1⟩ := hdx
      go_wp2_with fail
      go_at_call 21
      refine (kP _ hR).mono ?_
      rintro e2 w2 ⟨A2, n2, c2, rfl, hR2, hn2, hb2⟩
      clear t0 t1 t2 y0 y1
      replace hH := hH.of hb2
      replace hN := hN.of hb2
      replace hR := hR.of hb2
      replace hbx := hbx.of hb2
      replace hdx := hdx.of hb2
      replace hB := below_thru hB hb2
      clear hb2
      have ⟨_, t0, t1, t2⟩ := hbx
      have ⟨_, y0, y1⟩ := hdx
      go_wp2_with fail
      go_at_call 11
      refine (kQ _ hH hN hR).mono ?_
      rintro e3 w3 ⟨A3, n3, c3, rfl, hR3, hb3⟩
      clear t0 t1 t2 y0 y1
      replace hH := hH.of hb3
      replace hN := hN.of hb3
      replace hR := hR.of hb3
      replace hR2 := hR2.of hb3
      replace hbx := hbx.of hb3
      replace hdx := hdx.of hb3
      replace hB := below_thru hB hb3
      clear hb3
      have ⟨_, t0, t1, t2⟩ := hbx
      have ⟨_, y0, y1⟩ := hdx
      go_wp2_with fail
      go_at_call 10
      refine (awake_20 _).mono ?_
      rintro ez wz ⟨rfl, hbz⟩
      have hfin := below_thru hB hbz
      go_wp2_with fail
      go_ret
      exact ⟨rfl, hfin⟩
    · subst h0
      have d1 : (q1 == 0) = false := by simpa using h1
      have d2 : (q1 != 0) = true := by simpa using h1
      clear h1 hmv
      go_enter Try.func7, Try.ntmps7
      go_wp2_with fail
      have hbx := TrAt.new w (.int .i64 st) (.slice A n c) (.slice B m d) 25
      have hdx := DuAt.new (w.alloc (.cells #[.int .i64 st, .slice A n c, .slice B m d] 25)) (.int .i64 x) (.int .i64 y) 35
      rw [World.size_alloc] at hdx
      replace hbx := hbx.of ((Below.refl _ _).alloc (Nat.le_refl _) (.cells #[.int .i64 x, .int .i64 y] 35))
      have hB : Below w.heap.size w ((w.alloc (.cells #[.int .i64 st, .slice A n c, .slice B m d] 25)).alloc (.cells #[.int .i64 x, .int .i64 y] 35)) := by (repeat' (first | exact Below.refl _ _ | assumption | (refine Below.alloc ?_ ?_ _) | (refine Below.setCell ?_ ?_ _) | (refine Below.drew ?_) | (refine below_drewN ?_ _) | (refine below_after (Ext.below _) ?_ ?_) | (refine below_after (by assumption) ?_ ?_) | (simp; done) | omega | (simp; omega)))
      obtain ⟨we, hwe⟩ : ∃ we, we = (w.alloc (.cells #[.int .i64 st, .slice A n c, .slice B m d] 25)).alloc (.cells #[.int .i64 x, .int .i64 y] 35) := ⟨_, rfl⟩
      rw [← hwe] at hbx hB hdx ⊢
      replace hH := hH.of hB
      replace hN := hN.of hB
      replace hR := hR.of hB
      clear hwe
      have ⟨_, t0, t1, t2⟩ := hbx
      have ⟨_, y0, y1⟩ := hdx
      go_wp2_with fail
      go_at_call 9
      refine (kS _ hH hN).mono ?_
      rintro e1 w1 ⟨rfl, hb1⟩
      clear t0 t1 t2 y0 y1
      replace hH := hH.of hb1
      replace hN := hN.of hb1
      replace hR := hR.of hb1
      replace hbx := hbx.of hb1
      replace hdx := hdx.of hb1
      replace hB := below_thru hB hb1
      clear hb1
      have ⟨_, t0, t1, t2⟩ := hbx
      have ⟨_, y0, y1⟩ := hdx
      go_wp2_with fail
      go_at_call 21
      refine (kP _ hR).mono ?_
      rintro e2 w2 ⟨A2, n2, c2, rfl, hR2, hn2, hb2⟩
      clear t0 t1 t2 y0 y1
      replace hH := hH.of hb2
      replace hN := hN.of hb2
      replace hR := hR.of hb2
      replace hbx := hbx.of hb2
      replace hdx := hdx.of hb2
      replace hB := below_thru hB hb2
      clear hb2
      have ⟨_, t0, t1, t2⟩ := hbx
      have ⟨_, y0, y1⟩ := hdx
      go_wp2_with fail
      go_at_call 11
      refine (kQ _ hH hN hR).mono ?_
      rintro e3 w3 ⟨A3, n3, c3, rfl, hR3, hb3⟩
      clear t0 t1 t2 y0 y1
      replace hH := hH.of hb3
      replace hN := hN.of hb3
      replace hR := hR.of hb3
      replace hR2 := hR2.of hb3
      replace hbx := hbx.of hb3
      replace hdx := hdx.of hb3
      replace hB := below_thru hB hb3
      clear hb3
      have ⟨_, t0, t1, t2⟩ := hbx
      have ⟨_, y0, y1⟩ := hdx
      go_wp2_with fail
      go_at_call 10
      refine (awake_20 _).mono ?_
      rintro ez wz ⟨rfl, hbz⟩
      have hfin := below_thru hB hbz
      go_wp2_with fail
      go_ret
      exact ⟨rfl, hfin⟩
    · subst h0 h1
      rcases hmv rfl rfl with ⟨m1, m2, m3⟩ | ⟨m1, m2⟩
      · rw [m1, m3] at kT
        rw [m2] at kU
        rw [m3] at hsz2
        generalize shL s1 x y = s2 at kT kU hsz2
        clear hmv m1 m2 m3
        go_enter Try.func7, Try.ntmps7
        go_wp2_with fail
        have hbx := TrAt.new w (.int .i64 st) (.slice A n c) (.slice B m d) 25
        have hdx := DuAt.new (w.alloc (.cells #[.int .i64 st, .slice A n c, .slice B m d] 25)) (.int .i64 x) (.int .i64 y) 35
        rw [World.size_alloc] at hdx
        replace hbx := hbx.of ((Below.refl _ _).alloc (Nat.le_refl _) (.cells #[.int .i64 x, .int .i64 y] 35))
        have hB : Below w.heap.size w ((w.alloc (.cells #[.int .i64 st, .slice A n c, .slice B m d] 25)).alloc (.cells #[.int .i64 x, .int .i64 y] 35)) := by (repeat' (first | exact Below.refl _ _ | assumption | (refine Below.alloc ?_ ?_ _) | (refine Below.setCell ?_ ?_ _) | (refine Below.drew ?_) | (refine below_drewN ?_ _) | (refine below_after (Ext.below _) ?_ ?_) | (refine below_after (by assumption) ?_ ?_) | (simp; done) | omega | (simp; omega)))
        obtain ⟨we, hwe⟩ : ∃ we, we = (w.alloc (.cells #[.int .i64 st, .slice A n c, .slice B m d] 25)).alloc (.cells #[.int .i64 x, .int .i64 y] 35) := ⟨_, rfl⟩
        rw [← hwe] at hbx hB hdx ⊢
        replace hH := hH.of hB
        replace hN := hN.of hB
        replace hR := hR.of hB
        clear hwe
        have ⟨_, t0, t1, t2⟩ := hbx
        have ⟨_, y0, y1⟩ := hdx
        go_wp2_with fail
        go_at_call 9
        refine (kS _ hH hN).mono ?_
        rintro e1 w1 ⟨rfl, hb1⟩
        clear t0 t1 t2 y0 y1
        replace hH := hH.of hb1
        replace hN := hN.of hb1
        replace hR := hR.of hb1
        replace hbx := hbx.of hb1
        replace hdx := hdx.of hb1
        replace hB := below_thru hB hb1
        clear hb1
        have ⟨_, t0, t1, t2⟩ := hbx
        have ⟨_, y0, y1⟩ := hdx
        go_wp2_with fail
        go_at_call 21
        refine (kP _ hR).mono ?_
        rintro e2 w2 ⟨A2, n2, c2, rfl, hR2, hn2, hb2⟩
        clear t0 t1 t2 y0 y1
        replace hH := hH.of hb2
        replace hN := hN.of hb2
        replace hR := hR.of hb2
        replace hbx := hbx.of hb2
        replace hdx := hdx.of hb2
        replace hB := below_thru hB hb2
        clear hb2
        have ⟨_, t0, t1, t2⟩ := hbx
        have ⟨_, y0, y1⟩ := hdx
        go_wp2_with fail
        go_at_call 11
        refine (kQ _ hH hN hR).mono ?_
        rintro e3 w3 ⟨A3, n3, c3, rfl, hR3, hb3⟩
        clear t0 t1 t2 y0 y1
        replace hH := hH.of hb3
        replace hN := hN.of hb3
        replace hR := hR.of hb3
        replace hR2 := hR2.of hb3
        replace hbx := hbx.of hb3
        replace hdx := hdx.of hb3
        replace hB := below_thru hB hb3
        clear hb3
        have ⟨_, t0, t1, t2⟩ := hbx
        have ⟨_, y0, y1⟩ := hdx
        have hn3 : n3 ≤ 1000000 := by rw [← hR3.rd.len]; exact hsz.out
        go_wp2_with fail
        go_at_call 11
        refine (kT _ _ _ _ hH hN hR2 (by omega)).mono ?_
        rintro e4 w4 ⟨A4, n4, c4, rfl, hR4, hb4⟩
        clear t0 t1 t2 y0 y1
        replace hH := hH.of hb4
        replace hN := hN.of hb4
        replace hR := hR.of hb4
        replace hR2 := hR2.of hb4
        replace hR3 := hR3.of hb4
        replace hbx := hbx.of hb4
        replace hdx := hdx.of hb4
        replace hB := below_thru hB hb4
        clear hb4
        have ⟨_, t0, t1, t2⟩ := hbx
        have ⟨_, y0, y1⟩ := hdx
        go_wp2_with fail
        go_at_call 21
        refine (kU _ _ _ _ hR3.rd hn3).mono ?_
        rintro e5 w5 ⟨A5, n5, c5, rfl, hR5, hn5, hb5⟩
        clear t0 t1 t2 y0 y1
        replace hH := hH.of hb5
        replace hN := hN.of hb5
        replace hR := hR.of hb5
        replace hR2 := hR2.of hb5
        replace hR3 := hR3.of hb5
        replace hR4 := hR4.of hb5
        replace hbx := hbx.of hb5
        replace hdx := hdx.of hb5
        replace hB := below_thru hB hb5
        clear hb5
        have ⟨_, t0, t1, t2⟩ := hbx
        have ⟨_, y0, y1⟩ := hdx
        have hn4 : n4 ≤ 1000000 := by have := hsz2.out; rw [hR4.rd.len] at this; omega
        go_wp2_with fail
        go_at_call 13
        refine (ref05_SameV (sameL_self s2) _ _ _ _ _ _ _ hR4.rd hR5 hn4 (by omega)).mono ?_
        rintro e6 w6 ⟨rfl, hb6⟩
        clear t0 t1 t2 y0 y1
        replace hH := hH.of hb6
        replace hN := hN.of hb6
        replace hR := hR.of hb6
        replace hR2 := hR2.of hb6
        replace hR3 := hR3.of hb6
        replace hR4 := hR4.of hb6
        replace hR5 := hR5.of hb6
        replace hbx := hbx.of hb6
        replace hdx := hdx.of hb6
        replace hB := below_thru hB hb6
        clear hb6
        have ⟨_, t0, t1, t2⟩ := hbx
        have ⟨_, y0, y1⟩ := hdx
        go_wp2_with fail
        go_at_call 10
        refine (awake_20 _).mono ?_
        rintro ez wz ⟨rfl, hbz⟩
        have hfin := below_thru hB hbz
        go_wp2_with fail
        go_ret
        exact ⟨rfl, hfin⟩
      · rw [m1] at kT
        rw [m2] at kU
        generalize stpL st H N s0 = s2 at kT
        generalize shL s1 x y = s3 at kU
        clear hmv m1 m2
        go_enter Try.func7, Try.ntmps7
        go_wp2_with fail
        have hbx := TrAt.new w (.int .i64 st) (.slice A n c) (.slice B m d) 25
        have hdx := DuAt.new (w.alloc (.cells #[.int .i64 st, .slice A n c, .slice B m d] 25)) (.int .i64 x) (.int .i64 y) 35
        rw [World.size_alloc] at hdx
        replace hbx := hbx.of ((Below.refl _ _).alloc (Nat.le_refl _) (.cells #[.int .i64 x, .int .i64 y] 35))
        have hB : Below w.heap.size w ((w.alloc (.cells #[.int .i64 st, .slice A n c, .slice B m d] 25)).alloc (.cells #[.int .i64 x, .int .i64 y] 35)) := by (repeat' (first | exact Below.refl _ _ | assumption | (refine Below.alloc ?_ ?_ _) | (refine Below.setCell ?_ ?_ _) | (refine Below.drew ?_) | (refine below_drewN ?_ _) | (refine below_after (Ext.below _) ?_ ?_) | (refine below_after (by assumption) ?_ ?_) | (simp; done) | omega | (simp; omega)))
        obtain ⟨we, hwe⟩ : ∃ we, we = (w.alloc (.cells #[.int .i64 st, .slice A n c, .slice B m d] 25)).alloc (.cells #[.int .i64 x, .int .i64 y] 35) := ⟨_, rfl⟩
        rw [← hwe] at hbx hB hdx ⊢
        replace hH := hH.of hB
        replace hN := hN.of hB
        replace hR := hR.of hB
        clear hwe
        have ⟨_, t0, t1, t2⟩ := hbx
        have ⟨_, y0, y1⟩ := hdx
        go_wp2_with fail
        go_at_call 9
        refine (kS _ hH hN).mono ?_
        rintro e1 w1 ⟨rfl, hb1⟩
        clear t0 t1 t2 y0 y1
        replace hH := hH.of hb1
        replace hN := hN.of hb1
        replace hR := hR.of hb1
        replace hbx := hbx.of hb1
        replace hdx := hdx.of hb1
        replace hB := below_thru hB hb1
        clear hb1
        have ⟨_, t0, t1, t2⟩ := hbx
        have ⟨_, y0, y1⟩ := hdx
        go_wp2_with fail
        go_at_call 21
        refine (kP _ hR).mono ?_
        rintro e2 w2 ⟨A2, n2, c2, rfl, hR2, hn2, hb2⟩
        clear t0 t1 t2 y0 y1
        replace hH := hH.of hb2
        replace hN := hN.of hb2
        replace hR := hR.of hb2
        replace hbx := hbx.of hb2
        replace hdx := hdx.of hb2
        replace hB := below_thru hB hb2
        clear hb2
        have ⟨_, t0, t1, t2⟩ := hbx
        have ⟨_, y0, y1⟩ := hdx
        go_wp2_with fail
        go_at_call 11
        refine (kQ _ hH hN hR).mono ?_
        rintro e3 w3 ⟨A3, n3, c3, rfl, hR3, hb3⟩
        clear t0 t1 t2 y0 y1
        replace hH := hH.of hb3
        replace hN := hN.of hb3
        replace hR := hR.of hb3
        replace hR2 := hR2.of hb3
        replace hbx := hbx.of hb3
        replace hdx := hdx.of hb3
        replace hB := below_thru hB hb3
        clear hb3
        have ⟨_, t0, t1, t2⟩ := hbx
        have ⟨_, y0, y1⟩ := hdx
        have hn3 : n3 ≤ 1000000 := by rw [← hR3.rd.len]; exact hsz.out
        go_wp2_with fail
        go_at_call 11
        refine (kT _ _ _ _ hH hN hR2 (by omega)).mono ?_
        rintro e4 w4 ⟨A4, n4, c4, rfl, hR4, hb4⟩
        clear t0 t1 t2 y0 y1
        replace hH := hH.of hb4
        replace hN := hN.of hb4
        replace hR := hR.of hb4
        replace hR2 := hR2.of hb4
        replace hR3 := hR3.of hb4
        replace hbx := hbx.of hb4
        replace hdx := hdx.of hb4
        replace hB := below_thru hB hb4
        clear hb4
        have ⟨_, t0, t1, t2⟩ := hbx
        have ⟨_, y0, y1⟩ := hdx
        go_wp2_with fail
        go_at_call 21
        refine (kU _ _ _ _ hR3.rd hn3).mono ?_
        rintro e5 w5 ⟨A5, n5, c5, rfl, hR5, hn5, hb5⟩
        clear t0 t1 t2 y0 y1
        replace hH := hH.of hb5
        replace hN := hN.of hb5
        replace hR := hR.of hb5
        replace hR2 := hR2.of hb5
        replace hR3 := hR3.of hb5
        replace hR4 := hR4.of hb5
        replace hbx := hbx.of hb5
        replace hdx := hdx.of hb5
        replace hB := below_thru hB hb5
        clear hb5
        have ⟨_, t0, t1, t2⟩ := hbx
        have ⟨_, y0, y1⟩ := hdx
        go_wp2_with fail
        go_at_call 10
        refine (awake_20 _).mono ?_
        rintro ez wz ⟨rfl, hbz⟩
        have hfin := below_thru hB hbz
        go_wp2_with fail
        go_ret
        exact ⟨rfl, hfin⟩
end Go.Proofs.Ytnhapgbjaeaamaa
