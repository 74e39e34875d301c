/- Law of chapter 55: what comes back from its form. By mklaw55.py. -/
import Derived.Test.YtmenokhnanghgaaGreatLwL
namespace Go.Proofs.YtmenokhnanghgaaGreat
open Go Go.RowKit
set_option linter.unusedSimpArgs false
set_option linter.unusedVariables false
set_option maxRecDepth 100000
set_option linter.unusedSimpArgs false
set_option linter.unusedVariables false
set_option maxHeartbeats 64000000 in
theorem law_Round (D TA NA QA : Option Addr) (k dc tn tc nn nc qn qc : Nat) (st qs : Int) (l : List Cel) (H : List (Int × Int)) (N : List Nd) (Q : List Qd) (w : World) (hP : Rd encC 3 w D k l) (hH : Rd encP 2 w TA tn H) (hN : RdX ekN w NA nn N) (hQ : Rd encQd 4 w QA qn Q) :
    Calls Tryz.prog 7 #[.slice D k dc, .agg #[.int .i64 st, .slice TA tn tc, .slice NA nn nc], .agg #[.int .i64 qs, .slice QA qn qc]] w fun e w' => e = .returned (.bool true) ∧ Below w.heap.size w w' := by
  have hPl := Lib.hid hP.len
  have hHl := Lib.hid hH.len
  have hNl := Lib.hid hN.len
  have hQl := Lib.hid hQ.len
  have hways : decide (800 < (k : Int)) = true ∨ (decide (800 < (k : Int)) = false ∧ fewT H N = false) ∨ (decide (800 < (k : Int)) = false ∧ k ≤ 800 ∧ fewT H N = true ∧ decide (200 < (qn : Int)) = true) ∨ (decide (800 < (k : Int)) = false ∧ k ≤ 800 ∧ fewT H N = true ∧ decide (200 < (qn : Int)) = false ∧ qn ≤ 200) := by
    simp only [decide_eq_true_eq, decide_eq_false_iff_not]
    cases fewT H N <;> simp <;> omega
  rcases hways with d1 | ⟨d1, hf⟩ | ⟨d1, hk, hf, d2⟩ | ⟨d1, hk, hf, d2, hq⟩
  · skip
    go_enter Tryz.func7, Tryz.ntmps7
    have hB : Below w.heap.size w w := Below.refl _ _
    go_wp2_with fail
    have hbt := TrAt.new (w) (.int .i64 st) (.slice TA tn tc) (.slice NA nn nc) 37
    replace hbt := hbt.of ((Below.refl _ _).alloc (Nat.le_refl _) (.cells #[.int .i64 qs, .slice QA qn qc] 46))
    have hbq := BxW.new ((w).alloc (.cells #[.int .i64 st, .slice TA tn tc, .slice NA nn nc] 37)) [.int .i64 qs, .slice QA qn qc] 46
    rw [show ∀ a b : Value, [a, b].toArray = #[a, b] from fun _ _ => rfl] at hbq
    simp only [World.size_alloc] at hbq
    have hal : Below w.heap.size w (((w).alloc (.cells #[.int .i64 st, .slice TA tn tc, .slice NA nn nc] 37)).alloc (.cells #[.int .i64 qs, .slice QA qn qc] 46)) := by (repeat' (first | exact Below.refl _ _ | assumption | (refine Below.alloc ?_ ?_ _) | (refine Below.setCell ?_ ?_ _) | (refine Below.drew ?_) | (refine below_drewN ?_ _) | (refine below_after (Ext.below _) ?_ ?_) | (refine below_after (by assumption) ?_ ?_) | (simp; done) | omega | (simp; omega)))
    obtain ⟨wn, hwn⟩ : ∃ wn, wn = ((w).alloc (.cells #[.int .i64 st, .slice TA tn tc, .slice NA nn nc] 37)).alloc (.cells #[.int .i64 qs, .slice QA qn qc] 46) := ⟨_, rfl⟩
    rw [← hwn] at hbt hbq hal ⊢
    obtain ⟨btb, hn⟩ : ∃ btb, btb = w.heap.size := ⟨_, rfl⟩
    (try rw [← hn] at hbt)
    (try rw [← hn] at hbq)
    (try rw [← hn])
    have hn0 := Lib.hid hn
    clear hn
    obtain ⟨bqb, hn⟩ : ∃ bqb, bqb = w.heap.size + 1 := ⟨_, rfl⟩
    (try rw [← hn] at hbt)
    (try rw [← hn] at hbq)
    (try rw [← hn])
    clear hn
    replace hP := hP.of hal
    replace hH := hH.of hal
    replace hN := hN.of hal
    replace hQ := hQ.of hal
    replace hB := below_thru hB hal
    clear hwn hal hn0
    obtain ⟨w1, hwn⟩ : ∃ q, q = wn := ⟨_, rfl⟩
    subst hwn
    have ⟨btz, bt0, bt1, bt2⟩ := hbt
    obtain ⟨bqz, bq0, bq1, -, -⟩ := hbq.open2
    go_wp2_with fail
    go_at_call 9
    refine (awake_55 _).mono ?_
    rintro e2 w2 ⟨rfl, hb2⟩
    clear btz bt0 bt1 bt2
    clear bqz bq0 bq1
    replace hP := hP.of hb2
    replace hH := hH.of hb2
    replace hN := hN.of hb2
    replace hQ := hQ.of hb2
    replace hbt := hbt.of hb2
    replace hbq := hbq.of hb2
    replace hB := below_thru hB hb2
    clear hb2
    go_wp2_with fail
    go_ret
    exact ⟨rfl, hB⟩
  · skip
    replace hf := Lib.hid hf
    go_enter Tryz.func7, Tryz.ntmps7
    have hB : Below w.heap.size w w := Below.refl _ _
    go_wp2_with fail
    have hbt := TrAt.new (w) (.int .i64 st) (.slice TA tn tc) (.slice NA nn nc) 37
    replace hbt := hbt.of ((Below.refl _ _).alloc (Nat.le_refl _) (.cells #[.int .i64 qs, .slice QA qn qc] 46))
    have hbq := BxW.new ((w).alloc (.cells #[.int .i64 st, .slice TA tn tc, .slice NA nn nc] 37)) [.int .i64 qs, .slice QA qn qc] 46
    rw [show ∀ a b : Value, [a, b].toArray = #[a, b] from fun _ _ => rfl] at hbq
    simp only [World.size_alloc] at hbq
    have hal : Below w.heap.size w (((w).alloc (.cells #[.int .i64 st, .slice TA tn tc, .slice NA nn nc] 37)).alloc (.cells #[.int .i64 qs, .slice QA qn qc] 46)) := by (repeat' (first | exact Below.refl _ _ | assumption | (refine Below.alloc ?_ ?_ _) | (refine Below.setCell ?_ ?_ _) | (refine Below.drew ?_) | (refine below_drewN ?_ _) | (refine below_after (Ext.below _) ?_ ?_) | (refine below_after (by assumption) ?_ ?_) | (simp; done) | omega | (simp; omega)))
    obtain ⟨wn, hwn⟩ : ∃ wn, wn = ((w).alloc (.cells #[.int .i64 st, .slice TA tn tc, .slice NA nn nc] 37)).alloc (.cells #[.int .i64 qs, .slice QA qn qc] 46) := ⟨_, rfl⟩
    rw [← hwn] at hbt hbq hal ⊢
    obtain ⟨btb, hn⟩ : ∃ btb, btb = w.heap.size := ⟨_, rfl⟩
    (try rw [← hn] at hbt)
    (try rw [← hn] at hbq)
    (try rw [← hn])
    have hn0 := Lib.hid hn
    clear hn
    obtain ⟨bqb, hn⟩ : ∃ bqb, bqb = w.heap.size + 1 := ⟨_, rfl⟩
    (try rw [← hn] at hbt)
    (try rw [← hn] at hbq)
    (try rw [← hn])
    clear hn
    replace hP := hP.of hal
    replace hH := hH.of hal
    replace hN := hN.of hal
    replace hQ := hQ.of hal
    replace hB := below_thru hB hal
    clear hwn hal hn0
    obtain ⟨w1, hwn⟩ : ∃ q, q = wn := ⟨_, rfl⟩
    subst hwn
    have ⟨btz, bt0, bt1, bt2⟩ := hbt
    obtain ⟨bqz, bq0, bq1, -, -⟩ := hbq.open2
    go_wp2_with fail
    have kF := law_Few st TA NA tn tc nn nc H N w1 hH hN
    rw [hf.out] at kF
    go_at_call 16
    refine (kF).mono ?_
    rintro e2 w2 ⟨rfl, hb2⟩
    clear btz bt0 bt1 bt2
    clear bqz bq0 bq1
    replace hP := hP.of hb2
    replace hH := hH.of hb2
    replace hN := hN.of hb2
    replace hQ := hQ.of hb2
    replace hbt := hbt.of hb2
    replace hbq := hbq.of hb2
    replace hB := below_thru hB hb2
    clear hb2
    clear kF
    have ⟨btz, bt0, bt1, bt2⟩ := hbt
    obtain ⟨bqz, bq0, bq1, -, -⟩ := hbq.open2
    go_wp2_with fail
    go_at_call 9
    refine (awake_55 _).mono ?_
    rintro e3 w3 ⟨rfl, hb3⟩
    clear btz bt0 bt1 bt2
    clear bqz bq0 bq1
    replace hP := hP.of hb3
    replace hH := hH.of hb3
    replace hN := hN.of hb3
    replace hQ := hQ.of hb3
    replace hbt := hbt.of hb3
    replace hbq := hbq.of hb3
    replace hB := below_thru hB hb3
    clear hb3
    go_wp2_with fail
    go_ret
    exact ⟨rfl, hB⟩
  · skip
    replace hf := Lib.hid hf
    go_enter Tryz.func7, Tryz.ntmps7
    have hB : Below w.heap.size w w := Below.refl _ _
    go_wp2_with fail
    have hbt := TrAt.new (w) (.int .i64 st) (.slice TA tn tc) (.slice NA nn nc) 37
    replace hbt := hbt.of ((Below.refl _ _).alloc (Nat.le_refl _) (.cells #[.int .i64 qs, .slice QA qn qc] 46))
    have hbq := BxW.new ((w).alloc (.cells #[.int .i64 st, .slice TA tn tc, .slice NA nn nc] 37)) [.int .i64 qs, .slice QA qn qc] 46
    rw [show ∀ a b : Value, [a, b].toArray = #[a, b] from fun _ _ => rfl] at hbq
    simp only [World.size_alloc] at hbq
    have hal : Below w.heap.size w (((w).alloc (.cells #[.int .i64 st, .slice TA tn tc, .slice NA nn nc] 37)).alloc (.cells #[.int .i64 qs, .slice QA qn qc] 46)) := by (repeat' (first | exact Below.refl _ _ | assumption | (refine Below.alloc ?_ ?_ _) | (refine Below.setCell ?_ ?_ _) | (refine Below.drew ?_) | (refine below_drewN ?_ _) | (refine below_after (Ext.below _) ?_ ?_) | (refine below_after (by assumption) ?_ ?_) | (simp; done) | omega | (simp; omega)))
    obtain ⟨wn, hwn⟩ : ∃ wn, wn = ((w).alloc (.cells #[.int .i64 st, .slice TA tn tc, .slice NA nn nc] 37)).alloc (.cells #[.int .i64 qs, .slice QA qn qc] 46) := ⟨_, rfl⟩
    rw [← hwn] at hbt hbq hal ⊢
    obtain ⟨btb, hn⟩ : ∃ btb, btb = w.heap.size := ⟨_, rfl⟩
    (try rw [← hn] at hbt)
    (try rw [← hn] at hbq)
    (try rw [← hn])
    have hn0 := Lib.hid hn
    clear hn
    obtain ⟨bqb, hn⟩ : ∃ bqb, bqb = w.heap.size + 1 := ⟨_, rfl⟩
    (try rw [← hn] at hbt)
    (try rw [← hn] at hbq)
    (try rw [← hn])
    clear hn
    replace hP := hP.of hal
    replace hH := hH.of hal
    replace hN := hN.of hal
    replace hQ := hQ.of hal
    replace hB := below_thru hB hal
    clear hwn hal hn0
    obtain ⟨w1, hwn⟩ : ∃ q, q = wn := ⟨_, rfl⟩
    subst hwn
    have ⟨btz, bt0, bt1, bt2⟩ := hbt
    obtain ⟨bqz, bq0, bq1, -, -⟩ := hbq.open2
    go_wp2_with fail
    have kF := law_Few st TA NA tn tc nn nc H N w1 hH hN
    rw [hf.out] at kF
    go_at_call 16
    refine (kF).mono ?_
    rintro e2 w2 ⟨rfl, hb2⟩
    clear btz bt0 bt1 bt2
    clear bqz bq0 bq1
    replace hP := hP.of hb2
    replace hH := hH.of hb2
    replace hN := hN.of hb2
    replace hQ := hQ.of hb2
    replace hbt := hbt.of hb2
    replace hbq := hbq.of hb2
    replace hB := below_thru hB hb2
    clear hb2
    clear kF
    have ⟨btz, bt0, bt1, bt2⟩ := hbt
    obtain ⟨bqz, bq0, bq1, -, -⟩ := hbq.open2
    go_wp2_with fail
    go_at_call 9
    refine (awake_55 _).mono ?_
    rintro e3 w3 ⟨rfl, hb3⟩
    clear btz bt0 bt1 bt2
    clear bqz bq0 bq1
    replace hP := hP.of hb3
    replace hH := hH.of hb3
    replace hN := hN.of hb3
    replace hQ := hQ.of hb3
    replace hbt := hbt.of hb3
    replace hbq := hbq.of hb3
    replace hB := below_thru hB hb3
    clear hb3
    go_wp2_with fail
    go_ret
    exact ⟨rfl, hB⟩
  · skip
    replace hf := Lib.hid hf
    go_enter Tryz.func7, Tryz.ntmps7
    have hB : Below w.heap.size w w := Below.refl _ _
    go_wp2_with fail
    have hbt := TrAt.new (w) (.int .i64 st) (.slice TA tn tc) (.slice NA nn nc) 37
    replace hbt := hbt.of ((Below.refl _ _).alloc (Nat.le_refl _) (.cells #[.int .i64 qs, .slice QA qn qc] 46))
    have hbq := BxW.new ((w).alloc (.cells #[.int .i64 st, .slice TA tn tc, .slice NA nn nc] 37)) [.int .i64 qs, .slice QA qn qc] 46
    rw [show ∀ a b : Value, [a, b].toArray = #[a, b] from fun _ _ => rfl] at hbq
    simp only [World.size_alloc] at hbq
    have hal : Below w.heap.size w (((w).alloc (.cells #[.int .i64 st, .slice TA tn tc, .slice NA nn nc] 37)).alloc (.cells #[.int .i64 qs, .slice QA qn qc] 46)) := by (repeat' (first | exact Below.refl _ _ | assumption | (refine Below.alloc ?_ ?_ _) | (refine Below.setCell ?_ ?_ _) | (refine Below.drew ?_) | (refine below_drewN ?_ _) | (refine below_after (Ext.below _) ?_ ?_) | (refine below_after (by assumption) ?_ ?_) | (simp; done) | omega | (simp; omega)))
    obtain ⟨wn, hwn⟩ : ∃ wn, wn = ((w).alloc (.cells #[.int .i64 st, .slice TA tn tc, .slice NA nn nc] 37)).alloc (.cells #[.int .i64 qs, .slice QA qn qc] 46) := ⟨_, rfl⟩
    rw [← hwn] at hbt hbq hal ⊢
    obtain ⟨btb, hn⟩ : ∃ btb, btb = w.heap.size := ⟨_, rfl⟩
    (try rw [← hn] at hbt)
    (try rw [← hn] at hbq)
    (try rw [← hn])
    have hn0 := Lib.hid hn
    clear hn
    obtain ⟨bqb, hn⟩ : ∃ bqb, bqb = w.heap.size + 1 := ⟨_, rfl⟩
    (try rw [← hn] at hbt)
    (try rw [← hn] at hbq)
    (try rw [← hn])
    clear hn
    replace hP := hP.of hal
    replace hH := hH.of hal
    replace hN := hN.of hal
    replace hQ := hQ.of hal
    replace hB := below_thru hB hal
    clear hwn hal hn0
    obtain ⟨w1, hwn⟩ : ∃ q, q = wn := ⟨_, rfl⟩
    subst hwn
    have ⟨btz, bt0, bt1, bt2⟩ := hbt
    obtain ⟨bqz, bq0, bq1, -, -⟩ := hbq.open2
    go_wp2_with fail
    have kF := law_Few st TA NA tn tc nn nc H N w1 hH hN
    rw [hf.out] at kF
    go_at_call 16
    refine (kF).mono ?_
    rintro e2 w2 ⟨rfl, hb2⟩
    clear btz bt0 bt1 bt2
    clear bqz bq0 bq1
    replace hP := hP.of hb2
    replace hH := hH.of hb2
    replace hN := hN.of hb2
    replace hQ := hQ.of hb2
    replace hbt := hbt.of hb2
    replace hbq := hbq.of hb2
    replace hB := below_thru hB hb2
    clear hb2
    clear kF
    have ⟨btz, bt0, bt1, bt2⟩ := hbt
    obtain ⟨bqz, bq0, bq1, -, -⟩ := hbq.open2
    go_wp2_with fail
    obtain ⟨g1, g2, g3⟩ := few_okT hf.out
    rw [hHl.out] at g1
    rw [hNl.out] at g2
    replace g3 := Lib.hid g3
    rcases Classical.em (fpE l = 0) with he | he
    · skip
      replace he := Lib.hid he
      go_at_call 10
      refine (pat0 hP (by omega) he.out).mono ?_
      rintro e3 w3 ⟨A1, n1, c1, rfl, hA1, hb3⟩
      clear btz bt0 bt1 bt2
      clear bqz bq0 bq1
      replace hP := hP.of hb3
      replace hH := hH.of hb3
      replace hN := hN.of hb3
      replace hQ := hQ.of hb3
      replace hbt := hbt.of hb3
      replace hbq := hbq.of hb3
      replace hB := below_thru hB hb3
      clear hb3
      have ⟨btz, bt0, bt1, bt2⟩ := hbt
      obtain ⟨bqz, bq0, bq1, -, -⟩ := hbq.open2
      go_wp2_with fail
      go_at_call 12
      refine (tptB hA1 hPl.out he.out).mono ?_
      rintro e4 w4 ⟨A2, c2, rfl, hA2, hb4⟩
      clear btz bt0 bt1 bt2
      clear bqz bq0 bq1
      replace hP := hP.of hb4
      replace hH := hH.of hb4
      replace hN := hN.of hb4
      replace hQ := hQ.of hb4
      replace hA1 := hA1.of hb4
      replace hbt := hbt.of hb4
      replace hbq := hbq.of hb4
      replace hB := below_thru hB hb4
      clear hb4
      clear hA1
      have ⟨btz, bt0, bt1, bt2⟩ := hbt
      obtain ⟨bqz, bq0, bq1, -, -⟩ := hbq.open2
      go_wp2_with fail
      go_at_call 15
      refine (ref05_SameV (sameL_selfA l) _ _ _ _ _ _ _ hA2 hP (by omega) (by omega)).mono ?_
      rintro e5 w5 ⟨rfl, hb5⟩
      clear btz bt0 bt1 bt2
      clear bqz bq0 bq1
      replace hP := hP.of hb5
      replace hH := hH.of hb5
      replace hN := hN.of hb5
      replace hQ := hQ.of hb5
      replace hA2 := hA2.of hb5
      replace hbt := hbt.of hb5
      replace hbq := hbq.of hb5
      replace hB := below_thru hB hb5
      clear hb5
      clear hA2
      have ⟨btz, bt0, bt1, bt2⟩ := hbt
      obtain ⟨bqz, bq0, bq1, -, -⟩ := hbq.open2
      go_wp2_with fail
      rcases Classical.em (ftE st H N = 0) with hu | hu
      · skip
        replace hu := Lib.hid hu
        go_at_call 17
        refine (tre0 hH hN (by omega) (by omega) hu.out).mono ?_
        rintro e6 w6 ⟨A3, n3, c3, rfl, hA3, hb6⟩
        clear btz bt0 bt1 bt2
        clear bqz bq0 bq1
        replace hP := hP.of hb6
        replace hH := hH.of hb6
        replace hN := hN.of hb6
        replace hQ := hQ.of hb6
        replace hbt := hbt.of hb6
        replace hbq := hbq.of hb6
        replace hB := below_thru hB hb6
        clear hb6
        have ⟨btz, bt0, bt1, bt2⟩ := hbt
        obtain ⟨bqz, bq0, bq1, -, -⟩ := hbq.open2
        go_wp2_with fail
        go_at_call 19
        refine (ttrB hA3 hHl.out hNl.out hu.out).mono ?_
        rintro e7 w7 ⟨HA, hc, MA, mc, rfl, hHA, hMA, hb7⟩
        clear btz bt0 bt1 bt2
        clear bqz bq0 bq1
        replace hP := hP.of hb7
        replace hH := hH.of hb7
        replace hN := hN.of hb7
        replace hQ := hQ.of hb7
        replace hA3 := hA3.of hb7
        replace hbt := hbt.of hb7
        replace hbq := hbq.of hb7
        replace hB := below_thru hB hb7
        clear hb7
        clear hA3
        have ⟨btz, bt0, bt1, bt2⟩ := hbt
        obtain ⟨bqz, bq0, bq1, -, -⟩ := hbq.open2
        go_wp2_with fail
        clear btz bt0 bt1 bt2
        clear bqz bq0 bq1
        have hbx := TrAt.new (w7) (.int .i64 st) (.slice HA tn hc) (.slice MA nn mc) 37
        have hal : Below w7.heap.size w7 ((w7).alloc (.cells #[.int .i64 st, .slice HA tn hc, .slice MA nn mc] 37)) := by (repeat' (first | exact Below.refl _ _ | assumption | (refine Below.alloc ?_ ?_ _) | (refine Below.setCell ?_ ?_ _) | (refine Below.drew ?_) | (refine below_drewN ?_ _) | (refine below_after (Ext.below _) ?_ ?_) | (refine below_after (by assumption) ?_ ?_) | (simp; done) | omega | (simp; omega)))
        obtain ⟨wn, hwn⟩ : ∃ wn, wn = (w7).alloc (.cells #[.int .i64 st, .slice HA tn hc, .slice MA nn mc] 37) := ⟨_, rfl⟩
        rw [← hwn] at hbx hal ⊢
        obtain ⟨bxb, hn⟩ : ∃ bxb, bxb = w7.heap.size := ⟨_, rfl⟩
        (try rw [← hn] at hbx)
        (try rw [← hn])
        clear hn
        replace hP := hP.of hal
        replace hH := hH.of hal
        replace hN := hN.of hal
        replace hQ := hQ.of hal
        replace hHA := hHA.of hal
        replace hMA := hMA.of hal
        replace hbt := hbt.of hal
        replace hbq := hbq.of hal
        replace hB := below_thru hB hal
        clear hwn hal
        obtain ⟨w8, hwn⟩ : ∃ q, q = wn := ⟨_, rfl⟩
        subst hwn
        have ⟨btz, bt0, bt1, bt2⟩ := hbt
        obtain ⟨bqz, bq0, bq1, -, -⟩ := hbq.open2
        have ⟨bxz, bx0, bx1, bx2⟩ := hbx
        go_wp2_with fail
        go_at_call 21
        refine (ref12_SameV st _ _ _ _ _ _ _ _ _ _ _ _ H N _ hHA hMA hH hN (by omega) (by omega) g3.out).mono ?_
        rintro e9 w9 ⟨rfl, hb9⟩
        clear btz bt0 bt1 bt2
        clear bqz bq0 bq1
        clear bxz bx0 bx1 bx2
        replace hP := hP.of hb9
        replace hH := hH.of hb9
        replace hN := hN.of hb9
        replace hQ := hQ.of hb9
        replace hHA := hHA.of hb9
        replace hMA := hMA.of hb9
        replace hbt := hbt.of hb9
        replace hbq := hbq.of hb9
        replace hbx := hbx.of hb9
        replace hB := below_thru hB hb9
        clear hb9
        clear hHA
        clear hMA
        clear hbx
        have ⟨btz, bt0, bt1, bt2⟩ := hbt
        obtain ⟨bqz, bq0, bq1, -, -⟩ := hbq.open2
        go_wp2_with fail
        rcases Classical.em (fqE qs Q = 0) with hz | hz
        · skip
          replace hz := Lib.hid hz
          go_at_call 22
          refine (qua0 hQ (by omega) hz.out).mono ?_
          rintro e10 w10 ⟨A5, n5, c5, rfl, hA5, hb10⟩
          clear btz bt0 bt1 bt2
          clear bqz bq0 bq1
          replace hP := hP.of hb10
          replace hH := hH.of hb10
          replace hN := hN.of hb10
          replace hQ := hQ.of hb10
          replace hbt := hbt.of hb10
          replace hbq := hbq.of hb10
          replace hB := below_thru hB hb10
          clear hb10
          have ⟨btz, bt0, bt1, bt2⟩ := hbt
          obtain ⟨bqz, bq0, bq1, -, -⟩ := hbq.open2
          go_wp2_with fail
          go_at_call 24
          refine (tquB hA5 hQl.out hz.out).mono ?_
          rintro e11 w11 ⟨XA, xc, rfl, hXA, hb11⟩
          clear btz bt0 bt1 bt2
          clear bqz bq0 bq1
          replace hP := hP.of hb11
          replace hH := hH.of hb11
          replace hN := hN.of hb11
          replace hQ := hQ.of hb11
          replace hA5 := hA5.of hb11
          replace hbt := hbt.of hb11
          replace hbq := hbq.of hb11
          replace hB := below_thru hB hb11
          clear hb11
          clear hA5
          have ⟨btz, bt0, bt1, bt2⟩ := hbt
          obtain ⟨bqz, bq0, bq1, -, -⟩ := hbq.open2
          go_wp2_with fail
          clear btz bt0 bt1 bt2
          clear bqz bq0 bq1
          have hby := BxW.new (w11) [.int .i64 qs, .slice XA qn xc] 46
          rw [show ∀ a b : Value, [a, b].toArray = #[a, b] from fun _ _ => rfl] at hby
          have hal : Below w11.heap.size w11 ((w11).alloc (.cells #[.int .i64 qs, .slice XA qn xc] 46)) := by (repeat' (first | exact Below.refl _ _ | assumption | (refine Below.alloc ?_ ?_ _) | (refine Below.setCell ?_ ?_ _) | (refine Below.drew ?_) | (refine below_drewN ?_ _) | (refine below_after (Ext.below _) ?_ ?_) | (refine below_after (by assumption) ?_ ?_) | (simp; done) | omega | (simp; omega)))
          obtain ⟨wn, hwn⟩ : ∃ wn, wn = (w11).alloc (.cells #[.int .i64 qs, .slice XA qn xc] 46) := ⟨_, rfl⟩
          rw [← hwn] at hby hal ⊢
          obtain ⟨byb, hn⟩ : ∃ byb, byb = w11.heap.size := ⟨_, rfl⟩
          (try rw [← hn] at hby)
          (try rw [← hn])
          clear hn
          replace hP := hP.of hal
          replace hH := hH.of hal
          replace hN := hN.of hal
          replace hQ := hQ.of hal
          replace hXA := hXA.of hal
          replace hbt := hbt.of hal
          replace hbq := hbq.of hal
          replace hB := below_thru hB hal
          clear hwn hal
          obtain ⟨w12, hwn⟩ : ∃ q, q = wn := ⟨_, rfl⟩
          subst hwn
          have ⟨btz, bt0, bt1, bt2⟩ := hbt
          obtain ⟨bqz, bq0, bq1, -, -⟩ := hbq.open2
          obtain ⟨byz, by0, by1, -, -⟩ := hby.open2
          go_wp2_with fail
          go_at_call 26
          refine (ref25_SameV qs _ _ _ _ _ _ Q _ hXA hQ (by omega)).mono ?_
          rintro e13 w13 ⟨rfl, hb13⟩
          clear btz bt0 bt1 bt2
          clear bqz bq0 bq1
          clear byz by0 by1
          replace hP := hP.of hb13
          replace hH := hH.of hb13
          replace hN := hN.of hb13
          replace hQ := hQ.of hb13
          replace hXA := hXA.of hb13
          replace hbt := hbt.of hb13
          replace hbq := hbq.of hb13
          replace hby := hby.of hb13
          replace hB := below_thru hB hb13
          clear hb13
          clear hXA
          clear hby
          have ⟨btz, bt0, bt1, bt2⟩ := hbt
          obtain ⟨bqz, bq0, bq1, -, -⟩ := hbq.open2
          go_wp2_with fail
          go_at_call 9
          refine (awake_55 _).mono ?_
          rintro e14 w14 ⟨rfl, hb14⟩
          clear btz bt0 bt1 bt2
          clear bqz bq0 bq1
          replace hP := hP.of hb14
          replace hH := hH.of hb14
          replace hN := hN.of hb14
          replace hQ := hQ.of hb14
          replace hbt := hbt.of hb14
          replace hbq := hbq.of hb14
          replace hB := below_thru hB hb14
          clear hb14
          go_wp2_with fail
          go_ret
          exact ⟨rfl, hB⟩
        · skip
          replace hz := Lib.hid hz
          go_at_call 22
          refine (quaX hQ (by omega) hz.out).mono ?_
          rintro e10 w10 ⟨A5, n5, c5, v5, rfl, dv5, hb10⟩
          clear btz bt0 bt1 bt2
          clear bqz bq0 bq1
          replace hP := hP.of hb10
          replace hH := hH.of hb10
          replace hN := hN.of hb10
          replace hQ := hQ.of hb10
          replace hbt := hbt.of hb10
          replace hbq := hbq.of hb10
          replace hB := below_thru hB hb10
          clear hb10
          have ⟨btz, bt0, bt1, bt2⟩ := hbt
          obtain ⟨bqz, bq0, bq1, -, -⟩ := hbq.open2
          go_wp2_with fail
          go_at_call 9
          refine (awake_55 _).mono ?_
          rintro e11 w11 ⟨rfl, hb11⟩
          clear btz bt0 bt1 bt2
          clear bqz bq0 bq1
          replace hP := hP.of hb11
          replace hH := hH.of hb11
          replace hN := hN.of hb11
          replace hQ := hQ.of hb11
          replace hbt := hbt.of hb11
          replace hbq := hbq.of hb11
          replace hB := below_thru hB hb11
          clear hb11
          go_wp2_with fail
          go_ret
          exact ⟨rfl, hB⟩
      · skip
        replace hu := Lib.hid hu
        go_at_call 17
        refine (treX hH hN (by omega) (by omega) hu.out).mono ?_
        rintro e6 w6 ⟨A3, n3, c3, v3, rfl, dv3, hb6⟩
        clear btz bt0 bt1 bt2
        clear bqz bq0 bq1
        replace hP := hP.of hb6
        replace hH := hH.of hb6
        replace hN := hN.of hb6
        replace hQ := hQ.of hb6
        replace hbt := hbt.of hb6
        replace hbq := hbq.of hb6
        replace hB := below_thru hB hb6
        clear hb6
        have ⟨btz, bt0, bt1, bt2⟩ := hbt
        obtain ⟨bqz, bq0, bq1, -, -⟩ := hbq.open2
        go_wp2_with fail
        rcases Classical.em (fqE qs Q = 0) with hz | hz
        · skip
          replace hz := Lib.hid hz
          go_at_call 22
          refine (qua0 hQ (by omega) hz.out).mono ?_
          rintro e7 w7 ⟨A5, n5, c5, rfl, hA5, hb7⟩
          clear btz bt0 bt1 bt2
          clear bqz bq0 bq1
          replace hP := hP.of hb7
          replace hH := hH.of hb7
          replace hN := hN.of hb7
          replace hQ := hQ.of hb7
          replace hbt := hbt.of hb7
          replace hbq := hbq.of hb7
          replace hB := below_thru hB hb7
          clear hb7
          have ⟨btz, bt0, bt1, bt2⟩ := hbt
          obtain ⟨bqz, bq0, bq1, -, -⟩ := hbq.open2
          go_wp2_with fail
          go_at_call 24
          refine (tquB hA5 hQl.out hz.out).mono ?_
          rintro e8 w8 ⟨XA, xc, rfl, hXA, hb8⟩
          clear btz bt0 bt1 bt2
          clear bqz bq0 bq1
          replace hP := hP.of hb8
          replace hH := hH.of hb8
          replace hN := hN.of hb8
          replace hQ := hQ.of hb8
          replace hA5 := hA5.of hb8
          replace hbt := hbt.of hb8
          replace hbq := hbq.of hb8
          replace hB := below_thru hB hb8
          clear hb8
          clear hA5
          have ⟨btz, bt0, bt1, bt2⟩ := hbt
          obtain ⟨bqz, bq0, bq1, -, -⟩ := hbq.open2
          go_wp2_with fail
          clear btz bt0 bt1 bt2
          clear bqz bq0 bq1
          have hby := BxW.new (w8) [.int .i64 qs, .slice XA qn xc] 46
          rw [show ∀ a b : Value, [a, b].toArray = #[a, b] from fun _ _ => rfl] at hby
          have hal : Below w8.heap.size w8 ((w8).alloc (.cells #[.int .i64 qs, .slice XA qn xc] 46)) := by (repeat' (first | exact Below.refl _ _ | assumption | (refine Below.alloc ?_ ?_ _) | (refine Below.setCell ?_ ?_ _) | (refine Below.drew ?_) | (refine below_drewN ?_ _) | (refine below_after (Ext.below _) ?_ ?_) | (refine below_after (by assumption) ?_ ?_) | (simp; done) | omega | (simp; omega)))
          obtain ⟨wn, hwn⟩ : ∃ wn, wn = (w8).alloc (.cells #[.int .i64 qs, .slice XA qn xc] 46) := ⟨_, rfl⟩
          rw [← hwn] at hby hal ⊢
          obtain ⟨byb, hn⟩ : ∃ byb, byb = w8.heap.size := ⟨_, rfl⟩
          (try rw [← hn] at hby)
          (try rw [← hn])
          clear hn
          replace hP := hP.of hal
          replace hH := hH.of hal
          replace hN := hN.of hal
          replace hQ := hQ.of hal
          replace hXA := hXA.of hal
          replace hbt := hbt.of hal
          replace hbq := hbq.of hal
          replace hB := below_thru hB hal
          clear hwn hal
          obtain ⟨w9, hwn⟩ : ∃ q, q = wn := ⟨_, rfl⟩
          subst hwn
          have ⟨btz, bt0, bt1, bt2⟩ := hbt
          obtain ⟨bqz, bq0, bq1, -, -⟩ := hbq.open2
          obtain ⟨byz, by0, by1, -, -⟩ := hby.open2
          go_wp2_with fail
          go_at_call 26
          refine (ref25_SameV qs _ _ _ _ _ _ Q _ hXA hQ (by omega)).mono ?_
          rintro e10 w10 ⟨rfl, hb10⟩
          clear btz bt0 bt1 bt2
          clear bqz bq0 bq1
          clear byz by0 by1
          replace hP := hP.of hb10
          replace hH := hH.of hb10
          replace hN := hN.of hb10
          replace hQ := hQ.of hb10
          replace hXA := hXA.of hb10
          replace hbt := hbt.of hb10
          replace hbq := hbq.of hb10
          replace hby := hby.of hb10
          replace hB := below_thru hB hb10
          clear hb10
          clear hXA
          clear hby
          have ⟨btz, bt0, bt1, bt2⟩ := hbt
          obtain ⟨bqz, bq0, bq1, -, -⟩ := hbq.open2
          go_wp2_with fail
          go_at_call 9
          refine (awake_55 _).mono ?_
          rintro e11 w11 ⟨rfl, hb11⟩
          clear btz bt0 bt1 bt2
          clear bqz bq0 bq1
          replace hP := hP.of hb11
          replace hH := hH.of hb11
          replace hN := hN.of hb11
          replace hQ := hQ.of hb11
          replace hbt := hbt.of hb11
          replace hbq := hbq.of hb11
          replace hB := below_thru hB hb11
          clear hb11
          go_wp2_with fail
          go_ret
          exact ⟨rfl, hB⟩
        · skip
          replace hz := Lib.hid hz
          go_at_call 22
          refine (quaX hQ (by omega) hz.out).mono ?_
          rintro e7 w7 ⟨A5, n5, c5, v5, rfl, dv5, hb7⟩
          clear btz bt0 bt1 bt2
          clear bqz bq0 bq1
          replace hP := hP.of hb7
          replace hH := hH.of hb7
          replace hN := hN.of hb7
          replace hQ := hQ.of hb7
          replace hbt := hbt.of hb7
          replace hbq := hbq.of hb7
          replace hB := below_thru hB hb7
          clear hb7
          have ⟨btz, bt0, bt1, bt2⟩ := hbt
          obtain ⟨bqz, bq0, bq1, -, -⟩ := hbq.open2
          go_wp2_with fail
          go_at_call 9
          refine (awake_55 _).mono ?_
          rintro e8 w8 ⟨rfl, hb8⟩
          clear btz bt0 bt1 bt2
          clear bqz bq0 bq1
          replace hP := hP.of hb8
          replace hH := hH.of hb8
          replace hN := hN.of hb8
          replace hQ := hQ.of hb8
          replace hbt := hbt.of hb8
          replace hbq := hbq.of hb8
          replace hB := below_thru hB hb8
          clear hb8
          go_wp2_with fail
          go_ret
          exact ⟨rfl, hB⟩
    · skip
      replace he := Lib.hid he
      go_at_call 10
      refine (patX hP (by omega) he.out).mono ?_
      rintro e3 w3 ⟨A1, n1, c1, v1, rfl, dv1, hb3⟩
      clear btz bt0 bt1 bt2
      clear bqz bq0 bq1
      replace hP := hP.of hb3
      replace hH := hH.of hb3
      replace hN := hN.of hb3
      replace hQ := hQ.of hb3
      replace hbt := hbt.of hb3
      replace hbq := hbq.of hb3
      replace hB := below_thru hB hb3
      clear hb3
      have ⟨btz, bt0, bt1, bt2⟩ := hbt
      obtain ⟨bqz, bq0, bq1, -, -⟩ := hbq.open2
      go_wp2_with fail
      rcases Classical.em (ftE st H N = 0) with hu | hu
      · skip
        replace hu := Lib.hid hu
        go_at_call 17
        refine (tre0 hH hN (by omega) (by omega) hu.out).mono ?_
        rintro e4 w4 ⟨A3, n3, c3, rfl, hA3, hb4⟩
        clear btz bt0 bt1 bt2
        clear bqz bq0 bq1
        replace hP := hP.of hb4
        replace hH := hH.of hb4
        replace hN := hN.of hb4
        replace hQ := hQ.of hb4
        replace hbt := hbt.of hb4
        replace hbq := hbq.of hb4
        replace hB := below_thru hB hb4
        clear hb4
        have ⟨btz, bt0, bt1, bt2⟩ := hbt
        obtain ⟨bqz, bq0, bq1, -, -⟩ := hbq.open2
        go_wp2_with fail
        go_at_call 19
        refine (ttrB hA3 hHl.out hNl.out hu.out).mono ?_
        rintro e5 w5 ⟨HA, hc, MA, mc, rfl, hHA, hMA, hb5⟩
        clear btz bt0 bt1 bt2
        clear bqz bq0 bq1
        replace hP := hP.of hb5
        replace hH := hH.of hb5
        replace hN := hN.of hb5
        replace hQ := hQ.of hb5
        replace hA3 := hA3.of hb5
        replace hbt := hbt.of hb5
        replace hbq := hbq.of hb5
        replace hB := below_thru hB hb5
        clear hb5
        clear hA3
        have ⟨btz, bt0, bt1, bt2⟩ := hbt
        obtain ⟨bqz, bq0, bq1, -, -⟩ := hbq.open2
        go_wp2_with fail
        clear btz bt0 bt1 bt2
        clear bqz bq0 bq1
        have hbx := TrAt.new (w5) (.int .i64 st) (.slice HA tn hc) (.slice MA nn mc) 37
        have hal : Below w5.heap.size w5 ((w5).alloc (.cells #[.int .i64 st, .slice HA tn hc, .slice MA nn mc] 37)) := by (repeat' (first | exact Below.refl _ _ | assumption | (refine Below.alloc ?_ ?_ _) | (refine Below.setCell ?_ ?_ _) | (refine Below.drew ?_) | (refine below_drewN ?_ _) | (refine below_after (Ext.below _) ?_ ?_) | (refine below_after (by assumption) ?_ ?_) | (simp; done) | omega | (simp; omega)))
        obtain ⟨wn, hwn⟩ : ∃ wn, wn = (w5).alloc (.cells #[.int .i64 st, .slice HA tn hc, .slice MA nn mc] 37) := ⟨_, rfl⟩
        rw [← hwn] at hbx hal ⊢
        obtain ⟨bxb, hn⟩ : ∃ bxb, bxb = w5.heap.size := ⟨_, rfl⟩
        (try rw [← hn] at hbx)
        (try rw [← hn])
        clear hn
        replace hP := hP.of hal
        replace hH := hH.of hal
        replace hN := hN.of hal
        replace hQ := hQ.of hal
        replace hHA := hHA.of hal
        replace hMA := hMA.of hal
        replace hbt := hbt.of hal
        replace hbq := hbq.of hal
        replace hB := below_thru hB hal
        clear hwn hal
        obtain ⟨w6, hwn⟩ : ∃ q, q = wn := ⟨_, rfl⟩
        subst hwn
        have ⟨btz, bt0, bt1, bt2⟩ := hbt
        obtain ⟨bqz, bq0, bq1, -, -⟩ := hbq.open2
        have ⟨bxz, bx0, bx1, bx2⟩ := hbx
        go_wp2_with fail
        go_at_call 21
        refine (ref12_SameV st _ _ _ _ _ _ _ _ _ _ _ _ H N _ hHA hMA hH hN (by omega) (by omega) g3.out).mono ?_
        rintro e7 w7 ⟨rfl, hb7⟩
        clear btz bt0 bt1 bt2
        clear bqz bq0 bq1
        clear bxz bx0 bx1 bx2
        replace hP := hP.of hb7
        replace hH := hH.of hb7
        replace hN := hN.of hb7
        replace hQ := hQ.of hb7
        replace hHA := hHA.of hb7
        replace hMA := hMA.of hb7
        replace hbt := hbt.of hb7
        replace hbq := hbq.of hb7
        replace hbx := hbx.of hb7
        replace hB := below_thru hB hb7
        clear hb7
        clear hHA
        clear hMA
        clear hbx
        have ⟨btz, bt0, bt1, bt2⟩ := hbt
        obtain ⟨bqz, bq0, bq1, -, -⟩ := hbq.open2
        go_wp2_with fail
        rcases Classical.em (fqE qs Q = 0) with hz | hz
        · skip
          replace hz := Lib.hid hz
          go_at_call 22
          refine (qua0 hQ (by omega) hz.out).mono ?_
          rintro e8 w8 ⟨A5, n5, c5, rfl, hA5, hb8⟩
          clear btz bt0 bt1 bt2
          clear bqz bq0 bq1
          replace hP := hP.of hb8
          replace hH := hH.of hb8
          replace hN := hN.of hb8
          replace hQ := hQ.of hb8
          replace hbt := hbt.of hb8
          replace hbq := hbq.of hb8
          replace hB := below_thru hB hb8
          clear hb8
          have ⟨btz, bt0, bt1, bt2⟩ := hbt
          obtain ⟨bqz, bq0, bq1, -, -⟩ := hbq.open2
          go_wp2_with fail
          go_at_call 24
          refine (tquB hA5 hQl.out hz.out).mono ?_
          rintro e9 w9 ⟨XA, xc, rfl, hXA, hb9⟩
          clear btz bt0 bt1 bt2
          clear bqz bq0 bq1
          replace hP := hP.of hb9
          replace hH := hH.of hb9
          replace hN := hN.of hb9
          replace hQ := hQ.of hb9
          replace hA5 := hA5.of hb9
          replace hbt := hbt.of hb9
          replace hbq := hbq.of hb9
          replace hB := below_thru hB hb9
          clear hb9
          clear hA5
          have ⟨btz, bt0, bt1, bt2⟩ := hbt
          obtain ⟨bqz, bq0, bq1, -, -⟩ := hbq.open2
          go_wp2_with fail
          clear btz bt0 bt1 bt2
          clear bqz bq0 bq1
          have hby := BxW.new (w9) [.int .i64 qs, .slice XA qn xc] 46
          rw [show ∀ a b : Value, [a, b].toArray = #[a, b] from fun _ _ => rfl] at hby
          have hal : Below w9.heap.size w9 ((w9).alloc (.cells #[.int .i64 qs, .slice XA qn xc] 46)) := by (repeat' (first | exact Below.refl _ _ | assumption | (refine Below.alloc ?_ ?_ _) | (refine Below.setCell ?_ ?_ _) | (refine Below.drew ?_) | (refine below_drewN ?_ _) | (refine below_after (Ext.below _) ?_ ?_) | (refine below_after (by assumption) ?_ ?_) | (simp; done) | omega | (simp; omega)))
          obtain ⟨wn, hwn⟩ : ∃ wn, wn = (w9).alloc (.cells #[.int .i64 qs, .slice XA qn xc] 46) := ⟨_, rfl⟩
          rw [← hwn] at hby hal ⊢
          obtain ⟨byb, hn⟩ : ∃ byb, byb = w9.heap.size := ⟨_, rfl⟩
          (try rw [← hn] at hby)
          (try rw [← hn])
          clear hn
          replace hP := hP.of hal
          replace hH := hH.of hal
          replace hN := hN.of hal
          replace hQ := hQ.of hal
          replace hXA := hXA.of hal
          replace hbt := hbt.of hal
          replace hbq := hbq.of hal
          replace hB := below_thru hB hal
          clear hwn hal
          obtain ⟨w10, hwn⟩ : ∃ q, q = wn := ⟨_, rfl⟩
          subst hwn
          have ⟨btz, bt0, bt1, bt2⟩ := hbt
          obtain ⟨bqz, bq0, bq1, -, -⟩ := hbq.open2
          obtain ⟨byz, by0, by1, -, -⟩ := hby.open2
          go_wp2_with fail
          go_at_call 26
          refine (ref25_SameV qs _ _ _ _ _ _ Q _ hXA hQ (by omega)).mono ?_
          rintro e11 w11 ⟨rfl, hb11⟩
          clear btz bt0 bt1 bt2
          clear bqz bq0 bq1
          clear byz by0 by1
          replace hP := hP.of hb11
          replace hH := hH.of hb11
          replace hN := hN.of hb11
          replace hQ := hQ.of hb11
          replace hXA := hXA.of hb11
          replace hbt := hbt.of hb11
          replace hbq := hbq.of hb11
          replace hby := hby.of hb11
          replace hB := below_thru hB hb11
          clear hb11
          clear hXA
          clear hby
          have ⟨btz, bt0, bt1, bt2⟩ := hbt
          obtain ⟨bqz, bq0, bq1, -, -⟩ := hbq.open2
          go_wp2_with fail
          go_at_call 9
          refine (awake_55 _).mono ?_
          rintro e12 w12 ⟨rfl, hb12⟩
          clear btz bt0 bt1 bt2
          clear bqz bq0 bq1
          replace hP := hP.of hb12
          replace hH := hH.of hb12
          replace hN := hN.of hb12
          replace hQ := hQ.of hb12
          replace hbt := hbt.of hb12
          replace hbq := hbq.of hb12
          replace hB := below_thru hB hb12
          clear hb12
          go_wp2_with fail
          go_ret
          exact ⟨rfl, hB⟩
        · skip
          replace hz := Lib.hid hz
          go_at_call 22
          refine (quaX hQ (by omega) hz.out).mono ?_
          rintro e8 w8 ⟨A5, n5, c5, v5, rfl, dv5, hb8⟩
          clear btz bt0 bt1 bt2
          clear bqz bq0 bq1
          replace hP := hP.of hb8
          replace hH := hH.of hb8
          replace hN := hN.of hb8
          replace hQ := hQ.of hb8
          replace hbt := hbt.of hb8
          replace hbq := hbq.of hb8
          replace hB := below_thru hB hb8
          clear hb8
          have ⟨btz, bt0, bt1, bt2⟩ := hbt
          obtain ⟨bqz, bq0, bq1, -, -⟩ := hbq.open2
          go_wp2_with fail
          go_at_call 9
          refine (awake_55 _).mono ?_
          rintro e9 w9 ⟨rfl, hb9⟩
          clear btz bt0 bt1 bt2
          clear bqz bq0 bq1
          replace hP := hP.of hb9
          replace hH := hH.of hb9
          replace hN := hN.of hb9
          replace hQ := hQ.of hb9
          replace hbt := hbt.of hb9
          replace hbq := hbq.of hb9
          replace hB := below_thru hB hb9
          clear hb9
          go_wp2_with fail
          go_ret
          exact ⟨rfl, hB⟩
      · skip
        replace hu := Lib.hid hu
        go_at_call 17
        refine (treX hH hN (by omega) (by omega) hu.out).mono ?_
        rintro e4 w4 ⟨A3, n3, c3, v3, rfl, dv3, hb4⟩
        clear btz bt0 bt1 bt2
        clear bqz bq0 bq1
        replace hP := hP.of hb4
        replace hH := hH.of hb4
        replace hN := hN.of hb4
        replace hQ := hQ.of hb4
        replace hbt := hbt.of hb4
        replace hbq := hbq.of hb4
        replace hB := below_thru hB hb4
        clear hb4
        have ⟨btz, bt0, bt1, bt2⟩ := hbt
        obtain ⟨bqz, bq0, bq1, -, -⟩ := hbq.open2
        go_wp2_with fail
        rcases Classical.em (fqE qs Q = 0) with hz | hz
        · skip
          replace hz := Lib.hid hz
          go_at_call 22
          refine (qua0 hQ (by omega) hz.out).mono ?_
          rintro e5 w5 ⟨A5, n5, c5, rfl, hA5, hb5⟩
          clear btz bt0 bt1 bt2
          clear bqz bq0 bq1
          replace hP := hP.of hb5
          replace hH := hH.of hb5
          replace hN := hN.of hb5
          replace hQ := hQ.of hb5
          replace hbt := hbt.of hb5
          replace hbq := hbq.of hb5
          replace hB := below_thru hB hb5
          clear hb5
          have ⟨btz, bt0, bt1, bt2⟩ := hbt
          obtain ⟨bqz, bq0, bq1, -, -⟩ := hbq.open2
          go_wp2_with fail
          go_at_call 24
          refine (tquB hA5 hQl.out hz.out).mono ?_
          rintro e6 w6 ⟨XA, xc, rfl, hXA, hb6⟩
          clear btz bt0 bt1 bt2
          clear bqz bq0 bq1
          replace hP := hP.of hb6
          replace hH := hH.of hb6
          replace hN := hN.of hb6
          replace hQ := hQ.of hb6
          replace hA5 := hA5.of hb6
          replace hbt := hbt.of hb6
          replace hbq := hbq.of hb6
          replace hB := below_thru hB hb6
          clear hb6
          clear hA5
          have ⟨btz, bt0, bt1, bt2⟩ := hbt
          obtain ⟨bqz, bq0, bq1, -, -⟩ := hbq.open2
          go_wp2_with fail
          clear btz bt0 bt1 bt2
          clear bqz bq0 bq1
          have hby := BxW.new (w6) [.int .i64 qs, .slice XA qn xc] 46
          rw [show ∀ a b : Value, [a, b].toArray = #[a, b] from fun _ _ => rfl] at hby
          have hal : Below w6.heap.size w6 ((w6).alloc (.cells #[.int .i64 qs, .slice XA qn xc] 46)) := by (repeat' (first | exact Below.refl _ _ | assumption | (refine Below.alloc ?_ ?_ _) | (refine Below.setCell ?_ ?_ _) | (refine Below.drew ?_) | (refine below_drewN ?_ _) | (refine below_after (Ext.below _) ?_ ?_) | (refine below_after (by assumption) ?_ ?_) | (simp; done) | omega | (simp; omega)))
          obtain ⟨wn, hwn⟩ : ∃ wn, wn = (w6).alloc (.cells #[.int .i64 qs, .slice XA qn xc] 46) := ⟨_, rfl⟩
          rw [← hwn] at hby hal ⊢
          obtain ⟨byb, hn⟩ : ∃ byb, byb = w6.heap.size := ⟨_, rfl⟩
          (try rw [← hn] at hby)
          (try rw [← hn])
          clear hn
          replace hP := hP.of hal
          replace hH := hH.of hal
          replace hN := hN.of hal
          replace hQ := hQ.of hal
          replace hXA := hXA.of hal
          replace hbt := hbt.of hal
          replace hbq := hbq.of hal
          replace hB := below_thru hB hal
          clear hwn hal
          obtain ⟨w7, hwn⟩ : ∃ q, q = wn := ⟨_, rfl⟩
          subst hwn
          have ⟨btz, bt0, bt1, bt2⟩ := hbt
          obtain ⟨bqz, bq0, bq1, -, -⟩ := hbq.open2
          obtain ⟨byz, by0, by1, -, -⟩ := hby.open2
          go_wp2_with fail
          go_at_call 26
          refine (ref25_SameV qs _ _ _ _ _ _ Q _ hXA hQ (by omega)).mono ?_
          rintro e8 w8 ⟨rfl, hb8⟩
          clear btz bt0 bt1 bt2
          clear bqz bq0 bq1
          clear byz by0 by1
          replace hP := hP.of hb8
          replace hH := hH.of hb8
          replace hN := hN.of hb8
          replace hQ := hQ.of hb8
          replace hXA := hXA.of hb8
          replace hbt := hbt.of hb8
          replace hbq := hbq.of hb8
          replace hby := hby.of hb8
          replace hB := below_thru hB hb8
          clear hb8
          clear hXA
          clear hby
          have ⟨btz, bt0, bt1, bt2⟩ := hbt
          obtain ⟨bqz, bq0, bq1, -, -⟩ := hbq.open2
          go_wp2_with fail
          go_at_call 9
          refine (awake_55 _).mono ?_
          rintro e9 w9 ⟨rfl, hb9⟩
          clear btz bt0 bt1 bt2
          clear bqz bq0 bq1
          replace hP := hP.of hb9
          replace hH := hH.of hb9
          replace hN := hN.of hb9
          replace hQ := hQ.of hb9
          replace hbt := hbt.of hb9
          replace hbq := hbq.of hb9
          replace hB := below_thru hB hb9
          clear hb9
          go_wp2_with fail
          go_ret
          exact ⟨rfl, hB⟩
        · skip
          replace hz := Lib.hid hz
          go_at_call 22
          refine (quaX hQ (by omega) hz.out).mono ?_
          rintro e5 w5 ⟨A5, n5, c5, v5, rfl, dv5, hb5⟩
          clear btz bt0 bt1 bt2
          clear bqz bq0 bq1
          replace hP := hP.of hb5
          replace hH := hH.of hb5
          replace hN := hN.of hb5
          replace hQ := hQ.of hb5
          replace hbt := hbt.of hb5
          replace hbq := hbq.of hb5
          replace hB := below_thru hB hb5
          clear hb5
          have ⟨btz, bt0, bt1, bt2⟩ := hbt
          obtain ⟨bqz, bq0, bq1, -, -⟩ := hbq.open2
          go_wp2_with fail
          go_at_call 9
          refine (awake_55 _).mono ?_
          rintro e6 w6 ⟨rfl, hb6⟩
          clear btz bt0 bt1 bt2
          clear bqz bq0 bq1
          replace hP := hP.of hb6
          replace hH := hH.of hb6
          replace hN := hN.of hb6
          replace hQ := hQ.of hb6
          replace hbt := hbt.of hb6
          replace hbq := hbq.of hb6
          replace hB := below_thru hB hb6
          clear hb6
          go_wp2_with fail
          go_ret
          exact ⟨rfl, hB⟩
end Go.Proofs.YtmenokhnanghgaaGreat
