/- The walk of TopTorus. By mktopo.py. -/
import Derived.Test.YtellglbmbocgkaaGreatDoorLifT
import Derived.Test.YtellglbmbocgkaaGreatDoorTopS
import Derived.Test.YtellglbmbocgkaaGreatDoorTorQ
import Derived.Test.YtellglbmbocgkaaGreatDoorTorE
import Derived.Test.YtellglbmbocgkaaGreatDoorTorG
import Derived.Test.YtellglbmbocgkaaGreatDoorTorH
import Derived.Test.YtellglbmbocgkaaGreatDoorDIR
namespace Go.Proofs.YtellglbmbocgkaaGreatDoor
open Go Go.RowKit
set_option linter.unusedSimpArgs false
set_option linter.unusedVariables false
set_option maxRecDepth 100000
set_option linter.unusedSimpArgs false
set_option linter.unusedVariables false
set_option maxHeartbeats 32000000 in
theorem law_toptor (st : Int) (A B D : Option Addr) (n c m d k e : Nat) (H : List (Int × Int)) (N : List (Int × List Int)) (p : List Cel) (a : Nat) (w : World) (hH : Rd encP 2 w A n H) (hN : RdX ekN w B m N) (hR : Rd encC 3 w D k p) (hke : k ≤ e) (ha8 : a ≤ 255) (hM : Mlx w) :
    Calls Tryz.prog 4 #[.agg #[.int .i64 st, .slice A n c, .slice B m d], .slice D k e, .int .u8 (a : Int)] w fun e w' => e = .returned (.bool true) ∧ Below w.heap.size w w' := by
  obtain ⟨v, hv⟩ : ∃ v, (fewT H N && decide (k ≤ 60)) = v := ⟨_, rfl⟩
  have kF := fun w1 h1 h2 => law_Small st A B D n c m d k e H N w1 rfl hv h1 h2
  have c0 : IntKind.i64.wrap (a : Int) = (a : Int) := IntWalk.i64_in _ (by omega)
  cases v with
  | false =>
    clear hv
    go_enter Tryz.func4, Tryz.ntmps4
    go_wp2_with fail
    have hB : Below w.heap.size w w := Below.refl _ _
    have hbt := TrAt.new (w) (.int .i64 st) (.slice A n c) (.slice B m d) 25
    have hal : Below w.heap.size w ((w).alloc (.cells #[.int .i64 st, .slice A n c, .slice B m d] 25)) := by (repeat' (first | exact Below.refl _ _ | assumption | (refine Below.alloc ?_ ?_ _) | (refine Below.setCell ?_ ?_ _) | (refine Below.drew ?_) | (refine below_drewN ?_ _) | (refine below_after (Ext.below _) ?_ ?_) | (refine below_after (by assumption) ?_ ?_) | (simp; done) | omega | (simp; omega)))
    obtain ⟨wn, hwn⟩ : ∃ wn, wn = (w).alloc (.cells #[.int .i64 st, .slice A n c, .slice B m d] 25) := ⟨_, rfl⟩
    rw [← hwn] at hbt hal ⊢
    obtain ⟨btb, hn⟩ : ∃ btb, btb = w.heap.size := ⟨_, rfl⟩
    rw [← hn] at hbt ⊢
    clear hn
    replace hH := hH.of hal
    replace hN := hN.of hal
    replace hR := hR.of hal
    replace hM := hM.of hal
    replace hB := below_thru hB hal
    clear hwn hal
    obtain ⟨w1, hwn⟩ : ∃ q, q = wn := ⟨_, rfl⟩
    subst hwn
    have ⟨_, bt0, bt1, bt2⟩ := hbt
    go_wp2_with fail
    go_at_call 6
    refine (kF _ hH hN).mono ?_
    rintro e2 w2 ⟨rfl, hb2⟩
    clear bt0 bt1 bt2
    replace hH := hH.of hb2
    replace hN := hN.of hb2
    replace hR := hR.of hb2
    replace hM := hM.of hb2
    replace hbt := hbt.of hb2
    replace hB := below_thru hB hb2
    have hz2 := hb2.size
    clear hb2
    have ⟨_, bt0, bt1, bt2⟩ := hbt
    go_wp2_with fail
    go_at_call 7
    refine (lif_life _ hM).mono ?_
    rintro e3 w3 ⟨rfl, hb3⟩
    clear bt0 bt1 bt2
    replace hH := hH.of hb3
    replace hN := hN.of hb3
    replace hR := hR.of hb3
    replace hM := hM.of hb3
    replace hbt := hbt.of hb3
    replace hB := below_thru hB hb3
    have hz3 := hb3.size
    clear hb3
    go_wp2_with fail
    go_ret
    exact ⟨rfl, hB⟩
  | true =>
    have hk : k ≤ 60 := by rw [Bool.and_eq_true, decide_eq_true_eq] at hv; exact hv.2
    clear hv
    by_cases h3 : 3 < a
    · have d1 : decide (3 < (a : Int)) = true := decide_eq_true (by omega)
      have d1' : decide (3 < a) = true := decide_eq_true h3
      clear h3
      go_enter Tryz.func4, Tryz.ntmps4
      go_wp2_with fail
      have hB : Below w.heap.size w w := Below.refl _ _
      have hbt := TrAt.new (w) (.int .i64 st) (.slice A n c) (.slice B m d) 25
      have hal : Below w.heap.size w ((w).alloc (.cells #[.int .i64 st, .slice A n c, .slice B m d] 25)) := by (repeat' (first | exact Below.refl _ _ | assumption | (refine Below.alloc ?_ ?_ _) | (refine Below.setCell ?_ ?_ _) | (refine Below.drew ?_) | (refine below_drewN ?_ _) | (refine below_after (Ext.below _) ?_ ?_) | (refine below_after (by assumption) ?_ ?_) | (simp; done) | omega | (simp; omega)))
      obtain ⟨wn, hwn⟩ : ∃ wn, wn = (w).alloc (.cells #[.int .i64 st, .slice A n c, .slice B m d] 25) := ⟨_, rfl⟩
      rw [← hwn] at hbt hal ⊢
      obtain ⟨btb, hn⟩ : ∃ btb, btb = w.heap.size := ⟨_, rfl⟩
      rw [← hn] at hbt ⊢
      clear hn
      replace hH := hH.of hal
      replace hN := hN.of hal
      replace hR := hR.of hal
      replace hM := hM.of hal
      replace hB := below_thru hB hal
      clear hwn hal
      obtain ⟨w1, hwn⟩ : ∃ q, q = wn := ⟨_, rfl⟩
      subst hwn
      have ⟨_, bt0, bt1, bt2⟩ := hbt
      go_wp2_with fail
      go_at_call 6
      refine (kF _ hH hN).mono ?_
      rintro e2 w2 ⟨rfl, hb2⟩
      clear bt0 bt1 bt2
      replace hH := hH.of hb2
      replace hN := hN.of hb2
      replace hR := hR.of hb2
      replace hM := hM.of hb2
      replace hbt := hbt.of hb2
      replace hB := below_thru hB hb2
      have hz2 := hb2.size
      clear hb2
      have ⟨_, bt0, bt1, bt2⟩ := hbt
      go_wp2_with fail
      go_at_call 7
      refine (lif_life _ hM).mono ?_
      rintro e3 w3 ⟨rfl, hb3⟩
      clear bt0 bt1 bt2
      replace hH := hH.of hb3
      replace hN := hN.of hb3
      replace hR := hR.of hb3
      replace hM := hM.of hb3
      replace hbt := hbt.of hb3
      replace hB := below_thru hB hb3
      have hz3 := hb3.size
      clear hb3
      go_wp2_with fail
      go_ret
      exact ⟨rfl, hB⟩
    have d1 : decide (3 < (a : Int)) = false := decide_eq_false (by omega)
    have d1' : decide (3 < a) = false := decide_eq_false h3
    obtain ⟨nb, hnb⟩ : ∃ nb, nearB p = nb := ⟨_, rfl⟩
    have kN := fun w1 h => top_near D k e p w1 h (by omega)
    rw [hnb] at kN
    cases nb with
    | false =>
      clear hnb h3
      go_enter Tryz.func4, Tryz.ntmps4
      go_wp2_with fail
      have hB : Below w.heap.size w w := Below.refl _ _
      have hbt := TrAt.new (w) (.int .i64 st) (.slice A n c) (.slice B m d) 25
      have hal : Below w.heap.size w ((w).alloc (.cells #[.int .i64 st, .slice A n c, .slice B m d] 25)) := by (repeat' (first | exact Below.refl _ _ | assumption | (refine Below.alloc ?_ ?_ _) | (refine Below.setCell ?_ ?_ _) | (refine Below.drew ?_) | (refine below_drewN ?_ _) | (refine below_after (Ext.below _) ?_ ?_) | (refine below_after (by assumption) ?_ ?_) | (simp; done) | omega | (simp; omega)))
      obtain ⟨wn, hwn⟩ : ∃ wn, wn = (w).alloc (.cells #[.int .i64 st, .slice A n c, .slice B m d] 25) := ⟨_, rfl⟩
      rw [← hwn] at hbt hal ⊢
      obtain ⟨btb, hn⟩ : ∃ btb, btb = w.heap.size := ⟨_, rfl⟩
      rw [← hn] at hbt ⊢
      clear hn
      replace hH := hH.of hal
      replace hN := hN.of hal
      replace hR := hR.of hal
      replace hM := hM.of hal
      replace hB := below_thru hB hal
      clear hwn hal
      obtain ⟨w1, hwn⟩ : ∃ q, q = wn := ⟨_, rfl⟩
      subst hwn
      have ⟨_, bt0, bt1, bt2⟩ := hbt
      go_wp2_with fail
      go_at_call 6
      refine (kF _ hH hN).mono ?_
      rintro e2 w2 ⟨rfl, hb2⟩
      clear bt0 bt1 bt2
      replace hH := hH.of hb2
      replace hN := hN.of hb2
      replace hR := hR.of hb2
      replace hM := hM.of hb2
      replace hbt := hbt.of hb2
      replace hB := below_thru hB hb2
      have hz2 := hb2.size
      clear hb2
      have ⟨_, bt0, bt1, bt2⟩ := hbt
      go_wp2_with fail
      go_at_call 15
      refine (kN _ hR).mono ?_
      rintro e3 w3 ⟨rfl, hb3⟩
      clear bt0 bt1 bt2
      replace hH := hH.of hb3
      replace hN := hN.of hb3
      replace hR := hR.of hb3
      replace hM := hM.of hb3
      replace hbt := hbt.of hb3
      replace hB := below_thru hB hb3
      have hz3 := hb3.size
      clear hb3
      have ⟨_, bt0, bt1, bt2⟩ := hbt
      go_wp2_with fail
      go_at_call 7
      refine (lif_life _ hM).mono ?_
      rintro e4 w4 ⟨rfl, hb4⟩
      clear bt0 bt1 bt2
      replace hH := hH.of hb4
      replace hN := hN.of hb4
      replace hR := hR.of hb4
      replace hM := hM.of hb4
      replace hbt := hbt.of hb4
      replace hB := below_thru hB hb4
      have hz4 := hb4.size
      clear hb4
      go_wp2_with fail
      go_ret
      exact ⟨rfl, hB⟩
    | true =>
      have kE := fun w1 h1 h2 h3 => ref20_Fits st A B D n c m d k e H N p w1 h1 h2 h3 (by omega)
      by_cases hf : fitE st H N p = 0
      · rw [hf] at kE
        have hfit := fit_iff.1 hf
        have hnr := near_of hnb
        obtain ⟨r1, r2, r3, r4, r5, r6, r7⟩ := tor_all hfit hnr (n := a) (by omega)
        obtain ⟨s1, s2, s3⟩ := sh16 (k := 4) hfit.pat (by omega) hnr
        have hin := in32 hnr
        have hgr := gr16 p
        have hokg := okG_gr hfit
        have htr := (trQ_parts hfit.rule).1
        have kI := fun w1 h1 h2 h3 => direct_Run st A B D n c m d k e H N p w1 (a : Int) h1 h2 h3 (by omega) hke
        rw [r1, r2] at kI
        have kS := fun w1 h => ref05_Shift D k e p 16 16 w1 h (by omega)
        rw [s1, s2] at kS
        have kG := fun P k1 e1 w1 h => r21_From P k1 e1 (p.map (mv5 16 16)) w1 h s3 hin
        rw [hgr] at kG
        have kT := fun P k1 e1 w1 (h : Rd encC 3 w1 P k1 (itS H N p a).2) => ref05_Shift P k1 e1 (itS H N p a).2 16 16 w1 h (by rw [← h.len]; omega)
        rw [r3, r4] at kT
        have kW := fun P c1 w1 h1 h2 h3 => gs_Run st A B P n c m d c1 a H N (grP p) w1 h1 h2 h3 htr hokg (by omega)
        have kP := fun P c1 w1 h1 => r21_Pattern P c1 (itG H N (grP p) a) w1 h1 r6
        rw [r5] at kP
        have hml : ((itS H N p a).2.map (mv5 16 16)).length ≤ 5000 := by rw [List.length_map]; exact r7
        generalize (itS H N p a).2.map (mv5 16 16) = ql at kT kP hml
        generalize itG H N (grP p) a = ga at kW kP
        generalize grP p = g0 at kG kW
        generalize (itS H N p a).2 = q0 at kI kT
        generalize p.map (mv5 16 16) = p1 at kS kG
        replace hml := Lib.hid hml
        clear hf hfit hnr r1 r2 r3 r4 r5 r6 r7 s1 s2 s3 hin hgr hokg htr hnb h3
        go_enter Tryz.func4, Tryz.ntmps4
        go_wp2_with fail
        have hB : Below w.heap.size w w := Below.refl _ _
        have hbt := TrAt.new (w) (.int .i64 st) (.slice A n c) (.slice B m d) 25
        have hal : Below w.heap.size w ((w).alloc (.cells #[.int .i64 st, .slice A n c, .slice B m d] 25)) := by (repeat' (first | exact Below.refl _ _ | assumption | (refine Below.alloc ?_ ?_ _) | (refine Below.setCell ?_ ?_ _) | (refine Below.drew ?_) | (refine below_drewN ?_ _) | (refine below_after (Ext.below _) ?_ ?_) | (refine below_after (by assumption) ?_ ?_) | (simp; done) | omega | (simp; omega)))
        obtain ⟨wn, hwn⟩ : ∃ wn, wn = (w).alloc (.cells #[.int .i64 st, .slice A n c, .slice B m d] 25) := ⟨_, rfl⟩
        rw [← hwn] at hbt hal ⊢
        obtain ⟨btb, hn⟩ : ∃ btb, btb = w.heap.size := ⟨_, rfl⟩
        rw [← hn] at hbt ⊢
        clear hn
        replace hH := hH.of hal
        replace hN := hN.of hal
        replace hR := hR.of hal
        replace hM := hM.of hal
        replace hB := below_thru hB hal
        clear hwn hal
        obtain ⟨w1, hwn⟩ : ∃ q, q = wn := ⟨_, rfl⟩
        subst hwn
        have ⟨_, bt0, bt1, bt2⟩ := hbt
        go_wp2_with fail
        go_at_call 6
        refine (kF _ hH hN).mono ?_
        rintro e2 w2 ⟨rfl, hb2⟩
        clear bt0 bt1 bt2
        replace hH := hH.of hb2
        replace hN := hN.of hb2
        replace hR := hR.of hb2
        replace hM := hM.of hb2
        replace hbt := hbt.of hb2
        replace hB := below_thru hB hb2
        have hz2 := hb2.size
        clear hb2
        have ⟨_, bt0, bt1, bt2⟩ := hbt
        go_wp2_with fail
        go_at_call 15
        refine (kN _ hR).mono ?_
        rintro e3 w3 ⟨rfl, hb3⟩
        clear bt0 bt1 bt2
        replace hH := hH.of hb3
        replace hN := hN.of hb3
        replace hR := hR.of hb3
        replace hM := hM.of hb3
        replace hbt := hbt.of hb3
        replace hB := below_thru hB hb3
        have hz3 := hb3.size
        clear hb3
        have ⟨_, bt0, bt1, bt2⟩ := hbt
        go_wp2_with fail
        go_at_call 16
        refine (kE _ hH hN hR).mono ?_
        rintro e4 w4 ⟨rfl, hb4⟩
        clear bt0 bt1 bt2
        replace hH := hH.of hb4
        replace hN := hN.of hb4
        replace hR := hR.of hb4
        replace hM := hM.of hb4
        replace hbt := hbt.of hb4
        replace hB := below_thru hB hb4
        have hz4 := hb4.size
        clear hb4
        have ⟨_, bt0, bt1, bt2⟩ := hbt
        go_wp2_with fail
        go_at_call 17
        refine (kI _ hH hN hR).mono ?_
        rintro e5 w5 ⟨Q1, m1, d1, rfl, hQ, hd1, hb5⟩
        clear bt0 bt1 bt2
        replace hH := hH.of hb5
        replace hN := hN.of hb5
        replace hR := hR.of hb5
        replace hM := hM.of hb5
        replace hbt := hbt.of hb5
        replace hB := below_thru hB hb5
        have hz5 := hb5.size
        clear hb5
        have ⟨_, bt0, bt1, bt2⟩ := hbt
        go_wp2_with fail
        go_at_call 18
        refine (kS _ hR).mono ?_
        rintro e6 w6 ⟨M1, n1, c1, rfl, hM1, _, hb6⟩
        clear bt0 bt1 bt2
        replace hH := hH.of hb6
        replace hN := hN.of hb6
        replace hR := hR.of hb6
        replace hM := hM.of hb6
        replace hQ := hQ.of hb6
        replace hbt := hbt.of hb6
        replace hB := below_thru hB hb6
        have hz6 := hb6.size
        clear hb6
        have ⟨_, bt0, bt1, bt2⟩ := hbt
        go_wp2_with fail
        go_at_call 19
        refine (kG _ _ _ _ hM1).mono ?_
        rintro e7 w7 ⟨G1, rfl, hG1, hb7⟩
        clear bt0 bt1 bt2
        replace hH := hH.of hb7
        replace hN := hN.of hb7
        replace hR := hR.of hb7
        replace hM := hM.of hb7
        replace hQ := hQ.of hb7
        replace hM1 := hM1.of hb7
        replace hbt := hbt.of hb7
        replace hB := below_thru hB hb7
        have hz7 := hb7.size
        clear hb7
        have ⟨_, bt0, bt1, bt2⟩ := hbt
        go_wp2_with fail
        clear bt0 bt1 bt2
        have hbg := BxW.new w7 [.int .i64 32, .int .i64 32, .int .i64 1, .slice (some ⟨G1, 0, none⟩) 1024 1024] 56
        rw [arr4T] at hbg
        have hal : Below w7.heap.size w7 (w7.alloc (.cells #[.int .i64 32, .int .i64 32, .int .i64 1, .slice (some ⟨G1, 0, none⟩) 1024 1024] 56)) := (Below.refl _ _).alloc (Nat.le_refl _) _
        obtain ⟨wn, hwn⟩ : ∃ wn, wn = w7.alloc (.cells #[.int .i64 32, .int .i64 32, .int .i64 1, .slice (some ⟨G1, 0, none⟩) 1024 1024] 56) := ⟨_, rfl⟩
        rw [← hwn] at hbg hal ⊢
        obtain ⟨bgb, hn⟩ : ∃ bgb, bgb = w7.heap.size := ⟨_, rfl⟩
        rw [← hn] at hbg ⊢
        clear hn
        replace hH := hH.of hal
        replace hN := hN.of hal
        replace hR := hR.of hal
        replace hM := hM.of hal
        replace hQ := hQ.of hal
        replace hM1 := hM1.of hal
        replace hG1 := hG1.of hal
        replace hbt := hbt.of hal
        replace hB := below_thru hB hal
        clear hwn hal
        obtain ⟨w8, hwn⟩ : ∃ q, q = wn := ⟨_, rfl⟩
        subst hwn
        have ⟨_, bt0, bt1, bt2⟩ := hbt
        obtain ⟨_, bg0, bg1, bg2, bg3, -, -, -, -⟩ := hbg.open4
        go_wp2_with fail
        go_at_call 20
        refine (kW _ _ _ hH hN hG1).mono ?_
        rintro e9 w9 ⟨G2, c2, rfl, hG2, hb9⟩
        clear bt0 bt1 bt2
        clear bg0 bg1 bg2 bg3
        replace hH := hH.of hb9
        replace hN := hN.of hb9
        replace hR := hR.of hb9
        replace hM := hM.of hb9
        replace hQ := hQ.of hb9
        replace hM1 := hM1.of hb9
        replace hG1 := hG1.of hb9
        replace hbt := hbt.of hb9
        replace hbg := hbg.of hb9
        replace hB := below_thru hB hb9
        have hz9 := hb9.size
        clear hb9
        have ⟨_, bt0, bt1, bt2⟩ := hbt
        obtain ⟨_, bg0, bg1, bg2, bg3, -, -, -, -⟩ := hbg.open4
        go_wp2_with fail
        clear bt0 bt1 bt2
        clear bg0 bg1 bg2 bg3
        have hba := BxW.new w9 [.int .i64 32, .int .i64 32, .int .i64 1, .slice G2 1024 c2] 56
        rw [arr4T] at hba
        have hal : Below w9.heap.size w9 (w9.alloc (.cells #[.int .i64 32, .int .i64 32, .int .i64 1, .slice G2 1024 c2] 56)) := (Below.refl _ _).alloc (Nat.le_refl _) _
        obtain ⟨wn, hwn⟩ : ∃ wn, wn = w9.alloc (.cells #[.int .i64 32, .int .i64 32, .int .i64 1, .slice G2 1024 c2] 56) := ⟨_, rfl⟩
        rw [← hwn] at hba hal ⊢
        obtain ⟨bab, hn⟩ : ∃ bab, bab = w9.heap.size := ⟨_, rfl⟩
        rw [← hn] at hba ⊢
        clear hn
        replace hH := hH.of hal
        replace hN := hN.of hal
        replace hR := hR.of hal
        replace hM := hM.of hal
        replace hQ := hQ.of hal
        replace hM1 := hM1.of hal
        replace hG1 := hG1.of hal
        replace hG2 := hG2.of hal
        replace hbt := hbt.of hal
        replace hbg := hbg.of hal
        replace hB := below_thru hB hal
        clear hwn hal
        obtain ⟨w10, hwn⟩ : ∃ q, q = wn := ⟨_, rfl⟩
        subst hwn
        have ⟨_, bt0, bt1, bt2⟩ := hbt
        obtain ⟨_, bg0, bg1, bg2, bg3, -, -, -, -⟩ := hbg.open4
        obtain ⟨_, ba0, ba1, ba2, ba3, -, -, -, -⟩ := hba.open4
        go_wp2_with fail
        go_at_call 18
        refine (kT _ _ _ _ hQ).mono ?_
        rintro e11 w11 ⟨M2, n2, c3, rfl, hM2, _, hb11⟩
        clear bt0 bt1 bt2
        clear bg0 bg1 bg2 bg3
        clear ba0 ba1 ba2 ba3
        replace hH := hH.of hb11
        replace hN := hN.of hb11
        replace hR := hR.of hb11
        replace hM := hM.of hb11
        replace hQ := hQ.of hb11
        replace hM1 := hM1.of hb11
        replace hG1 := hG1.of hb11
        replace hG2 := hG2.of hb11
        replace hbt := hbt.of hb11
        replace hbg := hbg.of hb11
        replace hba := hba.of hb11
        replace hB := below_thru hB hb11
        have hz11 := hb11.size
        clear hb11
        have ⟨_, bt0, bt1, bt2⟩ := hbt
        obtain ⟨_, bg0, bg1, bg2, bg3, -, -, -, -⟩ := hbg.open4
        obtain ⟨_, ba0, ba1, ba2, ba3, -, -, -, -⟩ := hba.open4
        go_wp2_with fail
        go_at_call 21
        refine (kP _ _ _ hG2).mono ?_
        rintro e12 w12 ⟨P3, k3, d3, rfl, hP3, hk3, hb12⟩
        clear bt0 bt1 bt2
        clear bg0 bg1 bg2 bg3
        clear ba0 ba1 ba2 ba3
        replace hH := hH.of hb12
        replace hN := hN.of hb12
        replace hR := hR.of hb12
        replace hM := hM.of hb12
        replace hQ := hQ.of hb12
        replace hM1 := hM1.of hb12
        replace hG1 := hG1.of hb12
        replace hG2 := hG2.of hb12
        replace hM2 := hM2.of hb12
        replace hbt := hbt.of hb12
        replace hbg := hbg.of hb12
        replace hba := hba.of hb12
        replace hB := below_thru hB hb12
        have hz12 := hb12.size
        clear hb12
        have hn2 : n2 ≤ 1000000 := by rw [← hM2.len]; have := hml.out; omega
        have kZ := ref05_SameV (sameL_self ql) P3 M2 k3 n2 d3 c3 w12 hP3 hM2 (by omega) hn2
        have ⟨_, bt0, bt1, bt2⟩ := hbt
        obtain ⟨_, bg0, bg1, bg2, bg3, -, -, -, -⟩ := hbg.open4
        obtain ⟨_, ba0, ba1, ba2, ba3, -, -, -, -⟩ := hba.open4
        go_wp2_with fail
        go_at_call 12
        refine (kZ).mono ?_
        rintro e13 w13 ⟨rfl, hb13⟩
        clear bt0 bt1 bt2
        clear bg0 bg1 bg2 bg3
        clear ba0 ba1 ba2 ba3
        replace hH := hH.of hb13
        replace hN := hN.of hb13
        replace hR := hR.of hb13
        replace hM := hM.of hb13
        replace hQ := hQ.of hb13
        replace hM1 := hM1.of hb13
        replace hG1 := hG1.of hb13
        replace hG2 := hG2.of hb13
        replace hM2 := hM2.of hb13
        replace hP3 := hP3.of hb13
        replace hbt := hbt.of hb13
        replace hbg := hbg.of hb13
        replace hba := hba.of hb13
        replace hB := below_thru hB hb13
        have hz13 := hb13.size
        clear hb13
        have ⟨_, bt0, bt1, bt2⟩ := hbt
        obtain ⟨_, bg0, bg1, bg2, bg3, -, -, -, -⟩ := hbg.open4
        obtain ⟨_, ba0, ba1, ba2, ba3, -, -, -, -⟩ := hba.open4
        go_wp2_with fail
        go_at_call 7
        refine (lif_life _ hM).mono ?_
        rintro e14 w14 ⟨rfl, hb14⟩
        clear bt0 bt1 bt2
        clear bg0 bg1 bg2 bg3
        clear ba0 ba1 ba2 ba3
        replace hH := hH.of hb14
        replace hN := hN.of hb14
        replace hR := hR.of hb14
        replace hM := hM.of hb14
        replace hQ := hQ.of hb14
        replace hM1 := hM1.of hb14
        replace hG1 := hG1.of hb14
        replace hG2 := hG2.of hb14
        replace hM2 := hM2.of hb14
        replace hP3 := hP3.of hb14
        replace hbt := hbt.of hb14
        replace hbg := hbg.of hb14
        replace hba := hba.of hb14
        replace hB := below_thru hB hb14
        have hz14 := hb14.size
        clear hb14
        go_wp2_with fail
        go_ret
        exact ⟨rfl, hB⟩
      · generalize fitE st H N p = q0 at kE hf
        have e2 : (q0 != 0) = true := by simpa using hf
        have e3 : (q0 == 0) = false := by simpa using hf
        clear hf h3 hnb
        go_enter Tryz.func4, Tryz.ntmps4
        go_wp2_with fail
        have hB : Below w.heap.size w w := Below.refl _ _
        have hbt := TrAt.new (w) (.int .i64 st) (.slice A n c) (.slice B m d) 25
        have hal : Below w.heap.size w ((w).alloc (.cells #[.int .i64 st, .slice A n c, .slice B m d] 25)) := by (repeat' (first | exact Below.refl _ _ | assumption | (refine Below.alloc ?_ ?_ _) | (refine Below.setCell ?_ ?_ _) | (refine Below.drew ?_) | (refine below_drewN ?_ _) | (refine below_after (Ext.below _) ?_ ?_) | (refine below_after (by assumption) ?_ ?_) | (simp; done) | omega | (simp; omega)))
        obtain ⟨wn, hwn⟩ : ∃ wn, wn = (w).alloc (.cells #[.int .i64 st, .slice A n c, .slice B m d] 25) := ⟨_, rfl⟩
        rw [← hwn] at hbt hal ⊢
        obtain ⟨btb, hn⟩ : ∃ btb, btb = w.heap.size := ⟨_, rfl⟩
        rw [← hn] at hbt ⊢
        clear hn
        replace hH := hH.of hal
        replace hN := hN.of hal
        replace hR := hR.of hal
        replace hM := hM.of hal
        replace hB := below_thru hB hal
        clear hwn hal
        obtain ⟨w1, hwn⟩ : ∃ q, q = wn := ⟨_, rfl⟩
        subst hwn
        have ⟨_, bt0, bt1, bt2⟩ := hbt
        go_wp2_with fail
        go_at_call 6
        refine (kF _ hH hN).mono ?_
        rintro e2 w2 ⟨rfl, hb2⟩
        clear bt0 bt1 bt2
        replace hH := hH.of hb2
        replace hN := hN.of hb2
        replace hR := hR.of hb2
        replace hM := hM.of hb2
        replace hbt := hbt.of hb2
        replace hB := below_thru hB hb2
        have hz2 := hb2.size
        clear hb2
        have ⟨_, bt0, bt1, bt2⟩ := hbt
        go_wp2_with fail
        go_at_call 15
        refine (kN _ hR).mono ?_
        rintro e3 w3 ⟨rfl, hb3⟩
        clear bt0 bt1 bt2
        replace hH := hH.of hb3
        replace hN := hN.of hb3
        replace hR := hR.of hb3
        replace hM := hM.of hb3
        replace hbt := hbt.of hb3
        replace hB := below_thru hB hb3
        have hz3 := hb3.size
        clear hb3
        have ⟨_, bt0, bt1, bt2⟩ := hbt
        go_wp2_with fail
        go_at_call 16
        refine (kE _ hH hN hR).mono ?_
        rintro e4 w4 ⟨rfl, hb4⟩
        clear bt0 bt1 bt2
        replace hH := hH.of hb4
        replace hN := hN.of hb4
        replace hR := hR.of hb4
        replace hM := hM.of hb4
        replace hbt := hbt.of hb4
        replace hB := below_thru hB hb4
        have hz4 := hb4.size
        clear hb4
        have ⟨_, bt0, bt1, bt2⟩ := hbt
        go_wp2_with fail
        go_at_call 7
        refine (lif_life _ hM).mono ?_
        rintro e5 w5 ⟨rfl, hb5⟩
        clear bt0 bt1 bt2
        replace hH := hH.of hb5
        replace hN := hN.of hb5
        replace hR := hR.of hb5
        replace hM := hM.of hb5
        replace hbt := hbt.of hb5
        replace hB := below_thru hB hb5
        have hz5 := hb5.size
        clear hb5
        go_wp2_with fail
        go_ret
        exact ⟨rfl, hB⟩
end Go.Proofs.YtellglbmbocgkaaGreatDoor
