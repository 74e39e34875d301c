/- The walk of TimelineRuns. By mklaw54.py. -/
import Derived.Test.YtabfefhicfmabaaGreatLWA
import Derived.Test.YtabfefhicfmabaaGreatLWS
import Derived.Test.YtabfefhicfmabaaGreatFLD
namespace Go.Proofs.YtabfefhicfmabaaGreat
open Go Go.RowKit
set_option linter.unusedSimpArgs false
set_option linter.unusedVariables false
set_option maxRecDepth 100000
set_option linter.unusedSimpArgs false
set_option linter.unusedVariables false
theorem run_len54 {st nn : Int} {H : List (Int × Int)} {N : List (Int × List Int)} {p : List Cel} : (runL st H N p nn).length ≤ 1000000 := by
  unfold runL
  by_cases h : runE st H N p nn = 0
  · rw [if_pos h]
    unfold runE at h
    by_cases hf : fitE st H N p = 0
    · exact Nat.le_trans (rightC_ok (it_fits (fit_iff.1 hf) _).pat).1 (by omega)
    · rw [if_neg hf] at h; exact absurd h hf
  · rw [if_neg h]; simp
set_option maxHeartbeats 32000000 in
theorem law_truns (st : Int) (A B D : Option Addr) (n c m d k e : Nat) (H : List (Int × Int)) (N : List (Int × List Int)) (p : List Cel) (G K : Int) (w : World) (hH : Rd encP 2 w A n H) (hN : RdX ekN w B m N) (hR : Rd encC 3 w D k p) (hke : k ≤ e) :
    Calls Tryz.prog 4 #[.agg #[.int .i64 st, .slice A n c, .slice B m d], .slice D k e, .agg #[.int .i64 G, .int .i64 K]] w fun e w' => e = .returned (.bool true) ∧ Below w.heap.size w w' := by
  obtain ⟨v, hv⟩ : ∃ v, (fewT H N && decide (k ≤ 60)) = v := ⟨_, rfl⟩
  have kF := fun w1 h1 h2 => law_small54 st A B D n c m d k e H N w1 hv h1 h2
  cases v with
  | false =>
    clear hv
    go_enter Tryz.func4, Tryz.ntmps4
    go_wp2_with fail
    have hB : Below w.heap.size w w := Below.refl _ _
    have hbt := (TrAt.new (w) (.int .i64 st) (.slice A n c) (.slice B m d) 25).of ((Below.refl _ _).alloc (Nat.le_refl _) (.cells #[.int .i64 G, .int .i64 K] 29))
    have hbp := BxW.new ((w).alloc (.cells #[.int .i64 st, .slice A n c, .slice B m d] 25)) [.int .i64 G, .int .i64 K] 29
    rw [show ∀ a b : Value, [a, b].toArray = #[a, b] from fun _ _ => rfl] at hbp
    rw [World.size_alloc] at hbp
    have hal : Below w.heap.size w (((w).alloc (.cells #[.int .i64 st, .slice A n c, .slice B m d] 25)).alloc (.cells #[.int .i64 G, .int .i64 K] 29)) := by (repeat' (first | exact Below.refl _ _ | assumption | (refine Below.alloc ?_ ?_ _) | (refine Below.setCell ?_ ?_ _) | (refine Below.drew ?_) | (refine below_drewN ?_ _) | (refine below_after (Ext.below _) ?_ ?_) | (refine below_after (by assumption) ?_ ?_) | (simp; done) | omega | (simp; omega)))
    obtain ⟨wn, hwn⟩ : ∃ wn, wn = ((w).alloc (.cells #[.int .i64 st, .slice A n c, .slice B m d] 25)).alloc (.cells #[.int .i64 G, .int .i64 K] 29) := ⟨_, rfl⟩
    have hsz2 : w.heap.size + 1 < wn.heap.size := by rw [hwn]; simp
    rw [← hwn] at hbt hbp hal ⊢
    obtain ⟨btb, hn⟩ : ∃ btb, btb = w.heap.size := ⟨_, rfl⟩
    rw [← hn] at hbt hbp ⊢
    clear hn
    obtain ⟨bpb, hn⟩ : ∃ bpb, bpb = btb + 1 := ⟨_, rfl⟩
    rw [← hn] at hbp ⊢
    clear hn
    replace hH := hH.of hal
    replace hN := hN.of hal
    replace hR := hR.of hal
    replace hB := below_thru hB hal
    clear hwn hal hsz2
    obtain ⟨w1, hwn⟩ : ∃ q, q = wn := ⟨_, rfl⟩
    subst hwn
    have ⟨_, bt0, bt1, bt2⟩ := hbt
    obtain ⟨_, bp0, bp1, -, -⟩ := hbp.open2
    go_wp2_with fail
    go_at_call 15
    refine (kF _ hH hN).mono ?_
    rintro e2 w2 ⟨rfl, hb2⟩
    clear bt0 bt1 bt2
    clear bp0 bp1
    replace hH := hH.of hb2
    replace hN := hN.of hb2
    replace hR := hR.of hb2
    replace hbt := hbt.of hb2
    replace hbp := hbp.of hb2
    replace hB := below_thru hB hb2
    have hz2 := hb2.size
    clear hb2
    have ⟨_, bt0, bt1, bt2⟩ := hbt
    obtain ⟨_, bp0, bp1, -, -⟩ := hbp.open2
    go_wp2_with fail
    go_at_call 16
    refine (alive_54 _).mono ?_
    rintro e3 w3 ⟨rfl, hb3⟩
    clear bt0 bt1 bt2
    clear bp0 bp1
    replace hH := hH.of hb3
    replace hN := hN.of hb3
    replace hR := hR.of hb3
    replace hbt := hbt.of hb3
    replace hbp := hbp.of hb3
    replace hB := below_thru hB hb3
    have hz3 := hb3.size
    clear hb3
    go_wp2_with fail
    go_ret
    exact ⟨rfl, hB⟩
  | true =>
    have hk : k ≤ 60 := by rw [Bool.and_eq_true, decide_eq_true_eq] at hv; exact hv.2
    clear hv
    by_cases h1 : 20 < G
    · have d1 : decide (20 < G) = true := decide_eq_true h1
      clear h1
      go_enter Tryz.func4, Tryz.ntmps4
      go_wp2_with fail
      have hB : Below w.heap.size w w := Below.refl _ _
      have hbt := (TrAt.new (w) (.int .i64 st) (.slice A n c) (.slice B m d) 25).of ((Below.refl _ _).alloc (Nat.le_refl _) (.cells #[.int .i64 G, .int .i64 K] 29))
      have hbp := BxW.new ((w).alloc (.cells #[.int .i64 st, .slice A n c, .slice B m d] 25)) [.int .i64 G, .int .i64 K] 29
      rw [show ∀ a b : Value, [a, b].toArray = #[a, b] from fun _ _ => rfl] at hbp
      rw [World.size_alloc] at hbp
      have hal : Below w.heap.size w (((w).alloc (.cells #[.int .i64 st, .slice A n c, .slice B m d] 25)).alloc (.cells #[.int .i64 G, .int .i64 K] 29)) := by (repeat' (first | exact Below.refl _ _ | assumption | (refine Below.alloc ?_ ?_ _) | (refine Below.setCell ?_ ?_ _) | (refine Below.drew ?_) | (refine below_drewN ?_ _) | (refine below_after (Ext.below _) ?_ ?_) | (refine below_after (by assumption) ?_ ?_) | (simp; done) | omega | (simp; omega)))
      obtain ⟨wn, hwn⟩ : ∃ wn, wn = ((w).alloc (.cells #[.int .i64 st, .slice A n c, .slice B m d] 25)).alloc (.cells #[.int .i64 G, .int .i64 K] 29) := ⟨_, rfl⟩
      have hsz2 : w.heap.size + 1 < wn.heap.size := by rw [hwn]; simp
      rw [← hwn] at hbt hbp hal ⊢
      obtain ⟨btb, hn⟩ : ∃ btb, btb = w.heap.size := ⟨_, rfl⟩
      rw [← hn] at hbt hbp ⊢
      clear hn
      obtain ⟨bpb, hn⟩ : ∃ bpb, bpb = btb + 1 := ⟨_, rfl⟩
      rw [← hn] at hbp ⊢
      clear hn
      replace hH := hH.of hal
      replace hN := hN.of hal
      replace hR := hR.of hal
      replace hB := below_thru hB hal
      clear hwn hal hsz2
      obtain ⟨w1, hwn⟩ : ∃ q, q = wn := ⟨_, rfl⟩
      subst hwn
      have ⟨_, bt0, bt1, bt2⟩ := hbt
      obtain ⟨_, bp0, bp1, -, -⟩ := hbp.open2
      go_wp2_with fail
      go_at_call 15
      refine (kF _ hH hN).mono ?_
      rintro e2 w2 ⟨rfl, hb2⟩
      clear bt0 bt1 bt2
      clear bp0 bp1
      replace hH := hH.of hb2
      replace hN := hN.of hb2
      replace hR := hR.of hb2
      replace hbt := hbt.of hb2
      replace hbp := hbp.of hb2
      replace hB := below_thru hB hb2
      have hz2 := hb2.size
      clear hb2
      have ⟨_, bt0, bt1, bt2⟩ := hbt
      obtain ⟨_, bp0, bp1, -, -⟩ := hbp.open2
      go_wp2_with fail
      go_at_call 16
      refine (alive_54 _).mono ?_
      rintro e3 w3 ⟨rfl, hb3⟩
      clear bt0 bt1 bt2
      clear bp0 bp1
      replace hH := hH.of hb3
      replace hN := hN.of hb3
      replace hR := hR.of hb3
      replace hbt := hbt.of hb3
      replace hbp := hbp.of hb3
      replace hB := below_thru hB hb3
      have hz3 := hb3.size
      clear hb3
      go_wp2_with fail
      go_ret
      exact ⟨rfl, hB⟩
    have d1 : decide (20 < G) = false := decide_eq_false h1
    have kP := fun w1 h1 h2 h3 => tl_Record st A B D n c m d k e H N p G K w1 h1 h2 h3 (by omega) hke
    by_cases h0 : rcE st H N p G K = 0
    · obtain ⟨r1, r2, r3, r4⟩ := rc_ok h0
      obtain ⟨gn, rfl⟩ : ∃ gn : Nat, G = gn := ⟨G.toNat, by omega⟩
      have hg20 : gn ≤ 20 := by omega
      obtain ⟨hs1, hs2⟩ := rc_sm st H N p (gn : Int) K
      obtain ⟨t1, t2, t3, t4⟩ := rc_tl h0
      have hat := Lib.hid (fun (i : Nat) (hi : i ≤ gn) => rc_at (k := i) h0 hi)
      have hfo := rc_follows h0
      rw [show rcK st H N p (gn : Int) K = K by unfold rcK; rw [if_pos h0], h0] at kP
      have kR2 := fun w1 h1 h2 h3 (j : Nat) => ref20_Run st A B D n c m d k e H N p w1 (j : Int) h1 h2 h3 (by omega) hke
      have hlen := Lib.hid (fun (j : Nat) => run_len54 (st := st) (H := H) (N := N) (p := p) (nn := (j : Int)))
      generalize rcL st H N p (gn : Int) K = L0 at kP hs1 hs2 t1 t2 t3 t4 hat hfo
      have kT := fun B q g w1 h => tl_Right K B q g L0 w1 h hs1
      have kO := fun B q g w1 h1 h2 h3 => tl_Follows st A B q n c m d g w1 h1 h2 h3
      clear h1 h0 r1 r2 r3 r4 t2 t4 hs2 kO
      rw [t1] at kT
      go_enter Tryz.func4, Tryz.ntmps4
      go_wp2_with fail
      have hB : Below w.heap.size w w := Below.refl _ _
      have hbt := (TrAt.new (w) (.int .i64 st) (.slice A n c) (.slice B m d) 25).of ((Below.refl _ _).alloc (Nat.le_refl _) (.cells #[.int .i64 (gn : Int), .int .i64 K] 29))
      have hbp := BxW.new ((w).alloc (.cells #[.int .i64 st, .slice A n c, .slice B m d] 25)) [.int .i64 (gn : Int), .int .i64 K] 29
      rw [show ∀ a b : Value, [a, b].toArray = #[a, b] from fun _ _ => rfl] at hbp
      rw [World.size_alloc] at hbp
      have hal : Below w.heap.size w (((w).alloc (.cells #[.int .i64 st, .slice A n c, .slice B m d] 25)).alloc (.cells #[.int .i64 (gn : Int), .int .i64 K] 29)) := by (repeat' (first | exact Below.refl _ _ | assumption | (refine Below.alloc ?_ ?_ _) | (refine Below.setCell ?_ ?_ _) | (refine Below.drew ?_) | (refine below_drewN ?_ _) | (refine below_after (Ext.below _) ?_ ?_) | (refine below_after (by assumption) ?_ ?_) | (simp; done) | omega | (simp; omega)))
      obtain ⟨wn, hwn⟩ : ∃ wn, wn = ((w).alloc (.cells #[.int .i64 st, .slice A n c, .slice B m d] 25)).alloc (.cells #[.int .i64 (gn : Int), .int .i64 K] 29) := ⟨_, rfl⟩
      have hsz2 : w.heap.size + 1 < wn.heap.size := by rw [hwn]; simp
      rw [← hwn] at hbt hbp hal ⊢
      obtain ⟨btb, hn⟩ : ∃ btb, btb = w.heap.size := ⟨_, rfl⟩
      rw [← hn] at hbt hbp ⊢
      clear hn
      obtain ⟨bpb, hn⟩ : ∃ bpb, bpb = btb + 1 := ⟨_, rfl⟩
      rw [← hn] at hbp ⊢
      clear hn
      replace hH := hH.of hal
      replace hN := hN.of hal
      replace hR := hR.of hal
      replace hB := below_thru hB hal
      clear hwn hal hsz2
      obtain ⟨w1, hwn⟩ : ∃ q, q = wn := ⟨_, rfl⟩
      subst hwn
      have ⟨_, bt0, bt1, bt2⟩ := hbt
      obtain ⟨_, bp0, bp1, -, -⟩ := hbp.open2
      go_wp2_with fail
      go_at_call 15
      refine (kF _ hH hN).mono ?_
      rintro e2 w2 ⟨rfl, hb2⟩
      clear bt0 bt1 bt2
      clear bp0 bp1
      replace hH := hH.of hb2
      replace hN := hN.of hb2
      replace hR := hR.of hb2
      replace hbt := hbt.of hb2
      replace hbp := hbp.of hb2
      replace hB := below_thru hB hb2
      have hz2 := hb2.size
      clear hb2
      have ⟨_, bt0, bt1, bt2⟩ := hbt
      obtain ⟨_, bp0, bp1, -, -⟩ := hbp.open2
      go_wp2_with fail
      go_at_call 17
      refine (kP _ hH hN hR).mono ?_
      rintro e3 w3 ⟨B2, m2, d2, rfl, hX2, hd2, hb3⟩
      clear bt0 bt1 bt2
      clear bp0 bp1
      replace hH := hH.of hb3
      replace hN := hN.of hb3
      replace hR := hR.of hb3
      replace hbt := hbt.of hb3
      replace hbp := hbp.of hb3
      replace hB := below_thru hB hb3
      have hz3 := hb3.size
      clear hb3
      obtain rfl : m2 = gn + 1 := by rw [← hX2.len]; exact t3
      have ⟨_, bt0, bt1, bt2⟩ := hbt
      obtain ⟨_, bp0, bp1, -, -⟩ := hbp.open2
      go_wp2_with fail
      clear bt0 bt1 bt2
      clear bp0 bp1
      have hba := BxW.new (w3) [.int .i64 K, .slice B2 (gn + 1) d2] 34
      rw [show ∀ a b : Value, [a, b].toArray = #[a, b] from fun _ _ => rfl] at hba
      have hal : Below w3.heap.size w3 ((w3).alloc (.cells #[.int .i64 K, .slice B2 (gn + 1) d2] 34)) := by (repeat' (first | exact Below.refl _ _ | assumption | (refine Below.alloc ?_ ?_ _) | (refine Below.setCell ?_ ?_ _) | (refine Below.drew ?_) | (refine below_drewN ?_ _) | (refine below_after (Ext.below _) ?_ ?_) | (refine below_after (by assumption) ?_ ?_) | (simp; done) | omega | (simp; omega)))
      obtain ⟨wn, hwn⟩ : ∃ wn, wn = (w3).alloc (.cells #[.int .i64 K, .slice B2 (gn + 1) d2] 34) := ⟨_, rfl⟩
      rw [← hwn] at hba hal ⊢
      obtain ⟨bab, hn⟩ : ∃ bab, bab = w3.heap.size := ⟨_, rfl⟩
      rw [← hn] at hba ⊢
      clear hn
      replace hH := hH.of hal
      replace hN := hN.of hal
      replace hR := hR.of hal
      replace hX2 := hX2.of hal
      replace hbt := hbt.of hal
      replace hbp := hbp.of hal
      replace hB := below_thru hB hal
      clear hwn hal
      obtain ⟨w4, hwn⟩ : ∃ q, q = wn := ⟨_, rfl⟩
      subst hwn
      have ⟨_, bt0, bt1, bt2⟩ := hbt
      obtain ⟨_, bp0, bp1, -, -⟩ := hbp.open2
      obtain ⟨_, ba0, ba1, -, -⟩ := hba.open2
      go_upto_region 6 with (fail)
      clear bt0 bt1 bt2
      clear bp0 bp1
      clear ba0 ba1
      have kA := fun w1 h (j : Nat) => tl_At K B2 (gn + 1) d2 L0 (j : Int) w1 h hs1
      have kO := fun w1 h1 h2 h3 => tl_Follows st A B B2 n c m d (gn + 1) d2 H N K L0 w1 h1 h2 h3 hs1
      rw [hfo] at kO
      clear hfo t1 t3 kP
      obtain ⟨WL, hWL⟩ : ∃ q, q = w4 := ⟨_, rfl⟩
      subst hWL
      go_wp2_with fail
      go_loopw [9] (fun t wr => ∃ j : Nat, t = .int .i64 j ∧ j ≤ gn + 1 ∧ Below WL.heap.size WL wr) (fun t _ => gn + 1 - (intOf t).toNat)
      case atStart => exact ⟨0, rfl, by omega, Below.refl _ _⟩
      case round =>
        obtain ⟨j, rfl, hj, hb⟩ := hrel
        have hL := hb
        replace hH := hH.of hb
        replace hN := hN.of hb
        replace hR := hR.of hb
        replace hX2 := hX2.of hb
        replace hbt := hbt.of hb
        replace hbp := hbp.of hb
        replace hba := hba.of hb
        replace hB := below_thru hB hb
        clear hb
        by_cases hlj : j ≤ gn
        · obtain ⟨w40, hw40⟩ : ∃ q, q = wr := ⟨_, rfl⟩
          subst hw40
          have dj : decide ((j : Int) ≤ (gn : Int)) = true := decide_eq_true (by omega)
          have dj' : decide (j ≤ gn) = true := decide_eq_true hlj
          have kA1 := fun w1 h => kA w1 h j
          have kR3 := fun w1 h1 h2 h3 => kR2 w1 h1 h2 h3 j
          obtain ⟨a1, a2, a3⟩ := hat.out j hlj
          have a4 := hlen.out j
          rw [a1, a2] at kA1
          rw [a3] at kR3
          generalize runL st H N p (j : Int) = s0 at kA1 kR3 a4
          replace a4 := Lib.hid a4
          clear a1 a2 a3 kA kR2
          have ⟨_, bt0, bt1, bt2⟩ := hbt
          obtain ⟨_, bp0, bp1, -, -⟩ := hbp.open2
          obtain ⟨_, ba0, ba1, -, -⟩ := hba.open2
          go_wp2_with fail
          go_at_call 20
          refine (kA1 _ hX2).mono ?_
          rintro e41 w41 ⟨P4, m4, d4, rfl, hR4, hd4, hm4, hb41⟩
          clear bt0 bt1 bt2
          clear bp0 bp1
          clear ba0 ba1
          replace hH := hH.of hb41
          replace hN := hN.of hb41
          replace hR := hR.of hb41
          replace hX2 := hX2.of hb41
          replace hbt := hbt.of hb41
          replace hbp := hbp.of hb41
          replace hba := hba.of hb41
          replace hB := below_thru hB hb41
          replace hL := below_thru hL hb41
          have hz41 := hb41.size
          clear hb41
          have ⟨_, bt0, bt1, bt2⟩ := hbt
          obtain ⟨_, bp0, bp1, -, -⟩ := hbp.open2
          obtain ⟨_, ba0, ba1, -, -⟩ := hba.open2
          go_wp2_with fail
          go_at_call 21
          refine (kR3 _ hH hN hR).mono ?_
          rintro e42 w42 ⟨P5, m5, d5, rfl, hR5, hd5, hb42⟩
          clear bt0 bt1 bt2
          clear bp0 bp1
          clear ba0 ba1
          replace hH := hH.of hb42
          replace hN := hN.of hb42
          replace hR := hR.of hb42
          replace hX2 := hX2.of hb42
          replace hR4 := hR4.of hb42
          replace hbt := hbt.of hb42
          replace hbp := hbp.of hb42
          replace hba := hba.of hb42
          replace hB := below_thru hB hb42
          replace hL := below_thru hL hb42
          have hz42 := hb42.size
          clear hb42
          have hm5 : m5 ≤ 1000000 := by rw [← hR5.len]; exact a4.out
          have ⟨_, bt0, bt1, bt2⟩ := hbt
          obtain ⟨_, bp0, bp1, -, -⟩ := hbp.open2
          obtain ⟨_, ba0, ba1, -, -⟩ := hba.open2
          go_wp2_with fail
          have kS := ref05_SameV (sameL_self s0) P4 P5 m4 m5 d4 d5 w42 hR4 hR5 (by omega) hm5
          go_at_call 22
          refine (kS).mono ?_
          rintro e43 w43 ⟨rfl, hb43⟩
          clear bt0 bt1 bt2
          clear bp0 bp1
          clear ba0 ba1
          replace hH := hH.of hb43
          replace hN := hN.of hb43
          replace hR := hR.of hb43
          replace hX2 := hX2.of hb43
          replace hR4 := hR4.of hb43
          replace hR5 := hR5.of hb43
          replace hbt := hbt.of hb43
          replace hbp := hbp.of hb43
          replace hba := hba.of hb43
          replace hB := below_thru hB hb43
          replace hL := below_thru hL hb43
          have hz43 := hb43.size
          clear hb43
          go_wp2_with fail
          go_roundw
          case rel => exact ⟨j + 1, by go_num, by omega, hL⟩
          case measure => simp [intOf]; omega
        · obtain ⟨w60, hw60⟩ : ∃ q, q = wr := ⟨_, rfl⟩
          subst hw60
          have dj : decide ((j : Int) ≤ (gn : Int)) = false := decide_eq_false (by omega)
          have dj' : decide (j ≤ gn) = false := decide_eq_false hlj
          have wg : IntKind.i64.wrap ((gn : Int) + 1) = (gn : Int) + 1 := IntWalk.i64_in _ (by omega)
          have wb : ((((gn + 1 : Nat) : Int)) == ((gn : Int) + 1)) = true := by simp
          have ⟨_, bt0, bt1, bt2⟩ := hbt
          obtain ⟨_, bp0, bp1, -, -⟩ := hbp.open2
          obtain ⟨_, ba0, ba1, -, -⟩ := hba.open2
          go_wp2_with fail
          go_at_call 23
          refine (kO _ hH hN hX2).mono ?_
          rintro e61 w61 ⟨rfl, hb61⟩
          clear bt0 bt1 bt2
          clear bp0 bp1
          clear ba0 ba1
          replace hH := hH.of hb61
          replace hN := hN.of hb61
          replace hR := hR.of hb61
          replace hX2 := hX2.of hb61
          replace hbt := hbt.of hb61
          replace hbp := hbp.of hb61
          replace hba := hba.of hb61
          replace hB := below_thru hB hb61
          replace hL := below_thru hL hb61
          have hz61 := hb61.size
          clear hb61
          have ⟨_, bt0, bt1, bt2⟩ := hbt
          obtain ⟨_, bp0, bp1, -, -⟩ := hbp.open2
          obtain ⟨_, ba0, ba1, -, -⟩ := hba.open2
          go_wp2_with fail
          go_at_call 24
          refine (kT _ _ _ _ hX2).mono ?_
          rintro e62 w62 ⟨rfl, hb62⟩
          clear bt0 bt1 bt2
          clear bp0 bp1
          clear ba0 ba1
          replace hH := hH.of hb62
          replace hN := hN.of hb62
          replace hR := hR.of hb62
          replace hX2 := hX2.of hb62
          replace hbt := hbt.of hb62
          replace hbp := hbp.of hb62
          replace hba := hba.of hb62
          replace hB := below_thru hB hb62
          replace hL := below_thru hL hb62
          have hz62 := hb62.size
          clear hb62
          have ⟨_, bt0, bt1, bt2⟩ := hbt
          obtain ⟨_, bp0, bp1, -, -⟩ := hbp.open2
          obtain ⟨_, ba0, ba1, -, -⟩ := hba.open2
          go_wp2_with fail
          go_at_call 16
          refine (alive_54 _).mono ?_
          rintro e63 w63 ⟨rfl, hb63⟩
          clear bt0 bt1 bt2
          clear bp0 bp1
          clear ba0 ba1
          replace hH := hH.of hb63
          replace hN := hN.of hb63
          replace hR := hR.of hb63
          replace hX2 := hX2.of hb63
          replace hbt := hbt.of hb63
          replace hbp := hbp.of hb63
          replace hba := hba.of hb63
          replace hB := below_thru hB hb63
          replace hL := below_thru hL hb63
          have hz63 := hb63.size
          clear hb63
          go_wp2_with fail
          go_ret
          exact ⟨rfl, hB⟩
    · generalize rcL st H N p G K = L0 at kP
      generalize rcK st H N p G K = k0 at kP
      generalize rcE st H N p G K = q0 at kP h0
      have e2 : (q0 != 0) = true := by simpa using h0
      have e3 : (q0 == 0) = false := by simpa using h0
      clear h0 h1
      go_enter Tryz.func4, Tryz.ntmps4
      go_wp2_with fail
      have hB : Below w.heap.size w w := Below.refl _ _
      have hbt := (TrAt.new (w) (.int .i64 st) (.slice A n c) (.slice B m d) 25).of ((Below.refl _ _).alloc (Nat.le_refl _) (.cells #[.int .i64 G, .int .i64 K] 29))
      have hbp := BxW.new ((w).alloc (.cells #[.int .i64 st, .slice A n c, .slice B m d] 25)) [.int .i64 G, .int .i64 K] 29
      rw [show ∀ a b : Value, [a, b].toArray = #[a, b] from fun _ _ => rfl] at hbp
      rw [World.size_alloc] at hbp
      have hal : Below w.heap.size w (((w).alloc (.cells #[.int .i64 st, .slice A n c, .slice B m d] 25)).alloc (.cells #[.int .i64 G, .int .i64 K] 29)) := by (repeat' (first | exact Below.refl _ _ | assumption | (refine Below.alloc ?_ ?_ _) | (refine Below.setCell ?_ ?_ _) | (refine Below.drew ?_) | (refine below_drewN ?_ _) | (refine below_after (Ext.below _) ?_ ?_) | (refine below_after (by assumption) ?_ ?_) | (simp; done) | omega | (simp; omega)))
      obtain ⟨wn, hwn⟩ : ∃ wn, wn = ((w).alloc (.cells #[.int .i64 st, .slice A n c, .slice B m d] 25)).alloc (.cells #[.int .i64 G, .int .i64 K] 29) := ⟨_, rfl⟩
      have hsz2 : w.heap.size + 1 < wn.heap.size := by rw [hwn]; simp
      rw [← hwn] at hbt hbp hal ⊢
      obtain ⟨btb, hn⟩ : ∃ btb, btb = w.heap.size := ⟨_, rfl⟩
      rw [← hn] at hbt hbp ⊢
      clear hn
      obtain ⟨bpb, hn⟩ : ∃ bpb, bpb = btb + 1 := ⟨_, rfl⟩
      rw [← hn] at hbp ⊢
      clear hn
      replace hH := hH.of hal
      replace hN := hN.of hal
      replace hR := hR.of hal
      replace hB := below_thru hB hal
      clear hwn hal hsz2
      obtain ⟨w1, hwn⟩ : ∃ q, q = wn := ⟨_, rfl⟩
      subst hwn
      have ⟨_, bt0, bt1, bt2⟩ := hbt
      obtain ⟨_, bp0, bp1, -, -⟩ := hbp.open2
      go_wp2_with fail
      go_at_call 15
      refine (kF _ hH hN).mono ?_
      rintro e2 w2 ⟨rfl, hb2⟩
      clear bt0 bt1 bt2
      clear bp0 bp1
      replace hH := hH.of hb2
      replace hN := hN.of hb2
      replace hR := hR.of hb2
      replace hbt := hbt.of hb2
      replace hbp := hbp.of hb2
      replace hB := below_thru hB hb2
      have hz2 := hb2.size
      clear hb2
      have ⟨_, bt0, bt1, bt2⟩ := hbt
      obtain ⟨_, bp0, bp1, -, -⟩ := hbp.open2
      go_wp2_with fail
      go_at_call 17
      refine (kP _ hH hN hR).mono ?_
      rintro e3 w3 ⟨B2, m2, d2, rfl, hX2, hd2, hb3⟩
      clear bt0 bt1 bt2
      clear bp0 bp1
      replace hH := hH.of hb3
      replace hN := hN.of hb3
      replace hR := hR.of hb3
      replace hbt := hbt.of hb3
      replace hbp := hbp.of hb3
      replace hB := below_thru hB hb3
      have hz3 := hb3.size
      clear hb3
      have ⟨_, bt0, bt1, bt2⟩ := hbt
      obtain ⟨_, bp0, bp1, -, -⟩ := hbp.open2
      go_wp2_with fail
      clear bt0 bt1 bt2
      clear bp0 bp1
      have hba := BxW.new (w3) [.int .i64 k0, .slice B2 m2 d2] 34
      rw [show ∀ a b : Value, [a, b].toArray = #[a, b] from fun _ _ => rfl] at hba
      have hal : Below w3.heap.size w3 ((w3).alloc (.cells #[.int .i64 k0, .slice B2 m2 d2] 34)) := by (repeat' (first | exact Below.refl _ _ | assumption | (refine Below.alloc ?_ ?_ _) | (refine Below.setCell ?_ ?_ _) | (refine Below.drew ?_) | (refine below_drewN ?_ _) | (refine below_after (Ext.below _) ?_ ?_) | (refine below_after (by assumption) ?_ ?_) | (simp; done) | omega | (simp; omega)))
      obtain ⟨wn, hwn⟩ : ∃ wn, wn = (w3).alloc (.cells #[.int .i64 k0, .slice B2 m2 d2] 34) := ⟨_, rfl⟩
      rw [← hwn] at hba hal ⊢
      obtain ⟨bab, hn⟩ : ∃ bab, bab = w3.heap.size := ⟨_, rfl⟩
      rw [← hn] at hba ⊢
      clear hn
      replace hH := hH.of hal
      replace hN := hN.of hal
      replace hR := hR.of hal
      replace hX2 := hX2.of hal
      replace hbt := hbt.of hal
      replace hbp := hbp.of hal
      replace hB := below_thru hB hal
      clear hwn hal
      obtain ⟨w4, hwn⟩ : ∃ q, q = wn := ⟨_, rfl⟩
      subst hwn
      have ⟨_, bt0, bt1, bt2⟩ := hbt
      obtain ⟨_, bp0, bp1, -, -⟩ := hbp.open2
      obtain ⟨_, ba0, ba1, -, -⟩ := hba.open2
      go_at_call 16
      refine (alive_54 _).mono ?_
      rintro e5 w5 ⟨rfl, hb5⟩
      clear bt0 bt1 bt2
      clear bp0 bp1
      clear ba0 ba1
      replace hH := hH.of hb5
      replace hN := hN.of hb5
      replace hR := hR.of hb5
      replace hX2 := hX2.of hb5
      replace hbt := hbt.of hb5
      replace hbp := hbp.of hb5
      replace hba := hba.of hb5
      replace hB := below_thru hB hb5
      have hz5 := hb5.size
      clear hb5
      go_wp2_with fail
      go_ret
      exact ⟨rfl, hB⟩
end Go.Proofs.YtabfefhicfmabaaGreat
