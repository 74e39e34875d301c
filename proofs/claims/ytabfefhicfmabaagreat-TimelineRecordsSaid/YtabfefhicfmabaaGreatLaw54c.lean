/- The walk of TimelineRecords. By mklaw54.py. -/
import Derived.Test.YtabfefhicfmabaaGreatLWA
import Derived.Test.YtabfefhicfmabaaGreatLWS
import Derived.Test.YtabfefhicfmabaaGreatTim9
import Derived.Test.YtabfefhicfmabaaGreatTMS
namespace Go.Proofs.YtabfefhicfmabaaGreat
open Go Go.RowKit
set_option linter.unusedSimpArgs false
set_option linter.unusedVariables false
set_option maxRecDepth 100000
set_option linter.unusedSimpArgs false
set_option linter.unusedVariables false
set_option maxHeartbeats 32000000 in
theorem law_trecords (st : Int) (A B D : Option Addr) (n c m d k e : Nat) (H : List (Int × Int)) (N : List (Int × List Int)) (p : List Cel) (G K : Int) (w : World) (hH : Rd encP 2 w A n H) (hN : RdX ekN w B m N) (hR : Rd encC 3 w D k p) (hke : k ≤ e) :
    Calls Tryz.prog 3 #[.agg #[.int .i64 st, .slice A n c, .slice B m d], .slice D k e, .agg #[.int .i64 G, .int .i64 K]] w fun e w' => e = .returned (.bool true) ∧ Below w.heap.size w w' := by
  obtain ⟨v, hv⟩ : ∃ v, (fewT H N && decide (k ≤ 60)) = v := ⟨_, rfl⟩
  have kF := fun w1 h1 h2 => law_small54 st A B D n c m d k e H N w1 hv h1 h2
  cases v with
  | false =>
    clear hv
    go_enter Tryz.func3, Tryz.ntmps3
    go_wp2_with fail
    have hB : Below w.heap.size w w := Below.refl _ _
    have hbt := (TrAt.new (w) (.int .i64 st) (.slice A n c) (.slice B m d) 25).of ((Below.refl _ _).alloc (Nat.le_refl _) (.cells #[.int .i64 G, .int .i64 K] 29))
    have hbp := BxW.new ((w).alloc (.cells #[.int .i64 st, .slice A n c, .slice B m d] 25)) [.int .i64 G, .int .i64 K] 29
    rw [show ∀ a b : Value, [a, b].toArray = #[a, b] from fun _ _ => rfl] at hbp
    rw [World.size_alloc] at hbp
    have hal : Below w.heap.size w (((w).alloc (.cells #[.int .i64 st, .slice A n c, .slice B m d] 25)).alloc (.cells #[.int .i64 G, .int .i64 K] 29)) := by (repeat' (first | exact Below.refl _ _ | assumption | (refine Below.alloc ?_ ?_ _) | (refine Below.setCell ?_ ?_ _) | (refine Below.drew ?_) | (refine below_drewN ?_ _) | (refine below_after (Ext.below _) ?_ ?_) | (refine below_after (by assumption) ?_ ?_) | (simp; done) | omega | (simp; omega)))
    obtain ⟨wn, hwn⟩ : ∃ wn, wn = ((w).alloc (.cells #[.int .i64 st, .slice A n c, .slice B m d] 25)).alloc (.cells #[.int .i64 G, .int .i64 K] 29) := ⟨_, rfl⟩
    have hsz2 : w.heap.size + 1 < wn.heap.size := by rw [hwn]; simp
    rw [← hwn] at hbt hbp hal ⊢
    obtain ⟨btb, hn⟩ : ∃ btb, btb = w.heap.size := ⟨_, rfl⟩
    rw [← hn] at hbt hbp ⊢
    clear hn
    obtain ⟨bpb, hn⟩ : ∃ bpb, bpb = btb + 1 := ⟨_, rfl⟩
    rw [← hn] at hbp ⊢
    clear hn
    replace hH := hH.of hal
    replace hN := hN.of hal
    replace hR := hR.of hal
    replace hB := below_thru hB hal
    clear hwn hal hsz2
    obtain ⟨w1, hwn⟩ : ∃ q, q = wn := ⟨_, rfl⟩
    subst hwn
    have ⟨_, bt0, bt1, bt2⟩ := hbt
    obtain ⟨_, bp0, bp1, -, -⟩ := hbp.open2
    go_wp2_with fail
    go_at_call 15
    refine (kF _ hH hN).mono ?_
    rintro e2 w2 ⟨rfl, hb2⟩
    clear bt0 bt1 bt2
    clear bp0 bp1
    replace hH := hH.of hb2
    replace hN := hN.of hb2
    replace hR := hR.of hb2
    replace hbt := hbt.of hb2
    replace hbp := hbp.of hb2
    replace hB := below_thru hB hb2
    have hz2 := hb2.size
    clear hb2
    have ⟨_, bt0, bt1, bt2⟩ := hbt
    obtain ⟨_, bp0, bp1, -, -⟩ := hbp.open2
    go_wp2_with fail
    go_at_call 16
    refine (alive_54 _).mono ?_
    rintro e3 w3 ⟨rfl, hb3⟩
    clear bt0 bt1 bt2
    clear bp0 bp1
    replace hH := hH.of hb3
    replace hN := hN.of hb3
    replace hR := hR.of hb3
    replace hbt := hbt.of hb3
    replace hbp := hbp.of hb3
    replace hB := below_thru hB hb3
    have hz3 := hb3.size
    clear hb3
    go_wp2_with fail
    go_ret
    exact ⟨rfl, hB⟩
  | true =>
    have hk : k ≤ 60 := by rw [Bool.and_eq_true, decide_eq_true_eq] at hv; exact hv.2
    clear hv
    have kP := fun w1 h1 h2 h3 => tl_Record st A B D n c m d k e H N p G K w1 h1 h2 h3 (by omega) hke
    have kQ := fun w1 h1 h2 h3 => ref54_Record st A B D n c m d k e H N p G K w1 h1 h2 h3 (by omega) hke
    obtain ⟨hs1, hs2⟩ := rc_sm st H N p G K
    replace hs2 := Lib.hid hs2
    generalize rcL st H N p G K = L0 at kP kQ hs1 hs2
    generalize rcK st H N p G K = k0 at kP kQ
    generalize rcE st H N p G K = q0 at kP kQ
    have e1 : (q0 == q0) = true := by simp
    by_cases hq : 20 < G ∧ G < 1000
    · have d1 : decide (20 < G) = true := decide_eq_true hq.1
      have d2 : decide (G < 1000) = true := decide_eq_true hq.2
      clear hq kP kQ
      go_enter Tryz.func3, Tryz.ntmps3
      go_wp2_with fail
      have hB : Below w.heap.size w w := Below.refl _ _
      have hbt := (TrAt.new (w) (.int .i64 st) (.slice A n c) (.slice B m d) 25).of ((Below.refl _ _).alloc (Nat.le_refl _) (.cells #[.int .i64 G, .int .i64 K] 29))
      have hbp := BxW.new ((w).alloc (.cells #[.int .i64 st, .slice A n c, .slice B m d] 25)) [.int .i64 G, .int .i64 K] 29
      rw [show ∀ a b : Value, [a, b].toArray = #[a, b] from fun _ _ => rfl] at hbp
      rw [World.size_alloc] at hbp
      have hal : Below w.heap.size w (((w).alloc (.cells #[.int .i64 st, .slice A n c, .slice B m d] 25)).alloc (.cells #[.int .i64 G, .int .i64 K] 29)) := by (repeat' (first | exact Below.refl _ _ | assumption | (refine Below.alloc ?_ ?_ _) | (refine Below.setCell ?_ ?_ _) | (refine Below.drew ?_) | (refine below_drewN ?_ _) | (refine below_after (Ext.below _) ?_ ?_) | (refine below_after (by assumption) ?_ ?_) | (simp; done) | omega | (simp; omega)))
      obtain ⟨wn, hwn⟩ : ∃ wn, wn = ((w).alloc (.cells #[.int .i64 st, .slice A n c, .slice B m d] 25)).alloc (.cells #[.int .i64 G, .int .i64 K] 29) := ⟨_, rfl⟩
      have hsz2 : w.heap.size + 1 < wn.heap.size := by rw [hwn]; simp
      rw [← hwn] at hbt hbp hal ⊢
      obtain ⟨btb, hn⟩ : ∃ btb, btb = w.heap.size := ⟨_, rfl⟩
      rw [← hn] at hbt hbp ⊢
      clear hn
      obtain ⟨bpb, hn⟩ : ∃ bpb, bpb = btb + 1 := ⟨_, rfl⟩
      rw [← hn] at hbp ⊢
      clear hn
      replace hH := hH.of hal
      replace hN := hN.of hal
      replace hR := hR.of hal
      replace hB := below_thru hB hal
      clear hwn hal hsz2
      obtain ⟨w1, hwn⟩ : ∃ q, q = wn := ⟨_, rfl⟩
      subst hwn
      have ⟨_, bt0, bt1, bt2⟩ := hbt
      obtain ⟨_, bp0, bp1, -, -⟩ := hbp.open2
      go_wp2_with fail
      go_at_call 15
      refine (kF _ hH hN).mono ?_
      rintro e2 w2 ⟨rfl, hb2⟩
      clear bt0 bt1 bt2
      clear bp0 bp1
      replace hH := hH.of hb2
      replace hN := hN.of hb2
      replace hR := hR.of hb2
      replace hbt := hbt.of hb2
      replace hbp := hbp.of hb2
      replace hB := below_thru hB hb2
      have hz2 := hb2.size
      clear hb2
      have ⟨_, bt0, bt1, bt2⟩ := hbt
      obtain ⟨_, bp0, bp1, -, -⟩ := hbp.open2
      go_wp2_with fail
      go_at_call 16
      refine (alive_54 _).mono ?_
      rintro e3 w3 ⟨rfl, hb3⟩
      clear bt0 bt1 bt2
      clear bp0 bp1
      replace hH := hH.of hb3
      replace hN := hN.of hb3
      replace hR := hR.of hb3
      replace hbt := hbt.of hb3
      replace hbp := hbp.of hb3
      replace hB := below_thru hB hb3
      have hz3 := hb3.size
      clear hb3
      go_wp2_with fail
      go_ret
      exact ⟨rfl, hB⟩
    · rcases (show (20 < G ∧ ¬ G < 1000) ∨ ¬ 20 < G by omega) with ⟨h1, h2⟩ | h1
      all_goals
        clear hq
        first
          | have d1 : decide (20 < G) = true := decide_eq_true h1
            have d2 : decide (G < 1000) = false := decide_eq_false h2
            clear h1 h2
          | have d1 : decide (20 < G) = false := decide_eq_false h1
            clear h1
      all_goals
        go_enter Tryz.func3, Tryz.ntmps3
        go_wp2_with fail
        have hB : Below w.heap.size w w := Below.refl _ _
        have hbt := (TrAt.new (w) (.int .i64 st) (.slice A n c) (.slice B m d) 25).of ((Below.refl _ _).alloc (Nat.le_refl _) (.cells #[.int .i64 G, .int .i64 K] 29))
        have hbp := BxW.new ((w).alloc (.cells #[.int .i64 st, .slice A n c, .slice B m d] 25)) [.int .i64 G, .int .i64 K] 29
        rw [show ∀ a b : Value, [a, b].toArray = #[a, b] from fun _ _ => rfl] at hbp
        rw [World.size_alloc] at hbp
        have hal : Below w.heap.size w (((w).alloc (.cells #[.int .i64 st, .slice A n c, .slice B m d] 25)).alloc (.cells #[.int .i64 G, .int .i64 K] 29)) := by (repeat' (first | exact Below.refl _ _ | assumption | (refine Below.alloc ?_ ?_ _) | (refine Below.setCell ?_ ?_ _) | (refine Below.drew ?_) | (refine below_drewN ?_ _) | (refine below_after (Ext.below _) ?_ ?_) | (refine below_after (by assumption) ?_ ?_) | (simp; done) | omega | (simp; omega)))
        obtain ⟨wn, hwn⟩ : ∃ wn, wn = ((w).alloc (.cells #[.int .i64 st, .slice A n c, .slice B m d] 25)).alloc (.cells #[.int .i64 G, .int .i64 K] 29) := ⟨_, rfl⟩
        have hsz2 : w.heap.size + 1 < wn.heap.size := by rw [hwn]; simp
        rw [← hwn] at hbt hbp hal ⊢
        obtain ⟨btb, hn⟩ : ∃ btb, btb = w.heap.size := ⟨_, rfl⟩
        rw [← hn] at hbt hbp ⊢
        clear hn
        obtain ⟨bpb, hn⟩ : ∃ bpb, bpb = btb + 1 := ⟨_, rfl⟩
        rw [← hn] at hbp ⊢
        clear hn
        replace hH := hH.of hal
        replace hN := hN.of hal
        replace hR := hR.of hal
        replace hB := below_thru hB hal
        clear hwn hal hsz2
        obtain ⟨w1, hwn⟩ : ∃ q, q = wn := ⟨_, rfl⟩
        subst hwn
        have ⟨_, bt0, bt1, bt2⟩ := hbt
        obtain ⟨_, bp0, bp1, -, -⟩ := hbp.open2
        go_wp2_with fail
        go_at_call 15
        refine (kF _ hH hN).mono ?_
        rintro e2 w2 ⟨rfl, hb2⟩
        clear bt0 bt1 bt2
        clear bp0 bp1
        replace hH := hH.of hb2
        replace hN := hN.of hb2
        replace hR := hR.of hb2
        replace hbt := hbt.of hb2
        replace hbp := hbp.of hb2
        replace hB := below_thru hB hb2
        have hz2 := hb2.size
        clear hb2
        have ⟨_, bt0, bt1, bt2⟩ := hbt
        obtain ⟨_, bp0, bp1, -, -⟩ := hbp.open2
        go_wp2_with fail
        go_at_call 17
        refine (kP _ hH hN hR).mono ?_
        rintro e3 w3 ⟨B2, m2, d2, rfl, hX2, hd2, hb3⟩
        clear bt0 bt1 bt2
        clear bp0 bp1
        replace hH := hH.of hb3
        replace hN := hN.of hb3
        replace hR := hR.of hb3
        replace hbt := hbt.of hb3
        replace hbp := hbp.of hb3
        replace hB := below_thru hB hb3
        have hz3 := hb3.size
        clear hb3
        have ⟨_, bt0, bt1, bt2⟩ := hbt
        obtain ⟨_, bp0, bp1, -, -⟩ := hbp.open2
        go_wp2_with fail
        clear bt0 bt1 bt2
        clear bp0 bp1
        have hba := BxW.new (w3) [.int .i64 k0, .slice B2 m2 d2] 34
        rw [show ∀ a b : Value, [a, b].toArray = #[a, b] from fun _ _ => rfl] at hba
        have hal : Below w3.heap.size w3 ((w3).alloc (.cells #[.int .i64 k0, .slice B2 m2 d2] 34)) := by (repeat' (first | exact Below.refl _ _ | assumption | (refine Below.alloc ?_ ?_ _) | (refine Below.setCell ?_ ?_ _) | (refine Below.drew ?_) | (refine below_drewN ?_ _) | (refine below_after (Ext.below _) ?_ ?_) | (refine below_after (by assumption) ?_ ?_) | (simp; done) | omega | (simp; omega)))
        obtain ⟨wn, hwn⟩ : ∃ wn, wn = (w3).alloc (.cells #[.int .i64 k0, .slice B2 m2 d2] 34) := ⟨_, rfl⟩
        rw [← hwn] at hba hal ⊢
        obtain ⟨bab, hn⟩ : ∃ bab, bab = w3.heap.size := ⟨_, rfl⟩
        rw [← hn] at hba ⊢
        clear hn
        replace hH := hH.of hal
        replace hN := hN.of hal
        replace hR := hR.of hal
        replace hX2 := hX2.of hal
        replace hbt := hbt.of hal
        replace hbp := hbp.of hal
        replace hB := below_thru hB hal
        clear hwn hal
        obtain ⟨w4, hwn⟩ : ∃ q, q = wn := ⟨_, rfl⟩
        subst hwn
        have ⟨_, bt0, bt1, bt2⟩ := hbt
        obtain ⟨_, bp0, bp1, -, -⟩ := hbp.open2
        obtain ⟨_, ba0, ba1, -, -⟩ := hba.open2
        go_at_call 18
        refine (kQ _ hH hN hR).mono ?_
        rintro e5 w5 ⟨B3, m3, d3, rfl, hX3, hd3, hb5⟩
        clear bt0 bt1 bt2
        clear bp0 bp1
        clear ba0 ba1
        replace hH := hH.of hb5
        replace hN := hN.of hb5
        replace hR := hR.of hb5
        replace hX2 := hX2.of hb5
        replace hbt := hbt.of hb5
        replace hbp := hbp.of hb5
        replace hba := hba.of hb5
        replace hB := below_thru hB hb5
        have hz5 := hb5.size
        clear hb5
        have ⟨_, bt0, bt1, bt2⟩ := hbt
        obtain ⟨_, bp0, bp1, -, -⟩ := hbp.open2
        obtain ⟨_, ba0, ba1, -, -⟩ := hba.open2
        go_wp2_with fail
        clear bt0 bt1 bt2
        clear bp0 bp1
        clear ba0 ba1
        have hbb := BxW.new (w5) [.int .i64 k0, .slice B3 m3 d3] 34
        rw [show ∀ a b : Value, [a, b].toArray = #[a, b] from fun _ _ => rfl] at hbb
        have hal : Below w5.heap.size w5 ((w5).alloc (.cells #[.int .i64 k0, .slice B3 m3 d3] 34)) := by (repeat' (first | exact Below.refl _ _ | assumption | (refine Below.alloc ?_ ?_ _) | (refine Below.setCell ?_ ?_ _) | (refine Below.drew ?_) | (refine below_drewN ?_ _) | (refine below_after (Ext.below _) ?_ ?_) | (refine below_after (by assumption) ?_ ?_) | (simp; done) | omega | (simp; omega)))
        obtain ⟨wn, hwn⟩ : ∃ wn, wn = (w5).alloc (.cells #[.int .i64 k0, .slice B3 m3 d3] 34) := ⟨_, rfl⟩
        rw [← hwn] at hbb hal ⊢
        obtain ⟨bbb, hn⟩ : ∃ bbb, bbb = w5.heap.size := ⟨_, rfl⟩
        rw [← hn] at hbb ⊢
        clear hn
        replace hH := hH.of hal
        replace hN := hN.of hal
        replace hR := hR.of hal
        replace hX2 := hX2.of hal
        replace hX3 := hX3.of hal
        replace hbt := hbt.of hal
        replace hbp := hbp.of hal
        replace hba := hba.of hal
        replace hB := below_thru hB hal
        clear hwn hal
        obtain ⟨w6, hwn⟩ : ∃ q, q = wn := ⟨_, rfl⟩
        subst hwn
        have ⟨_, bt0, bt1, bt2⟩ := hbt
        obtain ⟨_, bp0, bp1, -, -⟩ := hbp.open2
        obtain ⟨_, ba0, ba1, -, -⟩ := hba.open2
        obtain ⟨_, bb0, bb1, -, -⟩ := hbb.open2
        have hm2 : m2 ≤ 1000000 := by rw [← hX2.len]; exact hs2.out
        have kS := ref54_Same k0 k0 B2 B3 m2 d2 m3 d3 L0 L0 w6 hX2 hX3 hs1 hs1 hm2
        rw [tlS_self] at kS
        go_at_call 19
        refine (kS).mono ?_
        rintro e7 w7 ⟨rfl, hb7⟩
        clear bt0 bt1 bt2
        clear bp0 bp1
        clear ba0 ba1
        clear bb0 bb1
        replace hH := hH.of hb7
        replace hN := hN.of hb7
        replace hR := hR.of hb7
        replace hX2 := hX2.of hb7
        replace hX3 := hX3.of hb7
        replace hbt := hbt.of hb7
        replace hbp := hbp.of hb7
        replace hba := hba.of hb7
        replace hbb := hbb.of hb7
        replace hB := below_thru hB hb7
        have hz7 := hb7.size
        clear hb7
        have ⟨_, bt0, bt1, bt2⟩ := hbt
        obtain ⟨_, bp0, bp1, -, -⟩ := hbp.open2
        obtain ⟨_, ba0, ba1, -, -⟩ := hba.open2
        obtain ⟨_, bb0, bb1, -, -⟩ := hbb.open2
        go_wp2_with fail
        go_at_call 16
        refine (alive_54 _).mono ?_
        rintro e8 w8 ⟨rfl, hb8⟩
        clear bt0 bt1 bt2
        clear bp0 bp1
        clear ba0 ba1
        clear bb0 bb1
        replace hH := hH.of hb8
        replace hN := hN.of hb8
        replace hR := hR.of hb8
        replace hX2 := hX2.of hb8
        replace hX3 := hX3.of hb8
        replace hbt := hbt.of hb8
        replace hbp := hbp.of hb8
        replace hba := hba.of hb8
        replace hbb := hbb.of hb8
        replace hB := below_thru hB hb8
        have hz8 := hb8.size
        clear hb8
        go_wp2_with fail
        go_ret
        exact ⟨rfl, hB⟩
end Go.Proofs.YtabfefhicfmabaaGreat
