/- The walk of TimelineFollows. By mklaw54.py. -/
import Derived.Test.YtfdihjjnlmhibaaGreatLWA
import Derived.Test.YtfdihjjnlmhibaaGreatLWS
import Derived.Test.YtfdihjjnlmhibaaGreatTim22
namespace Go.Proofs.YtfdihjjnlmhibaaGreat
open Go Go.RowKit
set_option linter.unusedSimpArgs false
set_option linter.unusedVariables false
set_option maxRecDepth 100000
set_option linter.unusedSimpArgs false
set_option linter.unusedVariables false
set_option maxHeartbeats 32000000 in
theorem law_tfollows (st : Int) (A B X : Option Addr) (n c m d k e : Nat) (H : List (Int × Int)) (N : List (Int × List Int)) (key : Int) (fs : List TFr) (w : World) (hH : Rd encP 2 w A n H) (hN : RdX ekN w B m N) (hF : RdX ekFr w X k fs) (hk63 : k ≤ 9223372036854775807) :
    Calls Tryz.prog 3 #[.agg #[.int .i64 st, .slice A n c, .slice B m d], .agg #[.int .i64 key, .slice X k e]] w fun e w' => e = .returned (.bool true) ∧ Below w.heap.size w w' := by
  have kF := fun w1 h1 h2 => law_Few st A B n c m d H N w1 h1 h2
  have kG := fun w1 h => law_few54 key X k e fs w1 h hk63
  cases hv : fewT H N with
  | false =>
    rw [hv] at kF
    clear hv
    go_enter Tryz.func3, Tryz.ntmps3
    go_wp2_with fail
    have hB : Below w.heap.size w w := Below.refl _ _
    have hbt := (TrAt.new (w) (.int .i64 st) (.slice A n c) (.slice B m d) 25).of ((Below.refl _ _).alloc (Nat.le_refl _) (.cells #[.int .i64 key, .slice X k e] 28))
    have hbx := BxW.new ((w).alloc (.cells #[.int .i64 st, .slice A n c, .slice B m d] 25)) [.int .i64 key, .slice X k e] 28
    rw [show ∀ a b : Value, [a, b].toArray = #[a, b] from fun _ _ => rfl] at hbx
    rw [World.size_alloc] at hbx
    have hal : Below w.heap.size w (((w).alloc (.cells #[.int .i64 st, .slice A n c, .slice B m d] 25)).alloc (.cells #[.int .i64 key, .slice X k e] 28)) := by (repeat' (first | exact Below.refl _ _ | assumption | (refine Below.alloc ?_ ?_ _) | (refine Below.setCell ?_ ?_ _) | (refine Below.drew ?_) | (refine below_drewN ?_ _) | (refine below_after (Ext.below _) ?_ ?_) | (refine below_after (by assumption) ?_ ?_) | (simp; done) | omega | (simp; omega)))
    obtain ⟨wn, hwn⟩ : ∃ wn, wn = ((w).alloc (.cells #[.int .i64 st, .slice A n c, .slice B m d] 25)).alloc (.cells #[.int .i64 key, .slice X k e] 28) := ⟨_, rfl⟩
    have hsz2 : w.heap.size + 1 < wn.heap.size := by rw [hwn]; simp
    rw [← hwn] at hbt hbx hal ⊢
    obtain ⟨btb, hn⟩ : ∃ btb, btb = w.heap.size := ⟨_, rfl⟩
    rw [← hn] at hbt hbx ⊢
    clear hn
    obtain ⟨bxb, hn⟩ : ∃ bxb, bxb = btb + 1 := ⟨_, rfl⟩
    rw [← hn] at hbx ⊢
    clear hn
    replace hH := hH.of hal
    replace hN := hN.of hal
    replace hF := hF.of hal
    replace hB := below_thru hB hal
    clear hwn hal hsz2
    obtain ⟨w1, hwn⟩ : ∃ q, q = wn := ⟨_, rfl⟩
    subst hwn
    have ⟨_, bt0, bt1, bt2⟩ := hbt
    obtain ⟨_, bx0, bx1, -, -⟩ := hbx.open2
    go_wp2_with fail
    go_at_call 4
    refine (kF _ hH hN).mono ?_
    rintro e2 w2 ⟨rfl, hb2⟩
    clear bt0 bt1 bt2
    clear bx0 bx1
    replace hH := hH.of hb2
    replace hN := hN.of hb2
    replace hF := hF.of hb2
    replace hbt := hbt.of hb2
    replace hbx := hbx.of hb2
    replace hB := below_thru hB hb2
    have hz2 := hb2.size
    clear hb2
    have ⟨_, bt0, bt1, bt2⟩ := hbt
    obtain ⟨_, bx0, bx1, -, -⟩ := hbx.open2
    go_wp2_with fail
    go_at_call 6
    refine (alive_54 _).mono ?_
    rintro e3 w3 ⟨rfl, hb3⟩
    clear bt0 bt1 bt2
    clear bx0 bx1
    replace hH := hH.of hb3
    replace hN := hN.of hb3
    replace hF := hF.of hb3
    replace hbt := hbt.of hb3
    replace hbx := hbx.of hb3
    replace hB := below_thru hB hb3
    have hz3 := hb3.size
    clear hb3
    go_wp2_with fail
    go_ret
    exact ⟨rfl, hB⟩
  | true =>
    rw [hv] at kF
    clear hv
    cases hv : fewF fs with
    | false =>
      rw [hv] at kG
      clear hv
      go_enter Tryz.func3, Tryz.ntmps3
      go_wp2_with fail
      have hB : Below w.heap.size w w := Below.refl _ _
      have hbt := (TrAt.new (w) (.int .i64 st) (.slice A n c) (.slice B m d) 25).of ((Below.refl _ _).alloc (Nat.le_refl _) (.cells #[.int .i64 key, .slice X k e] 28))
      have hbx := BxW.new ((w).alloc (.cells #[.int .i64 st, .slice A n c, .slice B m d] 25)) [.int .i64 key, .slice X k e] 28
      rw [show ∀ a b : Value, [a, b].toArray = #[a, b] from fun _ _ => rfl] at hbx
      rw [World.size_alloc] at hbx
      have hal : Below w.heap.size w (((w).alloc (.cells #[.int .i64 st, .slice A n c, .slice B m d] 25)).alloc (.cells #[.int .i64 key, .slice X k e] 28)) := by (repeat' (first | exact Below.refl _ _ | assumption | (refine Below.alloc ?_ ?_ _) | (refine Below.setCell ?_ ?_ _) | (refine Below.drew ?_) | (refine below_drewN ?_ _) | (refine below_after (Ext.below _) ?_ ?_) | (refine below_after (by assumption) ?_ ?_) | (simp; done) | omega | (simp; omega)))
      obtain ⟨wn, hwn⟩ : ∃ wn, wn = ((w).alloc (.cells #[.int .i64 st, .slice A n c, .slice B m d] 25)).alloc (.cells #[.int .i64 key, .slice X k e] 28) := ⟨_, rfl⟩
      have hsz2 : w.heap.size + 1 < wn.heap.size := by rw [hwn]; simp
      rw [← hwn] at hbt hbx hal ⊢
      obtain ⟨btb, hn⟩ : ∃ btb, btb = w.heap.size := ⟨_, rfl⟩
      rw [← hn] at hbt hbx ⊢
      clear hn
      obtain ⟨bxb, hn⟩ : ∃ bxb, bxb = btb + 1 := ⟨_, rfl⟩
      rw [← hn] at hbx ⊢
      clear hn
      replace hH := hH.of hal
      replace hN := hN.of hal
      replace hF := hF.of hal
      replace hB := below_thru hB hal
      clear hwn hal hsz2
      obtain ⟨w1, hwn⟩ : ∃ q, q = wn := ⟨_, rfl⟩
      subst hwn
      have ⟨_, bt0, bt1, bt2⟩ := hbt
      obtain ⟨_, bx0, bx1, -, -⟩ := hbx.open2
      go_wp2_with fail
      go_at_call 4
      refine (kF _ hH hN).mono ?_
      rintro e2 w2 ⟨rfl, hb2⟩
      clear bt0 bt1 bt2
      clear bx0 bx1
      replace hH := hH.of hb2
      replace hN := hN.of hb2
      replace hF := hF.of hb2
      replace hbt := hbt.of hb2
      replace hbx := hbx.of hb2
      replace hB := below_thru hB hb2
      have hz2 := hb2.size
      clear hb2
      have ⟨_, bt0, bt1, bt2⟩ := hbt
      obtain ⟨_, bx0, bx1, -, -⟩ := hbx.open2
      go_wp2_with fail
      go_at_call 5
      refine (kG _ hF).mono ?_
      rintro e3 w3 ⟨rfl, hb3⟩
      clear bt0 bt1 bt2
      clear bx0 bx1
      replace hH := hH.of hb3
      replace hN := hN.of hb3
      replace hF := hF.of hb3
      replace hbt := hbt.of hb3
      replace hbx := hbx.of hb3
      replace hB := below_thru hB hb3
      have hz3 := hb3.size
      clear hb3
      have ⟨_, bt0, bt1, bt2⟩ := hbt
      obtain ⟨_, bx0, bx1, -, -⟩ := hbx.open2
      go_wp2_with fail
      go_at_call 6
      refine (alive_54 _).mono ?_
      rintro e4 w4 ⟨rfl, hb4⟩
      clear bt0 bt1 bt2
      clear bx0 bx1
      replace hH := hH.of hb4
      replace hN := hN.of hb4
      replace hF := hF.of hb4
      replace hbt := hbt.of hb4
      replace hbx := hbx.of hb4
      replace hB := below_thru hB hb4
      have hz4 := hb4.size
      clear hb4
      go_wp2_with fail
      go_ret
      exact ⟨rfl, hB⟩
    | true =>
      rw [hv] at kG
      obtain ⟨hsm, hk40⟩ := few_sm hv
      have hkl : k ≤ 40 := by rw [← hF.len]; exact hk40
      clear hv hk40
      have kP := fun w1 h1 h2 h3 => tl_Follows st A B X n c m d k e H N key fs w1 h1 h2 h3 hsm
      have kQ := fun w1 h1 h2 h3 => ref54_Follows st A B X n c m d k e H N key fs w1 h1 h2 h3 hsm
      generalize (foL st H N key fs).1 = a0 at kP kQ
      generalize (foL st H N key fs).2 = b0 at kP kQ
      have y0 : (a0 == a0) = true := by simp
      have y1 : (b0 == b0) = true := by simp
      go_enter Tryz.func3, Tryz.ntmps3
      go_wp2_with fail
      have hB : Below w.heap.size w w := Below.refl _ _
      have hbt := (TrAt.new (w) (.int .i64 st) (.slice A n c) (.slice B m d) 25).of ((Below.refl _ _).alloc (Nat.le_refl _) (.cells #[.int .i64 key, .slice X k e] 28))
      have hbx := BxW.new ((w).alloc (.cells #[.int .i64 st, .slice A n c, .slice B m d] 25)) [.int .i64 key, .slice X k e] 28
      rw [show ∀ a b : Value, [a, b].toArray = #[a, b] from fun _ _ => rfl] at hbx
      rw [World.size_alloc] at hbx
      have hal : Below w.heap.size w (((w).alloc (.cells #[.int .i64 st, .slice A n c, .slice B m d] 25)).alloc (.cells #[.int .i64 key, .slice X k e] 28)) := by (repeat' (first | exact Below.refl _ _ | assumption | (refine Below.alloc ?_ ?_ _) | (refine Below.setCell ?_ ?_ _) | (refine Below.drew ?_) | (refine below_drewN ?_ _) | (refine below_after (Ext.below _) ?_ ?_) | (refine below_after (by assumption) ?_ ?_) | (simp; done) | omega | (simp; omega)))
      obtain ⟨wn, hwn⟩ : ∃ wn, wn = ((w).alloc (.cells #[.int .i64 st, .slice A n c, .slice B m d] 25)).alloc (.cells #[.int .i64 key, .slice X k e] 28) := ⟨_, rfl⟩
      have hsz2 : w.heap.size + 1 < wn.heap.size := by rw [hwn]; simp
      rw [← hwn] at hbt hbx hal ⊢
      obtain ⟨btb, hn⟩ : ∃ btb, btb = w.heap.size := ⟨_, rfl⟩
      rw [← hn] at hbt hbx ⊢
      clear hn
      obtain ⟨bxb, hn⟩ : ∃ bxb, bxb = btb + 1 := ⟨_, rfl⟩
      rw [← hn] at hbx ⊢
      clear hn
      replace hH := hH.of hal
      replace hN := hN.of hal
      replace hF := hF.of hal
      replace hB := below_thru hB hal
      clear hwn hal hsz2
      obtain ⟨w1, hwn⟩ : ∃ q, q = wn := ⟨_, rfl⟩
      subst hwn
      have ⟨_, bt0, bt1, bt2⟩ := hbt
      obtain ⟨_, bx0, bx1, -, -⟩ := hbx.open2
      go_wp2_with fail
      go_at_call 4
      refine (kF _ hH hN).mono ?_
      rintro e2 w2 ⟨rfl, hb2⟩
      clear bt0 bt1 bt2
      clear bx0 bx1
      replace hH := hH.of hb2
      replace hN := hN.of hb2
      replace hF := hF.of hb2
      replace hbt := hbt.of hb2
      replace hbx := hbx.of hb2
      replace hB := below_thru hB hb2
      have hz2 := hb2.size
      clear hb2
      have ⟨_, bt0, bt1, bt2⟩ := hbt
      obtain ⟨_, bx0, bx1, -, -⟩ := hbx.open2
      go_wp2_with fail
      go_at_call 5
      refine (kG _ hF).mono ?_
      rintro e3 w3 ⟨rfl, hb3⟩
      clear bt0 bt1 bt2
      clear bx0 bx1
      replace hH := hH.of hb3
      replace hN := hN.of hb3
      replace hF := hF.of hb3
      replace hbt := hbt.of hb3
      replace hbx := hbx.of hb3
      replace hB := below_thru hB hb3
      have hz3 := hb3.size
      clear hb3
      have ⟨_, bt0, bt1, bt2⟩ := hbt
      obtain ⟨_, bx0, bx1, -, -⟩ := hbx.open2
      go_upto_region 3 with (fail)
      clear bt0 bt1 bt2
      clear bx0 bx1
      obtain ⟨WL, hWL⟩ : ∃ q, q = w3 := ⟨_, rfl⟩
      subst hWL
      go_wp2_with fail
      go_loopw [5] (fun t wr => ∃ j : Nat, t = .int .i64 j ∧ 1 ≤ j ∧ j ≤ k + 1 ∧ Below WL.heap.size WL wr) (fun t _ => k + 1 - (intOf t).toNat)
      case atStart => exact ⟨1, rfl, by omega, by omega, Below.refl _ _⟩
      case round =>
        obtain ⟨j, rfl, hj1, hj, hb⟩ := hrel
        have hL := hb
        replace hH := hH.of hb
        replace hN := hN.of hb
        replace hF := hF.of hb
        replace hbt := hbt.of hb
        replace hbx := hbx.of hb
        replace hB := below_thru hB hb
        clear hb
        by_cases hlj : j < k
        · obtain ⟨w40, hw40⟩ : ∃ q, q = wr := ⟨_, rfl⟩
          subst hw40
          have dj : decide ((j : Int) < (k : Int)) = true := decide_eq_true (by omega)
          have dj' : decide (j < k) = true := decide_eq_true hlj
          obtain ⟨jp, hjp⟩ : ∃ jp, jp = j - 1 := ⟨_, rfl⟩
          have hjk : jp < k := by omega
          have j0 : (0 : Int) ≤ (j : Int) := by omega
          have j1 : (j : Int) < (k : Int) := by omega
          have j2 : (0 : Int) ≤ (jp : Int) := by omega
          have j3 : (jp : Int) < (k : Int) := by omega
          have wk : IntKind.i64.wrap ((j : Int) - 1) = (jp : Int) := by rw [IntWalk.i64_in _ (by omega)]; omega
          clear hjp
          obtain ⟨g1, fu1, C1, D1, CA1, cn1, cc1, DA1, dn1, dc1, xo, oo, hx1, hXe, hbl, u1, -, -, -, -, -, -, -⟩ := hF.frm hlj
          obtain ⟨g0, fu0, C0, D0, CA0, cn0, cc0, DA0, dn0, dc0, xo0, oo0, hx0, hXe0, -, u0, -, -, -, -, -, -, -⟩ := hF.frm hjk
          rw [hXe] at hXe0
          injection hXe0 with hXe0
          injection hXe0 with q1 q2
          subst q1 q2 hXe
          clear hx0 hx1
          obtain ⟨dv, hdv⟩ : ∃ dv, IntKind.i64.wrap (g1 - g0) = dv := ⟨_, rfl⟩
          rcases (show (10 < dv ∧ dv ≤ 10000) ∨ (10 < dv ∧ ¬ dv ≤ 10000) ∨ ¬ 10 < dv by omega) with ⟨h1, h2⟩ | ⟨h1, h2⟩ | h1
          · have d1 : decide (10 < dv) = true := decide_eq_true h1
            have d2 : decide (dv ≤ 10000) = true := decide_eq_true h2
            clear h1 h2
            have ⟨_, bt0, bt1, bt2⟩ := hbt
            obtain ⟨_, bx0, bx1, -, -⟩ := hbx.open2
            go_wp2_with fail
            (refine wp_region_ext_lit (by kernel_rfl) (by kernel_rfl) ?_; (repeat (go_big_quiet_step (fail))); refine wpQuiet_nil ?_; intro _ hw'; obtain ⟨z7, hw''⟩ := hw'; subst hw''; have hs7 := z7.size; obtain ⟨hc7, hf7⟩ := bcell z7.below; (try simp only [World.size_alloc, World.size_setCell, World.size_drew] at hc7 hf7); (try simp at hs7))
            have hb7 : Below w40.heap.size w40 z7.world := by (repeat' (first | exact Below.refl _ _ | assumption | (refine Below.alloc ?_ ?_ _) | (refine Below.setCell ?_ ?_ _) | (refine Below.drew ?_) | (refine below_drewN ?_ _) | (refine below_after (Ext.below _) ?_ ?_) | (refine below_after (by assumption) ?_ ?_) | (simp; done) | omega | (simp; omega)))
            clear hc7 hf7 hs7
            clear bt0 bt1 bt2
            clear bx0 bx1
            try replace hH := hH.of hb7
            try replace hN := hN.of hb7
            try replace hF := hF.of hb7
            try replace hbt := hbt.of hb7
            try replace hbx := hbx.of hb7
            replace hB := below_thru hB hb7
            replace hL := below_thru hL hb7
            clear hb7 u0 u1
            generalize z7.world = w41 at *
            have ⟨_, bt0, bt1, bt2⟩ := hbt
            obtain ⟨_, bx0, bx1, -, -⟩ := hbx.open2
            go_wp2_with fail
            go_at_call 6
            refine (alive_54 _).mono ?_
            rintro e42 w42 ⟨rfl, hb42⟩
            clear bt0 bt1 bt2
            clear bx0 bx1
            replace hH := hH.of hb42
            replace hN := hN.of hb42
            replace hF := hF.of hb42
            replace hbt := hbt.of hb42
            replace hbx := hbx.of hb42
            replace hB := below_thru hB hb42
            replace hL := below_thru hL hb42
            have hz42 := hb42.size
            clear hb42
            go_wp2_with fail
            go_ret
            exact ⟨rfl, hB⟩
          · have d1 : decide (10 < dv) = true := decide_eq_true h1
            have d2 : decide (dv ≤ 10000) = false := decide_eq_false h2
            clear h1 h2
            have ⟨_, bt0, bt1, bt2⟩ := hbt
            obtain ⟨_, bx0, bx1, -, -⟩ := hbx.open2
            go_wp2_with fail
            (refine wp_region_ext_lit (by kernel_rfl) (by kernel_rfl) ?_; (repeat (go_big_quiet_step (fail))); refine wpQuiet_nil ?_; intro _ hw'; obtain ⟨z7, hw''⟩ := hw'; subst hw''; have hs7 := z7.size; obtain ⟨hc7, hf7⟩ := bcell z7.below; (try simp only [World.size_alloc, World.size_setCell, World.size_drew] at hc7 hf7); (try simp at hs7))
            have hb7 : Below w40.heap.size w40 z7.world := by (repeat' (first | exact Below.refl _ _ | assumption | (refine Below.alloc ?_ ?_ _) | (refine Below.setCell ?_ ?_ _) | (refine Below.drew ?_) | (refine below_drewN ?_ _) | (refine below_after (Ext.below _) ?_ ?_) | (refine below_after (by assumption) ?_ ?_) | (simp; done) | omega | (simp; omega)))
            clear hc7 hf7 hs7
            clear bt0 bt1 bt2
            clear bx0 bx1
            try replace hH := hH.of hb7
            try replace hN := hN.of hb7
            try replace hF := hF.of hb7
            try replace hbt := hbt.of hb7
            try replace hbx := hbx.of hb7
            replace hB := below_thru hB hb7
            replace hL := below_thru hL hb7
            clear hb7 u0 u1
            generalize z7.world = w41 at *
            go_wp2_with fail
            go_roundw
            case rel => exact ⟨j + 1, by go_num, by omega, by omega, hL⟩
            case measure => simp [intOf]; omega
          · have d1 : decide (10 < dv) = false := decide_eq_false h1
            clear h1
            have ⟨_, bt0, bt1, bt2⟩ := hbt
            obtain ⟨_, bx0, bx1, -, -⟩ := hbx.open2
            go_wp2_with fail
            (refine wp_region_ext_lit (by kernel_rfl) (by kernel_rfl) ?_; (repeat (go_big_quiet_step (fail))); refine wpQuiet_nil ?_; intro _ hw'; obtain ⟨z7, hw''⟩ := hw'; subst hw''; have hs7 := z7.size; obtain ⟨hc7, hf7⟩ := bcell z7.below; (try simp only [World.size_alloc, World.size_setCell, World.size_drew] at hc7 hf7); (try simp at hs7))
            have hb7 : Below w40.heap.size w40 z7.world := by (repeat' (first | exact Below.refl _ _ | assumption | (refine Below.alloc ?_ ?_ _) | (refine Below.setCell ?_ ?_ _) | (refine Below.drew ?_) | (refine below_drewN ?_ _) | (refine below_after (Ext.below _) ?_ ?_) | (refine below_after (by assumption) ?_ ?_) | (simp; done) | omega | (simp; omega)))
            clear hc7 hf7 hs7
            clear bt0 bt1 bt2
            clear bx0 bx1
            try replace hH := hH.of hb7
            try replace hN := hN.of hb7
            try replace hF := hF.of hb7
            try replace hbt := hbt.of hb7
            try replace hbx := hbx.of hb7
            replace hB := below_thru hB hb7
            replace hL := below_thru hL hb7
            clear hb7 u0 u1
            generalize z7.world = w41 at *
            go_wp2_with fail
            go_roundw
            case rel => exact ⟨j + 1, by go_num, by omega, by omega, hL⟩
            case measure => simp [intOf]; omega
        · obtain ⟨w60, hw60⟩ : ∃ q, q = wr := ⟨_, rfl⟩
          subst hw60
          have dj : decide ((j : Int) < (k : Int)) = false := decide_eq_false (by omega)
          have dj' : decide (j < k) = false := decide_eq_false hlj
          have ⟨_, bt0, bt1, bt2⟩ := hbt
          obtain ⟨_, bx0, bx1, -, -⟩ := hbx.open2
          go_wp2_with fail
          go_at_call 7
          refine (kP _ hH hN hF).mono ?_
          rintro e61 w61 ⟨rfl, hb61⟩
          clear bt0 bt1 bt2
          clear bx0 bx1
          replace hH := hH.of hb61
          replace hN := hN.of hb61
          replace hF := hF.of hb61
          replace hbt := hbt.of hb61
          replace hbx := hbx.of hb61
          replace hB := below_thru hB hb61
          replace hL := below_thru hL hb61
          have hz61 := hb61.size
          clear hb61
          have ⟨_, bt0, bt1, bt2⟩ := hbt
          obtain ⟨_, bx0, bx1, -, -⟩ := hbx.open2
          go_wp2_with fail
          go_at_call 8
          refine (kQ _ hH hN hF).mono ?_
          rintro e62 w62 ⟨rfl, hb62⟩
          clear bt0 bt1 bt2
          clear bx0 bx1
          replace hH := hH.of hb62
          replace hN := hN.of hb62
          replace hF := hF.of hb62
          replace hbt := hbt.of hb62
          replace hbx := hbx.of hb62
          replace hB := below_thru hB hb62
          replace hL := below_thru hL hb62
          have hz62 := hb62.size
          clear hb62
          have ⟨_, bt0, bt1, bt2⟩ := hbt
          obtain ⟨_, bx0, bx1, -, -⟩ := hbx.open2
          go_wp2_with fail
          go_at_call 6
          refine (alive_54 _).mono ?_
          rintro e63 w63 ⟨rfl, hb63⟩
          clear bt0 bt1 bt2
          clear bx0 bx1
          replace hH := hH.of hb63
          replace hN := hN.of hb63
          replace hF := hF.of hb63
          replace hbt := hbt.of hb63
          replace hbx := hbx.of hb63
          replace hB := below_thru hB hb63
          replace hL := below_thru hL hb63
          have hz63 := hb63.size
          clear hb63
          go_wp2_with fail
          go_ret
          exact ⟨rfl, hB⟩
end Go.Proofs.YtfdihjjnlmhibaaGreat
