/- The walk of TopTimeline. By mktop.py. -/
import Derived.Test.YtellglbmbocgkaaGreatDoorLifT
import Derived.Test.YtellglbmbocgkaaGreatDoorTopS
import Derived.Test.YtellglbmbocgkaaGreatDoorTopP
import Derived.Test.YtellglbmbocgkaaGreatDoorTim8
import Derived.Test.YtellglbmbocgkaaGreatDoorTMD
import Derived.Test.YtellglbmbocgkaaGreatDoorDIR
namespace Go.Proofs.YtellglbmbocgkaaGreatDoor
open Go Go.RowKit
set_option linter.unusedSimpArgs false
set_option linter.unusedVariables false
set_option maxRecDepth 100000
set_option linter.unusedSimpArgs false
set_option linter.unusedVariables false
set_option maxHeartbeats 32000000 in
theorem law_toptl (st : Int) (A B D : Option Addr) (n c m d k e : Nat) (H : List (Int × Int)) (N : List (Int × List Int)) (p : List Cel) (a b : Nat) (w : World) (hH : Rd encP 2 w A n H) (hN : RdX ekN w B m N) (hR : Rd encC 3 w D k p) (hke : k ≤ e) (ha8 : a ≤ 255) (hb8 : b ≤ 255) (hM : Mlx w) :
    Calls Tryz.prog 3 #[.agg #[.int .i64 st, .slice A n c, .slice B m d], .slice D k e, .agg #[.int .u8 (a : Int), .int .u8 (b : Int)]] w fun e w' => e = .returned (.bool true) ∧ Below w.heap.size w w' := by
  obtain ⟨v, hv⟩ : ∃ v, (fewT H N && decide (k ≤ 60)) = v := ⟨_, rfl⟩
  have kF := fun w1 h1 h2 => law_Small st A B D n c m d k e H N w1 rfl hv h1 h2
  have c0 : IntKind.i64.wrap (a : Int) = (a : Int) := IntWalk.i64_in _ (by omega)
  have c1 : IntKind.i64.wrap (b : Int) = (b : Int) := IntWalk.i64_in _ (by omega)
  cases v with
  | false =>
    clear hv
    go_enter Tryz.func3, Tryz.ntmps3
    go_wp2_with fail
    have hB : Below w.heap.size w w := Below.refl _ _
    have hbt := (TrAt.new (w) (.int .i64 st) (.slice A n c) (.slice B m d) 25).of ((Below.refl _ _).alloc (Nat.le_refl _) (.cells #[.int .u8 (a : Int), .int .u8 (b : Int)] 28))
    have hbx := BxW.new ((w).alloc (.cells #[.int .i64 st, .slice A n c, .slice B m d] 25)) [.int .u8 (a : Int), .int .u8 (b : Int)] 28
    rw [show ∀ a b : Value, [a, b].toArray = #[a, b] from fun _ _ => rfl] at hbx
    rw [World.size_alloc] at hbx
    have hal : Below w.heap.size w (((w).alloc (.cells #[.int .i64 st, .slice A n c, .slice B m d] 25)).alloc (.cells #[.int .u8 (a : Int), .int .u8 (b : Int)] 28)) := by (repeat' (first | exact Below.refl _ _ | assumption | (refine Below.alloc ?_ ?_ _) | (refine Below.setCell ?_ ?_ _) | (refine Below.drew ?_) | (refine below_drewN ?_ _) | (refine below_after (Ext.below _) ?_ ?_) | (refine below_after (by assumption) ?_ ?_) | (simp; done) | omega | (simp; omega)))
    obtain ⟨wn, hwn⟩ : ∃ wn, wn = ((w).alloc (.cells #[.int .i64 st, .slice A n c, .slice B m d] 25)).alloc (.cells #[.int .u8 (a : Int), .int .u8 (b : Int)] 28) := ⟨_, rfl⟩
    have hsz2 : w.heap.size + 1 < wn.heap.size := by rw [hwn]; simp
    rw [← hwn] at hbt hbx hal ⊢
    obtain ⟨btb, hn⟩ : ∃ btb, btb = w.heap.size := ⟨_, rfl⟩
    rw [← hn] at hbt hbx ⊢
    clear hn
    obtain ⟨bxb, hn⟩ : ∃ bxb, bxb = btb + 1 := ⟨_, rfl⟩
    rw [← hn] at hbx ⊢
    clear hn
    replace hH := hH.of hal
    replace hN := hN.of hal
    replace hR := hR.of hal
    replace hM := hM.of hal
    replace hB := below_thru hB hal
    clear hwn hal hsz2
    obtain ⟨w1, hwn⟩ : ∃ q, q = wn := ⟨_, rfl⟩
    subst hwn
    have ⟨_, bt0, bt1, bt2⟩ := hbt
    obtain ⟨_, bx0, bx1, -, -⟩ := hbx.open2
    go_upto_region 1 with (fail)
    (refine wp_region_ext_lit (by kernel_rfl) (by kernel_rfl) ?_; (repeat (go_big_quiet_step (fail))); refine wpQuiet_nil ?_; intro _ hw'; obtain ⟨z2, hw''⟩ := hw'; subst hw''; have hs2 := z2.size; obtain ⟨hc2, hf2⟩ := bcell z2.below; (try simp only [World.size_alloc, World.size_setCell, World.size_drew] at hc2 hf2); (try simp at hs2))
    clear hc2 hf2 hs2
    clear bt0 bt1 bt2
    clear bx0 bx1
    have hb2 := z2.below
    generalize z2.world = w2 at hb2 ⊢
    replace hH := hH.of hb2
    replace hN := hN.of hb2
    replace hR := hR.of hb2
    replace hM := hM.of hb2
    replace hbt := hbt.of hb2
    replace hbx := hbx.of hb2
    replace hB := below_thru hB hb2
    clear hb2
    have ⟨_, bt0, bt1, bt2⟩ := hbt
    obtain ⟨_, bx0, bx1, -, -⟩ := hbx.open2
    go_wp2_with fail
    go_at_call 6
    refine (kF _ hH hN).mono ?_
    rintro e3 w3 ⟨rfl, hb3⟩
    clear bt0 bt1 bt2
    clear bx0 bx1
    replace hH := hH.of hb3
    replace hN := hN.of hb3
    replace hR := hR.of hb3
    replace hM := hM.of hb3
    replace hbt := hbt.of hb3
    replace hbx := hbx.of hb3
    replace hB := below_thru hB hb3
    have hz3 := hb3.size
    clear hb3
    have ⟨_, bt0, bt1, bt2⟩ := hbt
    obtain ⟨_, bx0, bx1, -, -⟩ := hbx.open2
    go_wp2_with fail
    go_at_call 7
    refine (lif_life _ hM).mono ?_
    rintro e4 w4 ⟨rfl, hb4⟩
    clear bt0 bt1 bt2
    clear bx0 bx1
    replace hH := hH.of hb4
    replace hN := hN.of hb4
    replace hR := hR.of hb4
    replace hM := hM.of hb4
    replace hbt := hbt.of hb4
    replace hbx := hbx.of hb4
    replace hB := below_thru hB hb4
    have hz4 := hb4.size
    clear hb4
    go_wp2_with fail
    go_ret
    exact ⟨rfl, hB⟩
  | true =>
    have hk : k ≤ 60 := by rw [Bool.and_eq_true, decide_eq_true_eq] at hv; exact hv.2
    clear hv
    by_cases h8 : 8 < a
    · have d1 : decide (8 < (a : Int)) = true := decide_eq_true (by omega)
      have d1' : decide (8 < a) = true := decide_eq_true h8
      clear h8
      go_enter Tryz.func3, Tryz.ntmps3
      go_wp2_with fail
      have hB : Below w.heap.size w w := Below.refl _ _
      have hbt := (TrAt.new (w) (.int .i64 st) (.slice A n c) (.slice B m d) 25).of ((Below.refl _ _).alloc (Nat.le_refl _) (.cells #[.int .u8 (a : Int), .int .u8 (b : Int)] 28))
      have hbx := BxW.new ((w).alloc (.cells #[.int .i64 st, .slice A n c, .slice B m d] 25)) [.int .u8 (a : Int), .int .u8 (b : Int)] 28
      rw [show ∀ a b : Value, [a, b].toArray = #[a, b] from fun _ _ => rfl] at hbx
      rw [World.size_alloc] at hbx
      have hal : Below w.heap.size w (((w).alloc (.cells #[.int .i64 st, .slice A n c, .slice B m d] 25)).alloc (.cells #[.int .u8 (a : Int), .int .u8 (b : Int)] 28)) := by (repeat' (first | exact Below.refl _ _ | assumption | (refine Below.alloc ?_ ?_ _) | (refine Below.setCell ?_ ?_ _) | (refine Below.drew ?_) | (refine below_drewN ?_ _) | (refine below_after (Ext.below _) ?_ ?_) | (refine below_after (by assumption) ?_ ?_) | (simp; done) | omega | (simp; omega)))
      obtain ⟨wn, hwn⟩ : ∃ wn, wn = ((w).alloc (.cells #[.int .i64 st, .slice A n c, .slice B m d] 25)).alloc (.cells #[.int .u8 (a : Int), .int .u8 (b : Int)] 28) := ⟨_, rfl⟩
      have hsz2 : w.heap.size + 1 < wn.heap.size := by rw [hwn]; simp
      rw [← hwn] at hbt hbx hal ⊢
      obtain ⟨btb, hn⟩ : ∃ btb, btb = w.heap.size := ⟨_, rfl⟩
      rw [← hn] at hbt hbx ⊢
      clear hn
      obtain ⟨bxb, hn⟩ : ∃ bxb, bxb = btb + 1 := ⟨_, rfl⟩
      rw [← hn] at hbx ⊢
      clear hn
      replace hH := hH.of hal
      replace hN := hN.of hal
      replace hR := hR.of hal
      replace hM := hM.of hal
      replace hB := below_thru hB hal
      clear hwn hal hsz2
      obtain ⟨w1, hwn⟩ : ∃ q, q = wn := ⟨_, rfl⟩
      subst hwn
      have ⟨_, bt0, bt1, bt2⟩ := hbt
      obtain ⟨_, bx0, bx1, -, -⟩ := hbx.open2
      go_upto_region 1 with (fail)
      (refine wp_region_ext_lit (by kernel_rfl) (by kernel_rfl) ?_; (repeat (go_big_quiet_step (fail))); refine wpQuiet_nil ?_; intro _ hw'; obtain ⟨z2, hw''⟩ := hw'; subst hw''; have hs2 := z2.size; obtain ⟨hc2, hf2⟩ := bcell z2.below; (try simp only [World.size_alloc, World.size_setCell, World.size_drew] at hc2 hf2); (try simp at hs2))
      clear hc2 hf2 hs2
      clear bt0 bt1 bt2
      clear bx0 bx1
      have hb2 := z2.below
      generalize z2.world = w2 at hb2 ⊢
      replace hH := hH.of hb2
      replace hN := hN.of hb2
      replace hR := hR.of hb2
      replace hM := hM.of hb2
      replace hbt := hbt.of hb2
      replace hbx := hbx.of hb2
      replace hB := below_thru hB hb2
      clear hb2
      have ⟨_, bt0, bt1, bt2⟩ := hbt
      obtain ⟨_, bx0, bx1, -, -⟩ := hbx.open2
      go_wp2_with fail
      go_at_call 6
      refine (kF _ hH hN).mono ?_
      rintro e3 w3 ⟨rfl, hb3⟩
      clear bt0 bt1 bt2
      clear bx0 bx1
      replace hH := hH.of hb3
      replace hN := hN.of hb3
      replace hR := hR.of hb3
      replace hM := hM.of hb3
      replace hbt := hbt.of hb3
      replace hbx := hbx.of hb3
      replace hB := below_thru hB hb3
      have hz3 := hb3.size
      clear hb3
      have ⟨_, bt0, bt1, bt2⟩ := hbt
      obtain ⟨_, bx0, bx1, -, -⟩ := hbx.open2
      go_wp2_with fail
      go_at_call 7
      refine (lif_life _ hM).mono ?_
      rintro e4 w4 ⟨rfl, hb4⟩
      clear bt0 bt1 bt2
      clear bx0 bx1
      replace hH := hH.of hb4
      replace hN := hN.of hb4
      replace hR := hR.of hb4
      replace hM := hM.of hb4
      replace hbt := hbt.of hb4
      replace hbx := hbx.of hb4
      replace hB := below_thru hB hb4
      have hz4 := hb4.size
      clear hb4
      go_wp2_with fail
      go_ret
      exact ⟨rfl, hB⟩
    have d1 : decide (8 < (a : Int)) = false := decide_eq_false (by omega)
    have d1' : decide (8 < a) = false := decide_eq_false h8
    have kP := fun w1 h1 h2 h3 => tl_Record st A B D n c m d k e H N p (a : Int) (b : Int) w1 h1 h2 h3 (by omega) hke
    by_cases h0 : rcE st H N p (a : Int) (b : Int) = 0
    · obtain ⟨r1, r2, r3, r4⟩ := rc_ok h0
      obtain ⟨hs1, hs2⟩ := rc_sm st H N p (a : Int) (b : Int)
      obtain ⟨t1, t2, t3, t4⟩ := rc_tl h0
      have hat := Lib.hid (fun (i : Nat) (hi : i ≤ a) => show atE (b : Int) (rcL st H N p (a : Int) (b : Int)) (i : Int) = 0 ∧ atL (b : Int) (rcL st H N p (a : Int) (b : Int)) (i : Int) = (itS H N p i).2 from ⟨(rc_at (k := i) h0 hi).1, by rw [(rc_at (k := i) h0 hi).2.1]; exact (runX r1 (by omega)).2⟩)
      have hhi := Lib.hid (fun (i : Nat) (hi : i ≤ a) => his_get (st := st) (H := H) (N := N) (p := p) (n := a) (i := i) r4 hi)
      have hhl := Lib.hid (his_len' (st := st) (H := H) (N := N) (p := p) (n := a) r4)
      have hpl := Lib.hid (fun (i : Nat) => (rightC_ok (it_fits r1 i).pat).1)
      have hfo := rc_follows h0
      have hdf := df_self t1
      have kI := fun w1 h1 h2 h3 => direct_History st A B D n c m d k e H N p w1 (a : Int) h1 h2 h3 (by omega) hke
      rw [r4] at kI
      rw [show rcK st H N p (a : Int) (b : Int) = (b : Int) by unfold rcK; rw [if_pos h0], h0] at kP
      generalize rcL st H N p (a : Int) (b : Int) = L0 at kP hs1 hs2 t1 t2 t3 t4 hat hfo hdf
      generalize hisL st H N p (a : Int) = HL at kI hhi hhl
      clear h8 h0 r1 r2 r3 r4 t2 t4 hs2
      go_enter Tryz.func3, Tryz.ntmps3
      go_wp2_with fail
      have hB : Below w.heap.size w w := Below.refl _ _
      have hbt := (TrAt.new (w) (.int .i64 st) (.slice A n c) (.slice B m d) 25).of ((Below.refl _ _).alloc (Nat.le_refl _) (.cells #[.int .u8 (a : Int), .int .u8 (b : Int)] 28))
      have hbx := BxW.new ((w).alloc (.cells #[.int .i64 st, .slice A n c, .slice B m d] 25)) [.int .u8 (a : Int), .int .u8 (b : Int)] 28
      rw [show ∀ a b : Value, [a, b].toArray = #[a, b] from fun _ _ => rfl] at hbx
      rw [World.size_alloc] at hbx
      have hal : Below w.heap.size w (((w).alloc (.cells #[.int .i64 st, .slice A n c, .slice B m d] 25)).alloc (.cells #[.int .u8 (a : Int), .int .u8 (b : Int)] 28)) := by (repeat' (first | exact Below.refl _ _ | assumption | (refine Below.alloc ?_ ?_ _) | (refine Below.setCell ?_ ?_ _) | (refine Below.drew ?_) | (refine below_drewN ?_ _) | (refine below_after (Ext.below _) ?_ ?_) | (refine below_after (by assumption) ?_ ?_) | (simp; done) | omega | (simp; omega)))
      obtain ⟨wn, hwn⟩ : ∃ wn, wn = ((w).alloc (.cells #[.int .i64 st, .slice A n c, .slice B m d] 25)).alloc (.cells #[.int .u8 (a : Int), .int .u8 (b : Int)] 28) := ⟨_, rfl⟩
      have hsz2 : w.heap.size + 1 < wn.heap.size := by rw [hwn]; simp
      rw [← hwn] at hbt hbx hal ⊢
      obtain ⟨btb, hn⟩ : ∃ btb, btb = w.heap.size := ⟨_, rfl⟩
      rw [← hn] at hbt hbx ⊢
      clear hn
      obtain ⟨bxb, hn⟩ : ∃ bxb, bxb = btb + 1 := ⟨_, rfl⟩
      rw [← hn] at hbx ⊢
      clear hn
      replace hH := hH.of hal
      replace hN := hN.of hal
      replace hR := hR.of hal
      replace hM := hM.of hal
      replace hB := below_thru hB hal
      clear hwn hal hsz2
      obtain ⟨w1, hwn⟩ : ∃ q, q = wn := ⟨_, rfl⟩
      subst hwn
      have ⟨_, bt0, bt1, bt2⟩ := hbt
      obtain ⟨_, bx0, bx1, -, -⟩ := hbx.open2
      go_upto_region 1 with (fail)
      (refine wp_region_ext_lit (by kernel_rfl) (by kernel_rfl) ?_; (repeat (go_big_quiet_step (fail))); refine wpQuiet_nil ?_; intro _ hw'; obtain ⟨z2, hw''⟩ := hw'; subst hw''; have hs2 := z2.size; obtain ⟨hc2, hf2⟩ := bcell z2.below; (try simp only [World.size_alloc, World.size_setCell, World.size_drew] at hc2 hf2); (try simp at hs2))
      clear hc2 hf2 hs2
      clear bt0 bt1 bt2
      clear bx0 bx1
      have hb2 := z2.below
      generalize z2.world = w2 at hb2 ⊢
      replace hH := hH.of hb2
      replace hN := hN.of hb2
      replace hR := hR.of hb2
      replace hM := hM.of hb2
      replace hbt := hbt.of hb2
      replace hbx := hbx.of hb2
      replace hB := below_thru hB hb2
      clear hb2
      have ⟨_, bt0, bt1, bt2⟩ := hbt
      obtain ⟨_, bx0, bx1, -, -⟩ := hbx.open2
      go_wp2_with fail
      go_at_call 6
      refine (kF _ hH hN).mono ?_
      rintro e3 w3 ⟨rfl, hb3⟩
      clear bt0 bt1 bt2
      clear bx0 bx1
      replace hH := hH.of hb3
      replace hN := hN.of hb3
      replace hR := hR.of hb3
      replace hM := hM.of hb3
      replace hbt := hbt.of hb3
      replace hbx := hbx.of hb3
      replace hB := below_thru hB hb3
      have hz3 := hb3.size
      clear hb3
      have ⟨_, bt0, bt1, bt2⟩ := hbt
      obtain ⟨_, bx0, bx1, -, -⟩ := hbx.open2
      go_wp2_with fail
      go_at_call 8
      refine (kP _ hH hN hR).mono ?_
      rintro e4 w4 ⟨B2, m2, d2, rfl, hX2, hd2, hb4⟩
      clear bt0 bt1 bt2
      clear bx0 bx1
      replace hH := hH.of hb4
      replace hN := hN.of hb4
      replace hR := hR.of hb4
      replace hM := hM.of hb4
      replace hbt := hbt.of hb4
      replace hbx := hbx.of hb4
      replace hB := below_thru hB hb4
      have hz4 := hb4.size
      clear hb4
      obtain rfl : m2 = a + 1 := by rw [← hX2.len]; exact t3
      have ⟨_, bt0, bt1, bt2⟩ := hbt
      obtain ⟨_, bx0, bx1, -, -⟩ := hbx.open2
      go_wp2_with fail
      clear bt0 bt1 bt2
      clear bx0 bx1
      have hba := BxW.new (w4) [.int .i64 (b : Int), .slice B2 (a + 1) d2] 33
      rw [show ∀ a b : Value, [a, b].toArray = #[a, b] from fun _ _ => rfl] at hba
      have hal : Below w4.heap.size w4 ((w4).alloc (.cells #[.int .i64 (b : Int), .slice B2 (a + 1) d2] 33)) := by (repeat' (first | exact Below.refl _ _ | assumption | (refine Below.alloc ?_ ?_ _) | (refine Below.setCell ?_ ?_ _) | (refine Below.drew ?_) | (refine below_drewN ?_ _) | (refine below_after (Ext.below _) ?_ ?_) | (refine below_after (by assumption) ?_ ?_) | (simp; done) | omega | (simp; omega)))
      obtain ⟨wn, hwn⟩ : ∃ wn, wn = (w4).alloc (.cells #[.int .i64 (b : Int), .slice B2 (a + 1) d2] 33) := ⟨_, rfl⟩
      rw [← hwn] at hba hal ⊢
      obtain ⟨bab, hn⟩ : ∃ bab, bab = w4.heap.size := ⟨_, rfl⟩
      rw [← hn] at hba ⊢
      clear hn
      replace hH := hH.of hal
      replace hN := hN.of hal
      replace hR := hR.of hal
      replace hM := hM.of hal
      replace hX2 := hX2.of hal
      replace hbt := hbt.of hal
      replace hbx := hbx.of hal
      replace hB := below_thru hB hal
      clear hwn hal
      obtain ⟨w5, hwn⟩ : ∃ q, q = wn := ⟨_, rfl⟩
      subst hwn
      have ⟨_, bt0, bt1, bt2⟩ := hbt
      obtain ⟨_, bx0, bx1, -, -⟩ := hbx.open2
      obtain ⟨_, ba0, ba1, -, -⟩ := hba.open2
      have kT := fun w1 h => tl_Right (b : Int) B2 (a + 1) d2 L0 w1 h hs1
      have kA := fun w1 h (j : Nat) => tl_At (b : Int) B2 (a + 1) d2 L0 (j : Int) w1 h hs1
      have kO := fun w1 h1 h2 h3 => tl_Follows st A B B2 n c m d (a + 1) d2 H N (b : Int) L0 w1 h1 h2 h3 hs1
      have kD := fun w1 h => tl_Diff (b : Int) (b : Int) B2 B2 (a + 1) d2 (a + 1) d2 L0 L0 w1 h h hs1 hs1
      rw [t1] at kT
      rw [hfo] at kO
      rw [hdf.1, hdf.2] at kD
      clear hfo hdf t1 t3 kP
      go_wp2_with fail
      go_at_call 9
      refine (kI _ hH hN hR).mono ?_
      rintro e6 w6 ⟨Y, ym, yc, rfl, hY, hyc, hb6⟩
      clear bt0 bt1 bt2
      clear bx0 bx1
      clear ba0 ba1
      replace hH := hH.of hb6
      replace hN := hN.of hb6
      replace hR := hR.of hb6
      replace hM := hM.of hb6
      replace hX2 := hX2.of hb6
      replace hbt := hbt.of hb6
      replace hbx := hbx.of hb6
      replace hba := hba.of hb6
      replace hB := below_thru hB hb6
      have hz6 := hb6.size
      clear hb6
      obtain rfl : ym = a + 1 := by rw [← hY.len]; exact hhl.out
      have wg : IntKind.i64.wrap ((a : Int) + 1) = (a : Int) + 1 := IntWalk.i64_in _ (by omega)
      have wb : ((((a + 1 : Nat) : Int)) != ((a : Int) + 1)) = false := by simp
      have ⟨_, bt0, bt1, bt2⟩ := hbt
      obtain ⟨_, bx0, bx1, -, -⟩ := hbx.open2
      obtain ⟨_, ba0, ba1, -, -⟩ := hba.open2
      go_wp2_with fail
      go_at_call 10
      refine (kT _ hX2).mono ?_
      rintro e7 w7 ⟨rfl, hb7⟩
      clear bt0 bt1 bt2
      clear bx0 bx1
      clear ba0 ba1
      replace hH := hH.of hb7
      replace hN := hN.of hb7
      replace hR := hR.of hb7
      replace hM := hM.of hb7
      replace hX2 := hX2.of hb7
      replace hY := hY.of hb7
      replace hbt := hbt.of hb7
      replace hbx := hbx.of hb7
      replace hba := hba.of hb7
      replace hB := below_thru hB hb7
      have hz7 := hb7.size
      clear hb7
      clear kI hhl hd2
      obtain ⟨WL, hWL⟩ : ∃ q, q = w7 := ⟨_, rfl⟩
      subst hWL
      have ⟨_, bt0, bt1, bt2⟩ := hbt
      obtain ⟨_, bx0, bx1, -, -⟩ := hbx.open2
      obtain ⟨_, ba0, ba1, -, -⟩ := hba.open2
      go_wp2_with fail
      clear bt0 bt1 bt2
      clear bx0 bx1
      clear ba0 ba1
      go_loopw [78] (fun t wr => ∃ j : Nat, t = .int .i64 j ∧ j ≤ a + 1 ∧ Below WL.heap.size WL wr) (fun t _ => a + 1 - (intOf t).toNat)
      case atStart => exact ⟨0, rfl, by omega, Below.refl _ _⟩
      case round =>
        obtain ⟨j, rfl, hj, hb⟩ := hrel
        have hL := hb
        replace hH := hH.of hb
        replace hN := hN.of hb
        replace hR := hR.of hb
        replace hM := hM.of hb
        replace hX2 := hX2.of hb
        replace hY := hY.of hb
        replace hbt := hbt.of hb
        replace hbx := hbx.of hb
        replace hba := hba.of hb
        replace hB := below_thru hB hb
        clear hb
        by_cases hlj : j < a + 1
        · obtain ⟨w40, hw40⟩ : ∃ q, q = wr := ⟨_, rfl⟩
          subst hw40
          have dj : decide ((j : Int) < ((a + 1 : Nat) : Int)) = true := decide_eq_true (by omega)
          have dj2 : decide ((j : Int) < (a : Int) + 1) = true := decide_eq_true (by omega)
          have dj' : decide (j < a + 1) = true := decide_eq_true hlj
          have kA1 := fun w1 h => kA w1 h j
          obtain ⟨a1, a2⟩ := hat.out j (by omega)
          have a3 := hhi.out j (by omega)
          have a4 := hpl.out j
          rw [a1, a2] at kA1
          generalize (itS H N p j).2 = s0 at kA1 a3 a4
          replace a4 := Lib.hid a4
          replace a3 := Lib.hid a3
          clear a1 a2
          have ⟨_, bt0, bt1, bt2⟩ := hbt
          obtain ⟨_, bx0, bx1, -, -⟩ := hbx.open2
          obtain ⟨_, ba0, ba1, -, -⟩ := hba.open2
          go_wp2_with fail
          go_at_call 11
          refine (kA1 _ hX2).mono ?_
          rintro e41 w41 ⟨P4, m4, d4, rfl, hR4, hd4, hm4, hb41⟩
          clear bt0 bt1 bt2
          clear bx0 bx1
          clear ba0 ba1
          replace hH := hH.of hb41
          replace hN := hN.of hb41
          replace hR := hR.of hb41
          replace hM := hM.of hb41
          replace hX2 := hX2.of hb41
          replace hY := hY.of hb41
          replace hbt := hbt.of hb41
          replace hbx := hbx.of hb41
          replace hba := hba.of hb41
          replace hB := below_thru hB hb41
          replace hL := hL.trans (hb41.mono (by have := hL.size; omega))
          have hz41 := hb41.size
          clear hb41
          obtain ⟨E5, m5, c5, l5, b5, o5, hx5, rfl, hbl5, g5, hR5, hc5⟩ := hY.pat (show j < a + 1 from hlj)
          have e5 := hx5.out
          rw [a3.out] at e5
          injection e5 with e5
          rw [← e5] at hR5
          have hm5 : m5 ≤ 1000000 := by rw [← hR5.len]; have := a4.out; omega
          clear hx5 e5
          have kS := ref05_SameV (sameL_self s0) P4 E5 m4 m5 d4 c5 w41 hR4 hR5 (by omega) hm5
          have i0 : (0 : Int) ≤ (j : Int) := by omega
          have i1 : (j : Int) < (a : Int) + 1 := by omega
          have ⟨_, bt0, bt1, bt2⟩ := hbt
          obtain ⟨_, bx0, bx1, -, -⟩ := hbx.open2
          obtain ⟨_, ba0, ba1, -, -⟩ := hba.open2
          go_wp2_with fail
          go_at_call 12
          refine (kS).mono ?_
          rintro e42 w42 ⟨rfl, hb42⟩
          clear bt0 bt1 bt2
          clear bx0 bx1
          clear ba0 ba1
          replace hH := hH.of hb42
          replace hN := hN.of hb42
          replace hR := hR.of hb42
          replace hM := hM.of hb42
          replace hX2 := hX2.of hb42
          replace hY := hY.of hb42
          replace hR4 := hR4.of hb42
          replace hbt := hbt.of hb42
          replace hbx := hbx.of hb42
          replace hba := hba.of hb42
          replace hB := below_thru hB hb42
          replace hL := hL.trans (hb42.mono (by have := hL.size; omega))
          have hz42 := hb42.size
          clear hb42
          go_wp2_with fail
          go_roundw
          case rel => exact ⟨j + 1, by go_num, by omega, hL⟩
          case measure => simp [intOf]; omega
        · obtain ⟨w60, hw60⟩ : ∃ q, q = wr := ⟨_, rfl⟩
          subst hw60
          have dj : decide ((j : Int) < ((a + 1 : Nat) : Int)) = false := decide_eq_false (by omega)
          have dj2 : decide ((j : Int) < (a : Int) + 1) = false := decide_eq_false (by omega)
          have dj' : decide (j < a + 1) = false := decide_eq_false hlj
          have ⟨_, bt0, bt1, bt2⟩ := hbt
          obtain ⟨_, bx0, bx1, -, -⟩ := hbx.open2
          obtain ⟨_, ba0, ba1, -, -⟩ := hba.open2
          go_wp2_with fail
          go_at_call 13
          refine (kO _ hH hN hX2).mono ?_
          rintro e61 w61 ⟨rfl, hb61⟩
          clear bt0 bt1 bt2
          clear bx0 bx1
          clear ba0 ba1
          replace hH := hH.of hb61
          replace hN := hN.of hb61
          replace hR := hR.of hb61
          replace hM := hM.of hb61
          replace hX2 := hX2.of hb61
          replace hY := hY.of hb61
          replace hbt := hbt.of hb61
          replace hbx := hbx.of hb61
          replace hba := hba.of hb61
          replace hB := below_thru hB hb61
          have hz61 := hb61.size
          clear hb61
          have ⟨_, bt0, bt1, bt2⟩ := hbt
          obtain ⟨_, bx0, bx1, -, -⟩ := hbx.open2
          obtain ⟨_, ba0, ba1, -, -⟩ := hba.open2
          go_wp2_with fail
          go_at_call 14
          refine (kD _ hX2).mono ?_
          rintro e62 w62 ⟨G7, m7, d7, rfl, _, _, _, hb62⟩
          clear bt0 bt1 bt2
          clear bx0 bx1
          clear ba0 ba1
          replace hH := hH.of hb62
          replace hN := hN.of hb62
          replace hR := hR.of hb62
          replace hM := hM.of hb62
          replace hX2 := hX2.of hb62
          replace hY := hY.of hb62
          replace hbt := hbt.of hb62
          replace hbx := hbx.of hb62
          replace hba := hba.of hb62
          replace hB := below_thru hB hb62
          have hz62 := hb62.size
          clear hb62
          have ⟨_, bt0, bt1, bt2⟩ := hbt
          obtain ⟨_, bx0, bx1, -, -⟩ := hbx.open2
          obtain ⟨_, ba0, ba1, -, -⟩ := hba.open2
          go_wp2_with fail
          go_at_call 7
          refine (lif_life _ hM).mono ?_
          rintro e63 w63 ⟨rfl, hb63⟩
          clear bt0 bt1 bt2
          clear bx0 bx1
          clear ba0 ba1
          replace hH := hH.of hb63
          replace hN := hN.of hb63
          replace hR := hR.of hb63
          replace hM := hM.of hb63
          replace hX2 := hX2.of hb63
          replace hY := hY.of hb63
          replace hbt := hbt.of hb63
          replace hbx := hbx.of hb63
          replace hba := hba.of hb63
          replace hB := below_thru hB hb63
          have hz63 := hb63.size
          clear hb63
          go_wp2_with fail
          go_ret
          exact ⟨rfl, hB⟩
    · obtain ⟨r1, r2, r3⟩ := rc_no rfl h0
      rw [r2, r3] at kP
      generalize rcE st H N p (a : Int) (b : Int) = q0 at kP h0
      have e2 : (q0 != 0) = true := by simpa using h0
      have e3 : (q0 == 0) = false := by simpa using h0
      clear h0 h8 r1 r2 r3
      go_enter Tryz.func3, Tryz.ntmps3
      go_wp2_with fail
      have hB : Below w.heap.size w w := Below.refl _ _
      have hbt := (TrAt.new (w) (.int .i64 st) (.slice A n c) (.slice B m d) 25).of ((Below.refl _ _).alloc (Nat.le_refl _) (.cells #[.int .u8 (a : Int), .int .u8 (b : Int)] 28))
      have hbx := BxW.new ((w).alloc (.cells #[.int .i64 st, .slice A n c, .slice B m d] 25)) [.int .u8 (a : Int), .int .u8 (b : Int)] 28
      rw [show ∀ a b : Value, [a, b].toArray = #[a, b] from fun _ _ => rfl] at hbx
      rw [World.size_alloc] at hbx
      have hal : Below w.heap.size w (((w).alloc (.cells #[.int .i64 st, .slice A n c, .slice B m d] 25)).alloc (.cells #[.int .u8 (a : Int), .int .u8 (b : Int)] 28)) := by (repeat' (first | exact Below.refl _ _ | assumption | (refine Below.alloc ?_ ?_ _) | (refine Below.setCell ?_ ?_ _) | (refine Below.drew ?_) | (refine below_drewN ?_ _) | (refine below_after (Ext.below _) ?_ ?_) | (refine below_after (by assumption) ?_ ?_) | (simp; done) | omega | (simp; omega)))
      obtain ⟨wn, hwn⟩ : ∃ wn, wn = ((w).alloc (.cells #[.int .i64 st, .slice A n c, .slice B m d] 25)).alloc (.cells #[.int .u8 (a : Int), .int .u8 (b : Int)] 28) := ⟨_, rfl⟩
      have hsz2 : w.heap.size + 1 < wn.heap.size := by rw [hwn]; simp
      rw [← hwn] at hbt hbx hal ⊢
      obtain ⟨btb, hn⟩ : ∃ btb, btb = w.heap.size := ⟨_, rfl⟩
      rw [← hn] at hbt hbx ⊢
      clear hn
      obtain ⟨bxb, hn⟩ : ∃ bxb, bxb = btb + 1 := ⟨_, rfl⟩
      rw [← hn] at hbx ⊢
      clear hn
      replace hH := hH.of hal
      replace hN := hN.of hal
      replace hR := hR.of hal
      replace hM := hM.of hal
      replace hB := below_thru hB hal
      clear hwn hal hsz2
      obtain ⟨w1, hwn⟩ : ∃ q, q = wn := ⟨_, rfl⟩
      subst hwn
      have ⟨_, bt0, bt1, bt2⟩ := hbt
      obtain ⟨_, bx0, bx1, -, -⟩ := hbx.open2
      go_upto_region 1 with (fail)
      (refine wp_region_ext_lit (by kernel_rfl) (by kernel_rfl) ?_; (repeat (go_big_quiet_step (fail))); refine wpQuiet_nil ?_; intro _ hw'; obtain ⟨z2, hw''⟩ := hw'; subst hw''; have hs2 := z2.size; obtain ⟨hc2, hf2⟩ := bcell z2.below; (try simp only [World.size_alloc, World.size_setCell, World.size_drew] at hc2 hf2); (try simp at hs2))
      clear hc2 hf2 hs2
      clear bt0 bt1 bt2
      clear bx0 bx1
      have hb2 := z2.below
      generalize z2.world = w2 at hb2 ⊢
      replace hH := hH.of hb2
      replace hN := hN.of hb2
      replace hR := hR.of hb2
      replace hM := hM.of hb2
      replace hbt := hbt.of hb2
      replace hbx := hbx.of hb2
      replace hB := below_thru hB hb2
      clear hb2
      have ⟨_, bt0, bt1, bt2⟩ := hbt
      obtain ⟨_, bx0, bx1, -, -⟩ := hbx.open2
      go_wp2_with fail
      go_at_call 6
      refine (kF _ hH hN).mono ?_
      rintro e3 w3 ⟨rfl, hb3⟩
      clear bt0 bt1 bt2
      clear bx0 bx1
      replace hH := hH.of hb3
      replace hN := hN.of hb3
      replace hR := hR.of hb3
      replace hM := hM.of hb3
      replace hbt := hbt.of hb3
      replace hbx := hbx.of hb3
      replace hB := below_thru hB hb3
      have hz3 := hb3.size
      clear hb3
      have ⟨_, bt0, bt1, bt2⟩ := hbt
      obtain ⟨_, bx0, bx1, -, -⟩ := hbx.open2
      go_wp2_with fail
      go_at_call 8
      refine (kP _ hH hN hR).mono ?_
      rintro e4 w4 ⟨B2, m2, d2, rfl, hX2, hd2, hb4⟩
      clear bt0 bt1 bt2
      clear bx0 bx1
      replace hH := hH.of hb4
      replace hN := hN.of hb4
      replace hR := hR.of hb4
      replace hM := hM.of hb4
      replace hbt := hbt.of hb4
      replace hbx := hbx.of hb4
      replace hB := below_thru hB hb4
      have hz4 := hb4.size
      clear hb4
      obtain rfl : 0 = m2 := hX2.len
      have ⟨_, bt0, bt1, bt2⟩ := hbt
      obtain ⟨_, bx0, bx1, -, -⟩ := hbx.open2
      go_wp2_with fail
      clear bt0 bt1 bt2
      clear bx0 bx1
      have hba := BxW.new (w4) [.int .i64 0, .slice B2 0 d2] 33
      rw [show ∀ a b : Value, [a, b].toArray = #[a, b] from fun _ _ => rfl] at hba
      have hal : Below w4.heap.size w4 ((w4).alloc (.cells #[.int .i64 0, .slice B2 0 d2] 33)) := by (repeat' (first | exact Below.refl _ _ | assumption | (refine Below.alloc ?_ ?_ _) | (refine Below.setCell ?_ ?_ _) | (refine Below.drew ?_) | (refine below_drewN ?_ _) | (refine below_after (Ext.below _) ?_ ?_) | (refine below_after (by assumption) ?_ ?_) | (simp; done) | omega | (simp; omega)))
      obtain ⟨wn, hwn⟩ : ∃ wn, wn = (w4).alloc (.cells #[.int .i64 0, .slice B2 0 d2] 33) := ⟨_, rfl⟩
      rw [← hwn] at hba hal ⊢
      obtain ⟨bab, hn⟩ : ∃ bab, bab = w4.heap.size := ⟨_, rfl⟩
      rw [← hn] at hba ⊢
      clear hn
      replace hH := hH.of hal
      replace hN := hN.of hal
      replace hR := hR.of hal
      replace hM := hM.of hal
      replace hX2 := hX2.of hal
      replace hbt := hbt.of hal
      replace hbx := hbx.of hal
      replace hB := below_thru hB hal
      clear hwn hal
      obtain ⟨w5, hwn⟩ : ∃ q, q = wn := ⟨_, rfl⟩
      subst hwn
      have ⟨_, bt0, bt1, bt2⟩ := hbt
      obtain ⟨_, bx0, bx1, -, -⟩ := hbx.open2
      obtain ⟨_, ba0, ba1, -, -⟩ := hba.open2
      go_wp2_with fail
      go_at_call 7
      refine (lif_life _ hM).mono ?_
      rintro e6 w6 ⟨rfl, hb6⟩
      clear bt0 bt1 bt2
      clear bx0 bx1
      clear ba0 ba1
      replace hH := hH.of hb6
      replace hN := hN.of hb6
      replace hR := hR.of hb6
      replace hM := hM.of hb6
      replace hX2 := hX2.of hb6
      replace hbt := hbt.of hb6
      replace hbx := hbx.of hb6
      replace hba := hba.of hb6
      replace hB := below_thru hB hb6
      have hz6 := hb6.size
      clear hb6
      go_wp2_with fail
      go_ret
      exact ⟨rfl, hB⟩
end Go.Proofs.YtellglbmbocgkaaGreatDoor
