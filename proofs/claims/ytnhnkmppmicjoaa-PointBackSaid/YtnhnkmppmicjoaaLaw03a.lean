/- The walks of PointMeets, PointArounds and PointBack. -/
import Derived.Test.YtnhnkmppmicjoaaAwake03
import Derived.Test.YtnhnkmppmicjoaaBoxL
namespace Go.Proofs.Ytnhnkmppmicjoaa
open Go Go.RowKit
set_option linter.unusedSimpArgs false
set_option linter.unusedVariables false
set_option maxRecDepth 100000
attribute [local go_sem ↓ high] eq_pt neq_pt eq_box neq_box
theorem point_MeetU (ax ay aw ah bx by' bw bh : Int) (w : World) : Calls Try.prog 31 #[.agg #[.int .i64 ax, .int .i64 ay, .int .i64 aw, .int .i64 ah], .agg #[.int .i64 bx, .int .i64 by', .int .i64 bw, .int .i64 bh]] w fun e w' => e = .returned (.tuple #[.agg #[.int .i64 (meetX ax ay aw ah bx by' bw bh), .int .i64 (meetY ax ay aw ah bx by' bw bh), .int .i64 (meetW ax ay aw ah bx by' bw bh), .int .i64 (meetH ax ay aw ah bx by' bw bh)], .bool (meetOk ax ay aw ah bx by' bw bh)]) ∧ Below w.heap.size w w' := point_Meet ax ay aw ah bx by' bw bh w
theorem ref_MeetU (ax ay aw ah bx by' bw bh : Int) (w : World) : Calls Try.prog 32 #[.agg #[.int .i64 ax, .int .i64 ay, .int .i64 aw, .int .i64 ah], .agg #[.int .i64 bx, .int .i64 by', .int .i64 bw, .int .i64 bh]] w fun e w' => e = .returned (.tuple #[.agg #[.int .i64 (meetX ax ay aw ah bx by' bw bh), .int .i64 (meetY ax ay aw ah bx by' bw bh), .int .i64 (meetW ax ay aw ah bx by' bw bh), .int .i64 (meetH ax ay aw ah bx by' bw bh)], .bool (meetOk ax ay aw ah bx by' bw bh)]) ∧ Below w.heap.size w w' := ref_Meet ax ay aw ah bx by' bw bh w
theorem point_JoinU (ax ay aw ah bx by' bw bh : Int) (w : World) : Calls Try.prog 33 #[.agg #[.int .i64 ax, .int .i64 ay, .int .i64 aw, .int .i64 ah], .agg #[.int .i64 bx, .int .i64 by', .int .i64 bw, .int .i64 bh]] w fun e w' => e = .returned (.agg #[.int .i64 (joinX ax ay aw ah bx by' bw bh), .int .i64 (joinY ax ay aw ah bx by' bw bh), .int .i64 (joinW ax ay aw ah bx by' bw bh), .int .i64 (joinH ax ay aw ah bx by' bw bh)]) ∧ Below w.heap.size w w' := point_Join ax ay aw ah bx by' bw bh w
theorem ref_JoinU (ax ay aw ah bx by' bw bh : Int) (w : World) : Calls Try.prog 34 #[.agg #[.int .i64 ax, .int .i64 ay, .int .i64 aw, .int .i64 ah], .agg #[.int .i64 bx, .int .i64 by', .int .i64 bw, .int .i64 bh]] w fun e w' => e = .returned (.agg #[.int .i64 (joinX ax ay aw ah bx by' bw bh), .int .i64 (joinY ax ay aw ah bx by' bw bh), .int .i64 (joinW ax ay aw ah bx by' bw bh), .int .i64 (joinH ax ay aw ah bx by' bw bh)]) ∧ Below w.heap.size w w' := ref_Join ax ay aw ah bx by' bw bh w
theorem point_GrowU (x y wd h k : Int) (w : World) : Calls Try.prog 29 #[.agg #[.int .i64 x, .int .i64 y, .int .i64 wd, .int .i64 h], .int .i64 k] w fun e w' => e = .returned (.tuple #[.agg #[.int .i64 (growX x y wd h k), .int .i64 (growY x y wd h k), .int .i64 (growW x y wd h k), .int .i64 (growH x y wd h k)], .int .i64 (growE x y wd h k)]) ∧ Below w.heap.size w w' := point_Grow x y wd h k w
theorem ref_GrowU (x y wd h k : Int) (w : World) : Calls Try.prog 30 #[.agg #[.int .i64 x, .int .i64 y, .int .i64 wd, .int .i64 h], .int .i64 k] w fun e w' => e = .returned (.tuple #[.agg #[.int .i64 (growX x y wd h k), .int .i64 (growY x y wd h k), .int .i64 (growW x y wd h k), .int .i64 (growH x y wd h k)], .int .i64 (growE x y wd h k)]) ∧ Below w.heap.size w w' := ref_Grow x y wd h k w
theorem point_AroundU (A : Option Addr) (n c : Nat) (l : List (Int × Int)) (w : World) (hR : Rd encP 2 w A n l) (hn : n ≤ 1000000) : Calls Try.prog 27 #[.slice A n c] w fun e w' => e = .returned (.tuple #[.agg #[.int .i64 (arX l), .int .i64 (arY l), .int .i64 (arW l), .int .i64 (arH l)], .bool (arOk l)]) ∧ Below w.heap.size w w' := point_Around A n c l w hR hn
theorem ref_AroundU (A : Option Addr) (n c : Nat) (l : List (Int × Int)) (w : World) (hR : Rd encP 2 w A n l) (hn : n ≤ 1000000) : Calls Try.prog 28 #[.slice A n c] w fun e w' => e = .returned (.tuple #[.agg #[.int .i64 (arX l), .int .i64 (arY l), .int .i64 (arW l), .int .i64 (arH l)], .bool (arOk l)]) ∧ Below w.heap.size w w' := ref_Around A n c l w hR hn
set_option maxHeartbeats 2000000 in
theorem law_meets (ax ay aw ah bx by' bw bh : Int) (w : World) : Calls Try.prog 6 #[.agg #[.int .i64 ax, .int .i64 ay, .int .i64 aw, .int .i64 ah], .agg #[.int .i64 bx, .int .i64 by', .int .i64 bw, .int .i64 bh]] w fun e w' => e = .returned (.bool true) ∧ Below w.heap.size w w' := by
  go_enter Try.func6, Try.ntmps6
  go_wp2_with fail
  go_at_call 31
  refine (point_MeetU _ _ _ _ _ _ _ _ _).mono ?_
  rintro e w1 ⟨rfl, hb⟩
  have xa := ((BoxAt.new w ax ay aw ah 31).alloc (.cells #[.int .i64 bx, .int .i64 by', .int .i64 bw, .int .i64 bh] 31)).of hb
  have xb := (BoxAt.new (w.alloc (.cells #[.int .i64 ax, .int .i64 ay, .int .i64 aw, .int .i64 ah] 31)) bx by' bw bh 31).of hb
  rw [World.size_alloc] at xb
  have hB1 := below_thruA2 hb
  clear hb
  have xa := xa.alloc (.cells #[.int .i64 (meetX ax ay aw ah bx by' bw bh), .int .i64 (meetY ax ay aw ah bx by' bw bh), .int .i64 (meetW ax ay aw ah bx by' bw bh), .int .i64 (meetH ax ay aw ah bx by' bw bh)] 31)
  have xb := xb.alloc (.cells #[.int .i64 (meetX ax ay aw ah bx by' bw bh), .int .i64 (meetY ax ay aw ah bx by' bw bh), .int .i64 (meetW ax ay aw ah bx by' bw bh), .int .i64 (meetH ax ay aw ah bx by' bw bh)] 31)
  have XA := Lib.hid xa
  obtain ⟨a0, a1, a2, a3, a4⟩ := xa
  have XB := Lib.hid xb
  obtain ⟨b0, b1, b2, b3, b4⟩ := xb
  go_wp2_with fail
  go_at_call 32
  refine (ref_MeetU _ _ _ _ _ _ _ _ _).mono ?_
  rintro e w2 ⟨rfl, hb⟩
  clear a0 a1 a2 a3 a4 b0 b1 b2 b3 b4
  have xa := (XA.out.of hb).alloc (.cells #[.int .i64 (meetX ax ay aw ah bx by' bw bh), .int .i64 (meetY ax ay aw ah bx by' bw bh), .int .i64 (meetW ax ay aw ah bx by' bw bh), .int .i64 (meetH ax ay aw ah bx by' bw bh)] 31)
  have xb := (XB.out.of hb).alloc (.cells #[.int .i64 (meetX ax ay aw ah bx by' bw bh), .int .i64 (meetY ax ay aw ah bx by' bw bh), .int .i64 (meetW ax ay aw ah bx by' bw bh), .int .i64 (meetH ax ay aw ah bx by' bw bh)] 31)
  have xm := ((BoxAt.new w1 (meetX ax ay aw ah bx by' bw bh) (meetY ax ay aw ah bx by' bw bh) (meetW ax ay aw ah bx by' bw bh) (meetH ax ay aw ah bx by' bw bh) 31).of hb).alloc (.cells #[.int .i64 (meetX ax ay aw ah bx by' bw bh), .int .i64 (meetY ax ay aw ah bx by' bw bh), .int .i64 (meetW ax ay aw ah bx by' bw bh), .int .i64 (meetH ax ay aw ah bx by' bw bh)] 31)
  have hB2 := below_thruA hB1 hb
  have HB2 := Lib.hid hB2
  clear hb hB1 hB2
  have XA := Lib.hid xa
  obtain ⟨a0, a1, a2, a3, a4⟩ := xa
  have XB := Lib.hid xb
  obtain ⟨b0, b1, b2, b3, b4⟩ := xb
  obtain ⟨m0, m1, m2, m3, m4⟩ := xm
  go_wp2_with fail
  (refine wp_region_ext_lit (by kernel_rfl) (by kernel_rfl) ?_; (repeat (go_big_quiet_step (first | (go_at_call 33; exact calls_ext (point_JoinU _ _ _ _ _ _ _ _ _)) | (go_at_call 34; exact calls_ext (ref_JoinU _ _ _ _ _ _ _ _ _)) | (go_at_call 15; exact calls_ext (awake_03 _))))); refine wpQuiet_nil ?_; intro _ hw'; obtain ⟨z3, hw''⟩ := hw'; subst hw''; have hs3 := z3.size; obtain ⟨hc3, hf3⟩ := bcell z3.below; (try simp only [World.size_alloc, World.size_setCell, World.size_drew] at hc3 hf3); (try simp at hs3))
  go_wp2_with fail
  go_ret
  have hB2 := HB2.out
  exact ⟨rfl, below_thruA hB2 z3.below⟩
set_option maxHeartbeats 2000000 in
theorem law_arounds (A : Option Addr) (n c : Nat) (l : List (Int × Int)) (x y wd h k : Int) (w : World) (hR : Rd encP 2 w A n l) : Calls Try.prog 5 #[.slice A n c, .agg #[.int .i64 x, .int .i64 y, .int .i64 wd, .int .i64 h], .int .i64 k] w fun e w' => e = .returned (.bool true) ∧ Below w.heap.size w w' := by
  rcases Nat.lt_or_ge 200 n with h1 | h1
  · go_enter Try.func5, Try.ntmps5
    go_wp2_with (first | (go_at_call 15; refine (awake_03 _).mono ?_; rintro e w5 ⟨rfl, hb5⟩; obtain ⟨hc5, hf5⟩ := bcell hb5; have hs5 := hb5.size; (try simp only [World.size_alloc, World.size_setCell, World.size_drew] at hc5 hf5); (try simp at hs5)))
    go_ret
    exact ⟨rfl, by (repeat' (first | exact Below.refl _ _ | assumption | (refine Below.alloc ?_ ?_ _) | (refine Below.setCell ?_ ?_ _) | (refine Below.drew ?_) | (refine below_drewN ?_ _) | (refine below_after (Ext.below _) ?_ ?_) | (refine below_after (by assumption) ?_ ?_) | (simp; done) | omega | (simp; omega)))⟩
  have hR := hR.of ((Below.refl _ _).alloc (Nat.le_refl _) (.cells #[.int .i64 x, .int .i64 y, .int .i64 wd, .int .i64 h] 31))
  go_enter Try.func5, Try.ntmps5
  go_wp2_with fail
  go_at_call 27
  refine (point_AroundU _ _ _ _ _ hR (by omega)).mono ?_
  rintro e w1 ⟨rfl, hb⟩
  have xb := ((BoxAt.new w x y wd h 31).of hb).alloc (.cells #[.int .i64 (arX l), .int .i64 (arY l), .int .i64 (arW l), .int .i64 (arH l)] 31)
  have hR := (hR.of hb).of ((Below.refl _ _).alloc (Nat.le_refl _) (.cells #[.int .i64 (arX l), .int .i64 (arY l), .int .i64 (arW l), .int .i64 (arH l)] 31))
  have hB1 := below_thruA (Below.refl _ _) hb
  have xn := BoxAt.new w1 (arX l) (arY l) (arW l) (arH l) 31
  clear hb
  go_wp2_with fail
  go_at_call 28
  refine (ref_AroundU _ _ _ _ _ hR (by omega)).mono ?_
  rintro e w2 ⟨rfl, hb⟩
  have xb := (xb.of hb).alloc (.cells #[.int .i64 (arX l), .int .i64 (arY l), .int .i64 (arW l), .int .i64 (arH l)] 31)
  have xn := (xn.of hb).alloc (.cells #[.int .i64 (arX l), .int .i64 (arY l), .int .i64 (arW l), .int .i64 (arH l)] 31)
  have xo := BoxAt.new w2 (arX l) (arY l) (arW l) (arH l) 31
  have hB2 := below_thruA hB1 hb
  clear hb hB1 hR
  have XB := Lib.hid xb
  obtain ⟨b0, b1, b2, b3, b4⟩ := xb
  go_wp2_with fail
  go_at_call 29
  refine (point_GrowU _ _ _ _ _ _).mono ?_
  rintro e w3 ⟨rfl, hb⟩
  clear b0 b1 b2 b3 b4
  have xb := (XB.out.of hb).alloc (.cells #[.int .i64 (growX x y wd h k), .int .i64 (growY x y wd h k), .int .i64 (growW x y wd h k), .int .i64 (growH x y wd h k)] 31)
  have xn := (xn.of hb).alloc (.cells #[.int .i64 (growX x y wd h k), .int .i64 (growY x y wd h k), .int .i64 (growW x y wd h k), .int .i64 (growH x y wd h k)] 31)
  have xo := (xo.of hb).alloc (.cells #[.int .i64 (growX x y wd h k), .int .i64 (growY x y wd h k), .int .i64 (growW x y wd h k), .int .i64 (growH x y wd h k)] 31)
  have xg := BoxAt.new w3 (growX x y wd h k) (growY x y wd h k) (growW x y wd h k) (growH x y wd h k) 31
  have hB3 := below_thruA hB2 hb
  clear hb hB2
  have XB := Lib.hid xb
  obtain ⟨b0, b1, b2, b3, b4⟩ := xb
  go_wp2_with fail
  go_at_call 30
  refine (ref_GrowU _ _ _ _ _ _).mono ?_
  rintro e w4 ⟨rfl, hb⟩
  clear b0 b1 b2 b3 b4
  have xn := (xn.of hb).alloc (.cells #[.int .i64 (growX x y wd h k), .int .i64 (growY x y wd h k), .int .i64 (growW x y wd h k), .int .i64 (growH x y wd h k)] 31)
  have xo := (xo.of hb).alloc (.cells #[.int .i64 (growX x y wd h k), .int .i64 (growY x y wd h k), .int .i64 (growW x y wd h k), .int .i64 (growH x y wd h k)] 31)
  have xg := (xg.of hb).alloc (.cells #[.int .i64 (growX x y wd h k), .int .i64 (growY x y wd h k), .int .i64 (growW x y wd h k), .int .i64 (growH x y wd h k)] 31)
  have hB4 := below_thruA hB3 hb
  clear hb hB3
  obtain ⟨n0, n1, n2, n3, n4⟩ := xn
  obtain ⟨o0, o1, o2, o3, o4⟩ := xo
  obtain ⟨g0, g1, g2, g3, g4⟩ := xg
  go_wp2_with fail
  go_at_call 15
  refine (awake_03 _).mono ?_
  rintro e w5 ⟨rfl, hb⟩
  go_wp2_with fail
  go_ret
  exact ⟨rfl, below_thruA hB4 hb⟩
theorem below_thru' {w w1 w2 : World} (h : Below w.heap.size w w1) (h2 : Below w1.heap.size w1 w2) : Below w.heap.size w w2 :=
  below_after h2 h h.size
set_option maxHeartbeats 4000000 in
theorem law_back (x y wd h k : Int) (w : World) : Calls Try.prog 8 #[.agg #[.int .i64 x, .int .i64 y, .int .i64 wd, .int .i64 h], .int .i64 k] w fun e w' => e = .returned (.bool true) ∧ Below w.heap.size w w' := by
  cases hA : rightB x y wd h with
  | false =>
    have kA := fun w1 => ref_RightV hA w1
    go_enter Try.func8, Try.ntmps8
    go_wp2_with fail
    (go_at_call 22; refine (kA _).mono ?_; rintro e w1 ⟨rfl, hb1⟩; obtain ⟨hc1, hf1⟩ := bcell hb1; have hs1 := hb1.size; (try simp only [World.size_alloc, World.size_setCell, World.size_drew] at hc1 hf1); (try simp at hs1))
    go_wp2_with fail
    (go_at_call 15; refine (awake_03 _).mono ?_; rintro e w2 ⟨rfl, hb2⟩; obtain ⟨hc2, hf2⟩ := bcell hb2; have hs2 := hb2.size; (try simp only [World.size_alloc, World.size_setCell, World.size_drew] at hc2 hf2); (try simp at hs2))
    go_wp2_with fail
    go_ret
    exact ⟨rfl, by (repeat' (first | exact Below.refl _ _ | assumption | (refine Below.alloc ?_ ?_ _) | (refine Below.setCell ?_ ?_ _) | (refine Below.drew ?_) | (refine below_drewN ?_ _) | (refine below_after (Ext.below _) ?_ ?_) | (refine below_after (by assumption) ?_ ?_) | (simp; done) | omega | (simp; omega)))⟩
  | true =>
    have kA := fun w1 => ref_RightV hA w1
    obtain ⟨a1, a2, a3, a4, a5, a6, a7, a8, a9, a10⟩ := rightB_iff.1 hA
    obtain ⟨m1, m2⟩ := mul_bound a1 a2 a3 a4
    by_cases hw : wd * h ≤ 5000
    · have dw : decide (wd * h ≤ 5000) = true := decide_eq_true hw
      obtain ⟨p1, p2, p3, p4, p5, p6⟩ := around_pts hA hw m1
      have HA := Lib.hid hA
      clear hA
      go_enter Try.func8, Try.ntmps8
      go_wp2_with fail
      go_at_call 22
      refine (kA _).mono ?_
      rintro e w1 ⟨rfl, hb⟩
      have XB := Lib.hid ((BoxAt.new w x y wd h 31).of hb)
      have hB1 := below_thruA (Below.refl _ _) hb
      clear hb
      obtain ⟨b0, b1, b2, b3, b4⟩ := XB.out
      go_wp2_with fail
      go_at_call 25
      refine (point_Points _ _ _ _ _).mono ?_
      rintro e w2 ⟨Al, nl, cl, rfl, hRl, hnl, hb⟩
      clear b0 b1 b2 b3 b4
      have XB := Lib.hid (XB.out.of hb)
      have hB2 := below_thru hB1 hb
      have hlen : (nl : Int) = wd * h := by rw [← p6, hRl.len]
      have HL := Lib.hid hlen
      clear hb hB1 hlen p6
      have kR := fun (w1 : World) (a : Rd encP 2 w1 Al nl (ptsL x y wd h)) => point_AroundU Al nl cl (ptsL x y wd h) w1 a (by omega)
      rw [p1, p2, p3, p4, p5] at kR
      go_wp2_with fail
      go_at_call 27
      refine (kR _ hRl).mono ?_
      rintro e w3 ⟨rfl, hb⟩
      have xr := BoxAt.new w3 x y wd h 31
      have XB := Lib.hid ((XB.out.of hb).alloc (.cells #[.int .i64 x, .int .i64 y, .int .i64 wd, .int .i64 h] 31))
      have hB3 := below_thru hB2 hb
      have HB := Lib.hid (hB3.alloc hB3.size (.cells #[.int .i64 x, .int .i64 y, .int .i64 wd, .int .i64 h] 31))
      clear hb hB2 hB3 kR p1 p2 p3 p4 p5 hRl
      obtain ⟨r0, r1, r2, r3, r4⟩ := xr
      have dl : ((nl : Int) != wd * h) = false := by have := HL.out; simp; omega
      by_cases hk : -4194304 ≤ k ∧ k ≤ 4194304
      · obtain ⟨k1, k2⟩ := hk
        have d1 : decide (k < -4194304) = false := decide_eq_false (by omega)
        have d2 : decide (4194304 < k) = false := decide_eq_false (by omega)
        by_cases he : growE x y wd h k = 0
        · obtain ⟨q1, q2, q3, q4, q5⟩ := grow_back HA.out ⟨k1, k2⟩ he
          have kG := fun w1 => point_GrowU x y wd h k w1
          rw [he] at kG
          have kG2 := fun w1 => point_GrowU (growX x y wd h k) (growY x y wd h k) (growW x y wd h k) (growH x y wd h k) (-k) w1
          rw [q1, q2, q3, q4, q5] at kG2
          clear he q1 q2 q3 q4 q5
          obtain ⟨b0, b1, b2, b3, b4⟩ := XB.out
          go_wp2_with fail
          go_at_call 29
          refine (kG _).mono ?_
          rintro e w4 ⟨rfl, hb⟩
          clear b0 b1 b2 b3 b4 kG
          have XB := Lib.hid (XB.out.of hb)
          have hB4 := below_thru' HB.out hb
          have xg := BoxAt.new w4 (growX x y wd h k) (growY x y wd h k) (growW x y wd h k) (growH x y wd h k) 31
          clear hb
          obtain ⟨g0, g1, g2, g3, g4⟩ := xg
          go_wp2_with fail
          go_at_call 29
          refine (kG2 _).mono ?_
          rintro e w5 ⟨rfl, hb⟩
          clear g0 g1 g2 g3 g4 kG2
          have xh := BoxAt.new w5 x y wd h 31
          have xb := ((XB.out.alloc _).of hb).alloc (.cells #[.int .i64 x, .int .i64 y, .int .i64 wd, .int .i64 h] 31)
          have hB5 := below_thruA hB4 hb
          clear hb hB4
          obtain ⟨b0, b1, b2, b3, b4⟩ := xb
          obtain ⟨h0, h1, h2, h3, h4⟩ := xh
          go_wp2_with fail
          go_at_call 15
          refine (awake_03 _).mono ?_
          rintro e w6 ⟨rfl, hb⟩
          go_wp2_with fail
          go_ret
          exact ⟨rfl, below_thruA hB5 hb⟩
        · have dn : (growE x y wd h k != 0) = true := by simpa using he
          have hno : growOk x y wd h k = false := by unfold growOk; simpa using he
          have z1 : growX x y wd h k = 0 := by unfold growX; rw [hno]; rfl
          have z2 : growY x y wd h k = 0 := by unfold growY; rw [hno]; rfl
          have z3 : growW x y wd h k = 0 := by unfold growW; rw [hno]; rfl
          have z4 : growH x y wd h k = 0 := by unfold growH; rw [hno]; rfl
          have kG := fun w1 => point_GrowU x y wd h k w1
          rw [z1, z2, z3, z4] at kG
          clear he hno z1 z2 z3 z4
          generalize growE x y wd h k = E at dn kG
          obtain ⟨b0, b1, b2, b3, b4⟩ := XB.out
          go_wp2_with fail
          go_at_call 29
          refine (kG _).mono ?_
          rintro e w4 ⟨rfl, hb⟩
          clear b0 b1 b2 b3 b4 kG
          have hB4 := below_thru' HB.out hb
          have xg := BoxAt.new w4 0 0 0 0 31
          clear hb
          obtain ⟨g0, g1, g2, g3, g4⟩ := xg
          go_wp2_with fail
          go_at_call 15
          refine (awake_03 _).mono ?_
          rintro e w6 ⟨rfl, hb⟩
          go_wp2_with fail
          go_ret
          exact ⟨rfl, below_thruA hB4 hb⟩
      · have hkk : decide (k < -4194304) = true ∨ (decide (k < -4194304) = false ∧ decide (4194304 < k) = true) := by simp only [decide_eq_true_eq, decide_eq_false_iff_not]; omega
        obtain ⟨b0, b1, b2, b3, b4⟩ := XB.out
        rcases hkk with d1 | ⟨d1, d2⟩
        all_goals
          go_wp2_with fail
          go_at_call 15
          refine (awake_03 _).mono ?_
          rintro e w6 ⟨rfl, hb⟩
          go_wp2_with fail
          go_ret
          exact ⟨rfl, below_thru' HB.out hb⟩
    · have dw : decide (wd * h ≤ 5000) = false := decide_eq_false hw
      have HA := Lib.hid hA
      clear hA
      go_enter Try.func8, Try.ntmps8
      go_wp2_with fail
      go_at_call 22
      refine (kA _).mono ?_
      rintro e w1 ⟨rfl, hb⟩
      have XB := Lib.hid ((BoxAt.new w x y wd h 31).of hb)
      have HB := Lib.hid (below_thruA (Below.refl _ _) hb)
      clear hb
      by_cases hk : -4194304 ≤ k ∧ k ≤ 4194304
      · obtain ⟨k1, k2⟩ := hk
        have d1 : decide (k < -4194304) = false := decide_eq_false (by omega)
        have d2 : decide (4194304 < k) = false := decide_eq_false (by omega)
        by_cases he : growE x y wd h k = 0
        · obtain ⟨q1, q2, q3, q4, q5⟩ := grow_back HA.out ⟨k1, k2⟩ he
          have kG := fun w1 => point_GrowU x y wd h k w1
          rw [he] at kG
          have kG2 := fun w1 => point_GrowU (growX x y wd h k) (growY x y wd h k) (growW x y wd h k) (growH x y wd h k) (-k) w1
          rw [q1, q2, q3, q4, q5] at kG2
          clear he q1 q2 q3 q4 q5
          obtain ⟨b0, b1, b2, b3, b4⟩ := XB.out
          go_wp2_with fail
          go_at_call 29
          refine (kG _).mono ?_
          rintro e w4 ⟨rfl, hb⟩
          clear b0 b1 b2 b3 b4 kG
          have XB := Lib.hid (XB.out.of hb)
          have hB4 := below_thru' HB.out hb
          have xg := BoxAt.new w4 (growX x y wd h k) (growY x y wd h k) (growW x y wd h k) (growH x y wd h k) 31
          clear hb
          obtain ⟨g0, g1, g2, g3, g4⟩ := xg
          go_wp2_with fail
          go_at_call 29
          refine (kG2 _).mono ?_
          rintro e w5 ⟨rfl, hb⟩
          clear g0 g1 g2 g3 g4 kG2
          have xh := BoxAt.new w5 x y wd h 31
          have xb := ((XB.out.alloc _).of hb).alloc (.cells #[.int .i64 x, .int .i64 y, .int .i64 wd, .int .i64 h] 31)
          have hB5 := below_thruA hB4 hb
          clear hb hB4
          obtain ⟨b0, b1, b2, b3, b4⟩ := xb
          obtain ⟨h0, h1, h2, h3, h4⟩ := xh
          go_wp2_with fail
          go_at_call 15
          refine (awake_03 _).mono ?_
          rintro e w6 ⟨rfl, hb⟩
          go_wp2_with fail
          go_ret
          exact ⟨rfl, below_thruA hB5 hb⟩
        · have dn : (growE x y wd h k != 0) = true := by simpa using he
          have hno : growOk x y wd h k = false := by unfold growOk; simpa using he
          have z1 : growX x y wd h k = 0 := by unfold growX; rw [hno]; rfl
          have z2 : growY x y wd h k = 0 := by unfold growY; rw [hno]; rfl
          have z3 : growW x y wd h k = 0 := by unfold growW; rw [hno]; rfl
          have z4 : growH x y wd h k = 0 := by unfold growH; rw [hno]; rfl
          have kG := fun w1 => point_GrowU x y wd h k w1
          rw [z1, z2, z3, z4] at kG
          clear he hno z1 z2 z3 z4
          generalize growE x y wd h k = E at dn kG
          obtain ⟨b0, b1, b2, b3, b4⟩ := XB.out
          go_wp2_with fail
          go_at_call 29
          refine (kG _).mono ?_
          rintro e w4 ⟨rfl, hb⟩
          clear b0 b1 b2 b3 b4 kG
          have hB4 := below_thru' HB.out hb
          have xg := BoxAt.new w4 0 0 0 0 31
          clear hb
          obtain ⟨g0, g1, g2, g3, g4⟩ := xg
          go_wp2_with fail
          go_at_call 15
          refine (awake_03 _).mono ?_
          rintro e w6 ⟨rfl, hb⟩
          go_wp2_with fail
          go_ret
          exact ⟨rfl, below_thruA hB4 hb⟩
      · have hkk : decide (k < -4194304) = true ∨ (decide (k < -4194304) = false ∧ decide (4194304 < k) = true) := by simp only [decide_eq_true_eq, decide_eq_false_iff_not]; omega
        obtain ⟨b0, b1, b2, b3, b4⟩ := XB.out
        rcases hkk with d1 | ⟨d1, d2⟩
        all_goals
          go_wp2_with fail
          go_at_call 15
          refine (awake_03 _).mono ?_
          rintro e w6 ⟨rfl, hb⟩
          go_wp2_with fail
          go_ret
          exact ⟨rfl, below_thru' HB.out hb⟩
end Go.Proofs.Ytnhnkmppmicjoaa
