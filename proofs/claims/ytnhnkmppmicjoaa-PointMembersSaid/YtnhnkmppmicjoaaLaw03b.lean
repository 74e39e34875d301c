/- The walk of PointMembers. -/
import Derived.Test.YtnhnkmppmicjoaaLaw03a
namespace Go.Proofs.Ytnhnkmppmicjoaa
open Go Go.RowKit
set_option linter.unusedSimpArgs false
set_option linter.unusedVariables false
set_option maxRecDepth 100000
attribute [local go_sem ↓ high] eq_pt neq_pt eq_box neq_box
theorem below_thruA3 {w1 w2 : World} {o o' o'' : Obj} (h2 : Below (((w1.alloc o).alloc o').alloc o'').heap.size (((w1.alloc o).alloc o').alloc o'') w2) : Below w1.heap.size w1 w2 :=
  below_after h2 ((((Below.refl _ _).alloc (Nat.le_refl _) o).alloc (by simp) o').alloc (by simp; omega) o'') (by simp; omega)
theorem point_InV {x y wd h px py : Int} {q : Bool} (hq : boxInB x y wd h px py = q) (w : World) : Calls Try.prog 23 #[.agg #[.int .i64 x, .int .i64 y, .int .i64 wd, .int .i64 h], .agg #[.int .i64 px, .int .i64 py]] w fun e w' => e = .returned (.bool q) ∧ Below w.heap.size w w' := by
  rw [← hq]; exact point_In x y wd h px py w
set_option maxHeartbeats 4000000 in
theorem members_ttt (ax ay aw ah bx by' bw bh px py : Int) (w : World) (hA : rightB ax ay aw ah = true) (hB : rightB bx by' bw bh = true) (ha : boxInB ax ay aw ah px py = true) (hb' : boxInB bx by' bw bh px py = true) (hq : meetOk ax ay aw ah bx by' bw bh = true) : Calls Try.prog 7 #[.agg #[.int .i64 ax, .int .i64 ay, .int .i64 aw, .int .i64 ah], .agg #[.int .i64 bx, .int .i64 by', .int .i64 bw, .int .i64 bh], .agg #[.int .i64 px, .int .i64 py]] w fun e w' => e = .returned (.bool true) ∧ Below w.heap.size w w' := by
  have kA := fun w1 => ref_RightV hA w1
  have kB := fun w1 => ref_RightV hB w1
  have kM := fun w1 => point_MeetU ax ay aw ah bx by' bw bh w1
  have kN := fun w1 => point_MeetU bx by' bw bh ax ay aw ah w1
  obtain ⟨c1, c2, c3, c4⟩ := meet_comm ax ay aw ah bx by' bw bh
  rw [meetOk_comm bx by' bw bh ax ay aw ah, hq, ← c1, ← c2, ← c3, ← c4] at kN
  rw [hq] at kM
  have kIa := fun w1 => point_InV ha w1
  have kIb := fun w1 => point_InV hb' w1
  have kIm := fun w1 => point_InV (show boxInB (meetX ax ay aw ah bx by' bw bh) (meetY ax ay aw ah bx by' bw bh) (meetW ax ay aw ah bx by' bw bh) (meetH ax ay aw ah bx by' bw bh) px py = true by rw [meet_in hA hB, ha, hb']; rfl) w1
  have kIj := fun w1 => point_InV (join_in hA hB (.inl ha)) w1
  clear c1 c2 c3 c4 hA hB ha hb' hq
  go_enter Try.func7, Try.ntmps7
  go_wp2_with fail
  go_at_call 22
  refine (kA _).mono ?_
  rintro e w1 ⟨rfl, hb⟩
  have Xa := Lib.hid ((((BoxAt.new w ax ay aw ah 31).alloc (.cells #[.int .i64 bx, .int .i64 by', .int .i64 bw, .int .i64 bh] 31)).alloc (.cells #[.int .i64 px, .int .i64 py] 23)).of hb)
  have Xb := Lib.hid (show BoxAt w1 (w.heap.size + 1) bx by' bw bh by have := (((BoxAt.new (w.alloc (.cells #[.int .i64 ax, .int .i64 ay, .int .i64 aw, .int .i64 ah] 31)) bx by' bw bh 31).alloc (.cells #[.int .i64 px, .int .i64 py] 23)).of hb); rwa [World.size_alloc] at this)
  have Xp := Lib.hid (show PtAt w1 (w.heap.size + 1 + 1) px py by have := ((PtAt.new ((w.alloc (.cells #[.int .i64 ax, .int .i64 ay, .int .i64 aw, .int .i64 ah] 31)).alloc (.cells #[.int .i64 bx, .int .i64 by', .int .i64 bw, .int .i64 bh] 31)) px py 23).of hb); rwa [World.size_alloc, World.size_alloc] at this)
  have hB1 := below_thruA3 hb
  clear hb
  obtain ⟨a0, a1, a2, a3, a4⟩ := Xa.out
  obtain ⟨b0, b1, b2, b3, b4⟩ := Xb.out
  go_wp2_with fail
  go_at_call 22
  refine (kB _).mono ?_
  rintro e w2 ⟨rfl, hb⟩
  clear a0 a1 a2 a3 a4 b0 b1 b2 b3 b4
  have Xa := Lib.hid (Xa.out.of hb)
  have Xb := Lib.hid (Xb.out.of hb)
  have Xp := Lib.hid (Xp.out.of hb)
  have hB2 := below_thru hB1 hb
  clear hb hB1
  obtain ⟨a0, a1, a2, a3, a4⟩ := Xa.out
  obtain ⟨b0, b1, b2, b3, b4⟩ := Xb.out
  go_wp2_with fail
  go_at_call 31
  refine (kM _).mono ?_
  rintro e w3 ⟨rfl, hb⟩
  clear a0 a1 a2 a3 a4 b0 b1 b2 b3 b4
  have Xa := Lib.hid (Xa.out.of hb)
  have Xb := Lib.hid (Xb.out.of hb)
  have Xp := Lib.hid (Xp.out.of hb)
  have hB3 := below_thru hB2 hb
  clear hb hB2
  have Xa := Lib.hid (Xa.out.alloc (.cells #[.int .i64 (meetX ax ay aw ah bx by' bw bh), .int .i64 (meetY ax ay aw ah bx by' bw bh), .int .i64 (meetW ax ay aw ah bx by' bw bh), .int .i64 (meetH ax ay aw ah bx by' bw bh)] 31))
  have Xb := Lib.hid (Xb.out.alloc (.cells #[.int .i64 (meetX ax ay aw ah bx by' bw bh), .int .i64 (meetY ax ay aw ah bx by' bw bh), .int .i64 (meetW ax ay aw ah bx by' bw bh), .int .i64 (meetH ax ay aw ah bx by' bw bh)] 31))
  have Xp := Lib.hid (Xp.out.alloc (.cells #[.int .i64 (meetX ax ay aw ah bx by' bw bh), .int .i64 (meetY ax ay aw ah bx by' bw bh), .int .i64 (meetW ax ay aw ah bx by' bw bh), .int .i64 (meetH ax ay aw ah bx by' bw bh)] 31))
  have Xm := Lib.hid (BoxAt.new w3 (meetX ax ay aw ah bx by' bw bh) (meetY ax ay aw ah bx by' bw bh) (meetW ax ay aw ah bx by' bw bh) (meetH ax ay aw ah bx by' bw bh) 31)
  obtain ⟨a0, a1, a2, a3, a4⟩ := Xa.out
  obtain ⟨b0, b1, b2, b3, b4⟩ := Xb.out
  go_wp2_with fail
  go_at_call 31
  refine (kN _).mono ?_
  rintro e w4 ⟨rfl, hb⟩
  clear a0 a1 a2 a3 a4 b0 b1 b2 b3 b4
  have Xa := Lib.hid (Xa.out.of hb)
  have Xb := Lib.hid (Xb.out.of hb)
  have Xp := Lib.hid (Xp.out.of hb)
  have Xm := Lib.hid (Xm.out.of hb)
  have hB4 := below_thruA hB3 hb
  clear hb hB3
  have Xa := Lib.hid (Xa.out.alloc (.cells #[.int .i64 (meetX ax ay aw ah bx by' bw bh), .int .i64 (meetY ax ay aw ah bx by' bw bh), .int .i64 (meetW ax ay aw ah bx by' bw bh), .int .i64 (meetH ax ay aw ah bx by' bw bh)] 31))
  have Xb := Lib.hid (Xb.out.alloc (.cells #[.int .i64 (meetX ax ay aw ah bx by' bw bh), .int .i64 (meetY ax ay aw ah bx by' bw bh), .int .i64 (meetW ax ay aw ah bx by' bw bh), .int .i64 (meetH ax ay aw ah bx by' bw bh)] 31))
  have Xp := Lib.hid (Xp.out.alloc (.cells #[.int .i64 (meetX ax ay aw ah bx by' bw bh), .int .i64 (meetY ax ay aw ah bx by' bw bh), .int .i64 (meetW ax ay aw ah bx by' bw bh), .int .i64 (meetH ax ay aw ah bx by' bw bh)] 31))
  have Xm := Lib.hid (Xm.out.alloc (.cells #[.int .i64 (meetX ax ay aw ah bx by' bw bh), .int .i64 (meetY ax ay aw ah bx by' bw bh), .int .i64 (meetW ax ay aw ah bx by' bw bh), .int .i64 (meetH ax ay aw ah bx by' bw bh)] 31))
  have Xn := Lib.hid (BoxAt.new w4 (meetX ax ay aw ah bx by' bw bh) (meetY ax ay aw ah bx by' bw bh) (meetW ax ay aw ah bx by' bw bh) (meetH ax ay aw ah bx by' bw bh) 31)
  obtain ⟨a0, a1, a2, a3, a4⟩ := Xa.out
  obtain ⟨b0, b1, b2, b3, b4⟩ := Xb.out
  go_wp2_with fail
  go_at_call 33
  refine (point_JoinU _ _ _ _ _ _ _ _ _).mono ?_
  rintro e w5 ⟨rfl, hb⟩
  clear a0 a1 a2 a3 a4 b0 b1 b2 b3 b4
  have Xa := Lib.hid (Xa.out.of hb)
  have Xb := Lib.hid (Xb.out.of hb)
  have Xp := Lib.hid (Xp.out.of hb)
  have Xm := Lib.hid (Xm.out.of hb)
  have Xn := Lib.hid (Xn.out.of hb)
  have hB5 := below_thruA hB4 hb
  clear hb hB4
  have Xa := Lib.hid (Xa.out.alloc (.cells #[.int .i64 (joinX ax ay aw ah bx by' bw bh), .int .i64 (joinY ax ay aw ah bx by' bw bh), .int .i64 (joinW ax ay aw ah bx by' bw bh), .int .i64 (joinH ax ay aw ah bx by' bw bh)] 31))
  have Xb := Lib.hid (Xb.out.alloc (.cells #[.int .i64 (joinX ax ay aw ah bx by' bw bh), .int .i64 (joinY ax ay aw ah bx by' bw bh), .int .i64 (joinW ax ay aw ah bx by' bw bh), .int .i64 (joinH ax ay aw ah bx by' bw bh)] 31))
  have Xp := Lib.hid (Xp.out.alloc (.cells #[.int .i64 (joinX ax ay aw ah bx by' bw bh), .int .i64 (joinY ax ay aw ah bx by' bw bh), .int .i64 (joinW ax ay aw ah bx by' bw bh), .int .i64 (joinH ax ay aw ah bx by' bw bh)] 31))
  have Xm := Lib.hid (Xm.out.alloc (.cells #[.int .i64 (joinX ax ay aw ah bx by' bw bh), .int .i64 (joinY ax ay aw ah bx by' bw bh), .int .i64 (joinW ax ay aw ah bx by' bw bh), .int .i64 (joinH ax ay aw ah bx by' bw bh)] 31))
  have Xn := Lib.hid (Xn.out.alloc (.cells #[.int .i64 (joinX ax ay aw ah bx by' bw bh), .int .i64 (joinY ax ay aw ah bx by' bw bh), .int .i64 (joinW ax ay aw ah bx by' bw bh), .int .i64 (joinH ax ay aw ah bx by' bw bh)] 31))
  have Xj := Lib.hid (BoxAt.new w5 (joinX ax ay aw ah bx by' bw bh) (joinY ax ay aw ah bx by' bw bh) (joinW ax ay aw ah bx by' bw bh) (joinH ax ay aw ah bx by' bw bh) 31)
  obtain ⟨a0, a1, a2, a3, a4⟩ := Xa.out
  obtain ⟨p0, p1, p2⟩ := Xp.out
  go_wp2_with fail
  go_at_call 23
  refine (kIa _).mono ?_
  rintro e w6 ⟨rfl, hb⟩
  clear a0 a1 a2 a3 a4 p0 p1 p2
  have Xa := Lib.hid (Xa.out.of hb)
  have Xb := Lib.hid (Xb.out.of hb)
  have Xp := Lib.hid (Xp.out.of hb)
  have Xm := Lib.hid (Xm.out.of hb)
  have Xn := Lib.hid (Xn.out.of hb)
  have Xj := Lib.hid (Xj.out.of hb)
  have hB6 := below_thruA hB5 hb
  clear hb hB5
  obtain ⟨b0, b1, b2, b3, b4⟩ := Xb.out
  obtain ⟨p0, p1, p2⟩ := Xp.out
  go_wp2_with fail
  go_at_call 23
  refine (kIb _).mono ?_
  rintro e w7 ⟨rfl, hb⟩
  clear b0 b1 b2 b3 b4 p0 p1 p2
  have Xa := Lib.hid (Xa.out.of hb)
  have Xb := Lib.hid (Xb.out.of hb)
  have Xp := Lib.hid (Xp.out.of hb)
  have Xm := Lib.hid (Xm.out.of hb)
  have Xn := Lib.hid (Xn.out.of hb)
  have Xj := Lib.hid (Xj.out.of hb)
  have hB7 := below_thru hB6 hb
  clear hb hB6
  obtain ⟨a0, a1, a2, a3, a4⟩ := Xa.out
  obtain ⟨p0, p1, p2⟩ := Xp.out
  go_wp2_with fail
  go_at_call 23
  refine (kIa _).mono ?_
  rintro e w8 ⟨rfl, hb⟩
  clear a0 a1 a2 a3 a4 p0 p1 p2
  have Xa := Lib.hid (Xa.out.of hb)
  have Xb := Lib.hid (Xb.out.of hb)
  have Xp := Lib.hid (Xp.out.of hb)
  have Xm := Lib.hid (Xm.out.of hb)
  have Xn := Lib.hid (Xn.out.of hb)
  have Xj := Lib.hid (Xj.out.of hb)
  have hB8 := below_thru hB7 hb
  clear hb hB7
  obtain ⟨m0, m1, m2, m3, m4⟩ := Xm.out
  obtain ⟨n0, n1, n2, n3, n4⟩ := Xn.out
  obtain ⟨p0, p1, p2⟩ := Xp.out
  go_wp2_with fail
  go_at_call 23
  refine (kIm _).mono ?_
  rintro e w9 ⟨rfl, hb⟩
  clear m0 m1 m2 m3 m4 n0 n1 n2 n3 n4 p0 p1 p2
  have Xa := Lib.hid (Xa.out.of hb)
  have Xb := Lib.hid (Xb.out.of hb)
  have Xp := Lib.hid (Xp.out.of hb)
  have Xm := Lib.hid (Xm.out.of hb)
  have Xn := Lib.hid (Xn.out.of hb)
  have Xj := Lib.hid (Xj.out.of hb)
  have hB9 := below_thru hB8 hb
  clear hb hB8
  obtain ⟨j0, j1, j2, j3, j4⟩ := Xj.out
  obtain ⟨p0, p1, p2⟩ := Xp.out
  go_wp2_with fail
  go_at_call 23
  refine (kIj _).mono ?_
  rintro e w10 ⟨rfl, hb⟩
  clear j0 j1 j2 j3 j4 p0 p1 p2
  have Xa := Lib.hid (Xa.out.of hb)
  have Xb := Lib.hid (Xb.out.of hb)
  have Xp := Lib.hid (Xp.out.of hb)
  have Xm := Lib.hid (Xm.out.of hb)
  have Xn := Lib.hid (Xn.out.of hb)
  have Xj := Lib.hid (Xj.out.of hb)
  have hB10 := below_thru hB9 hb
  clear hb hB9
  go_wp2_with fail
  go_at_call 15
  refine (awake_03 _).mono ?_
  rintro e w11 ⟨rfl, hb⟩
  go_wp2_with fail
  go_ret
  exact ⟨rfl, below_thru hB10 hb⟩
set_option maxHeartbeats 4000000 in
theorem members_tft (ax ay aw ah bx by' bw bh px py : Int) (w : World) (hA : rightB ax ay aw ah = true) (hB : rightB bx by' bw bh = true) (ha : boxInB ax ay aw ah px py = true) (hb' : boxInB bx by' bw bh px py = false) (hq : meetOk ax ay aw ah bx by' bw bh = true) : Calls Try.prog 7 #[.agg #[.int .i64 ax, .int .i64 ay, .int .i64 aw, .int .i64 ah], .agg #[.int .i64 bx, .int .i64 by', .int .i64 bw, .int .i64 bh], .agg #[.int .i64 px, .int .i64 py]] w fun e w' => e = .returned (.bool true) ∧ Below w.heap.size w w' := by
  have kA := fun w1 => ref_RightV hA w1
  have kB := fun w1 => ref_RightV hB w1
  have kM := fun w1 => point_MeetU ax ay aw ah bx by' bw bh w1
  have kN := fun w1 => point_MeetU bx by' bw bh ax ay aw ah w1
  obtain ⟨c1, c2, c3, c4⟩ := meet_comm ax ay aw ah bx by' bw bh
  rw [meetOk_comm bx by' bw bh ax ay aw ah, hq, ← c1, ← c2, ← c3, ← c4] at kN
  rw [hq] at kM
  have kIa := fun w1 => point_InV ha w1
  have kIb := fun w1 => point_InV hb' w1
  have kIm := fun w1 => point_InV (show boxInB (meetX ax ay aw ah bx by' bw bh) (meetY ax ay aw ah bx by' bw bh) (meetW ax ay aw ah bx by' bw bh) (meetH ax ay aw ah bx by' bw bh) px py = false by rw [meet_in hA hB, ha, hb']; rfl) w1
  have kIj := fun w1 => point_InV (join_in hA hB (.inl ha)) w1
  clear c1 c2 c3 c4 hA hB ha hb' hq
  go_enter Try.func7, Try.ntmps7
  go_wp2_with fail
  go_at_call 22
  refine (kA _).mono ?_
  rintro e w1 ⟨rfl, hb⟩
  have Xa := Lib.hid ((((BoxAt.new w ax ay aw ah 31).alloc (.cells #[.int .i64 bx, .int .i64 by', .int .i64 bw, .int .i64 bh] 31)).alloc (.cells #[.int .i64 px, .int .i64 py] 23)).of hb)
  have Xb := Lib.hid (show BoxAt w1 (w.heap.size + 1) bx by' bw bh by have := (((BoxAt.new (w.alloc (.cells #[.int .i64 ax, .int .i64 ay, .int .i64 aw, .int .i64 ah] 31)) bx by' bw bh 31).alloc (.cells #[.int .i64 px, .int .i64 py] 23)).of hb); rwa [World.size_alloc] at this)
  have Xp := Lib.hid (show PtAt w1 (w.heap.size + 1 + 1) px py by have := ((PtAt.new ((w.alloc (.cells #[.int .i64 ax, .int .i64 ay, .int .i64 aw, .int .i64 ah] 31)).alloc (.cells #[.int .i64 bx, .int .i64 by', .int .i64 bw, .int .i64 bh] 31)) px py 23).of hb); rwa [World.size_alloc, World.size_alloc] at this)
  have hB1 := below_thruA3 hb
  clear hb
  obtain ⟨a0, a1, a2, a3, a4⟩ := Xa.out
  obtain ⟨b0, b1, b2, b3, b4⟩ := Xb.out
  go_wp2_with fail
  go_at_call 22
  refine (kB _).mono ?_
  rintro e w2 ⟨rfl, hb⟩
  clear a0 a1 a2 a3 a4 b0 b1 b2 b3 b4
  have Xa := Lib.hid (Xa.out.of hb)
  have Xb := Lib.hid (Xb.out.of hb)
  have Xp := Lib.hid (Xp.out.of hb)
  have hB2 := below_thru hB1 hb
  clear hb hB1
  obtain ⟨a0, a1, a2, a3, a4⟩ := Xa.out
  obtain ⟨b0, b1, b2, b3, b4⟩ := Xb.out
  go_wp2_with fail
  go_at_call 31
  refine (kM _).mono ?_
  rintro e w3 ⟨rfl, hb⟩
  clear a0 a1 a2 a3 a4 b0 b1 b2 b3 b4
  have Xa := Lib.hid (Xa.out.of hb)
  have Xb := Lib.hid (Xb.out.of hb)
  have Xp := Lib.hid (Xp.out.of hb)
  have hB3 := below_thru hB2 hb
  clear hb hB2
  have Xa := Lib.hid (Xa.out.alloc (.cells #[.int .i64 (meetX ax ay aw ah bx by' bw bh), .int .i64 (meetY ax ay aw ah bx by' bw bh), .int .i64 (meetW ax ay aw ah bx by' bw bh), .int .i64 (meetH ax ay aw ah bx by' bw bh)] 31))
  have Xb := Lib.hid (Xb.out.alloc (.cells #[.int .i64 (meetX ax ay aw ah bx by' bw bh), .int .i64 (meetY ax ay aw ah bx by' bw bh), .int .i64 (meetW ax ay aw ah bx by' bw bh), .int .i64 (meetH ax ay aw ah bx by' bw bh)] 31))
  have Xp := Lib.hid (Xp.out.alloc (.cells #[.int .i64 (meetX ax ay aw ah bx by' bw bh), .int .i64 (meetY ax ay aw ah bx by' bw bh), .int .i64 (meetW ax ay aw ah bx by' bw bh), .int .i64 (meetH ax ay aw ah bx by' bw bh)] 31))
  have Xm := Lib.hid (BoxAt.new w3 (meetX ax ay aw ah bx by' bw bh) (meetY ax ay aw ah bx by' bw bh) (meetW ax ay aw ah bx by' bw bh) (meetH ax ay aw ah bx by' bw bh) 31)
  obtain ⟨a0, a1, a2, a3, a4⟩ := Xa.out
  obtain ⟨b0, b1, b2, b3, b4⟩ := Xb.out
  go_wp2_with fail
  go_at_call 31
  refine (kN _).mono ?_
  rintro e w4 ⟨rfl, hb⟩
  clear a0 a1 a2 a3 a4 b0 b1 b2 b3 b4
  have Xa := Lib.hid (Xa.out.of hb)
  have Xb := Lib.hid (Xb.out.of hb)
  have Xp := Lib.hid (Xp.out.of hb)
  have Xm := Lib.hid (Xm.out.of hb)
  have hB4 := below_thruA hB3 hb
  clear hb hB3
  have Xa := Lib.hid (Xa.out.alloc (.cells #[.int .i64 (meetX ax ay aw ah bx by' bw bh), .int .i64 (meetY ax ay aw ah bx by' bw bh), .int .i64 (meetW ax ay aw ah bx by' bw bh), .int .i64 (meetH ax ay aw ah bx by' bw bh)] 31))
  have Xb := Lib.hid (Xb.out.alloc (.cells #[.int .i64 (meetX ax ay aw ah bx by' bw bh), .int .i64 (meetY ax ay aw ah bx by' bw bh), .int .i64 (meetW ax ay aw ah bx by' bw bh), .int .i64 (meetH ax ay aw ah bx by' bw bh)] 31))
  have Xp := Lib.hid (Xp.out.alloc (.cells #[.int .i64 (meetX ax ay aw ah bx by' bw bh), .int .i64 (meetY ax ay aw ah bx by' bw bh), .int .i64 (meetW ax ay aw ah bx by' bw bh), .int .i64 (meetH ax ay aw ah bx by' bw bh)] 31))
  have Xm := Lib.hid (Xm.out.alloc (.cells #[.int .i64 (meetX ax ay aw ah bx by' bw bh), .int .i64 (meetY ax ay aw ah bx by' bw bh), .int .i64 (meetW ax ay aw ah bx by' bw bh), .int .i64 (meetH ax ay aw ah bx by' bw bh)] 31))
  have Xn := Lib.hid (BoxAt.new w4 (meetX ax ay aw ah bx by' bw bh) (meetY ax ay aw ah bx by' bw bh) (meetW ax ay aw ah bx by' bw bh) (meetH ax ay aw ah bx by' bw bh) 31)
  obtain ⟨a0, a1, a2, a3, a4⟩ := Xa.out
  obtain ⟨b0, b1, b2, b3, b4⟩ := Xb.out
  go_wp2_with fail
  go_at_call 33
  refine (point_JoinU _ _ _ _ _ _ _ _ _).mono ?_
  rintro e w5 ⟨rfl, hb⟩
  clear a0 a1 a2 a3 a4 b0 b1 b2 b3 b4
  have Xa := Lib.hid (Xa.out.of hb)
  have Xb := Lib.hid (Xb.out.of hb)
  have Xp := Lib.hid (Xp.out.of hb)
  have Xm := Lib.hid (Xm.out.of hb)
  have Xn := Lib.hid (Xn.out.of hb)
  have hB5 := below_thruA hB4 hb
  clear hb hB4
  have Xa := Lib.hid (Xa.out.alloc (.cells #[.int .i64 (joinX ax ay aw ah bx by' bw bh), .int .i64 (joinY ax ay aw ah bx by' bw bh), .int .i64 (joinW ax ay aw ah bx by' bw bh), .int .i64 (joinH ax ay aw ah bx by' bw bh)] 31))
  have Xb := Lib.hid (Xb.out.alloc (.cells #[.int .i64 (joinX ax ay aw ah bx by' bw bh), .int .i64 (joinY ax ay aw ah bx by' bw bh), .int .i64 (joinW ax ay aw ah bx by' bw bh), .int .i64 (joinH ax ay aw ah bx by' bw bh)] 31))
  have Xp := Lib.hid (Xp.out.alloc (.cells #[.int .i64 (joinX ax ay aw ah bx by' bw bh), .int .i64 (joinY ax ay aw ah bx by' bw bh), .int .i64 (joinW ax ay aw ah bx by' bw bh), .int .i64 (joinH ax ay aw ah bx by' bw bh)] 31))
  have Xm := Lib.hid (Xm.out.alloc (.cells #[.int .i64 (joinX ax ay aw ah bx by' bw bh), .int .i64 (joinY ax ay aw ah bx by' bw bh), .int .i64 (joinW ax ay aw ah bx by' bw bh), .int .i64 (joinH ax ay aw ah bx by' bw bh)] 31))
  have Xn := Lib.hid (Xn.out.alloc (.cells #[.int .i64 (joinX ax ay aw ah bx by' bw bh), .int .i64 (joinY ax ay aw ah bx by' bw bh), .int .i64 (joinW ax ay aw ah bx by' bw bh), .int .i64 (joinH ax ay aw ah bx by' bw bh)] 31))
  have Xj := Lib.hid (BoxAt.new w5 (joinX ax ay aw ah bx by' bw bh) (joinY ax ay aw ah bx by' bw bh) (joinW ax ay aw ah bx by' bw bh) (joinH ax ay aw ah bx by' bw bh) 31)
  obtain ⟨a0, a1, a2, a3, a4⟩ := Xa.out
  obtain ⟨p0, p1, p2⟩ := Xp.out
  go_wp2_with fail
  go_at_call 23
  refine (kIa _).mono ?_
  rintro e w6 ⟨rfl, hb⟩
  clear a0 a1 a2 a3 a4 p0 p1 p2
  have Xa := Lib.hid (Xa.out.of hb)
  have Xb := Lib.hid (Xb.out.of hb)
  have Xp := Lib.hid (Xp.out.of hb)
  have Xm := Lib.hid (Xm.out.of hb)
  have Xn := Lib.hid (Xn.out.of hb)
  have Xj := Lib.hid (Xj.out.of hb)
  have hB6 := below_thruA hB5 hb
  clear hb hB5
  obtain ⟨b0, b1, b2, b3, b4⟩ := Xb.out
  obtain ⟨p0, p1, p2⟩ := Xp.out
  go_wp2_with fail
  go_at_call 23
  refine (kIb _).mono ?_
  rintro e w7 ⟨rfl, hb⟩
  clear b0 b1 b2 b3 b4 p0 p1 p2
  have Xa := Lib.hid (Xa.out.of hb)
  have Xb := Lib.hid (Xb.out.of hb)
  have Xp := Lib.hid (Xp.out.of hb)
  have Xm := Lib.hid (Xm.out.of hb)
  have Xn := Lib.hid (Xn.out.of hb)
  have Xj := Lib.hid (Xj.out.of hb)
  have hB7 := below_thru hB6 hb
  clear hb hB6
  obtain ⟨a0, a1, a2, a3, a4⟩ := Xa.out
  obtain ⟨p0, p1, p2⟩ := Xp.out
  go_wp2_with fail
  go_at_call 23
  refine (kIa _).mono ?_
  rintro e w8 ⟨rfl, hb⟩
  clear a0 a1 a2 a3 a4 p0 p1 p2
  have Xa := Lib.hid (Xa.out.of hb)
  have Xb := Lib.hid (Xb.out.of hb)
  have Xp := Lib.hid (Xp.out.of hb)
  have Xm := Lib.hid (Xm.out.of hb)
  have Xn := Lib.hid (Xn.out.of hb)
  have Xj := Lib.hid (Xj.out.of hb)
  have hB8 := below_thru hB7 hb
  clear hb hB7
  obtain ⟨m0, m1, m2, m3, m4⟩ := Xm.out
  obtain ⟨n0, n1, n2, n3, n4⟩ := Xn.out
  obtain ⟨p0, p1, p2⟩ := Xp.out
  go_wp2_with fail
  go_at_call 23
  refine (kIm _).mono ?_
  rintro e w9 ⟨rfl, hb⟩
  clear m0 m1 m2 m3 m4 n0 n1 n2 n3 n4 p0 p1 p2
  have Xa := Lib.hid (Xa.out.of hb)
  have Xb := Lib.hid (Xb.out.of hb)
  have Xp := Lib.hid (Xp.out.of hb)
  have Xm := Lib.hid (Xm.out.of hb)
  have Xn := Lib.hid (Xn.out.of hb)
  have Xj := Lib.hid (Xj.out.of hb)
  have hB9 := below_thru hB8 hb
  clear hb hB8
  obtain ⟨j0, j1, j2, j3, j4⟩ := Xj.out
  obtain ⟨p0, p1, p2⟩ := Xp.out
  go_wp2_with fail
  go_at_call 23
  refine (kIj _).mono ?_
  rintro e w10 ⟨rfl, hb⟩
  clear j0 j1 j2 j3 j4 p0 p1 p2
  have Xa := Lib.hid (Xa.out.of hb)
  have Xb := Lib.hid (Xb.out.of hb)
  have Xp := Lib.hid (Xp.out.of hb)
  have Xm := Lib.hid (Xm.out.of hb)
  have Xn := Lib.hid (Xn.out.of hb)
  have Xj := Lib.hid (Xj.out.of hb)
  have hB10 := below_thru hB9 hb
  clear hb hB9
  go_wp2_with fail
  go_at_call 15
  refine (awake_03 _).mono ?_
  rintro e w11 ⟨rfl, hb⟩
  go_wp2_with fail
  go_ret
  exact ⟨rfl, below_thru hB10 hb⟩
set_option maxHeartbeats 4000000 in
theorem members_tff (ax ay aw ah bx by' bw bh px py : Int) (w : World) (hA : rightB ax ay aw ah = true) (hB : rightB bx by' bw bh = true) (ha : boxInB ax ay aw ah px py = true) (hb' : boxInB bx by' bw bh px py = false) (hq : meetOk ax ay aw ah bx by' bw bh = false) : Calls Try.prog 7 #[.agg #[.int .i64 ax, .int .i64 ay, .int .i64 aw, .int .i64 ah], .agg #[.int .i64 bx, .int .i64 by', .int .i64 bw, .int .i64 bh], .agg #[.int .i64 px, .int .i64 py]] w fun e w' => e = .returned (.bool true) ∧ Below w.heap.size w w' := by
  have kA := fun w1 => ref_RightV hA w1
  have kB := fun w1 => ref_RightV hB w1
  have kM := fun w1 => point_MeetU ax ay aw ah bx by' bw bh w1
  have kN := fun w1 => point_MeetU bx by' bw bh ax ay aw ah w1
  obtain ⟨c1, c2, c3, c4⟩ := meet_comm ax ay aw ah bx by' bw bh
  rw [meetOk_comm bx by' bw bh ax ay aw ah, hq, ← c1, ← c2, ← c3, ← c4] at kN
  rw [hq] at kM
  have kIa := fun w1 => point_InV ha w1
  have kIb := fun w1 => point_InV hb' w1
  have kIm := fun w1 => point_InV (show boxInB (meetX ax ay aw ah bx by' bw bh) (meetY ax ay aw ah bx by' bw bh) (meetW ax ay aw ah bx by' bw bh) (meetH ax ay aw ah bx by' bw bh) px py = false by rw [meet_in hA hB, ha, hb']; rfl) w1
  have kIj := fun w1 => point_InV (join_in hA hB (.inl ha)) w1
  clear c1 c2 c3 c4 hA hB ha hb' hq
  go_enter Try.func7, Try.ntmps7
  go_wp2_with fail
  go_at_call 22
  refine (kA _).mono ?_
  rintro e w1 ⟨rfl, hb⟩
  have Xa := Lib.hid ((((BoxAt.new w ax ay aw ah 31).alloc (.cells #[.int .i64 bx, .int .i64 by', .int .i64 bw, .int .i64 bh] 31)).alloc (.cells #[.int .i64 px, .int .i64 py] 23)).of hb)
  have Xb := Lib.hid (show BoxAt w1 (w.heap.size + 1) bx by' bw bh by have := (((BoxAt.new (w.alloc (.cells #[.int .i64 ax, .int .i64 ay, .int .i64 aw, .int .i64 ah] 31)) bx by' bw bh 31).alloc (.cells #[.int .i64 px, .int .i64 py] 23)).of hb); rwa [World.size_alloc] at this)
  have Xp := Lib.hid (show PtAt w1 (w.heap.size + 1 + 1) px py by have := ((PtAt.new ((w.alloc (.cells #[.int .i64 ax, .int .i64 ay, .int .i64 aw, .int .i64 ah] 31)).alloc (.cells #[.int .i64 bx, .int .i64 by', .int .i64 bw, .int .i64 bh] 31)) px py 23).of hb); rwa [World.size_alloc, World.size_alloc] at this)
  have hB1 := below_thruA3 hb
  clear hb
  obtain ⟨a0, a1, a2, a3, a4⟩ := Xa.out
  obtain ⟨b0, b1, b2, b3, b4⟩ := Xb.out
  go_wp2_with fail
  go_at_call 22
  refine (kB _).mono ?_
  rintro e w2 ⟨rfl, hb⟩
  clear a0 a1 a2 a3 a4 b0 b1 b2 b3 b4
  have Xa := Lib.hid (Xa.out.of hb)
  have Xb := Lib.hid (Xb.out.of hb)
  have Xp := Lib.hid (Xp.out.of hb)
  have hB2 := below_thru hB1 hb
  clear hb hB1
  obtain ⟨a0, a1, a2, a3, a4⟩ := Xa.out
  obtain ⟨b0, b1, b2, b3, b4⟩ := Xb.out
  go_wp2_with fail
  go_at_call 31
  refine (kM _).mono ?_
  rintro e w3 ⟨rfl, hb⟩
  clear a0 a1 a2 a3 a4 b0 b1 b2 b3 b4
  have Xa := Lib.hid (Xa.out.of hb)
  have Xb := Lib.hid (Xb.out.of hb)
  have Xp := Lib.hid (Xp.out.of hb)
  have hB3 := below_thru hB2 hb
  clear hb hB2
  have Xa := Lib.hid (Xa.out.alloc (.cells #[.int .i64 (meetX ax ay aw ah bx by' bw bh), .int .i64 (meetY ax ay aw ah bx by' bw bh), .int .i64 (meetW ax ay aw ah bx by' bw bh), .int .i64 (meetH ax ay aw ah bx by' bw bh)] 31))
  have Xb := Lib.hid (Xb.out.alloc (.cells #[.int .i64 (meetX ax ay aw ah bx by' bw bh), .int .i64 (meetY ax ay aw ah bx by' bw bh), .int .i64 (meetW ax ay aw ah bx by' bw bh), .int .i64 (meetH ax ay aw ah bx by' bw bh)] 31))
  have Xp := Lib.hid (Xp.out.alloc (.cells #[.int .i64 (meetX ax ay aw ah bx by' bw bh), .int .i64 (meetY ax ay aw ah bx by' bw bh), .int .i64 (meetW ax ay aw ah bx by' bw bh), .int .i64 (meetH ax ay aw ah bx by' bw bh)] 31))
  have Xm := Lib.hid (BoxAt.new w3 (meetX ax ay aw ah bx by' bw bh) (meetY ax ay aw ah bx by' bw bh) (meetW ax ay aw ah bx by' bw bh) (meetH ax ay aw ah bx by' bw bh) 31)
  obtain ⟨a0, a1, a2, a3, a4⟩ := Xa.out
  obtain ⟨b0, b1, b2, b3, b4⟩ := Xb.out
  go_wp2_with fail
  go_at_call 31
  refine (kN _).mono ?_
  rintro e w4 ⟨rfl, hb⟩
  clear a0 a1 a2 a3 a4 b0 b1 b2 b3 b4
  have Xa := Lib.hid (Xa.out.of hb)
  have Xb := Lib.hid (Xb.out.of hb)
  have Xp := Lib.hid (Xp.out.of hb)
  have Xm := Lib.hid (Xm.out.of hb)
  have hB4 := below_thruA hB3 hb
  clear hb hB3
  have Xa := Lib.hid (Xa.out.alloc (.cells #[.int .i64 (meetX ax ay aw ah bx by' bw bh), .int .i64 (meetY ax ay aw ah bx by' bw bh), .int .i64 (meetW ax ay aw ah bx by' bw bh), .int .i64 (meetH ax ay aw ah bx by' bw bh)] 31))
  have Xb := Lib.hid (Xb.out.alloc (.cells #[.int .i64 (meetX ax ay aw ah bx by' bw bh), .int .i64 (meetY ax ay aw ah bx by' bw bh), .int .i64 (meetW ax ay aw ah bx by' bw bh), .int .i64 (meetH ax ay aw ah bx by' bw bh)] 31))
  have Xp := Lib.hid (Xp.out.alloc (.cells #[.int .i64 (meetX ax ay aw ah bx by' bw bh), .int .i64 (meetY ax ay aw ah bx by' bw bh), .int .i64 (meetW ax ay aw ah bx by' bw bh), .int .i64 (meetH ax ay aw ah bx by' bw bh)] 31))
  have Xm := Lib.hid (Xm.out.alloc (.cells #[.int .i64 (meetX ax ay aw ah bx by' bw bh), .int .i64 (meetY ax ay aw ah bx by' bw bh), .int .i64 (meetW ax ay aw ah bx by' bw bh), .int .i64 (meetH ax ay aw ah bx by' bw bh)] 31))
  have Xn := Lib.hid (BoxAt.new w4 (meetX ax ay aw ah bx by' bw bh) (meetY ax ay aw ah bx by' bw bh) (meetW ax ay aw ah bx by' bw bh) (meetH ax ay aw ah bx by' bw bh) 31)
  obtain ⟨a0, a1, a2, a3, a4⟩ := Xa.out
  obtain ⟨b0, b1, b2, b3, b4⟩ := Xb.out
  go_wp2_with fail
  go_at_call 33
  refine (point_JoinU _ _ _ _ _ _ _ _ _).mono ?_
  rintro e w5 ⟨rfl, hb⟩
  clear a0 a1 a2 a3 a4 b0 b1 b2 b3 b4
  have Xa := Lib.hid (Xa.out.of hb)
  have Xb := Lib.hid (Xb.out.of hb)
  have Xp := Lib.hid (Xp.out.of hb)
  have Xm := Lib.hid (Xm.out.of hb)
  have Xn := Lib.hid (Xn.out.of hb)
  have hB5 := below_thruA hB4 hb
  clear hb hB4
  have Xa := Lib.hid (Xa.out.alloc (.cells #[.int .i64 (joinX ax ay aw ah bx by' bw bh), .int .i64 (joinY ax ay aw ah bx by' bw bh), .int .i64 (joinW ax ay aw ah bx by' bw bh), .int .i64 (joinH ax ay aw ah bx by' bw bh)] 31))
  have Xb := Lib.hid (Xb.out.alloc (.cells #[.int .i64 (joinX ax ay aw ah bx by' bw bh), .int .i64 (joinY ax ay aw ah bx by' bw bh), .int .i64 (joinW ax ay aw ah bx by' bw bh), .int .i64 (joinH ax ay aw ah bx by' bw bh)] 31))
  have Xp := Lib.hid (Xp.out.alloc (.cells #[.int .i64 (joinX ax ay aw ah bx by' bw bh), .int .i64 (joinY ax ay aw ah bx by' bw bh), .int .i64 (joinW ax ay aw ah bx by' bw bh), .int .i64 (joinH ax ay aw ah bx by' bw bh)] 31))
  have Xm := Lib.hid (Xm.out.alloc (.cells #[.int .i64 (joinX ax ay aw ah bx by' bw bh), .int .i64 (joinY ax ay aw ah bx by' bw bh), .int .i64 (joinW ax ay aw ah bx by' bw bh), .int .i64 (joinH ax ay aw ah bx by' bw bh)] 31))
  have Xn := Lib.hid (Xn.out.alloc (.cells #[.int .i64 (joinX ax ay aw ah bx by' bw bh), .int .i64 (joinY ax ay aw ah bx by' bw bh), .int .i64 (joinW ax ay aw ah bx by' bw bh), .int .i64 (joinH ax ay aw ah bx by' bw bh)] 31))
  have Xj := Lib.hid (BoxAt.new w5 (joinX ax ay aw ah bx by' bw bh) (joinY ax ay aw ah bx by' bw bh) (joinW ax ay aw ah bx by' bw bh) (joinH ax ay aw ah bx by' bw bh) 31)
  obtain ⟨a0, a1, a2, a3, a4⟩ := Xa.out
  obtain ⟨p0, p1, p2⟩ := Xp.out
  go_wp2_with fail
  go_at_call 23
  refine (kIa _).mono ?_
  rintro e w6 ⟨rfl, hb⟩
  clear a0 a1 a2 a3 a4 p0 p1 p2
  have Xa := Lib.hid (Xa.out.of hb)
  have Xb := Lib.hid (Xb.out.of hb)
  have Xp := Lib.hid (Xp.out.of hb)
  have Xm := Lib.hid (Xm.out.of hb)
  have Xn := Lib.hid (Xn.out.of hb)
  have Xj := Lib.hid (Xj.out.of hb)
  have hB6 := below_thruA hB5 hb
  clear hb hB5
  obtain ⟨b0, b1, b2, b3, b4⟩ := Xb.out
  obtain ⟨p0, p1, p2⟩ := Xp.out
  go_wp2_with fail
  go_at_call 23
  refine (kIb _).mono ?_
  rintro e w7 ⟨rfl, hb⟩
  clear b0 b1 b2 b3 b4 p0 p1 p2
  have Xa := Lib.hid (Xa.out.of hb)
  have Xb := Lib.hid (Xb.out.of hb)
  have Xp := Lib.hid (Xp.out.of hb)
  have Xm := Lib.hid (Xm.out.of hb)
  have Xn := Lib.hid (Xn.out.of hb)
  have Xj := Lib.hid (Xj.out.of hb)
  have hB7 := below_thru hB6 hb
  clear hb hB6
  obtain ⟨a0, a1, a2, a3, a4⟩ := Xa.out
  obtain ⟨p0, p1, p2⟩ := Xp.out
  go_wp2_with fail
  go_at_call 23
  refine (kIa _).mono ?_
  rintro e w8 ⟨rfl, hb⟩
  clear a0 a1 a2 a3 a4 p0 p1 p2
  have Xa := Lib.hid (Xa.out.of hb)
  have Xb := Lib.hid (Xb.out.of hb)
  have Xp := Lib.hid (Xp.out.of hb)
  have Xm := Lib.hid (Xm.out.of hb)
  have Xn := Lib.hid (Xn.out.of hb)
  have Xj := Lib.hid (Xj.out.of hb)
  have hB8 := below_thru hB7 hb
  clear hb hB7
  obtain ⟨m0, m1, m2, m3, m4⟩ := Xm.out
  obtain ⟨n0, n1, n2, n3, n4⟩ := Xn.out
  obtain ⟨p0, p1, p2⟩ := Xp.out
  go_wp2_with fail
  go_at_call 23
  refine (kIm _).mono ?_
  rintro e w9 ⟨rfl, hb⟩
  clear m0 m1 m2 m3 m4 n0 n1 n2 n3 n4 p0 p1 p2
  have Xa := Lib.hid (Xa.out.of hb)
  have Xb := Lib.hid (Xb.out.of hb)
  have Xp := Lib.hid (Xp.out.of hb)
  have Xm := Lib.hid (Xm.out.of hb)
  have Xn := Lib.hid (Xn.out.of hb)
  have Xj := Lib.hid (Xj.out.of hb)
  have hB9 := below_thru hB8 hb
  clear hb hB8
  obtain ⟨j0, j1, j2, j3, j4⟩ := Xj.out
  obtain ⟨p0, p1, p2⟩ := Xp.out
  go_wp2_with fail
  go_at_call 23
  refine (kIj _).mono ?_
  rintro e w10 ⟨rfl, hb⟩
  clear j0 j1 j2 j3 j4 p0 p1 p2
  have Xa := Lib.hid (Xa.out.of hb)
  have Xb := Lib.hid (Xb.out.of hb)
  have Xp := Lib.hid (Xp.out.of hb)
  have Xm := Lib.hid (Xm.out.of hb)
  have Xn := Lib.hid (Xn.out.of hb)
  have Xj := Lib.hid (Xj.out.of hb)
  have hB10 := below_thru hB9 hb
  clear hb hB9
  go_wp2_with fail
  go_at_call 15
  refine (awake_03 _).mono ?_
  rintro e w11 ⟨rfl, hb⟩
  go_wp2_with fail
  go_ret
  exact ⟨rfl, below_thru hB10 hb⟩
set_option maxHeartbeats 4000000 in
theorem members_ftt (ax ay aw ah bx by' bw bh px py : Int) (w : World) (hA : rightB ax ay aw ah = true) (hB : rightB bx by' bw bh = true) (ha : boxInB ax ay aw ah px py = false) (hb' : boxInB bx by' bw bh px py = true) (hq : meetOk ax ay aw ah bx by' bw bh = true) : Calls Try.prog 7 #[.agg #[.int .i64 ax, .int .i64 ay, .int .i64 aw, .int .i64 ah], .agg #[.int .i64 bx, .int .i64 by', .int .i64 bw, .int .i64 bh], .agg #[.int .i64 px, .int .i64 py]] w fun e w' => e = .returned (.bool true) ∧ Below w.heap.size w w' := by
  have kA := fun w1 => ref_RightV hA w1
  have kB := fun w1 => ref_RightV hB w1
  have kM := fun w1 => point_MeetU ax ay aw ah bx by' bw bh w1
  have kN := fun w1 => point_MeetU bx by' bw bh ax ay aw ah w1
  obtain ⟨c1, c2, c3, c4⟩ := meet_comm ax ay aw ah bx by' bw bh
  rw [meetOk_comm bx by' bw bh ax ay aw ah, hq, ← c1, ← c2, ← c3, ← c4] at kN
  rw [hq] at kM
  have kIa := fun w1 => point_InV ha w1
  have kIb := fun w1 => point_InV hb' w1
  have kIm := fun w1 => point_InV (show boxInB (meetX ax ay aw ah bx by' bw bh) (meetY ax ay aw ah bx by' bw bh) (meetW ax ay aw ah bx by' bw bh) (meetH ax ay aw ah bx by' bw bh) px py = false by rw [meet_in hA hB, ha, hb']; rfl) w1
  have kIj := fun w1 => point_InV (join_in hA hB (.inr hb')) w1
  clear c1 c2 c3 c4 hA hB ha hb' hq
  go_enter Try.func7, Try.ntmps7
  go_wp2_with fail
  go_at_call 22
  refine (kA _).mono ?_
  rintro e w1 ⟨rfl, hb⟩
  have Xa := Lib.hid ((((BoxAt.new w ax ay aw ah 31).alloc (.cells #[.int .i64 bx, .int .i64 by', .int .i64 bw, .int .i64 bh] 31)).alloc (.cells #[.int .i64 px, .int .i64 py] 23)).of hb)
  have Xb := Lib.hid (show BoxAt w1 (w.heap.size + 1) bx by' bw bh by have := (((BoxAt.new (w.alloc (.cells #[.int .i64 ax, .int .i64 ay, .int .i64 aw, .int .i64 ah] 31)) bx by' bw bh 31).alloc (.cells #[.int .i64 px, .int .i64 py] 23)).of hb); rwa [World.size_alloc] at this)
  have Xp := Lib.hid (show PtAt w1 (w.heap.size + 1 + 1) px py by have := ((PtAt.new ((w.alloc (.cells #[.int .i64 ax, .int .i64 ay, .int .i64 aw, .int .i64 ah] 31)).alloc (.cells #[.int .i64 bx, .int .i64 by', .int .i64 bw, .int .i64 bh] 31)) px py 23).of hb); rwa [World.size_alloc, World.size_alloc] at this)
  have hB1 := below_thruA3 hb
  clear hb
  obtain ⟨a0, a1, a2, a3, a4⟩ := Xa.out
  obtain ⟨b0, b1, b2, b3, b4⟩ := Xb.out
  go_wp2_with fail
  go_at_call 22
  refine (kB _).mono ?_
  rintro e w2 ⟨rfl, hb⟩
  clear a0 a1 a2 a3 a4 b0 b1 b2 b3 b4
  have Xa := Lib.hid (Xa.out.of hb)
  have Xb := Lib.hid (Xb.out.of hb)
  have Xp := Lib.hid (Xp.out.of hb)
  have hB2 := below_thru hB1 hb
  clear hb hB1
  obtain ⟨a0, a1, a2, a3, a4⟩ := Xa.out
  obtain ⟨b0, b1, b2, b3, b4⟩ := Xb.out
  go_wp2_with fail
  go_at_call 31
  refine (kM _).mono ?_
  rintro e w3 ⟨rfl, hb⟩
  clear a0 a1 a2 a3 a4 b0 b1 b2 b3 b4
  have Xa := Lib.hid (Xa.out.of hb)
  have Xb := Lib.hid (Xb.out.of hb)
  have Xp := Lib.hid (Xp.out.of hb)
  have hB3 := below_thru hB2 hb
  clear hb hB2
  have Xa := Lib.hid (Xa.out.alloc (.cells #[.int .i64 (meetX ax ay aw ah bx by' bw bh), .int .i64 (meetY ax ay aw ah bx by' bw bh), .int .i64 (meetW ax ay aw ah bx by' bw bh), .int .i64 (meetH ax ay aw ah bx by' bw bh)] 31))
  have Xb := Lib.hid (Xb.out.alloc (.cells #[.int .i64 (meetX ax ay aw ah bx by' bw bh), .int .i64 (meetY ax ay aw ah bx by' bw bh), .int .i64 (meetW ax ay aw ah bx by' bw bh), .int .i64 (meetH ax ay aw ah bx by' bw bh)] 31))
  have Xp := Lib.hid (Xp.out.alloc (.cells #[.int .i64 (meetX ax ay aw ah bx by' bw bh), .int .i64 (meetY ax ay aw ah bx by' bw bh), .int .i64 (meetW ax ay aw ah bx by' bw bh), .int .i64 (meetH ax ay aw ah bx by' bw bh)] 31))
  have Xm := Lib.hid (BoxAt.new w3 (meetX ax ay aw ah bx by' bw bh) (meetY ax ay aw ah bx by' bw bh) (meetW ax ay aw ah bx by' bw bh) (meetH ax ay aw ah bx by' bw bh) 31)
  obtain ⟨a0, a1, a2, a3, a4⟩ := Xa.out
  obtain ⟨b0, b1, b2, b3, b4⟩ := Xb.out
  go_wp2_with fail
  go_at_call 31
  refine (kN _).mono ?_
  rintro e w4 ⟨rfl, hb⟩
  clear a0 a1 a2 a3 a4 b0 b1 b2 b3 b4
  have Xa := Lib.hid (Xa.out.of hb)
  have Xb := Lib.hid (Xb.out.of hb)
  have Xp := Lib.hid (Xp.out.of hb)
  have Xm := Lib.hid (Xm.out.of hb)
  have hB4 := below_thruA hB3 hb
  clear hb hB3
  have Xa := Lib.hid (Xa.out.alloc (.cells #[.int .i64 (meetX ax ay aw ah bx by' bw bh), .int .i64 (meetY ax ay aw ah bx by' bw bh), .int .i64 (meetW ax ay aw ah bx by' bw bh), .int .i64 (meetH ax ay aw ah bx by' bw bh)] 31))
  have Xb := Lib.hid (Xb.out.alloc (.cells #[.int .i64 (meetX ax ay aw ah bx by' bw bh), .int .i64 (meetY ax ay aw ah bx by' bw bh), .int .i64 (meetW ax ay aw ah bx by' bw bh), .int .i64 (meetH ax ay aw ah bx by' bw bh)] 31))
  have Xp := Lib.hid (Xp.out.alloc (.cells #[.int .i64 (meetX ax ay aw ah bx by' bw bh), .int .i64 (meetY ax ay aw ah bx by' bw bh), .int .i64 (meetW ax ay aw ah bx by' bw bh), .int .i64 (meetH ax ay aw ah bx by' bw bh)] 31))
  have Xm := Lib.hid (Xm.out.alloc (.cells #[.int .i64 (meetX ax ay aw ah bx by' bw bh), .int .i64 (meetY ax ay aw ah bx by' bw bh), .int .i64 (meetW ax ay aw ah bx by' bw bh), .int .i64 (meetH ax ay aw ah bx by' bw bh)] 31))
  have Xn := Lib.hid (BoxAt.new w4 (meetX ax ay aw ah bx by' bw bh) (meetY ax ay aw ah bx by' bw bh) (meetW ax ay aw ah bx by' bw bh) (meetH ax ay aw ah bx by' bw bh) 31)
  obtain ⟨a0, a1, a2, a3, a4⟩ := Xa.out
  obtain ⟨b0, b1, b2, b3, b4⟩ := Xb.out
  go_wp2_with fail
  go_at_call 33
  refine (point_JoinU _ _ _ _ _ _ _ _ _).mono ?_
  rintro e w5 ⟨rfl, hb⟩
  clear a0 a1 a2 a3 a4 b0 b1 b2 b3 b4
  have Xa := Lib.hid (Xa.out.of hb)
  have Xb := Lib.hid (Xb.out.of hb)
  have Xp := Lib.hid (Xp.out.of hb)
  have Xm := Lib.hid (Xm.out.of hb)
  have Xn := Lib.hid (Xn.out.of hb)
  have hB5 := below_thruA hB4 hb
  clear hb hB4
  have Xa := Lib.hid (Xa.out.alloc (.cells #[.int .i64 (joinX ax ay aw ah bx by' bw bh), .int .i64 (joinY ax ay aw ah bx by' bw bh), .int .i64 (joinW ax ay aw ah bx by' bw bh), .int .i64 (joinH ax ay aw ah bx by' bw bh)] 31))
  have Xb := Lib.hid (Xb.out.alloc (.cells #[.int .i64 (joinX ax ay aw ah bx by' bw bh), .int .i64 (joinY ax ay aw ah bx by' bw bh), .int .i64 (joinW ax ay aw ah bx by' bw bh), .int .i64 (joinH ax ay aw ah bx by' bw bh)] 31))
  have Xp := Lib.hid (Xp.out.alloc (.cells #[.int .i64 (joinX ax ay aw ah bx by' bw bh), .int .i64 (joinY ax ay aw ah bx by' bw bh), .int .i64 (joinW ax ay aw ah bx by' bw bh), .int .i64 (joinH ax ay aw ah bx by' bw bh)] 31))
  have Xm := Lib.hid (Xm.out.alloc (.cells #[.int .i64 (joinX ax ay aw ah bx by' bw bh), .int .i64 (joinY ax ay aw ah bx by' bw bh), .int .i64 (joinW ax ay aw ah bx by' bw bh), .int .i64 (joinH ax ay aw ah bx by' bw bh)] 31))
  have Xn := Lib.hid (Xn.out.alloc (.cells #[.int .i64 (joinX ax ay aw ah bx by' bw bh), .int .i64 (joinY ax ay aw ah bx by' bw bh), .int .i64 (joinW ax ay aw ah bx by' bw bh), .int .i64 (joinH ax ay aw ah bx by' bw bh)] 31))
  have Xj := Lib.hid (BoxAt.new w5 (joinX ax ay aw ah bx by' bw bh) (joinY ax ay aw ah bx by' bw bh) (joinW ax ay aw ah bx by' bw bh) (joinH ax ay aw ah bx by' bw bh) 31)
  obtain ⟨a0, a1, a2, a3, a4⟩ := Xa.out
  obtain ⟨p0, p1, p2⟩ := Xp.out
  go_wp2_with fail
  go_at_call 23
  refine (kIa _).mono ?_
  rintro e w6 ⟨rfl, hb⟩
  clear a0 a1 a2 a3 a4 p0 p1 p2
  have Xa := Lib.hid (Xa.out.of hb)
  have Xb := Lib.hid (Xb.out.of hb)
  have Xp := Lib.hid (Xp.out.of hb)
  have Xm := Lib.hid (Xm.out.of hb)
  have Xn := Lib.hid (Xn.out.of hb)
  have Xj := Lib.hid (Xj.out.of hb)
  have hB6 := below_thruA hB5 hb
  clear hb hB5
  obtain ⟨a0, a1, a2, a3, a4⟩ := Xa.out
  obtain ⟨p0, p1, p2⟩ := Xp.out
  go_wp2_with fail
  go_at_call 23
  refine (kIa _).mono ?_
  rintro e w7 ⟨rfl, hb⟩
  clear a0 a1 a2 a3 a4 p0 p1 p2
  have Xa := Lib.hid (Xa.out.of hb)
  have Xb := Lib.hid (Xb.out.of hb)
  have Xp := Lib.hid (Xp.out.of hb)
  have Xm := Lib.hid (Xm.out.of hb)
  have Xn := Lib.hid (Xn.out.of hb)
  have Xj := Lib.hid (Xj.out.of hb)
  have hB7 := below_thru hB6 hb
  clear hb hB6
  obtain ⟨b0, b1, b2, b3, b4⟩ := Xb.out
  obtain ⟨p0, p1, p2⟩ := Xp.out
  go_wp2_with fail
  go_at_call 23
  refine (kIb _).mono ?_
  rintro e w8 ⟨rfl, hb⟩
  clear b0 b1 b2 b3 b4 p0 p1 p2
  have Xa := Lib.hid (Xa.out.of hb)
  have Xb := Lib.hid (Xb.out.of hb)
  have Xp := Lib.hid (Xp.out.of hb)
  have Xm := Lib.hid (Xm.out.of hb)
  have Xn := Lib.hid (Xn.out.of hb)
  have Xj := Lib.hid (Xj.out.of hb)
  have hB8 := below_thru hB7 hb
  clear hb hB7
  obtain ⟨m0, m1, m2, m3, m4⟩ := Xm.out
  obtain ⟨n0, n1, n2, n3, n4⟩ := Xn.out
  obtain ⟨p0, p1, p2⟩ := Xp.out
  go_wp2_with fail
  go_at_call 23
  refine (kIm _).mono ?_
  rintro e w9 ⟨rfl, hb⟩
  clear m0 m1 m2 m3 m4 n0 n1 n2 n3 n4 p0 p1 p2
  have Xa := Lib.hid (Xa.out.of hb)
  have Xb := Lib.hid (Xb.out.of hb)
  have Xp := Lib.hid (Xp.out.of hb)
  have Xm := Lib.hid (Xm.out.of hb)
  have Xn := Lib.hid (Xn.out.of hb)
  have Xj := Lib.hid (Xj.out.of hb)
  have hB9 := below_thru hB8 hb
  clear hb hB8
  obtain ⟨j0, j1, j2, j3, j4⟩ := Xj.out
  obtain ⟨p0, p1, p2⟩ := Xp.out
  go_wp2_with fail
  go_at_call 23
  refine (kIj _).mono ?_
  rintro e w10 ⟨rfl, hb⟩
  clear j0 j1 j2 j3 j4 p0 p1 p2
  have Xa := Lib.hid (Xa.out.of hb)
  have Xb := Lib.hid (Xb.out.of hb)
  have Xp := Lib.hid (Xp.out.of hb)
  have Xm := Lib.hid (Xm.out.of hb)
  have Xn := Lib.hid (Xn.out.of hb)
  have Xj := Lib.hid (Xj.out.of hb)
  have hB10 := below_thru hB9 hb
  clear hb hB9
  go_wp2_with fail
  go_at_call 15
  refine (awake_03 _).mono ?_
  rintro e w11 ⟨rfl, hb⟩
  go_wp2_with fail
  go_ret
  exact ⟨rfl, below_thru hB10 hb⟩
set_option maxHeartbeats 4000000 in
theorem members_ftf (ax ay aw ah bx by' bw bh px py : Int) (w : World) (hA : rightB ax ay aw ah = true) (hB : rightB bx by' bw bh = true) (ha : boxInB ax ay aw ah px py = false) (hb' : boxInB bx by' bw bh px py = true) (hq : meetOk ax ay aw ah bx by' bw bh = false) : Calls Try.prog 7 #[.agg #[.int .i64 ax, .int .i64 ay, .int .i64 aw, .int .i64 ah], .agg #[.int .i64 bx, .int .i64 by', .int .i64 bw, .int .i64 bh], .agg #[.int .i64 px, .int .i64 py]] w fun e w' => e = .returned (.bool true) ∧ Below w.heap.size w w' := by
  have kA := fun w1 => ref_RightV hA w1
  have kB := fun w1 => ref_RightV hB w1
  have kM := fun w1 => point_MeetU ax ay aw ah bx by' bw bh w1
  have kN := fun w1 => point_MeetU bx by' bw bh ax ay aw ah w1
  obtain ⟨c1, c2, c3, c4⟩ := meet_comm ax ay aw ah bx by' bw bh
  rw [meetOk_comm bx by' bw bh ax ay aw ah, hq, ← c1, ← c2, ← c3, ← c4] at kN
  rw [hq] at kM
  have kIa := fun w1 => point_InV ha w1
  have kIb := fun w1 => point_InV hb' w1
  have kIm := fun w1 => point_InV (show boxInB (meetX ax ay aw ah bx by' bw bh) (meetY ax ay aw ah bx by' bw bh) (meetW ax ay aw ah bx by' bw bh) (meetH ax ay aw ah bx by' bw bh) px py = false by rw [meet_in hA hB, ha, hb']; rfl) w1
  have kIj := fun w1 => point_InV (join_in hA hB (.inr hb')) w1
  clear c1 c2 c3 c4 hA hB ha hb' hq
  go_enter Try.func7, Try.ntmps7
  go_wp2_with fail
  go_at_call 22
  refine (kA _).mono ?_
  rintro e w1 ⟨rfl, hb⟩
  have Xa := Lib.hid ((((BoxAt.new w ax ay aw ah 31).alloc (.cells #[.int .i64 bx, .int .i64 by', .int .i64 bw, .int .i64 bh] 31)).alloc (.cells #[.int .i64 px, .int .i64 py] 23)).of hb)
  have Xb := Lib.hid (show BoxAt w1 (w.heap.size + 1) bx by' bw bh by have := (((BoxAt.new (w.alloc (.cells #[.int .i64 ax, .int .i64 ay, .int .i64 aw, .int .i64 ah] 31)) bx by' bw bh 31).alloc (.cells #[.int .i64 px, .int .i64 py] 23)).of hb); rwa [World.size_alloc] at this)
  have Xp := Lib.hid (show PtAt w1 (w.heap.size + 1 + 1) px py by have := ((PtAt.new ((w.alloc (.cells #[.int .i64 ax, .int .i64 ay, .int .i64 aw, .int .i64 ah] 31)).alloc (.cells #[.int .i64 bx, .int .i64 by', .int .i64 bw, .int .i64 bh] 31)) px py 23).of hb); rwa [World.size_alloc, World.size_alloc] at this)
  have hB1 := below_thruA3 hb
  clear hb
  obtain ⟨a0, a1, a2, a3, a4⟩ := Xa.out
  obtain ⟨b0, b1, b2, b3, b4⟩ := Xb.out
  go_wp2_with fail
  go_at_call 22
  refine (kB _).mono ?_
  rintro e w2 ⟨rfl, hb⟩
  clear a0 a1 a2 a3 a4 b0 b1 b2 b3 b4
  have Xa := Lib.hid (Xa.out.of hb)
  have Xb := Lib.hid (Xb.out.of hb)
  have Xp := Lib.hid (Xp.out.of hb)
  have hB2 := below_thru hB1 hb
  clear hb hB1
  obtain ⟨a0, a1, a2, a3, a4⟩ := Xa.out
  obtain ⟨b0, b1, b2, b3, b4⟩ := Xb.out
  go_wp2_with fail
  go_at_call 31
  refine (kM _).mono ?_
  rintro e w3 ⟨rfl, hb⟩
  clear a0 a1 a2 a3 a4 b0 b1 b2 b3 b4
  have Xa := Lib.hid (Xa.out.of hb)
  have Xb := Lib.hid (Xb.out.of hb)
  have Xp := Lib.hid (Xp.out.of hb)
  have hB3 := below_thru hB2 hb
  clear hb hB2
  have Xa := Lib.hid (Xa.out.alloc (.cells #[.int .i64 (meetX ax ay aw ah bx by' bw bh), .int .i64 (meetY ax ay aw ah bx by' bw bh), .int .i64 (meetW ax ay aw ah bx by' bw bh), .int .i64 (meetH ax ay aw ah bx by' bw bh)] 31))
  have Xb := Lib.hid (Xb.out.alloc (.cells #[.int .i64 (meetX ax ay aw ah bx by' bw bh), .int .i64 (meetY ax ay aw ah bx by' bw bh), .int .i64 (meetW ax ay aw ah bx by' bw bh), .int .i64 (meetH ax ay aw ah bx by' bw bh)] 31))
  have Xp := Lib.hid (Xp.out.alloc (.cells #[.int .i64 (meetX ax ay aw ah bx by' bw bh), .int .i64 (meetY ax ay aw ah bx by' bw bh), .int .i64 (meetW ax ay aw ah bx by' bw bh), .int .i64 (meetH ax ay aw ah bx by' bw bh)] 31))
  have Xm := Lib.hid (BoxAt.new w3 (meetX ax ay aw ah bx by' bw bh) (meetY ax ay aw ah bx by' bw bh) (meetW ax ay aw ah bx by' bw bh) (meetH ax ay aw ah bx by' bw bh) 31)
  obtain ⟨a0, a1, a2, a3, a4⟩ := Xa.out
  obtain ⟨b0, b1, b2, b3, b4⟩ := Xb.out
  go_wp2_with fail
  go_at_call 31
  refine (kN _).mono ?_
  rintro e w4 ⟨rfl, hb⟩
  clear a0 a1 a2 a3 a4 b0 b1 b2 b3 b4
  have Xa := Lib.hid (Xa.out.of hb)
  have Xb := Lib.hid (Xb.out.of hb)
  have Xp := Lib.hid (Xp.out.of hb)
  have Xm := Lib.hid (Xm.out.of hb)
  have hB4 := below_thruA hB3 hb
  clear hb hB3
  have Xa := Lib.hid (Xa.out.alloc (.cells #[.int .i64 (meetX ax ay aw ah bx by' bw bh), .int .i64 (meetY ax ay aw ah bx by' bw bh), .int .i64 (meetW ax ay aw ah bx by' bw bh), .int .i64 (meetH ax ay aw ah bx by' bw bh)] 31))
  have Xb := Lib.hid (Xb.out.alloc (.cells #[.int .i64 (meetX ax ay aw ah bx by' bw bh), .int .i64 (meetY ax ay aw ah bx by' bw bh), .int .i64 (meetW ax ay aw ah bx by' bw bh), .int .i64 (meetH ax ay aw ah bx by' bw bh)] 31))
  have Xp := Lib.hid (Xp.out.alloc (.cells #[.int .i64 (meetX ax ay aw ah bx by' bw bh), .int .i64 (meetY ax ay aw ah bx by' bw bh), .int .i64 (meetW ax ay aw ah bx by' bw bh), .int .i64 (meetH ax ay aw ah bx by' bw bh)] 31))
  have Xm := Lib.hid (Xm.out.alloc (.cells #[.int .i64 (meetX ax ay aw ah bx by' bw bh), .int .i64 (meetY ax ay aw ah bx by' bw bh), .int .i64 (meetW ax ay aw ah bx by' bw bh), .int .i64 (meetH ax ay aw ah bx by' bw bh)] 31))
  have Xn := Lib.hid (BoxAt.new w4 (meetX ax ay aw ah bx by' bw bh) (meetY ax ay aw ah bx by' bw bh) (meetW ax ay aw ah bx by' bw bh) (meetH ax ay aw ah bx by' bw bh) 31)
  obtain ⟨a0, a1, a2, a3, a4⟩ := Xa.out
  obtain ⟨b0, b1, b2, b3, b4⟩ := Xb.out
  go_wp2_with fail
  go_at_call 33
  refine (point_JoinU _ _ _ _ _ _ _ _ _).mono ?_
  rintro e w5 ⟨rfl, hb⟩
  clear a0 a1 a2 a3 a4 b0 b1 b2 b3 b4
  have Xa := Lib.hid (Xa.out.of hb)
  have Xb := Lib.hid (Xb.out.of hb)
  have Xp := Lib.hid (Xp.out.of hb)
  have Xm := Lib.hid (Xm.out.of hb)
  have Xn := Lib.hid (Xn.out.of hb)
  have hB5 := below_thruA hB4 hb
  clear hb hB4
  have Xa := Lib.hid (Xa.out.alloc (.cells #[.int .i64 (joinX ax ay aw ah bx by' bw bh), .int .i64 (joinY ax ay aw ah bx by' bw bh), .int .i64 (joinW ax ay aw ah bx by' bw bh), .int .i64 (joinH ax ay aw ah bx by' bw bh)] 31))
  have Xb := Lib.hid (Xb.out.alloc (.cells #[.int .i64 (joinX ax ay aw ah bx by' bw bh), .int .i64 (joinY ax ay aw ah bx by' bw bh), .int .i64 (joinW ax ay aw ah bx by' bw bh), .int .i64 (joinH ax ay aw ah bx by' bw bh)] 31))
  have Xp := Lib.hid (Xp.out.alloc (.cells #[.int .i64 (joinX ax ay aw ah bx by' bw bh), .int .i64 (joinY ax ay aw ah bx by' bw bh), .int .i64 (joinW ax ay aw ah bx by' bw bh), .int .i64 (joinH ax ay aw ah bx by' bw bh)] 31))
  have Xm := Lib.hid (Xm.out.alloc (.cells #[.int .i64 (joinX ax ay aw ah bx by' bw bh), .int .i64 (joinY ax ay aw ah bx by' bw bh), .int .i64 (joinW ax ay aw ah bx by' bw bh), .int .i64 (joinH ax ay aw ah bx by' bw bh)] 31))
  have Xn := Lib.hid (Xn.out.alloc (.cells #[.int .i64 (joinX ax ay aw ah bx by' bw bh), .int .i64 (joinY ax ay aw ah bx by' bw bh), .int .i64 (joinW ax ay aw ah bx by' bw bh), .int .i64 (joinH ax ay aw ah bx by' bw bh)] 31))
  have Xj := Lib.hid (BoxAt.new w5 (joinX ax ay aw ah bx by' bw bh) (joinY ax ay aw ah bx by' bw bh) (joinW ax ay aw ah bx by' bw bh) (joinH ax ay aw ah bx by' bw bh) 31)
  obtain ⟨a0, a1, a2, a3, a4⟩ := Xa.out
  obtain ⟨p0, p1, p2⟩ := Xp.out
  go_wp2_with fail
  go_at_call 23
  refine (kIa _).mono ?_
  rintro e w6 ⟨rfl, hb⟩
  clear a0 a1 a2 a3 a4 p0 p1 p2
  have Xa := Lib.hid (Xa.out.of hb)
  have Xb := Lib.hid (Xb.out.of hb)
  have Xp := Lib.hid (Xp.out.of hb)
  have Xm := Lib.hid (Xm.out.of hb)
  have Xn := Lib.hid (Xn.out.of hb)
  have Xj := Lib.hid (Xj.out.of hb)
  have hB6 := below_thruA hB5 hb
  clear hb hB5
  obtain ⟨a0, a1, a2, a3, a4⟩ := Xa.out
  obtain ⟨p0, p1, p2⟩ := Xp.out
  go_wp2_with fail
  go_at_call 23
  refine (kIa _).mono ?_
  rintro e w7 ⟨rfl, hb⟩
  clear a0 a1 a2 a3 a4 p0 p1 p2
  have Xa := Lib.hid (Xa.out.of hb)
  have Xb := Lib.hid (Xb.out.of hb)
  have Xp := Lib.hid (Xp.out.of hb)
  have Xm := Lib.hid (Xm.out.of hb)
  have Xn := Lib.hid (Xn.out.of hb)
  have Xj := Lib.hid (Xj.out.of hb)
  have hB7 := below_thru hB6 hb
  clear hb hB6
  obtain ⟨b0, b1, b2, b3, b4⟩ := Xb.out
  obtain ⟨p0, p1, p2⟩ := Xp.out
  go_wp2_with fail
  go_at_call 23
  refine (kIb _).mono ?_
  rintro e w8 ⟨rfl, hb⟩
  clear b0 b1 b2 b3 b4 p0 p1 p2
  have Xa := Lib.hid (Xa.out.of hb)
  have Xb := Lib.hid (Xb.out.of hb)
  have Xp := Lib.hid (Xp.out.of hb)
  have Xm := Lib.hid (Xm.out.of hb)
  have Xn := Lib.hid (Xn.out.of hb)
  have Xj := Lib.hid (Xj.out.of hb)
  have hB8 := below_thru hB7 hb
  clear hb hB7
  obtain ⟨m0, m1, m2, m3, m4⟩ := Xm.out
  obtain ⟨n0, n1, n2, n3, n4⟩ := Xn.out
  obtain ⟨p0, p1, p2⟩ := Xp.out
  go_wp2_with fail
  go_at_call 23
  refine (kIm _).mono ?_
  rintro e w9 ⟨rfl, hb⟩
  clear m0 m1 m2 m3 m4 n0 n1 n2 n3 n4 p0 p1 p2
  have Xa := Lib.hid (Xa.out.of hb)
  have Xb := Lib.hid (Xb.out.of hb)
  have Xp := Lib.hid (Xp.out.of hb)
  have Xm := Lib.hid (Xm.out.of hb)
  have Xn := Lib.hid (Xn.out.of hb)
  have Xj := Lib.hid (Xj.out.of hb)
  have hB9 := below_thru hB8 hb
  clear hb hB8
  obtain ⟨j0, j1, j2, j3, j4⟩ := Xj.out
  obtain ⟨p0, p1, p2⟩ := Xp.out
  go_wp2_with fail
  go_at_call 23
  refine (kIj _).mono ?_
  rintro e w10 ⟨rfl, hb⟩
  clear j0 j1 j2 j3 j4 p0 p1 p2
  have Xa := Lib.hid (Xa.out.of hb)
  have Xb := Lib.hid (Xb.out.of hb)
  have Xp := Lib.hid (Xp.out.of hb)
  have Xm := Lib.hid (Xm.out.of hb)
  have Xn := Lib.hid (Xn.out.of hb)
  have Xj := Lib.hid (Xj.out.of hb)
  have hB10 := below_thru hB9 hb
  clear hb hB9
  go_wp2_with fail
  go_at_call 15
  refine (awake_03 _).mono ?_
  rintro e w11 ⟨rfl, hb⟩
  go_wp2_with fail
  go_ret
  exact ⟨rfl, below_thru hB10 hb⟩
set_option maxHeartbeats 4000000 in
theorem members_fft (ax ay aw ah bx by' bw bh px py : Int) (w : World) (hA : rightB ax ay aw ah = true) (hB : rightB bx by' bw bh = true) (ha : boxInB ax ay aw ah px py = false) (hb' : boxInB bx by' bw bh px py = false) (hq : meetOk ax ay aw ah bx by' bw bh = true) : Calls Try.prog 7 #[.agg #[.int .i64 ax, .int .i64 ay, .int .i64 aw, .int .i64 ah], .agg #[.int .i64 bx, .int .i64 by', .int .i64 bw, .int .i64 bh], .agg #[.int .i64 px, .int .i64 py]] w fun e w' => e = .returned (.bool true) ∧ Below w.heap.size w w' := by
  have kA := fun w1 => ref_RightV hA w1
  have kB := fun w1 => ref_RightV hB w1
  have kM := fun w1 => point_MeetU ax ay aw ah bx by' bw bh w1
  have kN := fun w1 => point_MeetU bx by' bw bh ax ay aw ah w1
  obtain ⟨c1, c2, c3, c4⟩ := meet_comm ax ay aw ah bx by' bw bh
  rw [meetOk_comm bx by' bw bh ax ay aw ah, hq, ← c1, ← c2, ← c3, ← c4] at kN
  rw [hq] at kM
  have kIa := fun w1 => point_InV ha w1
  have kIb := fun w1 => point_InV hb' w1
  have kIm := fun w1 => point_InV (show boxInB (meetX ax ay aw ah bx by' bw bh) (meetY ax ay aw ah bx by' bw bh) (meetW ax ay aw ah bx by' bw bh) (meetH ax ay aw ah bx by' bw bh) px py = false by rw [meet_in hA hB, ha, hb']; rfl) w1
  clear c1 c2 c3 c4 hA hB ha hb' hq
  go_enter Try.func7, Try.ntmps7
  go_wp2_with fail
  go_at_call 22
  refine (kA _).mono ?_
  rintro e w1 ⟨rfl, hb⟩
  have Xa := Lib.hid ((((BoxAt.new w ax ay aw ah 31).alloc (.cells #[.int .i64 bx, .int .i64 by', .int .i64 bw, .int .i64 bh] 31)).alloc (.cells #[.int .i64 px, .int .i64 py] 23)).of hb)
  have Xb := Lib.hid (show BoxAt w1 (w.heap.size + 1) bx by' bw bh by have := (((BoxAt.new (w.alloc (.cells #[.int .i64 ax, .int .i64 ay, .int .i64 aw, .int .i64 ah] 31)) bx by' bw bh 31).alloc (.cells #[.int .i64 px, .int .i64 py] 23)).of hb); rwa [World.size_alloc] at this)
  have Xp := Lib.hid (show PtAt w1 (w.heap.size + 1 + 1) px py by have := ((PtAt.new ((w.alloc (.cells #[.int .i64 ax, .int .i64 ay, .int .i64 aw, .int .i64 ah] 31)).alloc (.cells #[.int .i64 bx, .int .i64 by', .int .i64 bw, .int .i64 bh] 31)) px py 23).of hb); rwa [World.size_alloc, World.size_alloc] at this)
  have hB1 := below_thruA3 hb
  clear hb
  obtain ⟨a0, a1, a2, a3, a4⟩ := Xa.out
  obtain ⟨b0, b1, b2, b3, b4⟩ := Xb.out
  go_wp2_with fail
  go_at_call 22
  refine (kB _).mono ?_
  rintro e w2 ⟨rfl, hb⟩
  clear a0 a1 a2 a3 a4 b0 b1 b2 b3 b4
  have Xa := Lib.hid (Xa.out.of hb)
  have Xb := Lib.hid (Xb.out.of hb)
  have Xp := Lib.hid (Xp.out.of hb)
  have hB2 := below_thru hB1 hb
  clear hb hB1
  obtain ⟨a0, a1, a2, a3, a4⟩ := Xa.out
  obtain ⟨b0, b1, b2, b3, b4⟩ := Xb.out
  go_wp2_with fail
  go_at_call 31
  refine (kM _).mono ?_
  rintro e w3 ⟨rfl, hb⟩
  clear a0 a1 a2 a3 a4 b0 b1 b2 b3 b4
  have Xa := Lib.hid (Xa.out.of hb)
  have Xb := Lib.hid (Xb.out.of hb)
  have Xp := Lib.hid (Xp.out.of hb)
  have hB3 := below_thru hB2 hb
  clear hb hB2
  have Xa := Lib.hid (Xa.out.alloc (.cells #[.int .i64 (meetX ax ay aw ah bx by' bw bh), .int .i64 (meetY ax ay aw ah bx by' bw bh), .int .i64 (meetW ax ay aw ah bx by' bw bh), .int .i64 (meetH ax ay aw ah bx by' bw bh)] 31))
  have Xb := Lib.hid (Xb.out.alloc (.cells #[.int .i64 (meetX ax ay aw ah bx by' bw bh), .int .i64 (meetY ax ay aw ah bx by' bw bh), .int .i64 (meetW ax ay aw ah bx by' bw bh), .int .i64 (meetH ax ay aw ah bx by' bw bh)] 31))
  have Xp := Lib.hid (Xp.out.alloc (.cells #[.int .i64 (meetX ax ay aw ah bx by' bw bh), .int .i64 (meetY ax ay aw ah bx by' bw bh), .int .i64 (meetW ax ay aw ah bx by' bw bh), .int .i64 (meetH ax ay aw ah bx by' bw bh)] 31))
  have Xm := Lib.hid (BoxAt.new w3 (meetX ax ay aw ah bx by' bw bh) (meetY ax ay aw ah bx by' bw bh) (meetW ax ay aw ah bx by' bw bh) (meetH ax ay aw ah bx by' bw bh) 31)
  obtain ⟨a0, a1, a2, a3, a4⟩ := Xa.out
  obtain ⟨b0, b1, b2, b3, b4⟩ := Xb.out
  go_wp2_with fail
  go_at_call 31
  refine (kN _).mono ?_
  rintro e w4 ⟨rfl, hb⟩
  clear a0 a1 a2 a3 a4 b0 b1 b2 b3 b4
  have Xa := Lib.hid (Xa.out.of hb)
  have Xb := Lib.hid (Xb.out.of hb)
  have Xp := Lib.hid (Xp.out.of hb)
  have Xm := Lib.hid (Xm.out.of hb)
  have hB4 := below_thruA hB3 hb
  clear hb hB3
  have Xa := Lib.hid (Xa.out.alloc (.cells #[.int .i64 (meetX ax ay aw ah bx by' bw bh), .int .i64 (meetY ax ay aw ah bx by' bw bh), .int .i64 (meetW ax ay aw ah bx by' bw bh), .int .i64 (meetH ax ay aw ah bx by' bw bh)] 31))
  have Xb := Lib.hid (Xb.out.alloc (.cells #[.int .i64 (meetX ax ay aw ah bx by' bw bh), .int .i64 (meetY ax ay aw ah bx by' bw bh), .int .i64 (meetW ax ay aw ah bx by' bw bh), .int .i64 (meetH ax ay aw ah bx by' bw bh)] 31))
  have Xp := Lib.hid (Xp.out.alloc (.cells #[.int .i64 (meetX ax ay aw ah bx by' bw bh), .int .i64 (meetY ax ay aw ah bx by' bw bh), .int .i64 (meetW ax ay aw ah bx by' bw bh), .int .i64 (meetH ax ay aw ah bx by' bw bh)] 31))
  have Xm := Lib.hid (Xm.out.alloc (.cells #[.int .i64 (meetX ax ay aw ah bx by' bw bh), .int .i64 (meetY ax ay aw ah bx by' bw bh), .int .i64 (meetW ax ay aw ah bx by' bw bh), .int .i64 (meetH ax ay aw ah bx by' bw bh)] 31))
  have Xn := Lib.hid (BoxAt.new w4 (meetX ax ay aw ah bx by' bw bh) (meetY ax ay aw ah bx by' bw bh) (meetW ax ay aw ah bx by' bw bh) (meetH ax ay aw ah bx by' bw bh) 31)
  obtain ⟨a0, a1, a2, a3, a4⟩ := Xa.out
  obtain ⟨b0, b1, b2, b3, b4⟩ := Xb.out
  go_wp2_with fail
  go_at_call 33
  refine (point_JoinU _ _ _ _ _ _ _ _ _).mono ?_
  rintro e w5 ⟨rfl, hb⟩
  clear a0 a1 a2 a3 a4 b0 b1 b2 b3 b4
  have Xa := Lib.hid (Xa.out.of hb)
  have Xb := Lib.hid (Xb.out.of hb)
  have Xp := Lib.hid (Xp.out.of hb)
  have Xm := Lib.hid (Xm.out.of hb)
  have Xn := Lib.hid (Xn.out.of hb)
  have hB5 := below_thruA hB4 hb
  clear hb hB4
  have Xa := Lib.hid (Xa.out.alloc (.cells #[.int .i64 (joinX ax ay aw ah bx by' bw bh), .int .i64 (joinY ax ay aw ah bx by' bw bh), .int .i64 (joinW ax ay aw ah bx by' bw bh), .int .i64 (joinH ax ay aw ah bx by' bw bh)] 31))
  have Xb := Lib.hid (Xb.out.alloc (.cells #[.int .i64 (joinX ax ay aw ah bx by' bw bh), .int .i64 (joinY ax ay aw ah bx by' bw bh), .int .i64 (joinW ax ay aw ah bx by' bw bh), .int .i64 (joinH ax ay aw ah bx by' bw bh)] 31))
  have Xp := Lib.hid (Xp.out.alloc (.cells #[.int .i64 (joinX ax ay aw ah bx by' bw bh), .int .i64 (joinY ax ay aw ah bx by' bw bh), .int .i64 (joinW ax ay aw ah bx by' bw bh), .int .i64 (joinH ax ay aw ah bx by' bw bh)] 31))
  have Xm := Lib.hid (Xm.out.alloc (.cells #[.int .i64 (joinX ax ay aw ah bx by' bw bh), .int .i64 (joinY ax ay aw ah bx by' bw bh), .int .i64 (joinW ax ay aw ah bx by' bw bh), .int .i64 (joinH ax ay aw ah bx by' bw bh)] 31))
  have Xn := Lib.hid (Xn.out.alloc (.cells #[.int .i64 (joinX ax ay aw ah bx by' bw bh), .int .i64 (joinY ax ay aw ah bx by' bw bh), .int .i64 (joinW ax ay aw ah bx by' bw bh), .int .i64 (joinH ax ay aw ah bx by' bw bh)] 31))
  have Xj := Lib.hid (BoxAt.new w5 (joinX ax ay aw ah bx by' bw bh) (joinY ax ay aw ah bx by' bw bh) (joinW ax ay aw ah bx by' bw bh) (joinH ax ay aw ah bx by' bw bh) 31)
  obtain ⟨a0, a1, a2, a3, a4⟩ := Xa.out
  obtain ⟨p0, p1, p2⟩ := Xp.out
  go_wp2_with fail
  go_at_call 23
  refine (kIa _).mono ?_
  rintro e w6 ⟨rfl, hb⟩
  clear a0 a1 a2 a3 a4 p0 p1 p2
  have Xa := Lib.hid (Xa.out.of hb)
  have Xb := Lib.hid (Xb.out.of hb)
  have Xp := Lib.hid (Xp.out.of hb)
  have Xm := Lib.hid (Xm.out.of hb)
  have Xn := Lib.hid (Xn.out.of hb)
  have Xj := Lib.hid (Xj.out.of hb)
  have hB6 := below_thruA hB5 hb
  clear hb hB5
  obtain ⟨a0, a1, a2, a3, a4⟩ := Xa.out
  obtain ⟨p0, p1, p2⟩ := Xp.out
  go_wp2_with fail
  go_at_call 23
  refine (kIa _).mono ?_
  rintro e w7 ⟨rfl, hb⟩
  clear a0 a1 a2 a3 a4 p0 p1 p2
  have Xa := Lib.hid (Xa.out.of hb)
  have Xb := Lib.hid (Xb.out.of hb)
  have Xp := Lib.hid (Xp.out.of hb)
  have Xm := Lib.hid (Xm.out.of hb)
  have Xn := Lib.hid (Xn.out.of hb)
  have Xj := Lib.hid (Xj.out.of hb)
  have hB7 := below_thru hB6 hb
  clear hb hB6
  obtain ⟨b0, b1, b2, b3, b4⟩ := Xb.out
  obtain ⟨p0, p1, p2⟩ := Xp.out
  go_wp2_with fail
  go_at_call 23
  refine (kIb _).mono ?_
  rintro e w8 ⟨rfl, hb⟩
  clear b0 b1 b2 b3 b4 p0 p1 p2
  have Xa := Lib.hid (Xa.out.of hb)
  have Xb := Lib.hid (Xb.out.of hb)
  have Xp := Lib.hid (Xp.out.of hb)
  have Xm := Lib.hid (Xm.out.of hb)
  have Xn := Lib.hid (Xn.out.of hb)
  have Xj := Lib.hid (Xj.out.of hb)
  have hB8 := below_thru hB7 hb
  clear hb hB7
  obtain ⟨m0, m1, m2, m3, m4⟩ := Xm.out
  obtain ⟨n0, n1, n2, n3, n4⟩ := Xn.out
  obtain ⟨p0, p1, p2⟩ := Xp.out
  go_wp2_with fail
  go_at_call 23
  refine (kIm _).mono ?_
  rintro e w9 ⟨rfl, hb⟩
  clear m0 m1 m2 m3 m4 n0 n1 n2 n3 n4 p0 p1 p2
  have Xa := Lib.hid (Xa.out.of hb)
  have Xb := Lib.hid (Xb.out.of hb)
  have Xp := Lib.hid (Xp.out.of hb)
  have Xm := Lib.hid (Xm.out.of hb)
  have Xn := Lib.hid (Xn.out.of hb)
  have Xj := Lib.hid (Xj.out.of hb)
  have hB9 := below_thru hB8 hb
  clear hb hB8
  go_wp2_with fail
  go_at_call 15
  refine (awake_03 _).mono ?_
  rintro e w10 ⟨rfl, hb⟩
  go_wp2_with fail
  go_ret
  exact ⟨rfl, below_thru hB9 hb⟩
set_option maxHeartbeats 4000000 in
theorem members_fff (ax ay aw ah bx by' bw bh px py : Int) (w : World) (hA : rightB ax ay aw ah = true) (hB : rightB bx by' bw bh = true) (ha : boxInB ax ay aw ah px py = false) (hb' : boxInB bx by' bw bh px py = false) (hq : meetOk ax ay aw ah bx by' bw bh = false) : Calls Try.prog 7 #[.agg #[.int .i64 ax, .int .i64 ay, .int .i64 aw, .int .i64 ah], .agg #[.int .i64 bx, .int .i64 by', .int .i64 bw, .int .i64 bh], .agg #[.int .i64 px, .int .i64 py]] w fun e w' => e = .returned (.bool true) ∧ Below w.heap.size w w' := by
  have kA := fun w1 => ref_RightV hA w1
  have kB := fun w1 => ref_RightV hB w1
  have kM := fun w1 => point_MeetU ax ay aw ah bx by' bw bh w1
  have kN := fun w1 => point_MeetU bx by' bw bh ax ay aw ah w1
  obtain ⟨c1, c2, c3, c4⟩ := meet_comm ax ay aw ah bx by' bw bh
  rw [meetOk_comm bx by' bw bh ax ay aw ah, hq, ← c1, ← c2, ← c3, ← c4] at kN
  rw [hq] at kM
  have kIa := fun w1 => point_InV ha w1
  have kIb := fun w1 => point_InV hb' w1
  have kIm := fun w1 => point_InV (show boxInB (meetX ax ay aw ah bx by' bw bh) (meetY ax ay aw ah bx by' bw bh) (meetW ax ay aw ah bx by' bw bh) (meetH ax ay aw ah bx by' bw bh) px py = false by rw [meet_in hA hB, ha, hb']; rfl) w1
  clear c1 c2 c3 c4 hA hB ha hb' hq
  go_enter Try.func7, Try.ntmps7
  go_wp2_with fail
  go_at_call 22
  refine (kA _).mono ?_
  rintro e w1 ⟨rfl, hb⟩
  have Xa := Lib.hid ((((BoxAt.new w ax ay aw ah 31).alloc (.cells #[.int .i64 bx, .int .i64 by', .int .i64 bw, .int .i64 bh] 31)).alloc (.cells #[.int .i64 px, .int .i64 py] 23)).of hb)
  have Xb := Lib.hid (show BoxAt w1 (w.heap.size + 1) bx by' bw bh by have := (((BoxAt.new (w.alloc (.cells #[.int .i64 ax, .int .i64 ay, .int .i64 aw, .int .i64 ah] 31)) bx by' bw bh 31).alloc (.cells #[.int .i64 px, .int .i64 py] 23)).of hb); rwa [World.size_alloc] at this)
  have Xp := Lib.hid (show PtAt w1 (w.heap.size + 1 + 1) px py by have := ((PtAt.new ((w.alloc (.cells #[.int .i64 ax, .int .i64 ay, .int .i64 aw, .int .i64 ah] 31)).alloc (.cells #[.int .i64 bx, .int .i64 by', .int .i64 bw, .int .i64 bh] 31)) px py 23).of hb); rwa [World.size_alloc, World.size_alloc] at this)
  have hB1 := below_thruA3 hb
  clear hb
  obtain ⟨a0, a1, a2, a3, a4⟩ := Xa.out
  obtain ⟨b0, b1, b2, b3, b4⟩ := Xb.out
  go_wp2_with fail
  go_at_call 22
  refine (kB _).mono ?_
  rintro e w2 ⟨rfl, hb⟩
  clear a0 a1 a2 a3 a4 b0 b1 b2 b3 b4
  have Xa := Lib.hid (Xa.out.of hb)
  have Xb := Lib.hid (Xb.out.of hb)
  have Xp := Lib.hid (Xp.out.of hb)
  have hB2 := below_thru hB1 hb
  clear hb hB1
  obtain ⟨a0, a1, a2, a3, a4⟩ := Xa.out
  obtain ⟨b0, b1, b2, b3, b4⟩ := Xb.out
  go_wp2_with fail
  go_at_call 31
  refine (kM _).mono ?_
  rintro e w3 ⟨rfl, hb⟩
  clear a0 a1 a2 a3 a4 b0 b1 b2 b3 b4
  have Xa := Lib.hid (Xa.out.of hb)
  have Xb := Lib.hid (Xb.out.of hb)
  have Xp := Lib.hid (Xp.out.of hb)
  have hB3 := below_thru hB2 hb
  clear hb hB2
  have Xa := Lib.hid (Xa.out.alloc (.cells #[.int .i64 (meetX ax ay aw ah bx by' bw bh), .int .i64 (meetY ax ay aw ah bx by' bw bh), .int .i64 (meetW ax ay aw ah bx by' bw bh), .int .i64 (meetH ax ay aw ah bx by' bw bh)] 31))
  have Xb := Lib.hid (Xb.out.alloc (.cells #[.int .i64 (meetX ax ay aw ah bx by' bw bh), .int .i64 (meetY ax ay aw ah bx by' bw bh), .int .i64 (meetW ax ay aw ah bx by' bw bh), .int .i64 (meetH ax ay aw ah bx by' bw bh)] 31))
  have Xp := Lib.hid (Xp.out.alloc (.cells #[.int .i64 (meetX ax ay aw ah bx by' bw bh), .int .i64 (meetY ax ay aw ah bx by' bw bh), .int .i64 (meetW ax ay aw ah bx by' bw bh), .int .i64 (meetH ax ay aw ah bx by' bw bh)] 31))
  have Xm := Lib.hid (BoxAt.new w3 (meetX ax ay aw ah bx by' bw bh) (meetY ax ay aw ah bx by' bw bh) (meetW ax ay aw ah bx by' bw bh) (meetH ax ay aw ah bx by' bw bh) 31)
  obtain ⟨a0, a1, a2, a3, a4⟩ := Xa.out
  obtain ⟨b0, b1, b2, b3, b4⟩ := Xb.out
  go_wp2_with fail
  go_at_call 31
  refine (kN _).mono ?_
  rintro e w4 ⟨rfl, hb⟩
  clear a0 a1 a2 a3 a4 b0 b1 b2 b3 b4
  have Xa := Lib.hid (Xa.out.of hb)
  have Xb := Lib.hid (Xb.out.of hb)
  have Xp := Lib.hid (Xp.out.of hb)
  have Xm := Lib.hid (Xm.out.of hb)
  have hB4 := below_thruA hB3 hb
  clear hb hB3
  have Xa := Lib.hid (Xa.out.alloc (.cells #[.int .i64 (meetX ax ay aw ah bx by' bw bh), .int .i64 (meetY ax ay aw ah bx by' bw bh), .int .i64 (meetW ax ay aw ah bx by' bw bh), .int .i64 (meetH ax ay aw ah bx by' bw bh)] 31))
  have Xb := Lib.hid (Xb.out.alloc (.cells #[.int .i64 (meetX ax ay aw ah bx by' bw bh), .int .i64 (meetY ax ay aw ah bx by' bw bh), .int .i64 (meetW ax ay aw ah bx by' bw bh), .int .i64 (meetH ax ay aw ah bx by' bw bh)] 31))
  have Xp := Lib.hid (Xp.out.alloc (.cells #[.int .i64 (meetX ax ay aw ah bx by' bw bh), .int .i64 (meetY ax ay aw ah bx by' bw bh), .int .i64 (meetW ax ay aw ah bx by' bw bh), .int .i64 (meetH ax ay aw ah bx by' bw bh)] 31))
  have Xm := Lib.hid (Xm.out.alloc (.cells #[.int .i64 (meetX ax ay aw ah bx by' bw bh), .int .i64 (meetY ax ay aw ah bx by' bw bh), .int .i64 (meetW ax ay aw ah bx by' bw bh), .int .i64 (meetH ax ay aw ah bx by' bw bh)] 31))
  have Xn := Lib.hid (BoxAt.new w4 (meetX ax ay aw ah bx by' bw bh) (meetY ax ay aw ah bx by' bw bh) (meetW ax ay aw ah bx by' bw bh) (meetH ax ay aw ah bx by' bw bh) 31)
  obtain ⟨a0, a1, a2, a3, a4⟩ := Xa.out
  obtain ⟨b0, b1, b2, b3, b4⟩ := Xb.out
  go_wp2_with fail
  go_at_call 33
  refine (point_JoinU _ _ _ _ _ _ _ _ _).mono ?_
  rintro e w5 ⟨rfl, hb⟩
  clear a0 a1 a2 a3 a4 b0 b1 b2 b3 b4
  have Xa := Lib.hid (Xa.out.of hb)
  have Xb := Lib.hid (Xb.out.of hb)
  have Xp := Lib.hid (Xp.out.of hb)
  have Xm := Lib.hid (Xm.out.of hb)
  have Xn := Lib.hid (Xn.out.of hb)
  have hB5 := below_thruA hB4 hb
  clear hb hB4
  have Xa := Lib.hid (Xa.out.alloc (.cells #[.int .i64 (joinX ax ay aw ah bx by' bw bh), .int .i64 (joinY ax ay aw ah bx by' bw bh), .int .i64 (joinW ax ay aw ah bx by' bw bh), .int .i64 (joinH ax ay aw ah bx by' bw bh)] 31))
  have Xb := Lib.hid (Xb.out.alloc (.cells #[.int .i64 (joinX ax ay aw ah bx by' bw bh), .int .i64 (joinY ax ay aw ah bx by' bw bh), .int .i64 (joinW ax ay aw ah bx by' bw bh), .int .i64 (joinH ax ay aw ah bx by' bw bh)] 31))
  have Xp := Lib.hid (Xp.out.alloc (.cells #[.int .i64 (joinX ax ay aw ah bx by' bw bh), .int .i64 (joinY ax ay aw ah bx by' bw bh), .int .i64 (joinW ax ay aw ah bx by' bw bh), .int .i64 (joinH ax ay aw ah bx by' bw bh)] 31))
  have Xm := Lib.hid (Xm.out.alloc (.cells #[.int .i64 (joinX ax ay aw ah bx by' bw bh), .int .i64 (joinY ax ay aw ah bx by' bw bh), .int .i64 (joinW ax ay aw ah bx by' bw bh), .int .i64 (joinH ax ay aw ah bx by' bw bh)] 31))
  have Xn := Lib.hid (Xn.out.alloc (.cells #[.int .i64 (joinX ax ay aw ah bx by' bw bh), .int .i64 (joinY ax ay aw ah bx by' bw bh), .int .i64 (joinW ax ay aw ah bx by' bw bh), .int .i64 (joinH ax ay aw ah bx by' bw bh)] 31))
  have Xj := Lib.hid (BoxAt.new w5 (joinX ax ay aw ah bx by' bw bh) (joinY ax ay aw ah bx by' bw bh) (joinW ax ay aw ah bx by' bw bh) (joinH ax ay aw ah bx by' bw bh) 31)
  obtain ⟨a0, a1, a2, a3, a4⟩ := Xa.out
  obtain ⟨p0, p1, p2⟩ := Xp.out
  go_wp2_with fail
  go_at_call 23
  refine (kIa _).mono ?_
  rintro e w6 ⟨rfl, hb⟩
  clear a0 a1 a2 a3 a4 p0 p1 p2
  have Xa := Lib.hid (Xa.out.of hb)
  have Xb := Lib.hid (Xb.out.of hb)
  have Xp := Lib.hid (Xp.out.of hb)
  have Xm := Lib.hid (Xm.out.of hb)
  have Xn := Lib.hid (Xn.out.of hb)
  have Xj := Lib.hid (Xj.out.of hb)
  have hB6 := below_thruA hB5 hb
  clear hb hB5
  obtain ⟨a0, a1, a2, a3, a4⟩ := Xa.out
  obtain ⟨p0, p1, p2⟩ := Xp.out
  go_wp2_with fail
  go_at_call 23
  refine (kIa _).mono ?_
  rintro e w7 ⟨rfl, hb⟩
  clear a0 a1 a2 a3 a4 p0 p1 p2
  have Xa := Lib.hid (Xa.out.of hb)
  have Xb := Lib.hid (Xb.out.of hb)
  have Xp := Lib.hid (Xp.out.of hb)
  have Xm := Lib.hid (Xm.out.of hb)
  have Xn := Lib.hid (Xn.out.of hb)
  have Xj := Lib.hid (Xj.out.of hb)
  have hB7 := below_thru hB6 hb
  clear hb hB6
  obtain ⟨b0, b1, b2, b3, b4⟩ := Xb.out
  obtain ⟨p0, p1, p2⟩ := Xp.out
  go_wp2_with fail
  go_at_call 23
  refine (kIb _).mono ?_
  rintro e w8 ⟨rfl, hb⟩
  clear b0 b1 b2 b3 b4 p0 p1 p2
  have Xa := Lib.hid (Xa.out.of hb)
  have Xb := Lib.hid (Xb.out.of hb)
  have Xp := Lib.hid (Xp.out.of hb)
  have Xm := Lib.hid (Xm.out.of hb)
  have Xn := Lib.hid (Xn.out.of hb)
  have Xj := Lib.hid (Xj.out.of hb)
  have hB8 := below_thru hB7 hb
  clear hb hB7
  obtain ⟨m0, m1, m2, m3, m4⟩ := Xm.out
  obtain ⟨n0, n1, n2, n3, n4⟩ := Xn.out
  obtain ⟨p0, p1, p2⟩ := Xp.out
  go_wp2_with fail
  go_at_call 23
  refine (kIm _).mono ?_
  rintro e w9 ⟨rfl, hb⟩
  clear m0 m1 m2 m3 m4 n0 n1 n2 n3 n4 p0 p1 p2
  have Xa := Lib.hid (Xa.out.of hb)
  have Xb := Lib.hid (Xb.out.of hb)
  have Xp := Lib.hid (Xp.out.of hb)
  have Xm := Lib.hid (Xm.out.of hb)
  have Xn := Lib.hid (Xn.out.of hb)
  have Xj := Lib.hid (Xj.out.of hb)
  have hB9 := below_thru hB8 hb
  clear hb hB8
  go_wp2_with fail
  go_at_call 15
  refine (awake_03 _).mono ?_
  rintro e w10 ⟨rfl, hb⟩
  go_wp2_with fail
  go_ret
  exact ⟨rfl, below_thru hB9 hb⟩
set_option maxHeartbeats 1000000 in
theorem law_members (ax ay aw ah bx by' bw bh px py : Int) (w : World) : Calls Try.prog 7 #[.agg #[.int .i64 ax, .int .i64 ay, .int .i64 aw, .int .i64 ah], .agg #[.int .i64 bx, .int .i64 by', .int .i64 bw, .int .i64 bh], .agg #[.int .i64 px, .int .i64 py]] w fun e w' => e = .returned (.bool true) ∧ Below w.heap.size w w' := by
  cases hA : rightB ax ay aw ah with
  | false =>
    have kA := fun w1 => ref_RightV hA w1
    clear hA
    go_enter Try.func7, Try.ntmps7
    go_wp2_with fail
    (go_at_call 22; refine (kA _).mono ?_; rintro e w1 ⟨rfl, hb1⟩; obtain ⟨hc1, hf1⟩ := bcell hb1; have hs1 := hb1.size; (try simp only [World.size_alloc, World.size_setCell, World.size_drew] at hc1 hf1); (try simp at hs1))
    go_wp2_with fail
    (go_at_call 15; refine (awake_03 _).mono ?_; rintro e w2 ⟨rfl, hb2⟩; obtain ⟨hc2, hf2⟩ := bcell hb2; have hs2 := hb2.size; (try simp only [World.size_alloc, World.size_setCell, World.size_drew] at hc2 hf2); (try simp at hs2))
    go_wp2_with fail
    go_ret
    exact ⟨rfl, by (repeat' (first | exact Below.refl _ _ | assumption | (refine Below.alloc ?_ ?_ _) | (refine Below.setCell ?_ ?_ _) | (refine Below.drew ?_) | (refine below_drewN ?_ _) | (refine below_after (Ext.below _) ?_ ?_) | (refine below_after (by assumption) ?_ ?_) | (simp; done) | omega | (simp; omega)))⟩
  | true =>
    cases hB : rightB bx by' bw bh with
    | false =>
      have kA := fun w1 => ref_RightV hA w1
      have kB := fun w1 => ref_RightV hB w1
      clear hA hB
      go_enter Try.func7, Try.ntmps7
      go_wp2_with fail
      (go_at_call 22; refine (kA _).mono ?_; rintro e w1 ⟨rfl, hb1⟩; obtain ⟨hc1, hf1⟩ := bcell hb1; have hs1 := hb1.size; (try simp only [World.size_alloc, World.size_setCell, World.size_drew] at hc1 hf1); (try simp at hs1))
      go_wp2_with fail
      (go_at_call 22; refine (kB _).mono ?_; rintro e w2 ⟨rfl, hb2⟩; obtain ⟨hc2, hf2⟩ := bcell hb2; have hs2 := hb2.size; (try simp only [World.size_alloc, World.size_setCell, World.size_drew] at hc2 hf2); (try simp at hs2))
      go_wp2_with fail
      (go_at_call 15; refine (awake_03 _).mono ?_; rintro e w3 ⟨rfl, hb3⟩; obtain ⟨hc3, hf3⟩ := bcell hb3; have hs3 := hb3.size; (try simp only [World.size_alloc, World.size_setCell, World.size_drew] at hc3 hf3); (try simp at hs3))
      go_wp2_with fail
      go_ret
      exact ⟨rfl, by (repeat' (first | exact Below.refl _ _ | assumption | (refine Below.alloc ?_ ?_ _) | (refine Below.setCell ?_ ?_ _) | (refine Below.drew ?_) | (refine below_drewN ?_ _) | (refine below_after (Ext.below _) ?_ ?_) | (refine below_after (by assumption) ?_ ?_) | (simp; done) | omega | (simp; omega)))⟩
    | true =>
      cases ha : boxInB ax ay aw ah px py <;> cases hb : boxInB bx by' bw bh px py <;> cases hq : meetOk ax ay aw ah bx by' bw bh
      · exact members_fff _ _ _ _ _ _ _ _ _ _ w hA hB ha hb hq
      · exact members_fft _ _ _ _ _ _ _ _ _ _ w hA hB ha hb hq
      · exact members_ftf _ _ _ _ _ _ _ _ _ _ w hA hB ha hb hq
      · exact members_ftt _ _ _ _ _ _ _ _ _ _ w hA hB ha hb hq
      · exact members_tff _ _ _ _ _ _ _ _ _ _ w hA hB ha hb hq
      · exact members_tft _ _ _ _ _ _ _ _ _ _ w hA hB ha hb hq
      · have := meet_both ha hb; rw [hq] at this; cases this
      · exact members_ttt _ _ _ _ _ _ _ _ _ _ w hA hB ha hb hq
end Go.Proofs.Ytnhnkmppmicjoaa
