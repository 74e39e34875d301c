/- Contracts of Join and In, of point and of its reference. -/
import Derived.Test.YtnhnkmppmicjoaaBox
namespace Go.Proofs.Ytnhnkmppmicjoaa
open Go Go.RowKit
set_option linter.unusedSimpArgs false
set_option linter.unusedVariables false
set_option maxRecDepth 100000
/-- What Join returns. -/
noncomputable def joinVal (ax ay aw ah bx by' bw bh : Int) : Value := .agg #[.int .i64 (joinX ax ay aw ah bx by' bw bh), .int .i64 (joinY ax ay aw ah bx by' bw bh), .int .i64 (joinW ax ay aw ah bx by' bw bh), .int .i64 (joinH ax ay aw ah bx by' bw bh)]
theorem joinVal_eq {ax ay aw ah bx by' bw bh x y z u : Int} {qa qb : Bool} (hA : rightB ax ay aw ah = qa) (hB : rightB bx by' bw bh = qb)
    (e : x = joinV qa qb ax bx (min ax bx) ∧ y = joinV qa qb ay by' (min ay by') ∧ z = joinV qa qb aw bw (max (ax + aw) (bx + bw) - min ax bx) ∧ u = joinV qa qb ah bh (max (ay + ah) (by' + bh) - min ay by')) :
    Ending.returned (.agg #[.int .i64 x, .int .i64 y, .int .i64 z, .int .i64 u]) = .returned (joinVal ax ay aw ah bx by' bw bh) := by
  obtain ⟨rfl, rfl, rfl, rfl⟩ := e
  unfold joinVal joinX joinY joinW joinH; rw [hA, hB]
set_option maxHeartbeats 1000000 in
theorem point_Join (ax ay aw ah bx by' bw bh : Int) (w : World) : Calls Try.prog 33 #[.agg #[.int .i64 ax, .int .i64 ay, .int .i64 aw, .int .i64 ah], .agg #[.int .i64 bx, .int .i64 by', .int .i64 bw, .int .i64 bh]] w fun e w' => e = .returned (joinVal ax ay aw ah bx by' bw bh) ∧ Below w.heap.size w w' := by
  cases hA : rightB ax ay aw ah <;> cases hB : rightB bx by' bw bh
  · have HV := Lib.hid (fun x y z u => joinVal_eq (x := x) (y := y) (z := z) (u := u) hA hB)
    have kA := fun w1 => point_RightV hA w1
    have kB := fun w1 => point_RightV hB w1
    clear hA hB
    go_enter Try.func33, Try.ntmps33
    go_wp2_with fail
    (go_at_call 21; refine (kA _).mono ?_; rintro e w1 ⟨rfl, hb1⟩; obtain ⟨hc1, hf1⟩ := bcell hb1; have hs1 := hb1.size; (try simp only [World.size_alloc, World.size_setCell, World.size_drew] at hc1 hf1); (try simp at hs1))
    go_wp2_with fail
    (go_at_call 21; refine (kB _).mono ?_; rintro e w2 ⟨rfl, hb2⟩; obtain ⟨hc2, hf2⟩ := bcell hb2; have hs2 := hb2.size; (try simp only [World.size_alloc, World.size_setCell, World.size_drew] at hc2 hf2); (try simp at hs2))
    go_wp2_with fail
    refine bodyPost_ret (v := .agg #[.int .i64 0, .int .i64 0, .int .i64 0, .int .i64 0]) (by simp [results, Try.results33, go_sem, *, ↓IntWalk.iteOmega]) rfl ?_
    exact ⟨HV.out _ _ _ _ ⟨rfl, rfl, rfl, rfl⟩, by (repeat' (first | exact Below.refl _ _ | assumption | (refine Below.alloc ?_ ?_ _) | (refine Below.setCell ?_ ?_ _) | (refine Below.drew ?_) | (refine below_drewN ?_ _) | (refine below_after (Ext.below _) ?_ ?_) | (refine below_after (by assumption) ?_ ?_) | (simp; done) | omega | (simp; omega)))⟩
  · have HV := Lib.hid (fun x y z u => joinVal_eq (x := x) (y := y) (z := z) (u := u) hA hB)
    have kA := fun w1 => point_RightV hA w1
    have kB := fun w1 => point_RightV hB w1
    clear hA hB
    go_enter Try.func33, Try.ntmps33
    go_wp2_with fail
    (go_at_call 21; refine (kA _).mono ?_; rintro e w1 ⟨rfl, hb1⟩; obtain ⟨hc1, hf1⟩ := bcell hb1; have hs1 := hb1.size; (try simp only [World.size_alloc, World.size_setCell, World.size_drew] at hc1 hf1); (try simp at hs1))
    go_wp2_with fail
    (go_at_call 21; refine (kB _).mono ?_; rintro e w2 ⟨rfl, hb2⟩; obtain ⟨hc2, hf2⟩ := bcell hb2; have hs2 := hb2.size; (try simp only [World.size_alloc, World.size_setCell, World.size_drew] at hc2 hf2); (try simp at hs2))
    go_wp2_with fail
    (go_at_call 21; refine (kA _).mono ?_; rintro e w3 ⟨rfl, hb3⟩; obtain ⟨hc3, hf3⟩ := bcell hb3; have hs3 := hb3.size; (try simp only [World.size_alloc, World.size_setCell, World.size_drew] at hc3 hf3); (try simp at hs3))
    go_wp2_with fail
    refine bodyPost_ret (v := .agg #[.int .i64 bx, .int .i64 by', .int .i64 bw, .int .i64 bh]) (by simp [results, Try.results33, go_sem, *, ↓IntWalk.iteOmega]) rfl ?_
    exact ⟨HV.out _ _ _ _ ⟨rfl, rfl, rfl, rfl⟩, by (repeat' (first | exact Below.refl _ _ | assumption | (refine Below.alloc ?_ ?_ _) | (refine Below.setCell ?_ ?_ _) | (refine Below.drew ?_) | (refine below_drewN ?_ _) | (refine below_after (Ext.below _) ?_ ?_) | (refine below_after (by assumption) ?_ ?_) | (simp; done) | omega | (simp; omega)))⟩
  · have HV := Lib.hid (fun x y z u => joinVal_eq (x := x) (y := y) (z := z) (u := u) hA hB)
    have kA := fun w1 => point_RightV hA w1
    have kB := fun w1 => point_RightV hB w1
    clear hA hB
    go_enter Try.func33, Try.ntmps33
    go_wp2_with fail
    (go_at_call 21; refine (kA _).mono ?_; rintro e w1 ⟨rfl, hb1⟩; obtain ⟨hc1, hf1⟩ := bcell hb1; have hs1 := hb1.size; (try simp only [World.size_alloc, World.size_setCell, World.size_drew] at hc1 hf1); (try simp at hs1))
    go_wp2_with fail
    (go_at_call 21; refine (kA _).mono ?_; rintro e w2 ⟨rfl, hb2⟩; obtain ⟨hc2, hf2⟩ := bcell hb2; have hs2 := hb2.size; (try simp only [World.size_alloc, World.size_setCell, World.size_drew] at hc2 hf2); (try simp at hs2))
    go_wp2_with fail
    (go_at_call 21; refine (kB _).mono ?_; rintro e w3 ⟨rfl, hb3⟩; obtain ⟨hc3, hf3⟩ := bcell hb3; have hs3 := hb3.size; (try simp only [World.size_alloc, World.size_setCell, World.size_drew] at hc3 hf3); (try simp at hs3))
    go_wp2_with fail
    refine bodyPost_ret (v := .agg #[.int .i64 ax, .int .i64 ay, .int .i64 aw, .int .i64 ah]) (by simp [results, Try.results33, go_sem, *, ↓IntWalk.iteOmega]) rfl ?_
    exact ⟨HV.out _ _ _ _ ⟨rfl, rfl, rfl, rfl⟩, by (repeat' (first | exact Below.refl _ _ | assumption | (refine Below.alloc ?_ ?_ _) | (refine Below.setCell ?_ ?_ _) | (refine Below.drew ?_) | (refine below_drewN ?_ _) | (refine below_after (Ext.below _) ?_ ?_) | (refine below_after (by assumption) ?_ ?_) | (simp; done) | omega | (simp; omega)))⟩
  · have HV := Lib.hid (fun x y z u => joinVal_eq (x := x) (y := y) (z := z) (u := u) hA hB)
    have kA := fun w1 => point_RightV hA w1
    have kB := fun w1 => point_RightV hB w1
    obtain ⟨a1, a2, a3, a4, a5, a6, a7, a8, a9, a10⟩ := rightB_iff.1 hA
    obtain ⟨b1, b2, b3, b4, b5, b6, b7, b8, b9, b10⟩ := rightB_iff.1 hB
    clear hA hB
    have hbt := fun w1 => point_between (min ax bx) (min ay by') (max (ax + aw) (bx + bw) - 1) (max (ay + ah) (by' + bh) - 1) w1 (by unfold Sm; omega) (by unfold Sm; omega) (by unfold Sm; omega) (by unfold Sm; omega)
    go_enter Try.func33, Try.ntmps33
    go_wp2_with fail
    (go_at_call 21; refine (kA _).mono ?_; rintro e w1 ⟨rfl, hb1⟩; obtain ⟨hc1, hf1⟩ := bcell hb1; have hs1 := hb1.size; (try simp only [World.size_alloc, World.size_setCell, World.size_drew] at hc1 hf1); (try simp at hs1))
    go_wp2_with fail
    (go_at_call 21; refine (kA _).mono ?_; rintro e w2 ⟨rfl, hb2⟩; obtain ⟨hc2, hf2⟩ := bcell hb2; have hs2 := hb2.size; (try simp only [World.size_alloc, World.size_setCell, World.size_drew] at hc2 hf2); (try simp at hs2))
    go_wp2_with fail
    (go_at_call 21; refine (kB _).mono ?_; rintro e w3 ⟨rfl, hb3⟩; obtain ⟨hc3, hf3⟩ := bcell hb3; have hs3 := hb3.size; (try simp only [World.size_alloc, World.size_setCell, World.size_drew] at hc3 hf3); (try simp at hs3))
    go_wp2_with fail
    (go_at_call 62; refine (hbt _).mono ?_; rintro e w4 ⟨rfl, hb4⟩; obtain ⟨hc4, hf4⟩ := bcell hb4; have hs4 := hb4.size; (try simp only [World.size_alloc, World.size_setCell, World.size_drew] at hc4 hf4); (try simp at hs4))
    go_wp2_with fail
    refine bodyPost_ret (v := .agg #[.int .i64 (min ax bx), .int .i64 (min ay by'), .int .i64 (max (ax + aw) (bx + bw) - 1 - min ax bx + 1), .int .i64 (max (ay + ah) (by' + bh) - 1 - min ay by' + 1)]) (by simp [results, Try.results33, go_sem, *, ↓IntWalk.iteOmega]) rfl ?_
    exact ⟨HV.out _ _ _ _ ⟨rfl, rfl, by simp only [joinV]; omega, by simp only [joinV]; omega⟩, by (repeat' (first | exact Below.refl _ _ | assumption | (refine Below.alloc ?_ ?_ _) | (refine Below.setCell ?_ ?_ _) | (refine Below.drew ?_) | (refine below_drewN ?_ _) | (refine below_after (Ext.below _) ?_ ?_) | (refine below_after (by assumption) ?_ ?_) | (simp; done) | omega | (simp; omega)))⟩
set_option maxHeartbeats 1000000 in
theorem ref_Join (ax ay aw ah bx by' bw bh : Int) (w : World) : Calls Try.prog 34 #[.agg #[.int .i64 ax, .int .i64 ay, .int .i64 aw, .int .i64 ah], .agg #[.int .i64 bx, .int .i64 by', .int .i64 bw, .int .i64 bh]] w fun e w' => e = .returned (joinVal ax ay aw ah bx by' bw bh) ∧ Below w.heap.size w w' := by
  cases hA : rightB ax ay aw ah <;> cases hB : rightB bx by' bw bh
  · have HV := Lib.hid (fun x y z u => joinVal_eq (x := x) (y := y) (z := z) (u := u) hA hB)
    have kA := fun w1 => ref_RightV hA w1
    have kB := fun w1 => ref_RightV hB w1
    clear hA hB
    go_enter Try.func34, Try.ntmps34
    go_wp2_with fail
    (go_at_call 22; refine (kA _).mono ?_; rintro e w1 ⟨rfl, hb1⟩; obtain ⟨hc1, hf1⟩ := bcell hb1; have hs1 := hb1.size; (try simp only [World.size_alloc, World.size_setCell, World.size_drew] at hc1 hf1); (try simp at hs1))
    go_wp2_with fail
    (go_at_call 22; refine (kB _).mono ?_; rintro e w2 ⟨rfl, hb2⟩; obtain ⟨hc2, hf2⟩ := bcell hb2; have hs2 := hb2.size; (try simp only [World.size_alloc, World.size_setCell, World.size_drew] at hc2 hf2); (try simp at hs2))
    go_wp2_with fail
    refine bodyPost_ret (v := .agg #[.int .i64 0, .int .i64 0, .int .i64 0, .int .i64 0]) (by simp [results, Try.results34, go_sem, *, ↓IntWalk.iteOmega]) rfl ?_
    exact ⟨HV.out _ _ _ _ ⟨rfl, rfl, rfl, rfl⟩, by (repeat' (first | exact Below.refl _ _ | assumption | (refine Below.alloc ?_ ?_ _) | (refine Below.setCell ?_ ?_ _) | (refine Below.drew ?_) | (refine below_drewN ?_ _) | (refine below_after (Ext.below _) ?_ ?_) | (refine below_after (by assumption) ?_ ?_) | (simp; done) | omega | (simp; omega)))⟩
  · have HV := Lib.hid (fun x y z u => joinVal_eq (x := x) (y := y) (z := z) (u := u) hA hB)
    have kA := fun w1 => ref_RightV hA w1
    have kB := fun w1 => ref_RightV hB w1
    clear hA hB
    go_enter Try.func34, Try.ntmps34
    go_wp2_with fail
    (go_at_call 22; refine (kA _).mono ?_; rintro e w1 ⟨rfl, hb1⟩; obtain ⟨hc1, hf1⟩ := bcell hb1; have hs1 := hb1.size; (try simp only [World.size_alloc, World.size_setCell, World.size_drew] at hc1 hf1); (try simp at hs1))
    go_wp2_with fail
    (go_at_call 22; refine (kB _).mono ?_; rintro e w2 ⟨rfl, hb2⟩; obtain ⟨hc2, hf2⟩ := bcell hb2; have hs2 := hb2.size; (try simp only [World.size_alloc, World.size_setCell, World.size_drew] at hc2 hf2); (try simp at hs2))
    go_wp2_with fail
    (go_at_call 22; refine (kA _).mono ?_; rintro e w3 ⟨rfl, hb3⟩; obtain ⟨hc3, hf3⟩ := bcell hb3; have hs3 := hb3.size; (try simp only [World.size_alloc, World.size_setCell, World.size_drew] at hc3 hf3); (try simp at hs3))
    go_wp2_with fail
    refine bodyPost_ret (v := .agg #[.int .i64 bx, .int .i64 by', .int .i64 bw, .int .i64 bh]) (by simp [results, Try.results34, go_sem, *, ↓IntWalk.iteOmega]) rfl ?_
    exact ⟨HV.out _ _ _ _ ⟨rfl, rfl, rfl, rfl⟩, by (repeat' (first | exact Below.refl _ _ | assumption | (refine Below.alloc ?_ ?_ _) | (refine Below.setCell ?_ ?_ _) | (refine Below.drew ?_) | (refine below_drewN ?_ _) | (refine below_after (Ext.below _) ?_ ?_) | (refine below_after (by assumption) ?_ ?_) | (simp; done) | omega | (simp; omega)))⟩
  · have HV := Lib.hid (fun x y z u => joinVal_eq (x := x) (y := y) (z := z) (u := u) hA hB)
    have kA := fun w1 => ref_RightV hA w1
    have kB := fun w1 => ref_RightV hB w1
    clear hA hB
    go_enter Try.func34, Try.ntmps34
    go_wp2_with fail
    (go_at_call 22; refine (kA _).mono ?_; rintro e w1 ⟨rfl, hb1⟩; obtain ⟨hc1, hf1⟩ := bcell hb1; have hs1 := hb1.size; (try simp only [World.size_alloc, World.size_setCell, World.size_drew] at hc1 hf1); (try simp at hs1))
    go_wp2_with fail
    (go_at_call 22; refine (kA _).mono ?_; rintro e w2 ⟨rfl, hb2⟩; obtain ⟨hc2, hf2⟩ := bcell hb2; have hs2 := hb2.size; (try simp only [World.size_alloc, World.size_setCell, World.size_drew] at hc2 hf2); (try simp at hs2))
    go_wp2_with fail
    (go_at_call 22; refine (kB _).mono ?_; rintro e w3 ⟨rfl, hb3⟩; obtain ⟨hc3, hf3⟩ := bcell hb3; have hs3 := hb3.size; (try simp only [World.size_alloc, World.size_setCell, World.size_drew] at hc3 hf3); (try simp at hs3))
    go_wp2_with fail
    refine bodyPost_ret (v := .agg #[.int .i64 ax, .int .i64 ay, .int .i64 aw, .int .i64 ah]) (by simp [results, Try.results34, go_sem, *, ↓IntWalk.iteOmega]) rfl ?_
    exact ⟨HV.out _ _ _ _ ⟨rfl, rfl, rfl, rfl⟩, by (repeat' (first | exact Below.refl _ _ | assumption | (refine Below.alloc ?_ ?_ _) | (refine Below.setCell ?_ ?_ _) | (refine Below.drew ?_) | (refine below_drewN ?_ _) | (refine below_after (Ext.below _) ?_ ?_) | (refine below_after (by assumption) ?_ ?_) | (simp; done) | omega | (simp; omega)))⟩
  · have HV := Lib.hid (fun x y z u => joinVal_eq (x := x) (y := y) (z := z) (u := u) hA hB)
    have kA := fun w1 => ref_RightV hA w1
    have kB := fun w1 => ref_RightV hB w1
    obtain ⟨a1, a2, a3, a4, a5, a6, a7, a8, a9, a10⟩ := rightB_iff.1 hA
    obtain ⟨b1, b2, b3, b4, b5, b6, b7, b8, b9, b10⟩ := rightB_iff.1 hB
    clear hA hB
    have e0 : IntKind.i64.wrap (ax + aw) = ax + aw := IntWalk.i64_in _ (by omega)
    have e1 : IntKind.i64.wrap (bx + bw) = bx + bw := IntWalk.i64_in _ (by omega)
    have e2 : IntKind.i64.wrap (ay + ah) = ay + ah := IntWalk.i64_in _ (by omega)
    have e3 : IntKind.i64.wrap (by' + bh) = by' + bh := IntWalk.i64_in _ (by omega)
    go_enter Try.func34, Try.ntmps34
    go_wp2_with fail
    (go_at_call 22; refine (kA _).mono ?_; rintro e w1 ⟨rfl, hb1⟩; obtain ⟨hc1, hf1⟩ := bcell hb1; have hs1 := hb1.size; (try simp only [World.size_alloc, World.size_setCell, World.size_drew] at hc1 hf1); (try simp at hs1))
    go_wp2_with fail
    (go_at_call 22; refine (kA _).mono ?_; rintro e w2 ⟨rfl, hb2⟩; obtain ⟨hc2, hf2⟩ := bcell hb2; have hs2 := hb2.size; (try simp only [World.size_alloc, World.size_setCell, World.size_drew] at hc2 hf2); (try simp at hs2))
    go_wp2_with fail
    (go_at_call 22; refine (kB _).mono ?_; rintro e w3 ⟨rfl, hb3⟩; obtain ⟨hc3, hf3⟩ := bcell hb3; have hs3 := hb3.size; (try simp only [World.size_alloc, World.size_setCell, World.size_drew] at hc3 hf3); (try simp at hs3))
    go_wp2_with fail
    (refine wp_region_ext_lit (by kernel_rfl) (by kernel_rfl) ?_; (repeat (go_big_quiet_step (fail))); refine wpQuiet_nil ?_; intro _ hw'; obtain ⟨z4, hw''⟩ := hw'; subst hw''; have hs4 := z4.size; obtain ⟨hc4, hf4⟩ := bcell z4.below; (try simp only [World.size_alloc, World.size_setCell, World.size_drew] at hc4 hf4); (try simp at hs4))
    go_wp2_with fail
    (refine wp_region_ext_lit (by kernel_rfl) (by kernel_rfl) ?_; (repeat (go_big_quiet_step (fail))); refine wpQuiet_nil ?_; intro _ hw'; obtain ⟨z5, hw''⟩ := hw'; subst hw''; have hs5 := z5.size; obtain ⟨hc5, hf5⟩ := bcell z5.below; (try simp only [World.size_alloc, World.size_setCell, World.size_drew] at hc5 hf5); (try simp at hs5))
    go_wp2_with fail
    refine bodyPost_ret (v := .agg #[.int .i64 (min ax bx), .int .i64 (min ay by'), .int .i64 (max (ax + aw) (bx + bw) - min ax bx), .int .i64 (max (ay + ah) (by' + bh) - min ay by')]) (by simp [results, Try.results34, go_sem, *, ↓IntWalk.iteOmega]) rfl ?_
    exact ⟨HV.out _ _ _ _ ⟨rfl, rfl, rfl, rfl⟩, by (repeat' (first | exact Below.refl _ _ | assumption | (refine Below.alloc ?_ ?_ _) | (refine Below.setCell ?_ ?_ _) | (refine Below.drew ?_) | (refine below_drewN ?_ _) | (refine below_after (Ext.below _) ?_ ?_) | (refine below_after (by assumption) ?_ ?_) | (simp; done) | omega | (simp; omega)))⟩
set_option maxHeartbeats 1000000 in
theorem point_In (x y wd h px py : Int) (w : World) : Calls Try.prog 23 #[.agg #[.int .i64 x, .int .i64 y, .int .i64 wd, .int .i64 h], .agg #[.int .i64 px, .int .i64 py]] w fun e w' => e = .returned (.bool (boxInB x y wd h px py)) ∧ Below w.heap.size w w' := by
  cases hA : rightB x y wd h with
  | false =>
    have HV := Lib.hid (show false = boxInB x y wd h px py by unfold boxInB; rw [hA]; rfl)
    have kA := fun w1 => point_RightV hA w1
    clear hA
    go_enter Try.func23, Try.ntmps23
    go_wp2_with fail
    (go_at_call 21; refine (kA _).mono ?_; rintro e w1 ⟨rfl, hb1⟩; obtain ⟨hc1, hf1⟩ := bcell hb1; have hs1 := hb1.size; (try simp only [World.size_alloc, World.size_setCell, World.size_drew] at hc1 hf1); (try simp at hs1))
    go_wp2_with fail
    go_ret
    exact ⟨ret_bool HV.out, by (repeat' (first | exact Below.refl _ _ | assumption | (refine Below.alloc ?_ ?_ _) | (refine Below.setCell ?_ ?_ _) | (refine Below.drew ?_) | (refine below_drewN ?_ _) | (refine below_after (Ext.below _) ?_ ?_) | (refine below_after (by assumption) ?_ ?_) | (simp; done) | omega | (simp; omega)))⟩
  | true =>
    have HV := Lib.hid (show decide (x ≤ px ∧ px < x + wd ∧ y ≤ py ∧ py < y + h) = boxInB x y wd h px py by unfold boxInB; rw [hA, Bool.true_and])
    have kA := fun w1 => point_RightV hA w1
    obtain ⟨a1, a2, a3, a4, a5, a6, a7, a8, a9, a10⟩ := rightB_iff.1 hA
    clear hA
    by_cases c1 : x ≤ px
    · by_cases c2 : px < x + wd
      · by_cases c3 : y ≤ py
        · by_cases c4 : py < y + h
          all_goals
            have HW := Lib.hid HV.out
            clear HV
            go_enter Try.func23, Try.ntmps23
            go_wp2_with fail
            (go_at_call 21; refine (kA _).mono ?_; rintro e w1 ⟨rfl, hb1⟩; obtain ⟨hc1, hf1⟩ := bcell hb1; have hs1 := hb1.size; (try simp only [World.size_alloc, World.size_setCell, World.size_drew] at hc1 hf1); (try simp at hs1))
            go_wp2_with fail
            go_ret
            exact ⟨ret_bool (by rw [← HW.out, Bool.eq_iff_iff]; simp; try omega), by (repeat' (first | exact Below.refl _ _ | assumption | (refine Below.alloc ?_ ?_ _) | (refine Below.setCell ?_ ?_ _) | (refine Below.drew ?_) | (refine below_drewN ?_ _) | (refine below_after (Ext.below _) ?_ ?_) | (refine below_after (by assumption) ?_ ?_) | (simp; done) | omega | (simp; omega)))⟩
        · have HW := Lib.hid HV.out
          clear HV
          go_enter Try.func23, Try.ntmps23
          go_wp2_with fail
          (go_at_call 21; refine (kA _).mono ?_; rintro e w1 ⟨rfl, hb1⟩; obtain ⟨hc1, hf1⟩ := bcell hb1; have hs1 := hb1.size; (try simp only [World.size_alloc, World.size_setCell, World.size_drew] at hc1 hf1); (try simp at hs1))
          go_wp2_with fail
          go_ret
          exact ⟨ret_bool (by rw [← HW.out, Bool.eq_iff_iff]; simp; try omega), by (repeat' (first | exact Below.refl _ _ | assumption | (refine Below.alloc ?_ ?_ _) | (refine Below.setCell ?_ ?_ _) | (refine Below.drew ?_) | (refine below_drewN ?_ _) | (refine below_after (Ext.below _) ?_ ?_) | (refine below_after (by assumption) ?_ ?_) | (simp; done) | omega | (simp; omega)))⟩
      · have HW := Lib.hid HV.out
        clear HV
        go_enter Try.func23, Try.ntmps23
        go_wp2_with fail
        (go_at_call 21; refine (kA _).mono ?_; rintro e w1 ⟨rfl, hb1⟩; obtain ⟨hc1, hf1⟩ := bcell hb1; have hs1 := hb1.size; (try simp only [World.size_alloc, World.size_setCell, World.size_drew] at hc1 hf1); (try simp at hs1))
        go_wp2_with fail
        go_ret
        exact ⟨ret_bool (by rw [← HW.out, Bool.eq_iff_iff]; simp; try omega), by (repeat' (first | exact Below.refl _ _ | assumption | (refine Below.alloc ?_ ?_ _) | (refine Below.setCell ?_ ?_ _) | (refine Below.drew ?_) | (refine below_drewN ?_ _) | (refine below_after (Ext.below _) ?_ ?_) | (refine below_after (by assumption) ?_ ?_) | (simp; done) | omega | (simp; omega)))⟩
    · have HW := Lib.hid HV.out
      clear HV
      go_enter Try.func23, Try.ntmps23
      go_wp2_with fail
      (go_at_call 21; refine (kA _).mono ?_; rintro e w1 ⟨rfl, hb1⟩; obtain ⟨hc1, hf1⟩ := bcell hb1; have hs1 := hb1.size; (try simp only [World.size_alloc, World.size_setCell, World.size_drew] at hc1 hf1); (try simp at hs1))
      go_wp2_with fail
      go_ret
      exact ⟨ret_bool (by rw [← HW.out, Bool.eq_iff_iff]; simp; try omega), by (repeat' (first | exact Below.refl _ _ | assumption | (refine Below.alloc ?_ ?_ _) | (refine Below.setCell ?_ ?_ _) | (refine Below.drew ?_) | (refine below_drewN ?_ _) | (refine below_after (Ext.below _) ?_ ?_) | (refine below_after (by assumption) ?_ ?_) | (simp; done) | omega | (simp; omega)))⟩
set_option maxHeartbeats 1000000 in
theorem ref_In3 (x y wd h px py : Int) (w : World) : Calls Try.prog 24 #[.agg #[.int .i64 x, .int .i64 y, .int .i64 wd, .int .i64 h], .agg #[.int .i64 px, .int .i64 py]] w fun e w' => e = .returned (.bool (boxInB x y wd h px py)) ∧ Below w.heap.size w w' := by
  cases hA : rightB x y wd h with
  | false =>
    have HV := Lib.hid (show false = boxInB x y wd h px py by unfold boxInB; rw [hA]; rfl)
    have kA := fun w1 => ref_RightV hA w1
    clear hA
    go_enter Try.func24, Try.ntmps24
    go_wp2_with fail
    (go_at_call 22; refine (kA _).mono ?_; rintro e w1 ⟨rfl, hb1⟩; obtain ⟨hc1, hf1⟩ := bcell hb1; have hs1 := hb1.size; (try simp only [World.size_alloc, World.size_setCell, World.size_drew] at hc1 hf1); (try simp at hs1))
    go_wp2_with fail
    go_ret
    exact ⟨ret_bool HV.out, by (repeat' (first | exact Below.refl _ _ | assumption | (refine Below.alloc ?_ ?_ _) | (refine Below.setCell ?_ ?_ _) | (refine Below.drew ?_) | (refine below_drewN ?_ _) | (refine below_after (Ext.below _) ?_ ?_) | (refine below_after (by assumption) ?_ ?_) | (simp; done) | omega | (simp; omega)))⟩
  | true =>
    have HV := Lib.hid (show decide (x ≤ px ∧ px < x + wd ∧ y ≤ py ∧ py < y + h) = boxInB x y wd h px py by unfold boxInB; rw [hA, Bool.true_and])
    have kA := fun w1 => ref_RightV hA w1
    obtain ⟨a1, a2, a3, a4, a5, a6, a7, a8, a9, a10⟩ := rightB_iff.1 hA
    clear hA
    by_cases c1 : x ≤ px
    · by_cases c2 : px < x + wd
      · by_cases c3 : y ≤ py
        · by_cases c4 : py < y + h
          all_goals
            have HW := Lib.hid HV.out
            clear HV
            go_enter Try.func24, Try.ntmps24
            go_wp2_with fail
            (go_at_call 22; refine (kA _).mono ?_; rintro e w1 ⟨rfl, hb1⟩; obtain ⟨hc1, hf1⟩ := bcell hb1; have hs1 := hb1.size; (try simp only [World.size_alloc, World.size_setCell, World.size_drew] at hc1 hf1); (try simp at hs1))
            go_wp2_with fail
            go_ret
            exact ⟨ret_bool (by rw [← HW.out, Bool.eq_iff_iff]; simp; try omega), by (repeat' (first | exact Below.refl _ _ | assumption | (refine Below.alloc ?_ ?_ _) | (refine Below.setCell ?_ ?_ _) | (refine Below.drew ?_) | (refine below_drewN ?_ _) | (refine below_after (Ext.below _) ?_ ?_) | (refine below_after (by assumption) ?_ ?_) | (simp; done) | omega | (simp; omega)))⟩
        · have HW := Lib.hid HV.out
          clear HV
          go_enter Try.func24, Try.ntmps24
          go_wp2_with fail
          (go_at_call 22; refine (kA _).mono ?_; rintro e w1 ⟨rfl, hb1⟩; obtain ⟨hc1, hf1⟩ := bcell hb1; have hs1 := hb1.size; (try simp only [World.size_alloc, World.size_setCell, World.size_drew] at hc1 hf1); (try simp at hs1))
          go_wp2_with fail
          go_ret
          exact ⟨ret_bool (by rw [← HW.out, Bool.eq_iff_iff]; simp; try omega), by (repeat' (first | exact Below.refl _ _ | assumption | (refine Below.alloc ?_ ?_ _) | (refine Below.setCell ?_ ?_ _) | (refine Below.drew ?_) | (refine below_drewN ?_ _) | (refine below_after (Ext.below _) ?_ ?_) | (refine below_after (by assumption) ?_ ?_) | (simp; done) | omega | (simp; omega)))⟩
      · have HW := Lib.hid HV.out
        clear HV
        go_enter Try.func24, Try.ntmps24
        go_wp2_with fail
        (go_at_call 22; refine (kA _).mono ?_; rintro e w1 ⟨rfl, hb1⟩; obtain ⟨hc1, hf1⟩ := bcell hb1; have hs1 := hb1.size; (try simp only [World.size_alloc, World.size_setCell, World.size_drew] at hc1 hf1); (try simp at hs1))
        go_wp2_with fail
        go_ret
        exact ⟨ret_bool (by rw [← HW.out, Bool.eq_iff_iff]; simp; try omega), by (repeat' (first | exact Below.refl _ _ | assumption | (refine Below.alloc ?_ ?_ _) | (refine Below.setCell ?_ ?_ _) | (refine Below.drew ?_) | (refine below_drewN ?_ _) | (refine below_after (Ext.below _) ?_ ?_) | (refine below_after (by assumption) ?_ ?_) | (simp; done) | omega | (simp; omega)))⟩
    · have HW := Lib.hid HV.out
      clear HV
      go_enter Try.func24, Try.ntmps24
      go_wp2_with fail
      (go_at_call 22; refine (kA _).mono ?_; rintro e w1 ⟨rfl, hb1⟩; obtain ⟨hc1, hf1⟩ := bcell hb1; have hs1 := hb1.size; (try simp only [World.size_alloc, World.size_setCell, World.size_drew] at hc1 hf1); (try simp at hs1))
      go_wp2_with fail
      go_ret
      exact ⟨ret_bool (by rw [← HW.out, Bool.eq_iff_iff]; simp; try omega), by (repeat' (first | exact Below.refl _ _ | assumption | (refine Below.alloc ?_ ?_ _) | (refine Below.setCell ?_ ?_ _) | (refine Below.drew ?_) | (refine below_drewN ?_ _) | (refine below_after (Ext.below _) ?_ ?_) | (refine below_after (by assumption) ?_ ?_) | (simp; done) | omega | (simp; omega)))⟩
end Go.Proofs.Ytnhnkmppmicjoaa
