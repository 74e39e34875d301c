/- Contracts of the reference's Meet, and of In, of point and of its reference. -/
import Derived.Test.YtnhnkmppmicjoaaBox
namespace Go.Proofs.Ytnhnkmppmicjoaa
open Go Go.RowKit
set_option linter.unusedSimpArgs false
set_option linter.unusedVariables false
set_option maxRecDepth 100000
set_option maxHeartbeats 1000000 in
theorem ref_Meet (ax ay aw ah bx by' bw bh : Int) (w : World) : Calls Try.prog 32 #[.agg #[.int .i64 ax, .int .i64 ay, .int .i64 aw, .int .i64 ah], .agg #[.int .i64 bx, .int .i64 by', .int .i64 bw, .int .i64 bh]] w fun e w' => e = .returned (meetVal ax ay aw ah bx by' bw bh) ∧ Below w.heap.size w w' := by
  cases hA : rightB ax ay aw ah with
  | false =>
    have HV := Lib.hid (meetVal_no (bx := bx) (by' := by') (bw := bw) (bh := bh) (meetOk_a hA))
    have kA := fun w1 => ref_RightV hA w1
    clear hA
    go_enter Try.func32, Try.ntmps32
    go_wp2_with (first | (go_at_call 22; refine (kA _).mono ?_; rintro e w1 ⟨rfl, hb1⟩; obtain ⟨hc1, hf1⟩ := bcell hb1; have hs1 := hb1.size; (try simp only [World.size_alloc, World.size_setCell, World.size_drew] at hc1 hf1); (try simp at hs1)))
    refine bodyPost_ret (v := .tuple #[.agg #[.int .i64 0, .int .i64 0, .int .i64 0, .int .i64 0], .bool false]) (by simp [results, Try.results32, go_sem, *, ↓IntWalk.iteOmega]) rfl ?_
    exact ⟨HV.out, by (repeat' (first | exact Below.refl _ _ | assumption | (refine Below.alloc ?_ ?_ _) | (refine Below.setCell ?_ ?_ _) | (refine Below.drew ?_) | (refine below_drewN ?_ _) | (refine below_after (Ext.below _) ?_ ?_) | (refine below_after (by assumption) ?_ ?_) | (simp; done) | omega | (simp; omega)))⟩
  | true =>
    have kA := fun w1 => ref_RightV hA w1
    cases hB : rightB bx by' bw bh with
    | false =>
      have HV := Lib.hid (meetVal_no (ax := ax) (ay := ay) (aw := aw) (ah := ah) (meetOk_b hB))
      have kB := fun w1 => ref_RightV hB w1
      clear hA hB
      go_enter Try.func32, Try.ntmps32
      go_wp2_with fail
      (go_at_call 22; refine (kA _).mono ?_; rintro e w1 ⟨rfl, hb1⟩; obtain ⟨hc1, hf1⟩ := bcell hb1; have hs1 := hb1.size; (try simp only [World.size_alloc, World.size_setCell, World.size_drew] at hc1 hf1); (try simp at hs1))
      go_wp2_with fail
      (go_at_call 22; refine (kB _).mono ?_; rintro e w2 ⟨rfl, hb2⟩; obtain ⟨hc2, hf2⟩ := bcell hb2; have hs2 := hb2.size; (try simp only [World.size_alloc, World.size_setCell, World.size_drew] at hc2 hf2); (try simp at hs2))
      go_wp2_with fail
      refine bodyPost_ret (v := .tuple #[.agg #[.int .i64 0, .int .i64 0, .int .i64 0, .int .i64 0], .bool false]) (by simp [results, Try.results32, go_sem, *, ↓IntWalk.iteOmega]) rfl ?_
      exact ⟨HV.out, by (repeat' (first | exact Below.refl _ _ | assumption | (refine Below.alloc ?_ ?_ _) | (refine Below.setCell ?_ ?_ _) | (refine Below.drew ?_) | (refine below_drewN ?_ _) | (refine below_after (Ext.below _) ?_ ?_) | (refine below_after (by assumption) ?_ ?_) | (simp; done) | omega | (simp; omega)))⟩
    | true =>
      have kB := fun w1 => ref_RightV hB w1
      have hws := meet_ways hA hB
      have bA := rightB_iff.1 hA
      have bB := rightB_iff.1 hB
      clear hA hB
      obtain ⟨a1, a2, a3, a4, a5, a6, a7, a8, a9, a10⟩ := bA
      obtain ⟨b1, b2, b3, b4, b5, b6, b7, b8, b9, b10⟩ := bB
      have e1 : IntKind.i64.wrap (ax + aw) = ax + aw := IntWalk.i64_in _ (by omega)
      have e2 : IntKind.i64.wrap (bx + bw) = bx + bw := IntWalk.i64_in _ (by omega)
      have e3 : IntKind.i64.wrap (ay + ah) = ay + ah := IntWalk.i64_in _ (by omega)
      have e4 : IntKind.i64.wrap (by' + bh) = by' + bh := IntWalk.i64_in _ (by omega)
      rcases hws with ⟨hq, g1, g2⟩ | ⟨hq, g1⟩ | ⟨hq, g1, g2⟩
      · have HQ := Lib.hid hq
        clear hq
        have d1 : decide (min (ax + aw) (bx + bw) ≤ max ax bx) = false := decide_eq_false (by omega)
        have d2 : decide (min (ay + ah) (by' + bh) ≤ max ay by') = false := decide_eq_false (by omega)
        go_enter Try.func32, Try.ntmps32
        go_wp2_with fail
        (go_at_call 22; refine (kA _).mono ?_; rintro e w1 ⟨rfl, hb1⟩; obtain ⟨hc1, hf1⟩ := bcell hb1; have hs1 := hb1.size; (try simp only [World.size_alloc, World.size_setCell, World.size_drew] at hc1 hf1); (try simp at hs1))
        go_wp2_with fail
        (go_at_call 22; refine (kB _).mono ?_; rintro e w2 ⟨rfl, hb2⟩; obtain ⟨hc2, hf2⟩ := bcell hb2; have hs2 := hb2.size; (try simp only [World.size_alloc, World.size_setCell, World.size_drew] at hc2 hf2); (try simp at hs2))
        go_wp2_with fail
        (refine wp_region_ext_lit (by kernel_rfl) (by kernel_rfl) ?_; (repeat (go_big_quiet_step (fail))); refine wpQuiet_nil ?_; intro _ hw'; obtain ⟨z3, hw''⟩ := hw'; subst hw''; have hs3 := z3.size; obtain ⟨hc3, hf3⟩ := bcell z3.below; (try simp only [World.size_alloc, World.size_setCell, World.size_drew] at hc3 hf3); (try simp at hs3))
        go_wp2_with fail
        (refine wp_region_ext_lit (by kernel_rfl) (by kernel_rfl) ?_; (repeat (go_big_quiet_step (fail))); refine wpQuiet_nil ?_; intro _ hw'; obtain ⟨z4, hw''⟩ := hw'; subst hw''; have hs4 := z4.size; obtain ⟨hc4, hf4⟩ := bcell z4.below; (try simp only [World.size_alloc, World.size_setCell, World.size_drew] at hc4 hf4); (try simp at hs4))
        go_wp2_with fail
        refine bodyPost_ret (v := .tuple #[.agg #[.int .i64 (max ax bx), .int .i64 (max ay by'), .int .i64 (min (ax + aw) (bx + bw) - max ax bx), .int .i64 (min (ay + ah) (by' + bh) - max ay by')], .bool true]) (by simp [results, Try.results32, go_sem, *, ↓IntWalk.iteOmega]) rfl ?_
        exact ⟨meetVal_yes HQ.out ⟨rfl, rfl, rfl, rfl⟩, by (repeat' (first | exact Below.refl _ _ | assumption | (refine Below.alloc ?_ ?_ _) | (refine Below.setCell ?_ ?_ _) | (refine Below.drew ?_) | (refine below_drewN ?_ _) | (refine below_after (Ext.below _) ?_ ?_) | (refine below_after (by assumption) ?_ ?_) | (simp; done) | omega | (simp; omega)))⟩
      · have HV := Lib.hid (meetVal_no hq)
        clear hq
        have d1 : decide (min (ax + aw) (bx + bw) ≤ max ax bx) = true := decide_eq_true (by omega)
        go_enter Try.func32, Try.ntmps32
        go_wp2_with fail
        (go_at_call 22; refine (kA _).mono ?_; rintro e w1 ⟨rfl, hb1⟩; obtain ⟨hc1, hf1⟩ := bcell hb1; have hs1 := hb1.size; (try simp only [World.size_alloc, World.size_setCell, World.size_drew] at hc1 hf1); (try simp at hs1))
        go_wp2_with fail
        (go_at_call 22; refine (kB _).mono ?_; rintro e w2 ⟨rfl, hb2⟩; obtain ⟨hc2, hf2⟩ := bcell hb2; have hs2 := hb2.size; (try simp only [World.size_alloc, World.size_setCell, World.size_drew] at hc2 hf2); (try simp at hs2))
        go_wp2_with fail
        (refine wp_region_ext_lit (by kernel_rfl) (by kernel_rfl) ?_; (repeat (go_big_quiet_step (fail))); refine wpQuiet_nil ?_; intro _ hw'; obtain ⟨z3, hw''⟩ := hw'; subst hw''; have hs3 := z3.size; obtain ⟨hc3, hf3⟩ := bcell z3.below; (try simp only [World.size_alloc, World.size_setCell, World.size_drew] at hc3 hf3); (try simp at hs3))
        go_wp2_with fail
        (refine wp_region_ext_lit (by kernel_rfl) (by kernel_rfl) ?_; (repeat (go_big_quiet_step (fail))); refine wpQuiet_nil ?_; intro _ hw'; obtain ⟨z4, hw''⟩ := hw'; subst hw''; have hs4 := z4.size; obtain ⟨hc4, hf4⟩ := bcell z4.below; (try simp only [World.size_alloc, World.size_setCell, World.size_drew] at hc4 hf4); (try simp at hs4))
        go_wp2_with fail
        refine bodyPost_ret (v := .tuple #[.agg #[.int .i64 0, .int .i64 0, .int .i64 0, .int .i64 0], .bool false]) (by simp [results, Try.results32, go_sem, *, ↓IntWalk.iteOmega]) rfl ?_
        exact ⟨HV.out, by (repeat' (first | exact Below.refl _ _ | assumption | (refine Below.alloc ?_ ?_ _) | (refine Below.setCell ?_ ?_ _) | (refine Below.drew ?_) | (refine below_drewN ?_ _) | (refine below_after (Ext.below _) ?_ ?_) | (refine below_after (by assumption) ?_ ?_) | (simp; done) | omega | (simp; omega)))⟩
      · have HV := Lib.hid (meetVal_no hq)
        clear hq
        have d1 : decide (min (ax + aw) (bx + bw) ≤ max ax bx) = false := decide_eq_false (by omega)
        have d2 : decide (min (ay + ah) (by' + bh) ≤ max ay by') = true := decide_eq_true (by omega)
        go_enter Try.func32, Try.ntmps32
        go_wp2_with fail
        (go_at_call 22; refine (kA _).mono ?_; rintro e w1 ⟨rfl, hb1⟩; obtain ⟨hc1, hf1⟩ := bcell hb1; have hs1 := hb1.size; (try simp only [World.size_alloc, World.size_setCell, World.size_drew] at hc1 hf1); (try simp at hs1))
        go_wp2_with fail
        (go_at_call 22; refine (kB _).mono ?_; rintro e w2 ⟨rfl, hb2⟩; obtain ⟨hc2, hf2⟩ := bcell hb2; have hs2 := hb2.size; (try simp only [World.size_alloc, World.size_setCell, World.size_drew] at hc2 hf2); (try simp at hs2))
        go_wp2_with fail
        (refine wp_region_ext_lit (by kernel_rfl) (by kernel_rfl) ?_; (repeat (go_big_quiet_step (fail))); refine wpQuiet_nil ?_; intro _ hw'; obtain ⟨z3, hw''⟩ := hw'; subst hw''; have hs3 := z3.size; obtain ⟨hc3, hf3⟩ := bcell z3.below; (try simp only [World.size_alloc, World.size_setCell, World.size_drew] at hc3 hf3); (try simp at hs3))
        go_wp2_with fail
        (refine wp_region_ext_lit (by kernel_rfl) (by kernel_rfl) ?_; (repeat (go_big_quiet_step (fail))); refine wpQuiet_nil ?_; intro _ hw'; obtain ⟨z4, hw''⟩ := hw'; subst hw''; have hs4 := z4.size; obtain ⟨hc4, hf4⟩ := bcell z4.below; (try simp only [World.size_alloc, World.size_setCell, World.size_drew] at hc4 hf4); (try simp at hs4))
        go_wp2_with fail
        refine bodyPost_ret (v := .tuple #[.agg #[.int .i64 0, .int .i64 0, .int .i64 0, .int .i64 0], .bool false]) (by simp [results, Try.results32, go_sem, *, ↓IntWalk.iteOmega]) rfl ?_
        exact ⟨HV.out, by (repeat' (first | exact Below.refl _ _ | assumption | (refine Below.alloc ?_ ?_ _) | (refine Below.setCell ?_ ?_ _) | (refine Below.drew ?_) | (refine below_drewN ?_ _) | (refine below_after (Ext.below _) ?_ ?_) | (refine below_after (by assumption) ?_ ?_) | (simp; done) | omega | (simp; omega)))⟩
end Go.Proofs.Ytnhnkmppmicjoaa
