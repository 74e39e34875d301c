/- Contracts of Grow, of point and of its reference. -/
import Derived.Test.YtnhnkmppmicjoaaBox
namespace Go.Proofs.Ytnhnkmppmicjoaa
open Go Go.RowKit
set_option linter.unusedSimpArgs false
set_option linter.unusedVariables false
set_option maxRecDepth 100000
/-- What Grow returns. -/
noncomputable def growVal (x y wd h k : Int) : Value := .tuple #[.agg #[.int .i64 (growX x y wd h k), .int .i64 (growY x y wd h k), .int .i64 (growW x y wd h k), .int .i64 (growH x y wd h k)], .int .i64 (growE x y wd h k)]
theorem growVal_no {x y wd h k n : Int} (e : growE x y wd h k = n) (hn : n ≠ 0) : Ending.returned (.tuple #[.agg #[.int .i64 0, .int .i64 0, .int .i64 0, .int .i64 0], .int .i64 n]) = .returned (growVal x y wd h k) := by
  have h0 : growOk x y wd h k = false := by unfold growOk; rw [e]; simpa using hn
  unfold growVal growX growY growW growH; rw [h0, e]; rfl
theorem growVal_yes {x y wd h k c : Int} (e : growE x y wd h k = 0) (hc : c = clampK k) : Ending.returned (.tuple #[.agg #[.int .i64 (x - c), .int .i64 (y - c), .int .i64 (wd + 2 * c), .int .i64 (h + 2 * c)], .int .i64 0]) = .returned (growVal x y wd h k) := by
  have h0 : growOk x y wd h k = true := by unfold growOk; rw [e]; rfl
  subst hc
  unfold growVal growX growY growW growH; rw [h0, e]; rfl
theorem growE_arg {x y wd h k : Int} (hr : rightB x y wd h = false) : growE x y wd h k = 2 := by unfold growE; rw [if_neg (by rw [hr]; simp)]
/-- The ways of Grow at a valid box, with a clamp c. -/
theorem grow_ways {x y wd h k c : Int} (hr : rightB x y wd h = true) (hc : c = max (-4194308) (min 4194308 k) ∨ c = clampK k) :
    (growE x y wd h k = 6 ∧ wd + 2 * c < 1) ∨ (growE x y wd h k = 6 ∧ 1 ≤ wd + 2 * c ∧ h + 2 * c < 1) ∨
    (growE x y wd h k = 5 ∧ 1 ≤ wd + 2 * c ∧ 1 ≤ h + 2 * c ∧ rightB (x - c) (y - c) (wd + 2 * c) (h + 2 * c) = false) ∨
    (growE x y wd h k = 0 ∧ 1 ≤ wd + 2 * c ∧ 1 ≤ h + 2 * c ∧ rightB (x - c) (y - c) (wd + 2 * c) (h + 2 * c) = true ∧ c = clampK k) := by
  have key : c = clampK k ∨ (0 < c ∧ ¬(wd + 2 * c < 1 ∨ h + 2 * c < 1) ∧ rightB (x - c) (y - c) (wd + 2 * c) (h + 2 * c) = false ∧ growE x y wd h k = 5) ∨ (c < 0 ∧ (wd + 2 * c < 1) ∧ growE x y wd h k = 6) := by
    rcases hc with hc | hc
    · exact grow_wide hr hc
    · exact .inl hc
  rcases key with rfl | ⟨h1, h2, h3, h4⟩ | ⟨h1, h2, h3⟩
  · by_cases g1 : wd + 2 * clampK k < 1
    · left; exact ⟨by unfold growE; rw [if_pos hr, if_pos (.inl g1)], g1⟩
    · by_cases g2 : h + 2 * clampK k < 1
      · right; left; exact ⟨by unfold growE; rw [if_pos hr, if_pos (.inr g2)], by omega, g2⟩
      · right; right
        cases hq : rightB (x - clampK k) (y - clampK k) (wd + 2 * clampK k) (h + 2 * clampK k) with
        | false => left; exact ⟨by unfold growE; rw [if_pos hr, if_neg (by omega), if_neg (by rw [hq]; simp)], by omega, by omega, rfl⟩
        | true => right; exact ⟨by unfold growE; rw [if_pos hr, if_neg (by omega), if_pos hq], by omega, by omega, rfl, rfl⟩
  · right; right; left; exact ⟨h4, by omega, by omega, h3⟩
  · left; exact ⟨h3, h2⟩
set_option maxHeartbeats 1000000 in
theorem point_Grow (x y wd h k : Int) (w : World) : Calls Try.prog 29 #[.agg #[.int .i64 x, .int .i64 y, .int .i64 wd, .int .i64 h], .int .i64 k] w fun e w' => e = .returned (growVal x y wd h k) ∧ Below w.heap.size w w' := by
  cases hA : rightB x y wd h with
  | false =>
    have HV := Lib.hid (growVal_no (k := k) (growE_arg hA) (by omega))
    have kA := fun w1 => point_RightV hA w1
    clear hA
    go_enter Try.func29, Try.ntmps29
    go_wp2_with fail
    (go_at_call 21; refine (kA _).mono ?_; rintro e w1 ⟨rfl, hb1⟩; obtain ⟨hc1, hf1⟩ := bcell hb1; have hs1 := hb1.size; (try simp only [World.size_alloc, World.size_setCell, World.size_drew] at hc1 hf1); (try simp at hs1))
    go_wp2_with fail
    refine bodyPost_ret (v := .tuple #[.agg #[.int .i64 0, .int .i64 0, .int .i64 0, .int .i64 0], .int .i64 2]) (by simp [results, Try.results29, go_sem, *, ↓IntWalk.iteOmega]) rfl ?_
    exact ⟨HV.out, by (repeat' (first | exact Below.refl _ _ | assumption | (refine Below.alloc ?_ ?_ _) | (refine Below.setCell ?_ ?_ _) | (refine Below.drew ?_) | (refine below_drewN ?_ _) | (refine below_after (Ext.below _) ?_ ?_) | (refine below_after (by assumption) ?_ ?_) | (simp; done) | omega | (simp; omega)))⟩
  | true =>
    have hws := grow_ways (k := k) (c := max (-4194308) (min 4194308 k)) hA (.inl rfl)
    have kA := fun w1 => point_RightV hA w1
    obtain ⟨a1, a2, a3, a4, a5, a6, a7, a8, a9, a10⟩ := rightB_iff.1 hA
    clear hA
    rcases hws with ⟨he, g1⟩ | ⟨he, g1, g2⟩ | ⟨he, g1, g2, hq⟩ | ⟨he, g1, g2, hq, hk⟩
    · have HV := Lib.hid (growVal_no he (by omega))
      have d1 : decide (wd + 2 * max (-4194308) (min 4194308 k) < 1) = true := decide_eq_true g1
      clear he
      go_enter Try.func29, Try.ntmps29
      go_wp2_with fail
      (go_at_call 21; refine (kA _).mono ?_; rintro e w1 ⟨rfl, hb1⟩; obtain ⟨hc1, hf1⟩ := bcell hb1; have hs1 := hb1.size; (try simp only [World.size_alloc, World.size_setCell, World.size_drew] at hc1 hf1); (try simp at hs1))
      go_wp2_with fail
      refine bodyPost_ret (v := .tuple #[.agg #[.int .i64 0, .int .i64 0, .int .i64 0, .int .i64 0], .int .i64 6]) (by simp [results, Try.results29, go_sem, *, ↓IntWalk.iteOmega]) rfl ?_
      exact ⟨HV.out, by (repeat' (first | exact Below.refl _ _ | assumption | (refine Below.alloc ?_ ?_ _) | (refine Below.setCell ?_ ?_ _) | (refine Below.drew ?_) | (refine below_drewN ?_ _) | (refine below_after (Ext.below _) ?_ ?_) | (refine below_after (by assumption) ?_ ?_) | (simp; done) | omega | (simp; omega)))⟩
    · have HV := Lib.hid (growVal_no he (by omega))
      have d1 : decide (wd + 2 * max (-4194308) (min 4194308 k) < 1) = false := decide_eq_false (by omega)
      have d2 : decide (h + 2 * max (-4194308) (min 4194308 k) < 1) = true := decide_eq_true g2
      clear he
      go_enter Try.func29, Try.ntmps29
      go_wp2_with fail
      (go_at_call 21; refine (kA _).mono ?_; rintro e w1 ⟨rfl, hb1⟩; obtain ⟨hc1, hf1⟩ := bcell hb1; have hs1 := hb1.size; (try simp only [World.size_alloc, World.size_setCell, World.size_drew] at hc1 hf1); (try simp at hs1))
      go_wp2_with fail
      refine bodyPost_ret (v := .tuple #[.agg #[.int .i64 0, .int .i64 0, .int .i64 0, .int .i64 0], .int .i64 6]) (by simp [results, Try.results29, go_sem, *, ↓IntWalk.iteOmega]) rfl ?_
      exact ⟨HV.out, by (repeat' (first | exact Below.refl _ _ | assumption | (refine Below.alloc ?_ ?_ _) | (refine Below.setCell ?_ ?_ _) | (refine Below.drew ?_) | (refine below_drewN ?_ _) | (refine below_after (Ext.below _) ?_ ?_) | (refine below_after (by assumption) ?_ ?_) | (simp; done) | omega | (simp; omega)))⟩
    · have HV := Lib.hid (growVal_no he (by omega))
      have d1 : decide (wd + 2 * max (-4194308) (min 4194308 k) < 1) = false := decide_eq_false (by omega)
      have d2 : decide (h + 2 * max (-4194308) (min 4194308 k) < 1) = false := decide_eq_false (by omega)
      have kB := fun w1 => point_RightV hq w1
      clear he hq
      go_enter Try.func29, Try.ntmps29
      go_wp2_with fail
      (go_at_call 21; refine (kA _).mono ?_; rintro e w1 ⟨rfl, hb1⟩; obtain ⟨hc1, hf1⟩ := bcell hb1; have hs1 := hb1.size; (try simp only [World.size_alloc, World.size_setCell, World.size_drew] at hc1 hf1); (try simp at hs1))
      go_wp2_with fail
      (go_at_call 21; refine (kB _).mono ?_; rintro e w2 ⟨rfl, hb2⟩; obtain ⟨hc2, hf2⟩ := bcell hb2; have hs2 := hb2.size; (try simp only [World.size_alloc, World.size_setCell, World.size_drew] at hc2 hf2); (try simp at hs2))
      go_wp2_with fail
      refine bodyPost_ret (v := .tuple #[.agg #[.int .i64 0, .int .i64 0, .int .i64 0, .int .i64 0], .int .i64 5]) (by simp [results, Try.results29, go_sem, *, ↓IntWalk.iteOmega]) rfl ?_
      exact ⟨HV.out, by (repeat' (first | exact Below.refl _ _ | assumption | (refine Below.alloc ?_ ?_ _) | (refine Below.setCell ?_ ?_ _) | (refine Below.drew ?_) | (refine below_drewN ?_ _) | (refine below_after (Ext.below _) ?_ ?_) | (refine below_after (by assumption) ?_ ?_) | (simp; done) | omega | (simp; omega)))⟩
    · have HV := Lib.hid (growVal_yes he hk)
      have d1 : decide (wd + 2 * max (-4194308) (min 4194308 k) < 1) = false := decide_eq_false (by omega)
      have d2 : decide (h + 2 * max (-4194308) (min 4194308 k) < 1) = false := decide_eq_false (by omega)
      have kB := fun w1 => point_RightV hq w1
      clear he hq hk
      go_enter Try.func29, Try.ntmps29
      go_wp2_with fail
      (go_at_call 21; refine (kA _).mono ?_; rintro e w1 ⟨rfl, hb1⟩; obtain ⟨hc1, hf1⟩ := bcell hb1; have hs1 := hb1.size; (try simp only [World.size_alloc, World.size_setCell, World.size_drew] at hc1 hf1); (try simp at hs1))
      go_wp2_with fail
      (go_at_call 21; refine (kB _).mono ?_; rintro e w2 ⟨rfl, hb2⟩; obtain ⟨hc2, hf2⟩ := bcell hb2; have hs2 := hb2.size; (try simp only [World.size_alloc, World.size_setCell, World.size_drew] at hc2 hf2); (try simp at hs2))
      go_wp2_with fail
      refine bodyPost_ret (v := .tuple #[.agg #[.int .i64 (x - max (-4194308) (min 4194308 k)), .int .i64 (y - max (-4194308) (min 4194308 k)), .int .i64 (wd + 2 * max (-4194308) (min 4194308 k)), .int .i64 (h + 2 * max (-4194308) (min 4194308 k))], .int .i64 0]) (by simp [results, Try.results29, go_sem, *, ↓IntWalk.iteOmega]) rfl ?_
      exact ⟨HV.out, by (repeat' (first | exact Below.refl _ _ | assumption | (refine Below.alloc ?_ ?_ _) | (refine Below.setCell ?_ ?_ _) | (refine Below.drew ?_) | (refine below_drewN ?_ _) | (refine below_after (Ext.below _) ?_ ?_) | (refine below_after (by assumption) ?_ ?_) | (simp; done) | omega | (simp; omega)))⟩
set_option maxHeartbeats 1000000 in
theorem ref_Grow (x y wd h k : Int) (w : World) : Calls Try.prog 30 #[.agg #[.int .i64 x, .int .i64 y, .int .i64 wd, .int .i64 h], .int .i64 k] w fun e w' => e = .returned (growVal x y wd h k) ∧ Below w.heap.size w w' := by
  cases hA : rightB x y wd h with
  | false =>
    have HV := Lib.hid (growVal_no (k := k) (growE_arg hA) (by omega))
    have kA := fun w1 => ref_RightV hA w1
    clear hA
    go_enter Try.func30, Try.ntmps30
    go_wp2_with fail
    (go_at_call 22; refine (kA _).mono ?_; rintro e w1 ⟨rfl, hb1⟩; obtain ⟨hc1, hf1⟩ := bcell hb1; have hs1 := hb1.size; (try simp only [World.size_alloc, World.size_setCell, World.size_drew] at hc1 hf1); (try simp at hs1))
    go_wp2_with fail
    refine bodyPost_ret (v := .tuple #[.agg #[.int .i64 0, .int .i64 0, .int .i64 0, .int .i64 0], .int .i64 2]) (by simp [results, Try.results30, go_sem, *, ↓IntWalk.iteOmega]) rfl ?_
    exact ⟨HV.out, by (repeat' (first | exact Below.refl _ _ | assumption | (refine Below.alloc ?_ ?_ _) | (refine Below.setCell ?_ ?_ _) | (refine Below.drew ?_) | (refine below_drewN ?_ _) | (refine below_after (Ext.below _) ?_ ?_) | (refine below_after (by assumption) ?_ ?_) | (simp; done) | omega | (simp; omega)))⟩
  | true =>
    have hws := grow_ways (k := k) (c := max (-4194304) (min 4194304 k)) hA (.inr rfl)
    have kA := fun w1 => ref_RightV hA w1
    obtain ⟨a1, a2, a3, a4, a5, a6, a7, a8, a9, a10⟩ := rightB_iff.1 hA
    clear hA
    rcases hws with ⟨he, g1⟩ | ⟨he, g1, g2⟩ | ⟨he, g1, g2, hq⟩ | ⟨he, g1, g2, hq, hk⟩
    · have HV := Lib.hid (growVal_no he (by omega))
      have d1 : decide (wd + 2 * max (-4194304) (min 4194304 k) < 1) = true := decide_eq_true g1
      clear he
      go_enter Try.func30, Try.ntmps30
      go_wp2_with fail
      (go_at_call 22; refine (kA _).mono ?_; rintro e w1 ⟨rfl, hb1⟩; obtain ⟨hc1, hf1⟩ := bcell hb1; have hs1 := hb1.size; (try simp only [World.size_alloc, World.size_setCell, World.size_drew] at hc1 hf1); (try simp at hs1))
      go_wp2_with fail
      refine bodyPost_ret (v := .tuple #[.agg #[.int .i64 0, .int .i64 0, .int .i64 0, .int .i64 0], .int .i64 6]) (by simp [results, Try.results30, go_sem, *, ↓IntWalk.iteOmega]) rfl ?_
      exact ⟨HV.out, by (repeat' (first | exact Below.refl _ _ | assumption | (refine Below.alloc ?_ ?_ _) | (refine Below.setCell ?_ ?_ _) | (refine Below.drew ?_) | (refine below_drewN ?_ _) | (refine below_after (Ext.below _) ?_ ?_) | (refine below_after (by assumption) ?_ ?_) | (simp; done) | omega | (simp; omega)))⟩
    · have HV := Lib.hid (growVal_no he (by omega))
      have d1 : decide (wd + 2 * max (-4194304) (min 4194304 k) < 1) = false := decide_eq_false (by omega)
      have d2 : decide (h + 2 * max (-4194304) (min 4194304 k) < 1) = true := decide_eq_true g2
      clear he
      go_enter Try.func30, Try.ntmps30
      go_wp2_with fail
      (go_at_call 22; refine (kA _).mono ?_; rintro e w1 ⟨rfl, hb1⟩; obtain ⟨hc1, hf1⟩ := bcell hb1; have hs1 := hb1.size; (try simp only [World.size_alloc, World.size_setCell, World.size_drew] at hc1 hf1); (try simp at hs1))
      go_wp2_with fail
      refine bodyPost_ret (v := .tuple #[.agg #[.int .i64 0, .int .i64 0, .int .i64 0, .int .i64 0], .int .i64 6]) (by simp [results, Try.results30, go_sem, *, ↓IntWalk.iteOmega]) rfl ?_
      exact ⟨HV.out, by (repeat' (first | exact Below.refl _ _ | assumption | (refine Below.alloc ?_ ?_ _) | (refine Below.setCell ?_ ?_ _) | (refine Below.drew ?_) | (refine below_drewN ?_ _) | (refine below_after (Ext.below _) ?_ ?_) | (refine below_after (by assumption) ?_ ?_) | (simp; done) | omega | (simp; omega)))⟩
    · have HV := Lib.hid (growVal_no he (by omega))
      have d1 : decide (wd + 2 * max (-4194304) (min 4194304 k) < 1) = false := decide_eq_false (by omega)
      have d2 : decide (h + 2 * max (-4194304) (min 4194304 k) < 1) = false := decide_eq_false (by omega)
      have kB := fun w1 => ref_RightV hq w1
      clear he hq
      go_enter Try.func30, Try.ntmps30
      go_wp2_with fail
      (go_at_call 22; refine (kA _).mono ?_; rintro e w1 ⟨rfl, hb1⟩; obtain ⟨hc1, hf1⟩ := bcell hb1; have hs1 := hb1.size; (try simp only [World.size_alloc, World.size_setCell, World.size_drew] at hc1 hf1); (try simp at hs1))
      go_wp2_with fail
      (go_at_call 22; refine (kB _).mono ?_; rintro e w2 ⟨rfl, hb2⟩; obtain ⟨hc2, hf2⟩ := bcell hb2; have hs2 := hb2.size; (try simp only [World.size_alloc, World.size_setCell, World.size_drew] at hc2 hf2); (try simp at hs2))
      go_wp2_with fail
      refine bodyPost_ret (v := .tuple #[.agg #[.int .i64 0, .int .i64 0, .int .i64 0, .int .i64 0], .int .i64 5]) (by simp [results, Try.results30, go_sem, *, ↓IntWalk.iteOmega]) rfl ?_
      exact ⟨HV.out, by (repeat' (first | exact Below.refl _ _ | assumption | (refine Below.alloc ?_ ?_ _) | (refine Below.setCell ?_ ?_ _) | (refine Below.drew ?_) | (refine below_drewN ?_ _) | (refine below_after (Ext.below _) ?_ ?_) | (refine below_after (by assumption) ?_ ?_) | (simp; done) | omega | (simp; omega)))⟩
    · have HV := Lib.hid (growVal_yes he hk)
      have d1 : decide (wd + 2 * max (-4194304) (min 4194304 k) < 1) = false := decide_eq_false (by omega)
      have d2 : decide (h + 2 * max (-4194304) (min 4194304 k) < 1) = false := decide_eq_false (by omega)
      have kB := fun w1 => ref_RightV hq w1
      clear he hq hk
      go_enter Try.func30, Try.ntmps30
      go_wp2_with fail
      (go_at_call 22; refine (kA _).mono ?_; rintro e w1 ⟨rfl, hb1⟩; obtain ⟨hc1, hf1⟩ := bcell hb1; have hs1 := hb1.size; (try simp only [World.size_alloc, World.size_setCell, World.size_drew] at hc1 hf1); (try simp at hs1))
      go_wp2_with fail
      (go_at_call 22; refine (kB _).mono ?_; rintro e w2 ⟨rfl, hb2⟩; obtain ⟨hc2, hf2⟩ := bcell hb2; have hs2 := hb2.size; (try simp only [World.size_alloc, World.size_setCell, World.size_drew] at hc2 hf2); (try simp at hs2))
      go_wp2_with fail
      refine bodyPost_ret (v := .tuple #[.agg #[.int .i64 (x - max (-4194304) (min 4194304 k)), .int .i64 (y - max (-4194304) (min 4194304 k)), .int .i64 (wd + 2 * max (-4194304) (min 4194304 k)), .int .i64 (h + 2 * max (-4194304) (min 4194304 k))], .int .i64 0]) (by simp [results, Try.results30, go_sem, *, ↓IntWalk.iteOmega]) rfl ?_
      exact ⟨HV.out, by (repeat' (first | exact Below.refl _ _ | assumption | (refine Below.alloc ?_ ?_ _) | (refine Below.setCell ?_ ?_ _) | (refine Below.drew ?_) | (refine below_drewN ?_ _) | (refine below_after (Ext.below _) ?_ ?_) | (refine below_after (by assumption) ?_ ?_) | (simp; done) | omega | (simp; omega)))⟩
end Go.Proofs.Ytnhnkmppmicjoaa
