/- Contracts of Meet, Join, Grow and In, of point and of its reference. -/
import Derived.Test.YtnhnkmppmicjoaaPt
import Derived.Test.YtnhnkmppmicjoaaBoxP
namespace Go.Proofs.Ytnhnkmppmicjoaa
open Go Go.RowKit
set_option linter.unusedSimpArgs false
set_option linter.unusedVariables false
set_option maxRecDepth 100000
theorem ret_box {x y z u x' y' z' u' : Int} (h : x = x' ∧ y = y' ∧ z = z' ∧ u = u') : Ending.returned (.agg #[.int .i64 x, .int .i64 y, .int .i64 z, .int .i64 u]) = .returned (.agg #[.int .i64 x', .int .i64 y', .int .i64 z', .int .i64 u']) := by
  obtain ⟨rfl, rfl, rfl, rfl⟩ := h; rfl
theorem ret_boxq {x y z u x' y' z' u' : Int} {q : Value} (h : x = x' ∧ y = y' ∧ z = z' ∧ u = u') : Ending.returned (.tuple #[.agg #[.int .i64 x, .int .i64 y, .int .i64 z, .int .i64 u], q]) = .returned (.tuple #[.agg #[.int .i64 x', .int .i64 y', .int .i64 z', .int .i64 u'], q]) := by
  obtain ⟨rfl, rfl, rfl, rfl⟩ := h; rfl
theorem point_RightV {x y wd h : Int} {q : Bool} (hq : rightB x y wd h = q) (w : World) : Calls Try.prog 21 #[.agg #[.int .i64 x, .int .i64 y, .int .i64 wd, .int .i64 h]] w fun e w' => e = .returned (.bool q) ∧ Below w.heap.size w w' := by
  rw [← hq]; exact point_Right x y wd h w
theorem ref_RightV {x y wd h : Int} {q : Bool} (hq : rightB x y wd h = q) (w : World) : Calls Try.prog 22 #[.agg #[.int .i64 x, .int .i64 y, .int .i64 wd, .int .i64 h]] w fun e w' => e = .returned (.bool q) ∧ Below w.heap.size w w' := by
  rw [← hq]; exact ref_Right x y wd h w
/-- A number that no sum of two overflows. -/
def Sm (n : Int) : Prop := -1000000000 ≤ n ∧ n ≤ 1000000000
theorem point_between (x y r b : Int) (w : World) (hx : Sm x) (hy : Sm y) (hr : Sm r) (hb : Sm b) : Calls Try.prog 62 #[.int .i64 x, .int .i64 y, .int .i64 r, .int .i64 b] w fun e w' => e = .returned (.agg #[.int .i64 x, .int .i64 y, .int .i64 (r - x + 1), .int .i64 (b - y + 1)]) ∧ Below w.heap.size w w' := by
  unfold Sm at hx hy hr hb
  go_enter Try.func62, Try.ntmps62
  go_wp2
  refine bodyPost_ret (v := .agg #[.int .i64 x, .int .i64 y, .int .i64 (r - x + 1), .int .i64 (b - y + 1)]) (by simp [results, Try.results62, go_sem, *, ↓IntWalk.iteOmega]) rfl ?_
  exact ⟨rfl, by (repeat' (first | exact Below.refl _ _ | assumption | (refine Below.alloc ?_ ?_ _) | (refine Below.setCell ?_ ?_ _) | (refine Below.drew ?_) | (refine below_drewN ?_ _) | (refine below_after (Ext.below _) ?_ ?_) | (refine below_after (by assumption) ?_ ?_) | (simp; done) | omega | (simp; omega)))⟩
theorem meetOk_a {ax ay aw ah bx by' bw bh : Int} (h : rightB ax ay aw ah = false) : meetOk ax ay aw ah bx by' bw bh = false := by unfold meetOk; rw [h]; rfl
theorem meetOk_b {ax ay aw ah bx by' bw bh : Int} (h : rightB bx by' bw bh = false) : meetOk ax ay aw ah bx by' bw bh = false := by unfold meetOk; rw [h]; simp
theorem meet_no {ax ay aw ah bx by' bw bh : Int} (h : meetOk ax ay aw ah bx by' bw bh = false) : meetX ax ay aw ah bx by' bw bh = 0 ∧ meetY ax ay aw ah bx by' bw bh = 0 ∧ meetW ax ay aw ah bx by' bw bh = 0 ∧ meetH ax ay aw ah bx by' bw bh = 0 := by
  unfold meetX meetY meetW meetH; rw [h]; exact ⟨rfl, rfl, rfl, rfl⟩
/-- What Meet returns. -/
noncomputable def meetVal (ax ay aw ah bx by' bw bh : Int) : Value := .tuple #[.agg #[.int .i64 (meetX ax ay aw ah bx by' bw bh), .int .i64 (meetY ax ay aw ah bx by' bw bh), .int .i64 (meetW ax ay aw ah bx by' bw bh), .int .i64 (meetH ax ay aw ah bx by' bw bh)], .bool (meetOk ax ay aw ah bx by' bw bh)]
theorem meetVal_no {ax ay aw ah bx by' bw bh : Int} (h : meetOk ax ay aw ah bx by' bw bh = false) : Ending.returned (.tuple #[.agg #[.int .i64 0, .int .i64 0, .int .i64 0, .int .i64 0], .bool false]) = .returned (meetVal ax ay aw ah bx by' bw bh) := by
  obtain ⟨h1, h2, h3, h4⟩ := meet_no h
  unfold meetVal; rw [h1, h2, h3, h4, h]
theorem meetVal_yes {ax ay aw ah bx by' bw bh x y z u : Int} (h : meetOk ax ay aw ah bx by' bw bh = true) (e : x = max ax bx ∧ y = max ay by' ∧ z = min (ax + aw) (bx + bw) - max ax bx ∧ u = min (ay + ah) (by' + bh) - max ay by') : Ending.returned (.tuple #[.agg #[.int .i64 x, .int .i64 y, .int .i64 z, .int .i64 u], .bool true]) = .returned (meetVal ax ay aw ah bx by' bw bh) := by
  obtain ⟨rfl, rfl, rfl, rfl⟩ := e
  unfold meetVal meetX meetY meetW meetH ifB; rw [h]; rfl
/-- The four ways of Meet at two valid boxes. -/
theorem meet_ways {ax ay aw ah bx by' bw bh : Int} (hA : rightB ax ay aw ah = true) (hB : rightB bx by' bw bh = true) :
    (meetOk ax ay aw ah bx by' bw bh = true ∧ max ax bx < min (ax + aw) (bx + bw) ∧ max ay by' < min (ay + ah) (by' + bh)) ∨
    (meetOk ax ay aw ah bx by' bw bh = false ∧ min (ax + aw) (bx + bw) ≤ max ax bx) ∨ (meetOk ax ay aw ah bx by' bw bh = false ∧ max ax bx < min (ax + aw) (bx + bw) ∧ min (ay + ah) (by' + bh) ≤ max ay by') := by
  cases hq : meetOk ax ay aw ah bx by' bw bh with
  | true => exact .inl ⟨rfl, (meetOk_iff.1 hq).2.2⟩
  | false =>
    right
    have hn : ¬ (meetOk ax ay aw ah bx by' bw bh = true) := by rw [hq]; simp
    rw [meetOk_iff] at hn
    by_cases h1 : max ax bx < min (ax + aw) (bx + bw)
    · right
      refine ⟨rfl, h1, ?_⟩
      rcases Int.lt_or_le (max ay by') (min (ay + ah) (by' + bh)) with h2 | h2
      · exact absurd ⟨hA, hB, h1, h2⟩ hn
      · exact h2
    · left; exact ⟨rfl, by omega⟩
set_option maxHeartbeats 1000000 in
theorem point_Meet (ax ay aw ah bx by' bw bh : Int) (w : World) : Calls Try.prog 31 #[.agg #[.int .i64 ax, .int .i64 ay, .int .i64 aw, .int .i64 ah], .agg #[.int .i64 bx, .int .i64 by', .int .i64 bw, .int .i64 bh]] w fun e w' => e = .returned (meetVal ax ay aw ah bx by' bw bh) ∧ Below w.heap.size w w' := by
  cases hA : rightB ax ay aw ah with
  | false =>
    have HV := Lib.hid (meetVal_no (bx := bx) (by' := by') (bw := bw) (bh := bh) (meetOk_a hA))
    have kA := fun w1 => point_RightV hA w1
    clear hA
    go_enter Try.func31, Try.ntmps31
    go_wp2_with (first | (go_at_call 21; refine (kA _).mono ?_; rintro e w1 ⟨rfl, hb1⟩; obtain ⟨hc1, hf1⟩ := bcell hb1; have hs1 := hb1.size; (try simp only [World.size_alloc, World.size_setCell, World.size_drew] at hc1 hf1); (try simp at hs1)))
    refine bodyPost_ret (v := .tuple #[.agg #[.int .i64 0, .int .i64 0, .int .i64 0, .int .i64 0], .bool false]) (by simp [results, Try.results31, go_sem, *, ↓IntWalk.iteOmega]) rfl ?_
    exact ⟨HV.out, by (repeat' (first | exact Below.refl _ _ | assumption | (refine Below.alloc ?_ ?_ _) | (refine Below.setCell ?_ ?_ _) | (refine Below.drew ?_) | (refine below_drewN ?_ _) | (refine below_after (Ext.below _) ?_ ?_) | (refine below_after (by assumption) ?_ ?_) | (simp; done) | omega | (simp; omega)))⟩
  | true =>
    have kA := fun w1 => point_RightV hA w1
    cases hB : rightB bx by' bw bh with
    | false =>
      have HV := Lib.hid (meetVal_no (ax := ax) (ay := ay) (aw := aw) (ah := ah) (meetOk_b hB))
      have kB := fun w1 => point_RightV hB w1
      clear hA hB
      go_enter Try.func31, Try.ntmps31
      go_wp2_with fail
      (go_at_call 21; refine (kA _).mono ?_; rintro e w1 ⟨rfl, hb1⟩; obtain ⟨hc1, hf1⟩ := bcell hb1; have hs1 := hb1.size; (try simp only [World.size_alloc, World.size_setCell, World.size_drew] at hc1 hf1); (try simp at hs1))
      go_wp2_with fail
      (go_at_call 21; refine (kB _).mono ?_; rintro e w2 ⟨rfl, hb2⟩; obtain ⟨hc2, hf2⟩ := bcell hb2; have hs2 := hb2.size; (try simp only [World.size_alloc, World.size_setCell, World.size_drew] at hc2 hf2); (try simp at hs2))
      go_wp2_with fail
      refine bodyPost_ret (v := .tuple #[.agg #[.int .i64 0, .int .i64 0, .int .i64 0, .int .i64 0], .bool false]) (by simp [results, Try.results31, go_sem, *, ↓IntWalk.iteOmega]) rfl ?_
      exact ⟨HV.out, by (repeat' (first | exact Below.refl _ _ | assumption | (refine Below.alloc ?_ ?_ _) | (refine Below.setCell ?_ ?_ _) | (refine Below.drew ?_) | (refine below_drewN ?_ _) | (refine below_after (Ext.below _) ?_ ?_) | (refine below_after (by assumption) ?_ ?_) | (simp; done) | omega | (simp; omega)))⟩
    | true =>
      have kB := fun w1 => point_RightV hB w1
      have hws := meet_ways hA hB
      have bA := rightB_iff.1 hA
      have bB := rightB_iff.1 hB
      clear hA hB
      have hbt := fun w1 => point_between (max ax bx) (max ay by') (min (ax + aw) (bx + bw) - 1) (min (ay + ah) (by' + bh) - 1) w1 (by unfold Sm; omega) (by unfold Sm; omega) (by unfold Sm; omega) (by unfold Sm; omega)
      obtain ⟨a1, a2, a3, a4, a5, a6, a7, a8, a9, a10⟩ := bA
      obtain ⟨b1, b2, b3, b4, b5, b6, b7, b8, b9, b10⟩ := bB
      rcases hws with ⟨hq, g1, g2⟩ | ⟨hq, g1⟩ | ⟨hq, g1, g2⟩
      · have HQ := Lib.hid hq
        clear hq
        have d1 : decide (min (ax + aw) (bx + bw) - 1 - max ax bx + 1 < 1) = false := decide_eq_false (by omega)
        have d2 : decide (min (ay + ah) (by' + bh) - 1 - max ay by' + 1 < 1) = false := decide_eq_false (by omega)
        go_enter Try.func31, Try.ntmps31
        go_wp2_with fail
        (go_at_call 21; refine (kA _).mono ?_; rintro e w1 ⟨rfl, hb1⟩; obtain ⟨hc1, hf1⟩ := bcell hb1; have hs1 := hb1.size; (try simp only [World.size_alloc, World.size_setCell, World.size_drew] at hc1 hf1); (try simp at hs1))
        go_wp2_with fail
        (go_at_call 21; refine (kB _).mono ?_; rintro e w2 ⟨rfl, hb2⟩; obtain ⟨hc2, hf2⟩ := bcell hb2; have hs2 := hb2.size; (try simp only [World.size_alloc, World.size_setCell, World.size_drew] at hc2 hf2); (try simp at hs2))
        go_wp2_with fail
        (go_at_call 62; refine (hbt _).mono ?_; rintro e w3 ⟨rfl, hb3⟩; obtain ⟨hc3, hf3⟩ := bcell hb3; have hs3 := hb3.size; (try simp only [World.size_alloc, World.size_setCell, World.size_drew] at hc3 hf3); (try simp at hs3))
        go_wp2_with fail
        refine bodyPost_ret (v := .tuple #[.agg #[.int .i64 (max ax bx), .int .i64 (max ay by'), .int .i64 (min (ax + aw) (bx + bw) - 1 - max ax bx + 1), .int .i64 (min (ay + ah) (by' + bh) - 1 - max ay by' + 1)], .bool true]) (by simp [results, Try.results31, go_sem, *, ↓IntWalk.iteOmega]) rfl ?_
        exact ⟨meetVal_yes HQ.out ⟨rfl, rfl, by omega, by omega⟩, by (repeat' (first | exact Below.refl _ _ | assumption | (refine Below.alloc ?_ ?_ _) | (refine Below.setCell ?_ ?_ _) | (refine Below.drew ?_) | (refine below_drewN ?_ _) | (refine below_after (Ext.below _) ?_ ?_) | (refine below_after (by assumption) ?_ ?_) | (simp; done) | omega | (simp; omega)))⟩
      · have HV := Lib.hid (meetVal_no hq)
        clear hq
        have d1 : decide (min (ax + aw) (bx + bw) - 1 - max ax bx + 1 < 1) = true := decide_eq_true (by omega)
        go_enter Try.func31, Try.ntmps31
        go_wp2_with fail
        (go_at_call 21; refine (kA _).mono ?_; rintro e w1 ⟨rfl, hb1⟩; obtain ⟨hc1, hf1⟩ := bcell hb1; have hs1 := hb1.size; (try simp only [World.size_alloc, World.size_setCell, World.size_drew] at hc1 hf1); (try simp at hs1))
        go_wp2_with fail
        (go_at_call 21; refine (kB _).mono ?_; rintro e w2 ⟨rfl, hb2⟩; obtain ⟨hc2, hf2⟩ := bcell hb2; have hs2 := hb2.size; (try simp only [World.size_alloc, World.size_setCell, World.size_drew] at hc2 hf2); (try simp at hs2))
        go_wp2_with fail
        (go_at_call 62; refine (hbt _).mono ?_; rintro e w3 ⟨rfl, hb3⟩; obtain ⟨hc3, hf3⟩ := bcell hb3; have hs3 := hb3.size; (try simp only [World.size_alloc, World.size_setCell, World.size_drew] at hc3 hf3); (try simp at hs3))
        go_wp2_with fail
        refine bodyPost_ret (v := .tuple #[.agg #[.int .i64 0, .int .i64 0, .int .i64 0, .int .i64 0], .bool false]) (by simp [results, Try.results31, go_sem, *, ↓IntWalk.iteOmega]) rfl ?_
        exact ⟨HV.out, by (repeat' (first | exact Below.refl _ _ | assumption | (refine Below.alloc ?_ ?_ _) | (refine Below.setCell ?_ ?_ _) | (refine Below.drew ?_) | (refine below_drewN ?_ _) | (refine below_after (Ext.below _) ?_ ?_) | (refine below_after (by assumption) ?_ ?_) | (simp; done) | omega | (simp; omega)))⟩
      · have HV := Lib.hid (meetVal_no hq)
        clear hq
        have d1 : decide (min (ax + aw) (bx + bw) - 1 - max ax bx + 1 < 1) = false := decide_eq_false (by omega)
        have d2 : decide (min (ay + ah) (by' + bh) - 1 - max ay by' + 1 < 1) = true := decide_eq_true (by omega)
        go_enter Try.func31, Try.ntmps31
        go_wp2_with fail
        (go_at_call 21; refine (kA _).mono ?_; rintro e w1 ⟨rfl, hb1⟩; obtain ⟨hc1, hf1⟩ := bcell hb1; have hs1 := hb1.size; (try simp only [World.size_alloc, World.size_setCell, World.size_drew] at hc1 hf1); (try simp at hs1))
        go_wp2_with fail
        (go_at_call 21; refine (kB _).mono ?_; rintro e w2 ⟨rfl, hb2⟩; obtain ⟨hc2, hf2⟩ := bcell hb2; have hs2 := hb2.size; (try simp only [World.size_alloc, World.size_setCell, World.size_drew] at hc2 hf2); (try simp at hs2))
        go_wp2_with fail
        (go_at_call 62; refine (hbt _).mono ?_; rintro e w3 ⟨rfl, hb3⟩; obtain ⟨hc3, hf3⟩ := bcell hb3; have hs3 := hb3.size; (try simp only [World.size_alloc, World.size_setCell, World.size_drew] at hc3 hf3); (try simp at hs3))
        go_wp2_with fail
        refine bodyPost_ret (v := .tuple #[.agg #[.int .i64 0, .int .i64 0, .int .i64 0, .int .i64 0], .bool false]) (by simp [results, Try.results31, go_sem, *, ↓IntWalk.iteOmega]) rfl ?_
        exact ⟨HV.out, by (repeat' (first | exact Below.refl _ _ | assumption | (refine Below.alloc ?_ ?_ _) | (refine Below.setCell ?_ ?_ _) | (refine Below.drew ?_) | (refine below_drewN ?_ _) | (refine below_after (Ext.below _) ?_ ?_) | (refine below_after (by assumption) ?_ ?_) | (simp; done) | omega | (simp; omega)))⟩
end Go.Proofs.Ytnhnkmppmicjoaa
