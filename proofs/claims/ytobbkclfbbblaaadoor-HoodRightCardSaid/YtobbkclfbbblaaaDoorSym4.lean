/- Contracts of Within, of the program and of the reference. -/
import Derived.Test.YtobbkclfbbblaaaDoorSym3
namespace Go.Proofs.YtobbkclfbbblaaaDoor
open Go Go.RowKit
set_option linter.unusedSimpArgs false
set_option linter.unusedVariables false
set_option maxRecDepth 100000
theorem rightB_one (x y : Int) : rightB x y 1 1 = validB x y := by
  unfold rightB validB; rw [Bool.eq_iff_iff]; simp; omega
/-- What Within computes. -/
def withinF (f : Int → Int → Int × Int) (x y w h px py : Int) : Int × Int :=
  if rightB x y w h && validB px py then (wrap64 ((f px py).1 - (turnF f x y w h).1), wrap64 ((f px py).2 - (turnF f x y w h).2.1)) else (0, 0)
theorem ref_Within_no1 (k x y wd hh px py : Int) (w : World) (hr : rightB x y wd hh = false) :
    Calls Tryd.prog 22 #[.int .i64 k, .agg #[.int .i64 x, .int .i64 y, .int .i64 wd, .int .i64 hh], .agg #[.int .i64 px, .int .i64 py]] w fun e w' => e = .returned (.agg #[.int .i64 0, .int .i64 0]) ∧ Below w.heap.size w w' := by
  go_enter Tryd.func22, Tryd.ntmps22
  go_wp2_with (first | (go_at_call 23; refine (ref_Right _ _ _ _ _).mono ?_; rintro e w1 ⟨rfl, hb1⟩; obtain ⟨hc1, hf1⟩ := bcell hb1; have hs1 := hb1.size; (try simp only [World.size_alloc, World.size_setCell, World.size_drew] at hc1 hf1); (try simp at hs1)))
  refine bodyPost_ret (v := .agg #[.int .i64 0, .int .i64 0]) (by simp [results, Tryd.results22, go_sem, *, ↓IntWalk.iteOmega]) rfl ?_
  exact ⟨rfl, by (repeat' (first | exact Below.refl _ _ | assumption | (refine Below.alloc ?_ ?_ _) | (refine Below.setCell ?_ ?_ _) | (refine Below.drew ?_) | (refine below_drewN ?_ _) | (refine below_after (Ext.below _) ?_ ?_) | (refine below_after (by assumption) ?_ ?_) | (simp; done) | omega | (simp; omega)))⟩
theorem ref_Within_no2 (k x y wd hh px py : Int) (w : World) (hr : rightB x y wd hh = true) (hp : validB px py = false) :
    Calls Tryd.prog 22 #[.int .i64 k, .agg #[.int .i64 x, .int .i64 y, .int .i64 wd, .int .i64 hh], .agg #[.int .i64 px, .int .i64 py]] w fun e w' => e = .returned (.agg #[.int .i64 0, .int .i64 0]) ∧ Below w.heap.size w w' := by
  go_enter Tryd.func22, Tryd.ntmps22
  go_wp2_with (first | (go_at_call 23; refine (ref_Right _ _ _ _ _).mono ?_; rintro e w1 ⟨rfl, hb1⟩; obtain ⟨hc1, hf1⟩ := bcell hb1; have hs1 := hb1.size; (try simp only [World.size_alloc, World.size_setCell, World.size_drew] at hc1 hf1); (try simp at hs1)) | (go_at_call 24; refine (ref_Place _ _ _).mono ?_; rintro e w1 ⟨rfl, hb1⟩; obtain ⟨hc1, hf1⟩ := bcell hb1; have hs1 := hb1.size; (try simp only [World.size_alloc, World.size_setCell, World.size_drew] at hc1 hf1); (try simp at hs1)))
  refine bodyPost_ret (v := .agg #[.int .i64 0, .int .i64 0]) (by simp [results, Tryd.results22, go_sem, *, ↓IntWalk.iteOmega]) rfl ?_
  exact ⟨rfl, by (repeat' (first | exact Below.refl _ _ | assumption | (refine Below.alloc ?_ ?_ _) | (refine Below.setCell ?_ ?_ _) | (refine Below.drew ?_) | (refine below_drewN ?_ _) | (refine below_after (Ext.below _) ?_ ?_) | (refine below_after (by assumption) ?_ ?_) | (simp; done) | omega | (simp; omega)))⟩
set_option maxHeartbeats 400000 in
theorem ref_Within_yes (k x y wd hh px py : Int) (w : World) (hr : rightB x y wd hh = true) (hp : validB px py = true) :
    Calls Tryd.prog 22 #[.int .i64 k, .agg #[.int .i64 x, .int .i64 y, .int .i64 wd, .int .i64 hh], .agg #[.int .i64 px, .int .i64 py]] w fun e w' => e = .returned (.agg #[.int .i64 (wrap64 ((rapp k px py).1 - (turnF (rapp k) x y wd hh).1)), .int .i64 (wrap64 ((rapp k px py).2 - (turnF (rapp k) x y wd hh).2.1))]) ∧ Below w.heap.size w w' := by
  go_enter Tryd.func22, Tryd.ntmps22
  go_wp2_with (first | (go_at_call 23; refine (ref_Right _ _ _ _ _).mono ?_; rintro e w1 ⟨rfl, hb1⟩; obtain ⟨hc1, hf1⟩ := bcell hb1; have hs1 := hb1.size; (try simp only [World.size_alloc, World.size_setCell, World.size_drew] at hc1 hf1); (try simp at hs1)) | (go_at_call 24; refine (ref_Place _ _ _).mono ?_; rintro e w1 ⟨rfl, hb1⟩; obtain ⟨hc1, hf1⟩ := bcell hb1; have hs1 := hb1.size; (try simp only [World.size_alloc, World.size_setCell, World.size_drew] at hc1 hf1); (try simp at hs1)) | (go_at_call 21; refine (ref_Turn_yes _ _ _ _ _ _ hr).mono ?_; rintro e w1 ⟨rfl, hb1⟩; obtain ⟨hc1, hf1⟩ := bcell hb1; have hs1 := hb1.size; (try simp only [World.size_alloc, World.size_setCell, World.size_drew] at hc1 hf1); (try simp at hs1)) | (go_at_call 13; refine (ref_Apply _ _ _ _).mono ?_; rintro e w1 ⟨rfl, hb1⟩; obtain ⟨hc1, hf1⟩ := bcell hb1; have hs1 := hb1.size; (try simp only [World.size_alloc, World.size_setCell, World.size_drew] at hc1 hf1); (try simp at hs1)))
  refine bodyPost_ret (v := .agg #[.int .i64 (wrap64 ((rapp k px py).1 - (turnF (rapp k) x y wd hh).1)), .int .i64 (wrap64 ((rapp k px py).2 - (turnF (rapp k) x y wd hh).2.1))]) (by simp [results, Tryd.results22, go_sem, *, ↓IntWalk.iteOmega]) rfl ?_
  exact ⟨rfl, by (repeat' (first | exact Below.refl _ _ | assumption | (refine Below.alloc ?_ ?_ _) | (refine Below.setCell ?_ ?_ _) | (refine Below.drew ?_) | (refine below_drewN ?_ _) | (refine below_after (Ext.below _) ?_ ?_) | (refine below_after (by assumption) ?_ ?_) | (simp; done) | omega | (simp; omega)))⟩
theorem ref_Within (k x y wd hh px py : Int) (w : World) :
    Calls Tryd.prog 22 #[.int .i64 k, .agg #[.int .i64 x, .int .i64 y, .int .i64 wd, .int .i64 hh], .agg #[.int .i64 px, .int .i64 py]] w fun e w' => e = .returned (.agg #[.int .i64 (withinF (rapp k) x y wd hh px py).1, .int .i64 (withinF (rapp k) x y wd hh px py).2]) ∧ Below w.heap.size w w' := by
  unfold withinF
  by_cases hr : rightB x y wd hh = true
  · by_cases hp : validB px py = true
    · rw [hr, hp]; exact ref_Within_yes k x y wd hh px py w hr hp
    · have hp' : validB px py = false := by simpa using hp
      rw [hr, hp']; exact ref_Within_no2 k x y wd hh px py w hr (by simpa using hp)
  · have hr' : rightB x y wd hh = false := by simpa using hr
    rw [hr']; exact ref_Within_no1 k x y wd hh px py w (by simpa using hr)
theorem sym_Within_no1 (k x y wd hh px py : Int) (w : World) (hr : rightB x y wd hh = false) :
    Calls Tryd.prog 20 #[.int .i64 k, .agg #[.int .i64 x, .int .i64 y, .int .i64 wd, .int .i64 hh], .agg #[.int .i64 px, .int .i64 py]] w fun e w' => e = .returned (.agg #[.int .i64 0, .int .i64 0]) ∧ Below w.heap.size w w' := by
  go_enter Tryd.func20, Tryd.ntmps20
  go_wp2_with (first | (go_at_call 53; refine (point_Right _ _ _ _ _).mono ?_; rintro e w1 ⟨rfl, hb1⟩; obtain ⟨hc1, hf1⟩ := bcell hb1; have hs1 := hb1.size; (try simp only [World.size_alloc, World.size_setCell, World.size_drew] at hc1 hf1); (try simp at hs1)))
  refine bodyPost_ret (v := .agg #[.int .i64 0, .int .i64 0]) (by simp [results, Tryd.results20, go_sem, *, ↓IntWalk.iteOmega]) rfl ?_
  exact ⟨rfl, by (repeat' (first | exact Below.refl _ _ | assumption | (refine Below.alloc ?_ ?_ _) | (refine Below.setCell ?_ ?_ _) | (refine Below.drew ?_) | (refine below_drewN ?_ _) | (refine below_after (Ext.below _) ?_ ?_) | (refine below_after (by assumption) ?_ ?_) | (simp; done) | omega | (simp; omega)))⟩
theorem sym_Within_no2 (k x y wd hh px py : Int) (w : World) (hr : rightB x y wd hh = true) (hp : rightB px py 1 1 = false) :
    Calls Tryd.prog 20 #[.int .i64 k, .agg #[.int .i64 x, .int .i64 y, .int .i64 wd, .int .i64 hh], .agg #[.int .i64 px, .int .i64 py]] w fun e w' => e = .returned (.agg #[.int .i64 0, .int .i64 0]) ∧ Below w.heap.size w w' := by
  go_enter Tryd.func20, Tryd.ntmps20
  go_wp2_with (first | (go_at_call 53; refine (point_Right _ _ _ _ _).mono ?_; rintro e w1 ⟨rfl, hb1⟩; obtain ⟨hc1, hf1⟩ := bcell hb1; have hs1 := hb1.size; (try simp only [World.size_alloc, World.size_setCell, World.size_drew] at hc1 hf1); (try simp at hs1)))
  refine bodyPost_ret (v := .agg #[.int .i64 0, .int .i64 0]) (by simp [results, Tryd.results20, go_sem, *, ↓IntWalk.iteOmega]) rfl ?_
  exact ⟨rfl, by (repeat' (first | exact Below.refl _ _ | assumption | (refine Below.alloc ?_ ?_ _) | (refine Below.setCell ?_ ?_ _) | (refine Below.drew ?_) | (refine below_drewN ?_ _) | (refine below_after (Ext.below _) ?_ ?_) | (refine below_after (by assumption) ?_ ?_) | (simp; done) | omega | (simp; omega)))⟩
/-- What Within gives at a grid of the sides a, b: of the place (x, y) under k. -/
def wF (a b x y : Int) (k : Int) : Int × Int := withinF (app k) 0 0 a b x y
theorem wrap64_I64 (n : Int) : I64 (wrap64 n) := by unfold I64 wrap64; omega
theorem turn_eq (k x y w h : Int) (hx : I64 x) (hy : I64 y) : turnF (app k) x y w h = turnF (rapp k) x y w h := by
  unfold turnF
  rw [app_eq k x y hx hy, app_eq k _ _ (wrap64_I64 _) (wrap64_I64 _)]
theorem within_eq (k x y w h px py : Int) (hx : I64 x) (hy : I64 y) (hpx : I64 px) (hpy : I64 py) : withinF (app k) x y w h px py = withinF (rapp k) x y w h px py := by
  unfold withinF
  rw [turn_eq k x y w h hx hy, app_eq k px py hpx hpy]
theorem ref_WithinN (a b x y k : Int) (w : World) (hx : 0 ≤ x ∧ x ≤ 4096) (hy : 0 ≤ y ∧ y ≤ 4096) :
    Calls Tryd.prog 22 #[.int .i64 k, .agg #[.int .i64 0, .int .i64 0, .int .i64 a, .int .i64 b], .agg #[.int .i64 x, .int .i64 y]] w fun e w' => e = .returned (.agg #[.int .i64 (wF a b x y k).1, .int .i64 (wF a b x y k).2]) ∧ Below w.heap.size w w' := by
  unfold wF
  rw [within_eq k 0 0 a b x y (by unfold I64; omega) (by unfold I64; omega) (by unfold I64; omega) (by unfold I64; omega)]
  exact ref_Within k 0 0 a b x y w
end Go.Proofs.YtobbkclfbbblaaaDoor
