/- Contracts of symmetry.Apply and of the reference's Mod and Apply. -/
import Derived.Test.YtenckggfgbkfnaaDoorProg
import Derived.Test.YtenckggfgbkfnaaDoorMEM
import Derived.Test.YtenckggfgbkfnaaDoorEq
import Derived.Test.YtenckggfgbkfnaaDoorPLN
namespace Go.Proofs.YtenckggfgbkfnaaDoor
open Go Go.RowKit
set_option linter.unusedSimpArgs false
set_option linter.unusedVariables false
set_option maxRecDepth 100000
/-- The table of matrices lies in the package's variable. -/
def Mx (w : World) : Prop := 0 < w.heap.size ∧ ∀ r j, r < 8 → j < 4 → w.cell? ⟨0, r * 4 + j, none⟩ = some (.int .i64 (mat r j))
theorem Mx.of {w w' : World} (h : Mx w) (hb : Below w.heap.size w w') : Mx w' :=
  ⟨Nat.lt_of_lt_of_le h.1 hb.size, fun r j hr hj => (hb.cell (p := ⟨0, r * 4 + j, none⟩) h.1).trans (h.2 r j hr hj)⟩
theorem apply_core (k x y a b c d : Int) (r : Nat) (hr : r < 8) (w : World) (hb : bits .and .i64 k 7 = (r : Int)) (hz : 0 < w.heap.size)
   (h0 : w.cell? ⟨0, r * 4, none⟩ = some (.int .i64 a)) (h1 : w.cell? ⟨0, r * 4 + 1, none⟩ = some (.int .i64 b)) (h2 : w.cell? ⟨0, r * 4 + 2, none⟩ = some (.int .i64 c)) (h3 : w.cell? ⟨0, r * 4 + 3, none⟩ = some (.int .i64 d)):
    Calls Tryd.prog 44 #[.int .i64 k, .agg #[.int .i64 x, .int .i64 y]] w fun e w' => e = .returned (.agg #[.int .i64 (wrap64 (wrap64 (a * x) + wrap64 (b * y))), .int .i64 (wrap64 (wrap64 (c * x) + wrap64 (d * y)))]) ∧ Below w.heap.size w w' := by
  go_enter Tryd.func44, Tryd.ntmps44
  go_wp2
  refine bodyPost_ret (v := .agg #[.int .i64 (wrap64 (wrap64 (a * x) + wrap64 (b * y))), .int .i64 (wrap64 (wrap64 (c * x) + wrap64 (d * y)))]) (by simp [results, Tryd.results44, go_sem, *, ↓IntWalk.iteOmega]) rfl ?_
  exact ⟨rfl, by (repeat' (first | exact Below.refl _ _ | assumption | (refine Below.alloc ?_ ?_ _) | (refine Below.setCell ?_ ?_ _) | (refine Below.drew ?_) | (refine below_drewN ?_ _) | (refine below_after (Ext.below _) ?_ ?_) | (refine below_after (by assumption) ?_ ?_) | (simp; done) | omega | (simp; omega)))⟩
theorem sym_Apply (k x y : Int) (w : World) (hM : Mx w) :
    Calls Tryd.prog 44 #[.int .i64 k, .agg #[.int .i64 x, .int .i64 y]] w fun e w' => e = .returned (.agg #[.int .i64 (app k x y).1, .int .i64 (app k x y).2]) ∧ Below w.heap.size w w' :=
  apply_core k x y _ _ _ _ (r8 k) (r8_lt k) w (by rw [i64_and7, r8_cast]) hM.1 (hM.2 _ 0 (r8_lt k) (by omega)) (hM.2 _ 1 (r8_lt k) (by omega)) (hM.2 _ 2 (r8_lt k) (by omega)) (hM.2 _ 3 (r8_lt k) (by omega))
theorem ref_Mod (k : Int) (w : World) : Calls Tryd.prog 67 #[.int .i64 k] w fun e w' => e = .returned (.int .i64 (k % 8)) ∧ w = w' := by
  go_enter Tryd.func67, Tryd.ntmps67
  go_wp2
  go_ret
  refine ⟨ret_int ?_, rfl⟩
  simp [wrap64]
  rw [Int.tmod_eq_emod_of_nonneg (a := _ - _)] <;> rw [Int.tmod_eq_emod] <;> split <;> omega
theorem ref_Mod' (k r : Int) (h : Hid (k % 8 = r)) (w : World) : Calls Tryd.prog 67 #[.int .i64 k] w fun e w' => e = .returned (.int .i64 r) ∧ w = w' := by
  rw [← h.out]; exact ref_Mod k w
set_option maxHeartbeats 400000 in
theorem ref_Apply_lo (k x y : Int) (n : Nat) (hn : n < 4) (h : Hid (k % 8 = (n : Int))) (w : World) :
    Calls Tryd.prog 47 #[.int .i64 k, .agg #[.int .i64 x, .int .i64 y]] w fun e w' => e = .returned (.agg #[.int .i64 (quart n (x, y)).1, .int .i64 (quart n (x, y)).2]) ∧ Below w.heap.size w w' := by
  go_enter Tryd.func47, Tryd.ntmps47
  go_wp2_with (first | (go_at_call 67; refine (ref_Mod' _ _ h _).mono ?_; rintro e w' ⟨rfl, rfl⟩))
  go_loopw [5] (fun i wr => ∃ j : Nat, j ≤ n ∧ i = .int .i64 j ∧ wr = (w.alloc (.cells #[.int .i64 (quart j (x, y)).1, .int .i64 (quart j (x, y)).2] 39)).alloc (.cells #[.int .i64 0, .int .i64 0] 39)) (fun i _ => n - (intOf i).toNat)
  case atStart => exact ⟨0, by omega, rfl, rfl⟩
  case round =>
    obtain ⟨j, hj, rfl, rfl⟩ := hrel
    by_cases hlt : j < n
    · go_wp2
      go_roundw
      case rel => exact ⟨j + 1, by omega, by go_num, rfl⟩
      case measure => simp [intOf]; omega
    · obtain rfl : j = n := by omega
      go_wp2
      refine bodyPost_ret (v := .agg #[.int .i64 (quart j (x, y)).1, .int .i64 (quart j (x, y)).2]) (by simp [results, Tryd.results47, go_sem, *, ↓IntWalk.iteOmega]) rfl ?_
      exact ⟨rfl, by (repeat' (first | exact Below.refl _ _ | assumption | (refine Below.alloc ?_ ?_ _) | (refine Below.setCell ?_ ?_ _) | (refine Below.drew ?_) | (refine below_drewN ?_ _) | (refine below_after (Ext.below _) ?_ ?_) | (refine below_after (by assumption) ?_ ?_) | (simp; done) | omega | (simp; omega)))⟩
set_option maxHeartbeats 400000 in
theorem ref_Apply_hi (k x y : Int) (n : Nat) (hn : n < 4) (h : Hid (k % 8 = (n : Int) + 4)) (w : World) :
    Calls Tryd.prog 47 #[.int .i64 k, .agg #[.int .i64 x, .int .i64 y]] w fun e w' => e = .returned (.agg #[.int .i64 (quart n (wrap64 (-x), y)).1, .int .i64 (quart n (wrap64 (-x), y)).2]) ∧ Below w.heap.size w w' := by
  go_enter Tryd.func47, Tryd.ntmps47
  go_wp2_with (first | (go_at_call 67; refine (ref_Mod' _ _ h _).mono ?_; rintro e w' ⟨rfl, rfl⟩))
  go_loopw [5] (fun i wr => ∃ j : Nat, j ≤ n ∧ i = .int .i64 j ∧ wr = (w.alloc (.cells #[.int .i64 (quart j (wrap64 (-x), y)).1, .int .i64 (quart j (wrap64 (-x), y)).2] 39)).alloc (.cells #[.int .i64 0, .int .i64 0] 39)) (fun i _ => n - (intOf i).toNat)
  case atStart => exact ⟨0, by omega, rfl, rfl⟩
  case round =>
    obtain ⟨j, hj, rfl, rfl⟩ := hrel
    by_cases hlt : j < n
    · go_wp2
      go_roundw
      case rel => exact ⟨j + 1, by omega, by go_num, rfl⟩
      case measure => simp [intOf]; omega
    · obtain rfl : j = n := by omega
      go_wp2
      refine bodyPost_ret (v := .agg #[.int .i64 (quart j (wrap64 (-x), y)).1, .int .i64 (quart j (wrap64 (-x), y)).2]) (by simp [results, Tryd.results47, go_sem, *, ↓IntWalk.iteOmega]) rfl ?_
      exact ⟨rfl, by (repeat' (first | exact Below.refl _ _ | assumption | (refine Below.alloc ?_ ?_ _) | (refine Below.setCell ?_ ?_ _) | (refine Below.drew ?_) | (refine below_drewN ?_ _) | (refine below_after (Ext.below _) ?_ ?_) | (refine below_after (by assumption) ?_ ?_) | (simp; done) | omega | (simp; omega)))⟩
theorem ref_Apply (k x y : Int) (w : World) :
    Calls Tryd.prog 47 #[.int .i64 k, .agg #[.int .i64 x, .int .i64 y]] w fun e w' => e = .returned (.agg #[.int .i64 (rapp k x y).1, .int .i64 (rapp k x y).2]) ∧ Below w.heap.size w w' := by
  by_cases h4 : 4 ≤ k % 8
  · have e : rapp k x y = quart (k % 8 - 4).toNat (wrap64 (-x), y) := by unfold rapp; rw [if_pos h4]
    rw [e]
    exact ref_Apply_hi k x y _ (by omega) (show k % 8 = ((k % 8 - 4).toNat : Int) + 4 by omega) w
  · have e : rapp k x y = quart (k % 8).toNat (x, y) := by unfold rapp; rw [if_neg h4]
    rw [e]
    exact ref_Apply_lo k x y _ (by omega) (show k % 8 = ((k % 8).toNat : Int) by omega) w
end Go.Proofs.YtenckggfgbkfnaaDoor
