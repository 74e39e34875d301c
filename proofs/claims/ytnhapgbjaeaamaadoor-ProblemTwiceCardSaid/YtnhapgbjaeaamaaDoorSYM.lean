/- What the model's == and != say of positions, boxes and arrays of four integers. Contracts of the tests on coordinates and boxes, of the program and of the reference. Contracts of symmetry.Apply and of the reference's Mod and Apply. Contracts of Turn and Within, of the program and of the reference, and of the reference's Place and In. Contracts of Within, of the program and of the reference. Plain facts on turned boxes. The contract of the program's Within. Contracts of symmetry.Compose, Inverse and of the reference's find, Compose, Inverse. -/
import Derived.Test.YtnhapgbjaeaamaaDoorProg
import Derived.Test.YtnhapgbjaeaamaaDoorMEM
import Derived.Laws.StructEq
import Derived.ChangeKeysEq
import Derived.Test.YtnhapgbjaeaamaaDoorPLN
import Derived.Deep.RegionWith
set_option linter.unusedSimpArgs false
set_option linter.unusedVariables false
section
namespace Go.Proofs.YtnhapgbjaeaamaaDoor
open Go Go.RowKit
theorem eqGuard_agg (t : TypeId) (hm : Tryd.prog.eqGuardType Tryd.prog.depth t = false) (op : BinOp) (x y : Operand) (xs ys : Array Value) (w : World) : (eqGuard op t x y (.agg xs) (.agg ys)).run Tryd.prog w = .ok () w :=
  run_eqGuard_agg w op t x y xs ys hm
theorem eq_pt (x y x' y' : Int) (w : World) : (binOp .eql 56 (.agg #[.int .i64 x, .int .i64 y]) (.agg #[.int .i64 x', .int .i64 y'])).run Tryd.prog w = .ok (.bool (decide (x = x' ∧ y = y'))) w := by
  have u3 := Tryd.underlying3
  have a3 := Tryd.isAgg3
  have z3 := Tryd.sizeOf3
  have hS : Tryd.prog.underlying 56 = some (.struct (Tryd.prog.fieldsOf 56)) := by kernel_rfl
  have hp : Tryd.prog.stoodInHeld 56 = false := by kernel_rfl
  rw [run_eql_struct, show (10000 : Nat) = 9999 + 1 from rfl, run_equalIn_agg w 9999 56 _ _ hS hp]
  simp only [Program.fieldsOf, Tryd.underlying56]
  go_simp
  by_cases h1 : x = x' <;> by_cases h2 : y = y' <;> simp [h1, h2]
theorem neq_pt (x y x' y' : Int) (w : World) : (binOp .neq 56 (.agg #[.int .i64 x, .int .i64 y]) (.agg #[.int .i64 x', .int .i64 y'])).run Tryd.prog w = .ok (.bool (!decide (x = x' ∧ y = y'))) w := by
  have h := eq_pt x y x' y' w
  rw [run_eql_struct] at h
  rw [run_neq_struct]
  generalize (Op.equalIn 10000 56 (.agg #[.int .i64 x, .int .i64 y]) (.agg #[.int .i64 x', .int .i64 y'])).run Tryd.prog w = r at *
  cases r <;> simp_all [Result.andThen]
theorem eq_box (x y z u x' y' z' u' : Int) (w : World) : (binOp .eql 73 (.agg #[.int .i64 x, .int .i64 y, .int .i64 z, .int .i64 u]) (.agg #[.int .i64 x', .int .i64 y', .int .i64 z', .int .i64 u'])).run Tryd.prog w = .ok (.bool (decide (x = x' ∧ y = y' ∧ z = z' ∧ u = u'))) w := by
  have u3 := Tryd.underlying3
  have a3 := Tryd.isAgg3
  have z3 := Tryd.sizeOf3
  have hS : Tryd.prog.underlying 73 = some (.struct (Tryd.prog.fieldsOf 73)) := by kernel_rfl
  have hp : Tryd.prog.stoodInHeld 73 = false := by kernel_rfl
  rw [run_eql_struct, show (10000 : Nat) = 9999 + 1 from rfl, run_equalIn_agg w 9999 73 _ _ hS hp]
  simp only [Program.fieldsOf, Tryd.underlying73]
  go_simp
  by_cases h1 : x = x' <;> by_cases h2 : y = y' <;> by_cases h3 : z = z' <;> by_cases h4 : u = u' <;> simp [h1, h2, h3, h4]
theorem neq_box (x y z u x' y' z' u' : Int) (w : World) : (binOp .neq 73 (.agg #[.int .i64 x, .int .i64 y, .int .i64 z, .int .i64 u]) (.agg #[.int .i64 x', .int .i64 y', .int .i64 z', .int .i64 u'])).run Tryd.prog w = .ok (.bool (!decide (x = x' ∧ y = y' ∧ z = z' ∧ u = u'))) w := by
  have h := eq_box x y z u x' y' z' u' w
  rw [run_eql_struct] at h
  rw [run_neq_struct]
  generalize (Op.equalIn 10000 73 (.agg #[.int .i64 x, .int .i64 y, .int .i64 z, .int .i64 u]) (.agg #[.int .i64 x', .int .i64 y', .int .i64 z', .int .i64 u'])).run Tryd.prog w = r at *
  cases r <;> simp_all [Result.andThen]
theorem eq_arr4 (x y z u x' y' z' u' : Int) (w : World) : (binOp .eql 101 (.agg #[.int .i64 x, .int .i64 y, .int .i64 z, .int .i64 u]) (.agg #[.int .i64 x', .int .i64 y', .int .i64 z', .int .i64 u'])).run Tryd.prog w = .ok (.bool (decide (x = x' ∧ y = y' ∧ z = z' ∧ u = u'))) w := by
  have u3 := Tryd.underlying3
  have a3 := Tryd.isAgg3
  have z3 := Tryd.sizeOf3
  obtain ⟨i, hi, _⟩ := info_parts (show (Tryd.prog.info? 3).map (fun i => (i.zero, i.size, i.bytes)) = some (some (.int .i64 0), 1, 8) by kernel_rfl)
  rw [run_eql_struct, show (10000 : Nat) = 9999 + 1 from rfl, run_equalIn_array w 9999 _ _ Tryd.underlying101 hi]
  have c3 : Tryd.prog.cellsOf 3 = 1 := by kernel_rfl
  rw [c3, show List.range 4 = [0, 1, 2, 3] from rfl]
  simp only [Op.eqItems]
  go_simp
  by_cases h1 : x = x' <;> by_cases h2 : y = y' <;> by_cases h3 : z = z' <;> by_cases h4 : u = u' <;> simp [h1, h2, h3, h4]
end Go.Proofs.YtnhapgbjaeaamaaDoor
end
section
namespace Go.Proofs.YtnhapgbjaeaamaaDoor
open Go Go.RowKit
set_option maxRecDepth 100000
set_option maxHeartbeats 400000 in
theorem point_in (n : Int) (w : World) : Calls Tryd.prog 61 #[.int .i64 n] w fun e w' => e = .returned (.bool (decide (-1048576 ≤ n ∧ n ≤ 1048576))) ∧ w = w' := by
  go_enter Tryd.func61, Tryd.ntmps61
  go_wp2
  all_goals (go_ret; refine ⟨ret_bool ?_, rfl⟩; rw [Bool.eq_iff_iff]; simp; try omega)
set_option maxHeartbeats 400000 in
theorem point_Right (x y wd h : Int) (w : World) : Calls Tryd.prog 50 #[.agg #[.int .i64 x, .int .i64 y, .int .i64 wd, .int .i64 h]] w fun e w' => e = .returned (.bool (rightB x y wd h)) ∧ Below w.heap.size w w' := by
  go_enter Tryd.func50, Tryd.ntmps50
  go_wp2_with (first | (go_at_call 61; refine (point_in _ _).mono ?_; rintro e w' ⟨rfl, rfl⟩))
  all_goals (go_ret; refine ⟨ret_bool ?_, by (repeat' (first | exact Below.refl _ _ | assumption | (refine Below.alloc ?_ ?_ _) | (refine Below.setCell ?_ ?_ _) | (refine Below.drew ?_) | (refine below_drewN ?_ _) | (refine below_after (Ext.below _) ?_ ?_) | (refine below_after (by assumption) ?_ ?_) | (simp; done) | omega | (simp; omega)))⟩; rw [Bool.eq_iff_iff]; simp [rightB]; omega)
end Go.Proofs.YtnhapgbjaeaamaaDoor
end
section
namespace Go.Proofs.YtnhapgbjaeaamaaDoor
open Go Go.RowKit
set_option maxRecDepth 100000
/-- The table of matrices lies in the package's variable. -/
def Mx (w : World) : Prop := 0 < w.heap.size ∧ ∀ r j, r < 8 → j < 4 → w.cell? ⟨0, r * 4 + j, none⟩ = some (.int .i64 (mat r j))
theorem Mx.of {w w' : World} (h : Mx w) (hb : Below w.heap.size w w') : Mx w' :=
  ⟨Nat.lt_of_lt_of_le h.1 hb.size, fun r j hr hj => (hb.cell (p := ⟨0, r * 4 + j, none⟩) h.1).trans (h.2 r j hr hj)⟩
theorem apply_core (k x y a b c d : Int) (r : Nat) (hr : r < 8) (w : World) (hb : bits .and .i64 k 7 = (r : Int)) (hz : 0 < w.heap.size)
   (h0 : w.cell? ⟨0, r * 4, none⟩ = some (.int .i64 a)) (h1 : w.cell? ⟨0, r * 4 + 1, none⟩ = some (.int .i64 b)) (h2 : w.cell? ⟨0, r * 4 + 2, none⟩ = some (.int .i64 c)) (h3 : w.cell? ⟨0, r * 4 + 3, none⟩ = some (.int .i64 d)):
    Calls Tryd.prog 52 #[.int .i64 k, .agg #[.int .i64 x, .int .i64 y]] w fun e w' => e = .returned (.agg #[.int .i64 (wrap64 (wrap64 (a * x) + wrap64 (b * y))), .int .i64 (wrap64 (wrap64 (c * x) + wrap64 (d * y)))]) ∧ Below w.heap.size w w' := by
  go_enter Tryd.func52, Tryd.ntmps52
  go_wp2
  refine bodyPost_ret (v := .agg #[.int .i64 (wrap64 (wrap64 (a * x) + wrap64 (b * y))), .int .i64 (wrap64 (wrap64 (c * x) + wrap64 (d * y)))]) (by simp [results, Tryd.results52, go_sem, *, ↓IntWalk.iteOmega]) rfl ?_
  exact ⟨rfl, by (repeat' (first | exact Below.refl _ _ | assumption | (refine Below.alloc ?_ ?_ _) | (refine Below.setCell ?_ ?_ _) | (refine Below.drew ?_) | (refine below_drewN ?_ _) | (refine below_after (Ext.below _) ?_ ?_) | (refine below_after (by assumption) ?_ ?_) | (simp; done) | omega | (simp; omega)))⟩
theorem sym_Apply (k x y : Int) (w : World) (hM : Mx w) :
    Calls Tryd.prog 52 #[.int .i64 k, .agg #[.int .i64 x, .int .i64 y]] w fun e w' => e = .returned (.agg #[.int .i64 (app k x y).1, .int .i64 (app k x y).2]) ∧ Below w.heap.size w w' :=
  apply_core k x y _ _ _ _ (r8 k) (r8_lt k) w (by rw [i64_and7, r8_cast]) hM.1 (hM.2 _ 0 (r8_lt k) (by omega)) (hM.2 _ 1 (r8_lt k) (by omega)) (hM.2 _ 2 (r8_lt k) (by omega)) (hM.2 _ 3 (r8_lt k) (by omega))
end Go.Proofs.YtnhapgbjaeaamaaDoor
end
section
namespace Go.Proofs.YtnhapgbjaeaamaaDoor
open Go Go.RowKit
set_option maxRecDepth 100000
/-- What Turn computes of a valid box: the corner and the sides. -/
def turnF (f : Int → Int → Int × Int) (x y w h : Int) : Int × Int × Int × Int :=
  let p := f x y
  let q := f (wrap64 (wrap64 (x + w) - 1)) (wrap64 (wrap64 (y + h) - 1))
  let a := min p.1 q.1
  let b := min p.2 q.2
  (a, b, wrap64 (wrap64 (max p.1 q.1 - a) + 1), wrap64 (wrap64 (max p.2 q.2 - b) + 1))
theorem sym_Turn_no (k x y wd hh : Int) (w : World) (hM : Mx w) (hr : rightB x y wd hh = false) :
    Calls Tryd.prog 51 #[.int .i64 k, .agg #[.int .i64 x, .int .i64 y, .int .i64 wd, .int .i64 hh]] w fun e w' => e = .returned (.agg #[.int .i64 0, .int .i64 0, .int .i64 0, .int .i64 0]) ∧ Below w.heap.size w w' := by
  go_enter Tryd.func51, Tryd.ntmps51
  go_wp2_with (first | (go_at_call 50; refine (point_Right _ _ _ _ _).mono ?_; rintro e w1 ⟨rfl, hb1⟩; obtain ⟨hc1, hf1⟩ := bcell hb1; have hs1 := hb1.size; (try simp only [World.size_alloc, World.size_setCell, World.size_drew] at hc1 hf1); (try simp at hs1)))
  refine bodyPost_ret (v := .agg #[.int .i64 0, .int .i64 0, .int .i64 0, .int .i64 0]) (by simp [results, Tryd.results51, go_sem, *, ↓IntWalk.iteOmega]) rfl ?_
  exact ⟨rfl, by (repeat' (first | exact Below.refl _ _ | assumption | (refine Below.alloc ?_ ?_ _) | (refine Below.setCell ?_ ?_ _) | (refine Below.drew ?_) | (refine below_drewN ?_ _) | (refine below_after (Ext.below _) ?_ ?_) | (refine below_after (by assumption) ?_ ?_) | (simp; done) | omega | (simp; omega)))⟩
set_option maxHeartbeats 400000 in
theorem sym_Turn_yes (k x y wd hh : Int) (w : World) (hM : Mx w) (hr : rightB x y wd hh = true) :
    Calls Tryd.prog 51 #[.int .i64 k, .agg #[.int .i64 x, .int .i64 y, .int .i64 wd, .int .i64 hh]] w fun e w' => e = .returned (.agg #[.int .i64 (turnF (app k) x y wd hh).1, .int .i64 (turnF (app k) x y wd hh).2.1, .int .i64 (turnF (app k) x y wd hh).2.2.1, .int .i64 (turnF (app k) x y wd hh).2.2.2]) ∧ Below w.heap.size w w' := by
  go_enter Tryd.func51, Tryd.ntmps51
  go_wp2_with (first | (go_at_call 50; refine (point_Right _ _ _ _ _).mono ?_; rintro e w1 ⟨rfl, hb1⟩; obtain ⟨hc1, hf1⟩ := bcell hb1; have hs1 := hb1.size; (try simp only [World.size_alloc, World.size_setCell, World.size_drew] at hc1 hf1); (try simp at hs1)) | (go_at_call 52; refine (sym_Apply _ _ _ _ (hM.of (by (repeat' (first | exact Below.refl _ _ | assumption | (refine Below.alloc ?_ ?_ _) | (refine Below.setCell ?_ ?_ _) | (refine Below.drew ?_) | (refine below_drewN ?_ _) | (refine below_after (Ext.below _) ?_ ?_) | (refine below_after (by assumption) ?_ ?_) | (simp; done) | omega | (simp; omega)))))).mono ?_; rintro e w1 ⟨rfl, hb1⟩; obtain ⟨hc1, hf1⟩ := bcell hb1; have hs1 := hb1.size; (try simp only [World.size_alloc, World.size_setCell, World.size_drew] at hc1 hf1); (try simp at hs1)))
  (refine wp_region_ext_lit (by kernel_rfl) (by kernel_rfl) ?_; (repeat (go_big_quiet_step (fail))); refine wpQuiet_nil ?_; intro _ hw'; obtain ⟨z2, hw''⟩ := hw'; subst hw''; have hs2 := z2.size; obtain ⟨hc2, hf2⟩ := bcell z2.below; (try simp only [World.size_alloc, World.size_setCell, World.size_drew] at hc2 hf2); (try simp at hs2))
  go_wp2
  · refine bodyPost_ret (v := .agg #[.int .i64 (turnF (app k) x y wd hh).1, .int .i64 (turnF (app k) x y wd hh).2.1, .int .i64 (turnF (app k) x y wd hh).2.2.1, .int .i64 (turnF (app k) x y wd hh).2.2.2]) (by simp [results, Tryd.results51, go_sem, turnF, *, ↓IntWalk.iteOmega]) rfl ?_
    exact ⟨rfl, by (repeat' (first | exact Below.refl _ _ | assumption | (refine Below.alloc ?_ ?_ _) | (refine Below.setCell ?_ ?_ _) | (refine Below.drew ?_) | (refine below_drewN ?_ _) | (refine below_after (Ext.below _) ?_ ?_) | (refine below_after (by assumption) ?_ ?_) | (simp; done) | omega | (simp; omega)))⟩
end Go.Proofs.YtnhapgbjaeaamaaDoor
end
section
namespace Go.Proofs.YtnhapgbjaeaamaaDoor
open Go Go.RowKit
set_option maxRecDepth 100000
theorem rightB_one (x y : Int) : rightB x y 1 1 = validB x y := by
  unfold rightB validB; rw [Bool.eq_iff_iff]; simp; omega
/-- What Within computes. -/
def withinF (f : Int → Int → Int × Int) (x y w h px py : Int) : Int × Int :=
  if rightB x y w h && validB px py then (wrap64 ((f px py).1 - (turnF f x y w h).1), wrap64 ((f px py).2 - (turnF f x y w h).2.1)) else (0, 0)
theorem sym_Within_no1 (k x y wd hh px py : Int) (w : World) (hr : rightB x y wd hh = false) :
    Calls Tryd.prog 39 #[.int .i64 k, .agg #[.int .i64 x, .int .i64 y, .int .i64 wd, .int .i64 hh], .agg #[.int .i64 px, .int .i64 py]] w fun e w' => e = .returned (.agg #[.int .i64 0, .int .i64 0]) ∧ Below w.heap.size w w' := by
  go_enter Tryd.func39, Tryd.ntmps39
  go_wp2_with (first | (go_at_call 50; refine (point_Right _ _ _ _ _).mono ?_; rintro e w1 ⟨rfl, hb1⟩; obtain ⟨hc1, hf1⟩ := bcell hb1; have hs1 := hb1.size; (try simp only [World.size_alloc, World.size_setCell, World.size_drew] at hc1 hf1); (try simp at hs1)))
  refine bodyPost_ret (v := .agg #[.int .i64 0, .int .i64 0]) (by simp [results, Tryd.results39, go_sem, *, ↓IntWalk.iteOmega]) rfl ?_
  exact ⟨rfl, by (repeat' (first | exact Below.refl _ _ | assumption | (refine Below.alloc ?_ ?_ _) | (refine Below.setCell ?_ ?_ _) | (refine Below.drew ?_) | (refine below_drewN ?_ _) | (refine below_after (Ext.below _) ?_ ?_) | (refine below_after (by assumption) ?_ ?_) | (simp; done) | omega | (simp; omega)))⟩
theorem sym_Within_no2 (k x y wd hh px py : Int) (w : World) (hr : rightB x y wd hh = true) (hp : rightB px py 1 1 = false) :
    Calls Tryd.prog 39 #[.int .i64 k, .agg #[.int .i64 x, .int .i64 y, .int .i64 wd, .int .i64 hh], .agg #[.int .i64 px, .int .i64 py]] w fun e w' => e = .returned (.agg #[.int .i64 0, .int .i64 0]) ∧ Below w.heap.size w w' := by
  go_enter Tryd.func39, Tryd.ntmps39
  go_wp2_with (first | (go_at_call 50; refine (point_Right _ _ _ _ _).mono ?_; rintro e w1 ⟨rfl, hb1⟩; obtain ⟨hc1, hf1⟩ := bcell hb1; have hs1 := hb1.size; (try simp only [World.size_alloc, World.size_setCell, World.size_drew] at hc1 hf1); (try simp at hs1)))
  refine bodyPost_ret (v := .agg #[.int .i64 0, .int .i64 0]) (by simp [results, Tryd.results39, go_sem, *, ↓IntWalk.iteOmega]) rfl ?_
  exact ⟨rfl, by (repeat' (first | exact Below.refl _ _ | assumption | (refine Below.alloc ?_ ?_ _) | (refine Below.setCell ?_ ?_ _) | (refine Below.drew ?_) | (refine below_drewN ?_ _) | (refine below_after (Ext.below _) ?_ ?_) | (refine below_after (by assumption) ?_ ?_) | (simp; done) | omega | (simp; omega)))⟩
/-- What Within gives at a grid of the sides a, b: of the place (x, y) under k. -/
def wF (a b x y : Int) (k : Int) : Int × Int := withinF (app k) 0 0 a b x y
theorem wrap64_I64 (n : Int) : I64 (wrap64 n) := by unfold I64 wrap64; omega
theorem turn_eq (k x y w h : Int) (hx : I64 x) (hy : I64 y) : turnF (app k) x y w h = turnF (rapp k) x y w h := by
  unfold turnF
  rw [app_eq k x y hx hy, app_eq k _ _ (wrap64_I64 _) (wrap64_I64 _)]
theorem within_eq (k x y w h px py : Int) (hx : I64 x) (hy : I64 y) (hpx : I64 px) (hpy : I64 py) : withinF (app k) x y w h px py = withinF (rapp k) x y w h px py := by
  unfold withinF
  rw [turn_eq k x y w h hx hy, app_eq k px py hpx hpy]
end Go.Proofs.YtnhapgbjaeaamaaDoor
end
section
namespace Go.Proofs.YtnhapgbjaeaamaaDoor
open Go Go.RowKit
theorem i64_box {x y w h : Int} (hr : rightB x y w h = true) : I64 x ∧ I64 y ∧ I64 (wrap64 (wrap64 (x + w) - 1)) ∧ I64 (wrap64 (wrap64 (y + h) - 1)) := by
  have h1 := rightB_iff.1 hr
  unfold I64 wrap64
  omega
theorem turn8 (k x y w h : Int) (hr : rightB x y w h = true) : turnF (app k) x y w h = turnF (app8 (r8 k)) x y w h := by
  obtain ⟨h1, h2, h3, h4⟩ := i64_box hr
  unfold turnF
  rw [app_app8 k _ _ h1 h2, app_app8 k _ _ h3 h4]
/-- The turned box, without a wrap. -/
def turn8F (r : Nat) (x y w h : Int) : Int × Int × Int × Int := match r with
  | 0 => (x, y, w, h)
  | 1 => (-(y + h - 1), x, h, w)
  | 2 => (-(x + w - 1), -(y + h - 1), w, h)
  | 3 => (y, -(x + w - 1), h, w)
  | 4 => (-(x + w - 1), y, w, h)
  | 5 => (-(y + h - 1), -(x + w - 1), h, w)
  | 6 => (x, -(y + h - 1), w, h)
  | _ => (y, x, h, w)
theorem turn_turn8 (k x y w h : Int) (hr : rightB x y w h = true) : turnF (app k) x y w h = turn8F (r8 k) x y w h := by
  rw [turn8 k x y w h hr]
  have h1 := rightB_iff.1 hr
  have h := r8_lt k
  generalize r8 k = r at h
  have hc : r = 0 ∨ r = 1 ∨ r = 2 ∨ r = 3 ∨ r = 4 ∨ r = 5 ∨ r = 6 ∨ r = 7 := by omega
  rcases hc with rfl | rfl | rfl | rfl | rfl | rfl | rfl | rfl <;> simp only [turnF, app8, turn8F, wrap64, Prod.mk.injEq] <;> omega
theorem right_turn (k x y w h : Int) (hr : rightB x y w h = true) : rightB (turnF (app k) x y w h).1 (turnF (app k) x y w h).2.1 (turnF (app k) x y w h).2.2.1 (turnF (app k) x y w h).2.2.2 = true := by
  rw [turn_turn8 k x y w h hr, rightB_iff]
  have h1 := rightB_iff.1 hr
  have h := r8_lt k
  generalize r8 k = r at h
  have hc : r = 0 ∨ r = 1 ∨ r = 2 ∨ r = 3 ∨ r = 4 ∨ r = 5 ∨ r = 6 ∨ r = 7 := by omega
  rcases hc with rfl | rfl | rfl | rfl | rfl | rfl | rfl | rfl <;> simp only [turn8F] <;> omega
def app8V (r : Nat) (x y : Int) : Int × Int := match r with
  | 0 => (x, y)
  | 1 => (-y, x)
  | 2 => (-x, -y)
  | 3 => (y, -x)
  | 4 => (-x, y)
  | 5 => (-y, -x)
  | 6 => (x, -y)
  | _ => (y, x)
theorem wrap_valid {x : Int} (h : -1048576 ≤ x ∧ x ≤ 1048576) : wrap64 (-x) = -x := by unfold wrap64; omega
theorem app8_valid (r : Nat) (x y : Int) (h : validB x y = true) : app8 r x y = app8V r x y := by
  unfold validB at h
  have h1 := of_decide_eq_true h
  have hx := wrap_valid ⟨h1.1, h1.2.1⟩
  have hy := wrap_valid ⟨h1.2.2.1, h1.2.2.2⟩
  unfold app8
  rw [hx, hy]
  rfl
theorem in_turn (k x y w h px py : Int) (hr : rightB x y w h = true) (hp : validB px py = true) :
    boxInB (turnF (app k) x y w h).1 (turnF (app k) x y w h).2.1 (turnF (app k) x y w h).2.2.1 (turnF (app k) x y w h).2.2.2 (app k px py).1 (app k px py).2 = boxInB x y w h px py := by
  unfold boxInB
  rw [right_turn k x y w h hr, hr, turn_turn8 k x y w h hr]
  have h2 := of_decide_eq_true hp
  rw [app_app8 k px py (by unfold I64; omega) (by unfold I64; omega), app8_valid _ _ _ hp]
  have h1 := rightB_iff.1 hr
  have h := r8_lt k
  generalize r8 k = r at h
  simp only [Bool.true_and, decide_eq_decide]
  have hc : r = 0 ∨ r = 1 ∨ r = 2 ∨ r = 3 ∨ r = 4 ∨ r = 5 ∨ r = 6 ∨ r = 7 := by omega
  rcases hc with rfl | rfl | rfl | rfl | rfl | rfl | rfl | rfl <;> simp only [turn8F, app8V] <;> omega
theorem in_within (k x y w h px py : Int) (hr : rightB x y w h = true) (hp : validB px py = true) :
    boxInB x y w h px py = true ↔ 0 ≤ (withinF (app k) x y w h px py).1 ∧ (withinF (app k) x y w h px py).1 < (turnF (app k) x y w h).2.2.1 ∧ 0 ≤ (withinF (app k) x y w h px py).2 ∧ (withinF (app k) x y w h px py).2 < (turnF (app k) x y w h).2.2.2 := by
  unfold boxInB withinF
  rw [hr, hp, turn_turn8 k x y w h hr]
  have h2 := of_decide_eq_true hp
  rw [app_app8 k px py (by unfold I64; omega) (by unfold I64; omega), app8_valid _ _ _ hp]
  have h1 := rightB_iff.1 hr
  have h := r8_lt k
  generalize r8 k = r at h
  simp only [Bool.true_and, decide_eq_true_eq, if_true]
  have hc : r = 0 ∨ r = 1 ∨ r = 2 ∨ r = 3 ∨ r = 4 ∨ r = 5 ∨ r = 6 ∨ r = 7 := by omega
  rcases hc with rfl | rfl | rfl | rfl | rfl | rfl | rfl | rfl <;> simp only [turn8F, app8V, wrap64] <;> omega
end Go.Proofs.YtnhapgbjaeaamaaDoor
end
section
namespace Go.Proofs.YtnhapgbjaeaamaaDoor
open Go Go.RowKit
set_option maxRecDepth 100000
set_option maxHeartbeats 1000000 in
theorem sym_Within_yes (k x y wd hh px py : Int) (w : World) (hM : Mx w) (hr : rightB x y wd hh = true) (hp : rightB px py 1 1 = true) :
    Calls Tryd.prog 39 #[.int .i64 k, .agg #[.int .i64 x, .int .i64 y, .int .i64 wd, .int .i64 hh], .agg #[.int .i64 px, .int .i64 py]] w fun e w' => e = .returned (.agg #[.int .i64 (wrap64 ((app k px py).1 - (turnF (app k) x y wd hh).1)), .int .i64 (wrap64 ((app k px py).2 - (turnF (app k) x y wd hh).2.1))]) ∧ Below w.heap.size w w' := by
  go_enter Tryd.func39, Tryd.ntmps39
  go_wp2_with (first | (go_at_call 50; refine (point_Right _ _ _ _ _).mono ?_; rintro e w1 ⟨rfl, hb1⟩; obtain ⟨hc1, hf1⟩ := bcell hb1; have hs1 := hb1.size; (try simp only [World.size_alloc, World.size_setCell, World.size_drew] at hc1 hf1); (try simp at hs1)))
  (refine' wp_region_fresh2 [false, false, false, false, false, false, true, true, true, true] 6 8 7 24 73 (.agg #[.int .i64 0, .int .i64 0, .int .i64 0, .int .i64 0]) _ 7 9 8 27 56 (.agg #[.int .i64 0, .int .i64 0]) _ (fun u hu => ?hqh2) (by kernel_rfl) (by kernel_rfl) (by kernel_rfl) (by kernel_rfl) rfl rfl Tryd.zeroValue73 rfl rfl Tryd.zeroValue56 ?s1h2 ?s2h2 ?s3h2 (by decide) ?s4h2 ?s5h2 ?s6h2 ?s7h2 ?s8h2 ?s9h2 ?s10h2 ?s11h2 ?finh2; (case hqh2 => (obtain ⟨hcu, hfu⟩ := bcell hu; have hsu := hu.size; simp only [stripM, blankO]; (repeat (go_big_quiet_step (first | (go_at_call 51; exact calls_ext (sym_Turn_yes _ _ _ _ _ _ (hM.of (by (repeat' (first | exact Below.refl _ _ | assumption | (refine Below.alloc ?_ ?_ _) | (refine Below.setCell ?_ ?_ _) | (refine Below.drew ?_) | (refine below_drewN ?_ _) | (refine below_after (Ext.below _) ?_ ?_) | (refine below_after (by assumption) ?_ ?_) | (simp; done) | omega | (simp; omega))))) hr)) | (go_at_call 52; exact calls_ext (sym_Apply _ _ _ _ (hM.of (by (repeat' (first | exact Below.refl _ _ | assumption | (refine Below.alloc ?_ ?_ _) | (refine Below.setCell ?_ ?_ _) | (refine Below.drew ?_) | (refine below_drewN ?_ _) | (refine below_after (Ext.below _) ?_ ?_) | (refine below_after (by assumption) ?_ ?_) | (simp; done) | omega | (simp; omega)))))))))); refine wpQuiet_nil ?_; rfl)); (case s1h2 => rfl); (case s2h2 => simp); (case s3h2 => simp); (case s4h2 => rfl); (case s5h2 => kernel_rfl); (case s6h2 => rfl); (case s7h2 => simp [Value.oneCell']); (case s8h2 => rfl); (case s9h2 => kernel_rfl); (case s10h2 => rfl); (case s11h2 => simp [Value.oneCell']); intro bk2 bj2 w2 hbl2 hbh2 hbl'2 hbh'2 hbb2 hb2 hh2 hj2; obtain ⟨hc2, hf2⟩ := bcell hb2; have hs2 := hb2.size; have hk2 := cellOf_row hh2; have hl2 := frozenOf_row hh2; have hk'2 := cellOf_row hj2; have hl'2 := frozenOf_row hj2; clear hh2 hj2; (try simp only [World.size_alloc, World.size_setCell, World.size_drew] at hc2 hf2); (try simp at hs2 hbl2 hbl'2); simp only [Act.put, List.setIfInBounds_toArray, List.set_cons_zero, List.set_cons_succ])
  go_wp2
  refine bodyPost_ret (v := .agg #[.int .i64 (wrap64 ((app k px py).1 - (turnF (app k) x y wd hh).1)), .int .i64 (wrap64 ((app k px py).2 - (turnF (app k) x y wd hh).2.1))]) (by simp [results, Tryd.results39, go_sem, *, ↓IntWalk.iteOmega]) rfl ?_
  exact ⟨rfl, by (repeat' (first | exact Below.refl _ _ | assumption | (refine Below.alloc ?_ ?_ _) | (refine Below.setCell ?_ ?_ _) | (refine Below.drew ?_) | (refine below_drewN ?_ _) | (refine below_after (Ext.below _) ?_ ?_) | (refine below_after (by assumption) ?_ ?_) | (simp; done) | omega | (simp; omega)))⟩
theorem sym_Within (k x y wd hh px py : Int) (w : World) (hM : Mx w) :
    Calls Tryd.prog 39 #[.int .i64 k, .agg #[.int .i64 x, .int .i64 y, .int .i64 wd, .int .i64 hh], .agg #[.int .i64 px, .int .i64 py]] w fun e w' => e = .returned (.agg #[.int .i64 (withinF (app k) x y wd hh px py).1, .int .i64 (withinF (app k) x y wd hh px py).2]) ∧ Below w.heap.size w w' := by
  unfold withinF
  by_cases hr : rightB x y wd hh = true
  · by_cases hp : validB px py = true
    · rw [hr, hp]; exact sym_Within_yes k x y wd hh px py w hM hr (by rw [rightB_one]; exact hp)
    · have hp' : validB px py = false := by simpa using hp
      rw [hr, hp']; exact sym_Within_no2 k x y wd hh px py w hr (by rw [rightB_one]; exact hp')
  · have hr' : rightB x y wd hh = false := by simpa using hr
    rw [hr']; exact sym_Within_no1 k x y wd hh px py w hr'
end Go.Proofs.YtnhapgbjaeaamaaDoor
end
section
namespace Go.Proofs.YtnhapgbjaeaamaaDoor
open Go Go.RowKit
set_option maxRecDepth 100000
attribute [local go_sem ↓ high] eq_pt eq_arr4 neq_pt
set_option maxHeartbeats 400000 in
theorem index_mat (a b c d : Int) (w : World) (hM : Mx w) :
    Calls Tryd.prog 60 #[.slice (some ⟨0, 0, none⟩) 8 8, .agg #[.int .i64 a, .int .i64 b, .int .i64 c, .int .i64 d]] w fun e w' => e = .returned (.int .i64 (matIx a b c d)) ∧ Below w.heap.size w w' := by
  have hz := hM.1
  go_enter Tryd.func60, Tryd.ntmps60
  go_wp2
  go_loopw [8] (fun i wr => ∃ j : Nat, j ≤ 8 ∧ i = .int .i64 j ∧ Below (w.heap.size + 1) (w.alloc (.cells #[.int .i64 a, .int .i64 b, .int .i64 c, .int .i64 d] 101)) wr ∧ Hid (∀ r, r < j → matP a b c d r = false)) (fun i _ => 8 - (intOf i).toNat)
  case atStart => exact ⟨0, by omega, rfl, Below.refl _ _, fun r hr => absurd hr (by omega)⟩
  case round =>
    obtain ⟨j, hj, rfl, hb, hno⟩ := hrel
    obtain ⟨hc, hf⟩ := bcell hb
    have hs := hb.size
    (try simp at hs)
    by_cases hlt : j < 8
    · have h0 := hM.2 j 0 hlt (by omega)
      have h1 := hM.2 j 1 hlt (by omega)
      have h2 := hM.2 j 2 hlt (by omega)
      have h3 := hM.2 j 3 hlt (by omega)
      simp only [Nat.add_zero] at h0
      go_wp2
      (refine wp_region_ext_lit (by kernel_rfl) (by kernel_rfl) ?_; (repeat (go_big_quiet_step (fail))); refine wpQuiet_nil ?_; intro _ hw'; obtain ⟨z1, hw''⟩ := hw'; subst hw''; have hs1 := z1.size; obtain ⟨hc1, hf1⟩ := bcell z1.below; (try simp only [World.size_alloc, World.size_setCell, World.size_drew] at hc1 hf1); (try simp at hs1))
      go_wp2
      · obtain ⟨rfl, rfl, rfl, rfl⟩ : a = mat j 0 ∧ b = mat j 1 ∧ c = mat j 2 ∧ d = mat j 3 := by assumption
        go_ret
        exact ⟨ret_int (firstAt_nonneg (p := matP _ _ _ _) (by simp [matP]) hno.out hlt).symm, by (repeat' (first | exact Below.refl _ _ | assumption | (refine Below.alloc ?_ ?_ _) | (refine Below.setCell ?_ ?_ _) | (refine Below.drew ?_) | (refine below_drewN ?_ _) | (refine below_after (Ext.below _) ?_ ?_) | (refine below_after (by assumption) ?_ ?_) | (simp; done) | omega | (simp; omega)))⟩
      · have hq : ¬a = mat j 0 ∨ ¬b = mat j 1 ∨ ¬c = mat j 2 ∨ ¬d = mat j 3 := by assumption
        go_roundw
        case rel => exact ⟨j + 1, by omega, by go_num, (by (repeat' (first | exact Below.refl _ _ | assumption | (refine Below.alloc ?_ ?_ _) | (refine Below.setCell ?_ ?_ _) | (refine Below.drew ?_) | (refine below_drewN ?_ _) | (refine below_after (Ext.below _) ?_ ?_) | (refine below_after (by assumption) ?_ ?_) | (simp; done) | omega | (simp; omega)))), first_step hno.out (decide_eq_false (by rintro ⟨h1, h2, h3, h4⟩; omega))⟩
        case measure => simp [intOf]; omega
    · obtain rfl : j = 8 := by omega
      go_wp2
      go_ret
      exact ⟨ret_int (firstAt_none hno.out).symm, by (repeat' (first | exact Below.refl _ _ | assumption | (refine Below.alloc ?_ ?_ _) | (refine Below.setCell ?_ ?_ _) | (refine Below.drew ?_) | (refine below_drewN ?_ _) | (refine below_after (Ext.below _) ?_ ?_) | (refine below_after (by assumption) ?_ ?_) | (simp; done) | omega | (simp; omega)))⟩
set_option maxHeartbeats 400000 in
theorem sym_Compose (a b : Int) (w : World) (hM : Mx w) :
    Calls Tryd.prog 49 #[.int .i64 a, .int .i64 b] w fun e w' => e = .returned (.int .i64 (comp a b)) ∧ Below w.heap.size w w' := by
  have hz := hM.1
  go_enter Tryd.func49, Tryd.ntmps49
  go_wp2_with (first | (go_at_call 52; refine (sym_Apply _ _ _ _ (hM.of (by (repeat' (first | exact Below.refl _ _ | assumption | (refine Below.alloc ?_ ?_ _) | (refine Below.setCell ?_ ?_ _) | (refine Below.drew ?_) | (refine below_drewN ?_ _) | (refine below_after (Ext.below _) ?_ ?_) | (refine below_after (by assumption) ?_ ?_) | (simp; done) | omega | (simp; omega)))))).mono ?_; rintro e w1 ⟨rfl, hb1⟩; obtain ⟨hc1, hf1⟩ := bcell hb1; have hs1 := hb1.size; (try simp only [World.size_alloc, World.size_setCell, World.size_drew] at hc1 hf1); (try simp at hs1)))
  (refine wp_region_ext_lit (by kernel_rfl) (by kernel_rfl) ?_; (repeat (go_big_quiet_step ((go_at_call 60; exact calls_ext (index_mat _ _ _ _ _ (hM.of (by (repeat' (first | exact Below.refl _ _ | assumption | (refine Below.alloc ?_ ?_ _) | (refine Below.setCell ?_ ?_ _) | (refine Below.drew ?_) | (refine below_drewN ?_ _) | (refine below_after (Ext.below _) ?_ ?_) | (refine below_after (by assumption) ?_ ?_) | (simp; done) | omega | (simp; omega)))))))))); refine wpQuiet_nil ?_; intro _ hw'; obtain ⟨z1, hw''⟩ := hw'; subst hw''; have hs1 := z1.size; obtain ⟨hc1, hf1⟩ := bcell z1.below; (try simp only [World.size_alloc, World.size_setCell, World.size_drew] at hc1 hf1); (try simp at hs1))
  go_wp2
  go_ret
  exact ⟨rfl, by (repeat' (first | exact Below.refl _ _ | assumption | (refine Below.alloc ?_ ?_ _) | (refine Below.setCell ?_ ?_ _) | (refine Below.drew ?_) | (refine below_drewN ?_ _) | (refine below_after (Ext.below _) ?_ ?_) | (refine below_after (by assumption) ?_ ?_) | (simp; done) | omega | (simp; omega)))⟩
end Go.Proofs.YtnhapgbjaeaamaaDoor
end
