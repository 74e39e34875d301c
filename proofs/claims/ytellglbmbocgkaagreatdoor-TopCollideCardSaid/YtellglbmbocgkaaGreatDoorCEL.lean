/- What the model's == and != say of positions, boxes and arrays of four integers. Contracts of cmp.Compare, cmp.Or and point.Compare. Boxes of a function's own; chains of worlds; slices behind a name. Contracts of the small functions of pattern and of its reference. The contracts of Right, of pattern and of its reference. The contracts of the reference's Right, and of Get and Top. Contracts of Meet, Join, Grow and In, of point and of its reference. The contracts of Around, of point and of its reference. The contracts of Box, of pattern and of its reference. The contracts of slices.Clone at cells and of Shift, of pattern and of its reference. The contracts of Same and Compare, of pattern and of its reference. The contracts of the reference's Compare and Same. Plain facts on moving a pattern home. -/
import Derived.Test.YtellglbmbocgkaaGreatDoorProg
import Derived.Test.YtellglbmbocgkaaGreatDoorMEM
import Derived.Laws.StructEq
import Derived.ChangeKeysEq
import Derived.Test.YtellglbmbocgkaaGreatDoorPLN
import Derived.Laws.Tables
import Derived.StillTail
import Derived.StillTailTactics
import Derived.Deep.RegionHeld3
set_option linter.unusedSimpArgs false
set_option linter.unusedVariables false
section
namespace Go.Proofs.YtellglbmbocgkaaGreatDoor
open Go Go.RowKit
theorem eq_pt (x y x' y' : Int) (w : World) : (binOp .eql 139 (.agg #[.int .i64 x, .int .i64 y]) (.agg #[.int .i64 x', .int .i64 y'])).run Tryz.prog w = .ok (.bool (decide (x = x' ∧ y = y'))) w := by
  have u3 := Tryz.underlying3
  have a3 := Tryz.isAgg3
  have z3 := Tryz.sizeOf3
  have hS : Tryz.prog.underlying 139 = some (.struct (Tryz.prog.fieldsOf 139)) := by kernel_rfl
  have hp : Tryz.prog.stoodInHeld 139 = false := by kernel_rfl
  rw [run_eql_struct, show (10000 : Nat) = 9999 + 1 from rfl, run_equalIn_agg w 9999 139 _ _ hS hp]
  simp only [Program.fieldsOf, Tryz.underlying139]
  go_simp
  by_cases h1 : x = x' <;> by_cases h2 : y = y' <;> simp [h1, h2]
theorem neq_pt (x y x' y' : Int) (w : World) : (binOp .neq 139 (.agg #[.int .i64 x, .int .i64 y]) (.agg #[.int .i64 x', .int .i64 y'])).run Tryz.prog w = .ok (.bool (!decide (x = x' ∧ y = y'))) w := by
  have h := eq_pt x y x' y' w
  rw [run_eql_struct] at h
  rw [run_neq_struct]
  generalize (Op.equalIn 10000 139 (.agg #[.int .i64 x, .int .i64 y]) (.agg #[.int .i64 x', .int .i64 y'])).run Tryz.prog w = r at *
  cases r <;> simp_all [Result.andThen]
theorem eq_arr4 (x y z u x' y' z' u' : Int) (w : World) : (binOp .eql 223 (.agg #[.int .i64 x, .int .i64 y, .int .i64 z, .int .i64 u]) (.agg #[.int .i64 x', .int .i64 y', .int .i64 z', .int .i64 u'])).run Tryz.prog w = .ok (.bool (decide (x = x' ∧ y = y' ∧ z = z' ∧ u = u'))) w := by
  have u3 := Tryz.underlying3
  have a3 := Tryz.isAgg3
  have z3 := Tryz.sizeOf3
  obtain ⟨i, hi, _⟩ := info_parts (show (Tryz.prog.info? 3).map (fun i => (i.zero, i.size, i.bytes)) = some (some (.int .i64 0), 1, 8) by kernel_rfl)
  rw [run_eql_struct, show (10000 : Nat) = 9999 + 1 from rfl, run_equalIn_array w 9999 _ _ Tryz.underlying223 hi]
  have c3 : Tryz.prog.cellsOf 3 = 1 := by kernel_rfl
  rw [c3, show List.range 4 = [0, 1, 2, 3] from rfl]
  simp only [Op.eqItems]
  go_simp
  by_cases h1 : x = x' <;> by_cases h2 : y = y' <;> by_cases h3 : z = z' <;> by_cases h4 : u = u' <;> simp [h1, h2, h3, h4]
end Go.Proofs.YtellglbmbocgkaaGreatDoor
end
section
namespace Go.Proofs.YtellglbmbocgkaaGreatDoor
open Go Go.RowKit
set_option maxRecDepth 100000
theorem cmp_isNaN (a : Int) (w : World) : Calls Tryz.prog 211 #[.int .i64 a] w fun e w' => e = .returned (.bool false) ∧ w = w' := by
  go_enter Tryz.func211, Tryz.ntmps211
  go_wp2
  go_ret
  exact ⟨ret_bool (by simp), rfl⟩
theorem cmp_Compare (a b : Int) (w : World) : Calls Tryz.prog 152 #[.int .i64 a, .int .i64 b] w fun e w' => e = .returned (.int .i64 (cmpI a b)) ∧ w = w' := by
  go_enter Tryz.func152, Tryz.ntmps152
  go_wp2_with (first | (go_at_call 211; refine (cmp_isNaN _ _).mono ?_; rintro e w' ⟨rfl, rfl⟩))
  all_goals
    go_ret
    exact ⟨ret_int (by unfold cmpI; (repeat' split) <;> omega), rfl⟩
set_option maxHeartbeats 400000 in
theorem cmp_Or2 (A : Option Addr) (c : Nat) (a b : Int) (w : World) (hR : Rd encI 1 w A 2 [a, b]) : Calls Tryz.prog 151 #[.slice A 2 c] w fun e w' => e = .returned (.int .i64 (orI a b)) ∧ w = w' := by
  obtain ⟨x0, b0, o0, hx0, rfl, hb0, hc0⟩ := hR.int (i := 0) (by omega)
  obtain ⟨x1, b1, o1, hx1, he, hb1, hc1⟩ := hR.int (i := 1) (by omega)
  obtain ⟨rfl, rfl⟩ : b0 = b1 ∧ o0 = o1 := by injection he with he; injection he with e1 e2; exact ⟨e1, e2⟩
  obtain rfl : a = x0 := by have := hx0.out; simpa using this
  obtain rfl : b = x1 := by have := hx1.out; simpa using this
  clear he hx0 hx1
  simp only [Nat.add_zero] at hc0
  go_enter Tryz.func151, Tryz.ntmps151
  go_wp2
  go_loop [8] (fun i => ∃ j : Nat, j ≤ 2 ∧ i = .int .i64 j ∧ Hid (0 < j → a = 0) ∧ Hid (1 < j → b = 0)) (fun i => 2 - (intOf i).toNat)
  case atStart => exact ⟨0, by omega, rfl, fun h => absurd h (by omega), fun h => absurd h (by omega)⟩
  case round =>
    obtain ⟨j, hj, rfl, h0, h1⟩ := hrel
    have hjc : j = 0 ∨ j = 1 ∨ j = 2 := by omega
    rcases hjc with rfl | rfl | rfl
    · by_cases hq : a = 0
      · have hq' : (a != 0) = false := by simp [hq]
        have HQ := Lib.hid hq
        clear hq
        go_wp2
        go_round
        case rel => exact ⟨1, by omega, by go_num, fun _ => HQ.out, fun h => absurd h (by omega)⟩
        case measure => simp [intOf]
      · have hq' : (a != 0) = true := by simp [hq]
        have HQ := Lib.hid hq
        clear hq
        go_wp2
        go_ret
        exact ⟨ret_int (by unfold orI; rw [if_neg HQ.out]), rfl⟩
    · have ha := Lib.hid (h0.out (by omega))
      by_cases hq : b = 0
      · have hq' : (b != 0) = false := by simp [hq]
        have HQ := Lib.hid hq
        clear hq
        go_wp2
        go_round
        case rel => exact ⟨2, by omega, by go_num, fun _ => ha.out, fun _ => HQ.out⟩
        case measure => simp [intOf]
      · have hq' : (b != 0) = true := by simp [hq]
        have HQ := Lib.hid hq
        clear hq
        go_wp2
        go_ret
        exact ⟨ret_int (by unfold orI; rw [if_pos ha.out]), rfl⟩
    · have ha := Lib.hid (h0.out (by omega))
      have hb := Lib.hid (h1.out (by omega))
      go_wp2
      go_ret
      exact ⟨ret_int (by unfold orI; rw [if_pos ha.out, hb.out]), rfl⟩
theorem cmp_CompareS (a b : Int) (w : World) : Calls Tryz.prog 152 #[.int .i64 a, .int .i64 b] w fun e w' => e = .returned (.int .i64 (cmpI a b)) ∧ w' = w :=
  (cmp_Compare a b w).mono fun e w' ⟨h1, h2⟩ => ⟨h1, h2.symm⟩
set_option maxHeartbeats 400000 in
theorem point_Compare (ax ay bx bx' : Int) (w : World) : Calls Tryz.prog 141 #[.agg #[.int .i64 ax, .int .i64 ay], .agg #[.int .i64 bx, .int .i64 bx']] w fun e w' => e = .returned (.int .i64 (cmpP ax ay bx bx')) ∧ Below w.heap.size w w' := by
  go_enter Tryz.func141, Tryz.ntmps141
  go_wp2
  refine wp_region_still_tail 10 (by kernel_rfl) (by kernel_rfl) ?_
  simp only [List.take_succ_cons, List.take_zero, List.drop_succ_cons, List.drop_zero]
  change wpStill _ _ (World.drew _) (fun a' => wpList _ _ _ _ a' (World.drew _)) _ _
  have hb : Below (w.heap.size + 2) ((w.alloc (.cells #[.int .i64 ax, .int .i64 ay] 139)).alloc (.cells #[.int .i64 bx, .int .i64 bx'] 139)) ((w.alloc (.cells #[.int .i64 ax, .int .i64 ay] 139)).alloc (.cells #[.int .i64 bx, .int .i64 bx'] 139)).drew := (Below.refl _ _).drew
  generalize ((w.alloc (.cells #[.int .i64 ax, .int .i64 ay] 139)).alloc (.cells #[.int .i64 bx, .int .i64 bx'] 139)).drew = W at hb ⊢
  have hs := hb.size
  simp only [World.size_alloc] at hs
  have c0 : W.cell? ⟨w.heap.size, 0, none⟩ = some (.int .i64 ax) := by rw [hb.cell (p := ⟨w.heap.size, 0, none⟩) (by show w.heap.size < _; omega)]; simp [cell_alloc_if, cellOf]
  have c1 : W.cell? ⟨w.heap.size, 1, none⟩ = some (.int .i64 ay) := by rw [hb.cell (p := ⟨w.heap.size, 1, none⟩) (by show w.heap.size < _; omega)]; simp [cell_alloc_if, cellOf]
  have c2 : W.cell? ⟨w.heap.size + 1, 0, none⟩ = some (.int .i64 bx) := by rw [hb.cell (p := ⟨w.heap.size + 1, 0, none⟩) (by show w.heap.size + 1 < _; omega)]; simp [cell_alloc_if, cellOf]
  have c3 : W.cell? ⟨w.heap.size + 1, 1, none⟩ = some (.int .i64 bx') := by rw [hb.cell (p := ⟨w.heap.size + 1, 1, none⟩) (by show w.heap.size + 1 < _; omega)]; simp [cell_alloc_if, cellOf]
  repeat still_step
  still_call (cmp_CompareS _ _ _)
  repeat still_step
  still_call (cmp_CompareS _ _ _)
  refine wpStill_nil ?_
  have hl := (Own.lit encI_len W 3 W.heap.size (Nat.le_refl _) [cmpI ay bx', cmpI ax bx] 2 rfl (by omega) [.int .i64 (cmpI ay bx'), .int .i64 (cmpI ax bx)] rfl).rd encI_len
  show wpList _ _ _ _ _ _
  go_wp2_with fail
  go_at_call 151
  refine (cmp_Or2 _ _ _ _ _ hl).mono ?_
  rintro e w' ⟨rfl, rfl⟩
  go_wp2_with fail
  go_ret
  exact ⟨rfl, by (repeat' (first | exact Below.refl _ _ | assumption | (refine Below.alloc ?_ ?_ _) | (refine Below.setCell ?_ ?_ _) | (refine Below.drew ?_) | (refine below_drewN ?_ _) | (refine below_after (Ext.below _) ?_ ?_) | (refine below_after (by assumption) ?_ ?_) | (simp; done) | omega | (simp; omega)))⟩
end Go.Proofs.YtellglbmbocgkaaGreatDoor
end
section
namespace Go.Proofs.YtellglbmbocgkaaGreatDoor
open Go Go.RowKit
set_option maxRecDepth 100000
theorem below_thru {w w1 w2 : World} (h : Below w.heap.size w w1) (h2 : Below w1.heap.size w1 w2) : Below w.heap.size w w2 :=
  below_after h2 h h.size
def BoxAt (w : World) (b : Nat) (x y z u : Int) : Prop := b < w.heap.size ∧ w.cell? ⟨b, 0, none⟩ = some (.int .i64 x) ∧ w.cell? ⟨b, 1, none⟩ = some (.int .i64 y) ∧ w.cell? ⟨b, 2, none⟩ = some (.int .i64 z) ∧ w.cell? ⟨b, 3, none⟩ = some (.int .i64 u)
theorem BoxAt.of {w w' : World} {b : Nat} {x y z u : Int} (h : BoxAt w b x y z u) (hb : Below w.heap.size w w') : BoxAt w' b x y z u := by
  obtain ⟨h0, h1, h2, h3, h4⟩ := h
  exact ⟨by have := hb.size; omega, (hb.cell (p := ⟨_, _, none⟩) h0).trans h1, (hb.cell (p := ⟨_, _, none⟩) h0).trans h2, (hb.cell (p := ⟨_, _, none⟩) h0).trans h3, (hb.cell (p := ⟨_, _, none⟩) h0).trans h4⟩
theorem BoxAt.alloc {w : World} {b : Nat} {x y z u : Int} (h : BoxAt w b x y z u) (o : Obj) : BoxAt (w.alloc o) b x y z u := h.of ((Below.refl _ _).alloc (Nat.le_refl _) o)
theorem BoxAt.new (w : World) (x y z u : Int) (t : TypeId) : BoxAt (w.alloc (.cells #[.int .i64 x, .int .i64 y, .int .i64 z, .int .i64 u] t)) w.heap.size x y z u := by
  refine ⟨by simp, ?_, ?_, ?_, ?_⟩ <;> simp [cell_alloc_if]
structure HRd {α : Type} (enc : α → List Value) (k : Nat) (w : World) (A : Option Addr) (n : Nat) (l : List α) : Prop where
  rd : Rd enc k w A n l
theorem HRd.drew {α : Type} {enc : α → List Value} {k : Nat} {w : World} {A : Option Addr} {n : Nat} {l : List α} (h : HRd enc k w A n l) : HRd enc k w.drew A n l := ⟨h.rd⟩
theorem HRd.of {α : Type} {enc : α → List Value} {k : Nat} {w w' : World} {A : Option Addr} {n : Nat} {l : List α} (h : HRd enc k w A n l) (hb : Below w.heap.size w w') : HRd enc k w' A n l := ⟨h.rd.of hb⟩
theorem HRd.alloc {α : Type} {enc : α → List Value} {k : Nat} {w : World} {A : Option Addr} {n : Nat} {l : List α} (h : HRd enc k w A n l) (o : Obj) : HRd enc k (w.alloc o) A n l := h.of ((Below.refl _ _).alloc (Nat.le_refl _) o)
def PtAt (w : World) (b : Nat) (x y : Int) : Prop := b < w.heap.size ∧ w.cell? ⟨b, 0, none⟩ = some (.int .i64 x) ∧ w.cell? ⟨b, 1, none⟩ = some (.int .i64 y)
theorem PtAt.of {w w' : World} {b : Nat} {x y : Int} (h : PtAt w b x y) (hb : Below w.heap.size w w') : PtAt w' b x y := by
  obtain ⟨h0, h1, h2⟩ := h
  exact ⟨by have := hb.size; omega, (hb.cell (p := ⟨_, _, none⟩) h0).trans h1, (hb.cell (p := ⟨_, _, none⟩) h0).trans h2⟩
theorem PtAt.alloc {w : World} {b : Nat} {x y : Int} (h : PtAt w b x y) (o : Obj) : PtAt (w.alloc o) b x y := h.of ((Below.refl _ _).alloc (Nat.le_refl _) o)
theorem PtAt.new (w : World) (x y : Int) (t : TypeId) : PtAt (w.alloc (.cells #[.int .i64 x, .int .i64 y] t)) w.heap.size x y := by
  refine ⟨by simp, ?_, ?_⟩ <;> simp [cell_alloc_if]
end Go.Proofs.YtellglbmbocgkaaGreatDoor
end
section
namespace Go.Proofs.YtellglbmbocgkaaGreatDoor
open Go Go.RowKit
set_option maxRecDepth 100000
theorem eq_cl (x y s x' y' s' : Int) (w : World) : (binOp .eql 79 (.agg #[.int .i64 x, .int .i64 y, .int .i64 s]) (.agg #[.int .i64 x', .int .i64 y', .int .i64 s'])).run Tryz.prog w = .ok (.bool (decide (x = x' ∧ y = y' ∧ s = s'))) w := by
  have u3 := Tryz.underlying3
  have a3 := Tryz.isAgg3
  have z3 := Tryz.sizeOf3
  have hS : Tryz.prog.underlying 79 = some (.struct (Tryz.prog.fieldsOf 79)) := by kernel_rfl
  have hp : Tryz.prog.stoodInHeld 79 = false := by kernel_rfl
  rw [run_eql_struct, show (10000 : Nat) = 9999 + 1 from rfl, run_equalIn_agg w 9999 79 _ _ hS hp]
  simp only [Program.fieldsOf, Tryz.underlying79]
  go_simp
  by_cases h1 : x = x' <;> by_cases h2 : y = y' <;> by_cases h3 : s = s' <;> simp [h1, h2, h3]
theorem neq_cl (x y s x' y' s' : Int) (w : World) : (binOp .neq 79 (.agg #[.int .i64 x, .int .i64 y, .int .i64 s]) (.agg #[.int .i64 x', .int .i64 y', .int .i64 s'])).run Tryz.prog w = .ok (.bool (!decide (x = x' ∧ y = y' ∧ s = s'))) w := by
  have h := eq_cl x y s x' y' s' w
  rw [run_eql_struct] at h
  rw [run_neq_struct]
  generalize (Op.equalIn 10000 79 (.agg #[.int .i64 x, .int .i64 y, .int .i64 s]) (.agg #[.int .i64 x', .int .i64 y', .int .i64 s'])).run Tryz.prog w = r at *
  cases r <;> simp_all [Result.andThen]
attribute [local go_sem ↓ high] eq_cl neq_cl eq_pt neq_pt
theorem pat_at (x y s : Int) (w : World) : Calls Tryz.prog 98 #[.agg #[.int .i64 x, .int .i64 y, .int .i64 s]] w fun e w' => e = .returned (.agg #[.int .i64 x, .int .i64 y]) ∧ Below w.heap.size w w' := by
  go_enter Tryz.func98, Tryz.ntmps98
  go_wp2
  refine bodyPost_ret (v := .agg #[.int .i64 x, .int .i64 y]) (by simp [results, Tryz.results98, go_sem, *, ↓IntWalk.iteOmega]) rfl ?_
  exact ⟨rfl, by (repeat' (first | exact Below.refl _ _ | assumption | (refine Below.alloc ?_ ?_ _) | (refine Below.setCell ?_ ?_ _) | (refine Below.drew ?_) | (refine below_drewN ?_ _) | (refine below_after (Ext.below _) ?_ ?_) | (refine below_after (by assumption) ?_ ?_) | (simp; done) | omega | (simp; omega)))⟩
theorem pat_placed (x y : Int) (w : World) : Calls Tryz.prog 97 #[.agg #[.int .i64 x, .int .i64 y]] w fun e w' => e = .returned (.bool (validB x y)) ∧ Below w.heap.size w w' := by
  go_enter Tryz.func97, Tryz.ntmps97
  go_wp2
  all_goals (go_ret; refine ⟨ret_bool ?_, by (repeat' (first | exact Below.refl _ _ | assumption | (refine Below.alloc ?_ ?_ _) | (refine Below.setCell ?_ ?_ _) | (refine Below.drew ?_) | (refine below_drewN ?_ _) | (refine below_after (Ext.below _) ?_ ?_) | (refine below_after (by assumption) ?_ ?_) | (simp; done) | omega | (simp; omega)))⟩; rw [Bool.eq_iff_iff]; simp [validB]; try omega)
theorem pat_placedV {x y : Int} {q : Bool} (h : validB x y = q) (w : World) : Calls Tryz.prog 97 #[.agg #[.int .i64 x, .int .i64 y]] w fun e w' => e = .returned (.bool q) ∧ Below w.heap.size w w' := by
  rw [← h]; exact pat_placed x y w
theorem pat_order (x y s x' y' s' : Int) (w : World) : Calls Tryz.prog 135 #[.agg #[.int .i64 x, .int .i64 y, .int .i64 s], .agg #[.int .i64 x', .int .i64 y', .int .i64 s']] w fun e w' => e = .returned (.int .i64 (cmpP x y x' y')) ∧ Below w.heap.size w w' := by
  go_enter Tryz.func135, Tryz.ntmps135
  go_wp2
  (refine wp_region_ext_lit (by kernel_rfl) (by kernel_rfl) ?_; (repeat (go_big_quiet_step (first | (go_at_call 98; exact calls_ext (pat_at _ _ _ _)) | (go_at_call 141; exact calls_ext (point_Compare _ _ _ _ _))))); refine wpQuiet_nil ?_; intro _ hw'; obtain ⟨z1, hw''⟩ := hw'; subst hw''; have hs1 := z1.size; obtain ⟨hc1, hf1⟩ := bcell z1.below; (try simp only [World.size_alloc, World.size_setCell, World.size_drew] at hc1 hf1); (try simp at hs1))
  go_wp2
  go_ret
  exact ⟨rfl, by (repeat' (first | exact Below.refl _ _ | assumption | (refine Below.alloc ?_ ?_ _) | (refine Below.setCell ?_ ?_ _) | (refine Below.drew ?_) | (refine below_drewN ?_ _) | (refine below_after (Ext.below _) ?_ ?_) | (refine below_after (by assumption) ?_ ?_) | (simp; done) | omega | (simp; omega)))⟩
theorem ref05_Place (x y : Int) (w : World) : Calls Tryz.prog 44 #[.int .i64 x, .int .i64 y] w fun e w' => e = .returned (.bool (validB x y)) ∧ w = w' := by
  go_enter Tryz.func44, Tryz.ntmps44
  go_wp2
  all_goals (go_ret; refine ⟨ret_bool ?_, rfl⟩; rw [Bool.eq_iff_iff]; simp [validB]; try omega)
theorem ref05_PlaceV {x y : Int} {q : Bool} (h : validB x y = q) (w : World) : Calls Tryz.prog 44 #[.int .i64 x, .int .i64 y] w fun e w' => e = .returned (.bool q) ∧ w = w' := by
  rw [← h]; exact ref05_Place x y w
set_option maxHeartbeats 400000 in
theorem ref05_before (x y s x' y' s' : Int) (w : World) : Calls Tryz.prog 59 #[.agg #[.int .i64 x, .int .i64 y, .int .i64 s], .agg #[.int .i64 x', .int .i64 y', .int .i64 s']] w fun e w' => e = .returned (.bool (befP x y x' y')) ∧ Below w.heap.size w w' := by
  go_enter Tryz.func59, Tryz.ntmps59
  go_wp2
  all_goals (go_ret; refine ⟨ret_bool ?_, by (repeat' (first | exact Below.refl _ _ | assumption | (refine Below.alloc ?_ ?_ _) | (refine Below.setCell ?_ ?_ _) | (refine Below.drew ?_) | (refine below_drewN ?_ _) | (refine below_after (Ext.below _) ?_ ?_) | (refine below_after (by assumption) ?_ ?_) | (simp; done) | omega | (simp; omega)))⟩; (try simp only [Bool.not_eq_eq_eq_not, Bool.not_true, Bool.not_false, decide_eq_false_iff_not, decide_eq_true_eq, Int.not_le, Int.not_lt] at *); rw [Bool.eq_iff_iff]; simp [befP]; try omega)
theorem ref05_beforeV {x y x' y' : Int} {q : Bool} (h : befP x y x' y' = q) (s s' : Int) (w : World) : Calls Tryz.prog 59 #[.agg #[.int .i64 x, .int .i64 y, .int .i64 s], .agg #[.int .i64 x', .int .i64 y', .int .i64 s']] w fun e w' => e = .returned (.bool q) ∧ Below w.heap.size w w' := by
  rw [← h]; exact ref05_before x y s x' y' s' w
theorem ref05_order (a b : Int) (w : World) : Calls Tryz.prog 76 #[.int .i64 a, .int .i64 b] w fun e w' => e = .returned (.int .i64 (cmpI a b)) ∧ w = w' := by
  go_enter Tryz.func76, Tryz.ntmps76
  go_wp2
  all_goals (go_ret; exact ⟨ret_int (by unfold cmpI; (repeat' split) <;> omega), rfl⟩)
end Go.Proofs.YtellglbmbocgkaaGreatDoor
end
section
namespace Go.Proofs.YtellglbmbocgkaaGreatDoor
open Go Go.RowKit
set_option maxRecDepth 100000
attribute [local go_sem ↓ high] eq_cl neq_cl eq_pt neq_pt
theorem ord_bef {a b x y : Int} {q : Bool} (h : befP a b x y = q) : decide (0 ≤ cmpP a b x y) = !q := by rw [← h]; exact cmpP_bef a b x y
/-- The ways of one cell's test. -/
theorem okC_ways {l : List (Int × Int × Int)} {j : Nat} {x y s : Int} (hx : l[j]? = some (x, y, s)) :
    (validB x y = false ∧ okC l j = false) ∨ (validB x y = true ∧ s < 1 ∧ okC l j = false) ∨ (validB x y = true ∧ 1 ≤ s ∧ 8 ≤ s ∧ okC l j = false) ∨ (validB x y = true ∧ 1 ≤ s ∧ s ≤ 7 ∧ j = 0 ∧ okC l j = true) ∨
    (validB x y = true ∧ 1 ≤ s ∧ s ≤ 7 ∧ 0 < j ∧ ∃ a b c, l[j - 1]? = some (a, b, c) ∧ okC l j = befP a b x y) := by
  cases hv : validB x y with
  | false => exact .inl ⟨rfl, okC_place hx hv⟩
  | true =>
    by_cases h1 : s < 1
    · exact .inr (.inl ⟨rfl, h1, okC_state hx (.inl h1)⟩)
    · by_cases h2 : 8 ≤ s
      · exact .inr (.inr (.inl ⟨rfl, by omega, h2, okC_state hx (.inr (by omega))⟩))
      · rcases Nat.eq_zero_or_pos j with rfl | h0
        · exact .inr (.inr (.inr (.inl ⟨rfl, by omega, by omega, rfl, okC_first hx hv ⟨by omega, by omega⟩⟩)))
        · have hl := (List.getElem?_eq_some_iff.1 hx).1
          refine .inr (.inr (.inr (.inr ⟨rfl, by omega, by omega, h0, _, _, _, List.getElem?_eq_getElem (by omega), okC_next h0 hx (List.getElem?_eq_getElem (by omega)) hv ⟨by omega, by omega⟩⟩)))
set_option maxHeartbeats 2000000 in
theorem pat_Right (A : Option Addr) (n c : Nat) (l : List (Int × Int × Int)) (w : World) (hR : Rd encC 3 w A n l) (hn : n ≤ 9223372036854775807) :
    Calls Tryz.prog 70 #[.slice A n c] w fun e w' => e = .returned (.bool (rightC l)) ∧ Below w.heap.size w w' := by
  rcases Nat.lt_or_ge 5000 n with h5 | h5
  · have HV := Lib.hid (rightC_len hR.len h5)
    go_enter Tryz.func70, Tryz.ntmps70
    go_wp2
    go_ret
    exact ⟨ret_bool HV.out.symm, by (repeat' (first | exact Below.refl _ _ | assumption | (refine Below.alloc ?_ ?_ _) | (refine Below.setCell ?_ ?_ _) | (refine Below.drew ?_) | (refine below_drewN ?_ _) | (refine below_after (Ext.below _) ?_ ?_) | (refine below_after (by assumption) ?_ ?_) | (simp; done) | omega | (simp; omega)))⟩
  · go_enter Tryz.func70, Tryz.ntmps70
    go_wp2
    go_loopw [10] (fun i wr => ∃ j : Nat, j ≤ n ∧ i = .int .i64 j ∧ Below w.heap.size w wr ∧ Hid (∀ r, r < j → okC l r = true)) (fun i _ => n - (intOf i).toNat)
    case atStart => exact ⟨0, by omega, rfl, Below.refl _ _, fun r hr => absurd hr (by omega)⟩
    case round =>
      obtain ⟨j, hj, rfl, hb, hno⟩ := hrel
      obtain ⟨hc, hf⟩ := bcell hb
      have hs := hb.size
      by_cases hlt : j < n
      · obtain ⟨x, y, s, bo, o, hx, rfl, hbl, hcell, hcell2, hcell3⟩ := hR.cell hlt
        rcases okC_ways hx.out with ⟨hv, ho⟩ | ⟨hv, h1, ho⟩ | ⟨hv, h1, h2, ho⟩ | ⟨hv, h1, h2, hj0, ho⟩ | ⟨hv, h1, h2, h0, a, b, c', hp, ho⟩
        · have HB := Lib.hid (rightC_bad hR.len hlt ho)
          have kP := fun w1 => pat_placedV hv w1
          clear hv ho
          go_wp2
          (refine wp_region_ext_lit (by kernel_rfl) (by kernel_rfl) ?_; (repeat (go_big_quiet_step (first | (go_at_call 98; exact calls_ext (pat_at _ _ _ _)) | (go_at_call 97; exact calls_ext (kP _))))); refine wpQuiet_nil ?_; intro _ hw'; obtain ⟨z1, hw''⟩ := hw'; subst hw''; have hs1 := z1.size; obtain ⟨hc1, hf1⟩ := bcell z1.below; (try simp only [World.size_alloc, World.size_setCell, World.size_drew] at hc1 hf1); (try simp at hs1))
          go_wp2
          go_ret
          exact ⟨ret_bool HB.out.symm, by (repeat' (first | exact Below.refl _ _ | assumption | (refine Below.alloc ?_ ?_ _) | (refine Below.setCell ?_ ?_ _) | (refine Below.drew ?_) | (refine below_drewN ?_ _) | (refine below_after (Ext.below _) ?_ ?_) | (refine below_after (by assumption) ?_ ?_) | (simp; done) | omega | (simp; omega)))⟩
        · have HB := Lib.hid (rightC_bad hR.len hlt ho)
          have kP := fun w1 => pat_placedV hv w1
          have d1 : decide (s < 1) = true := decide_eq_true h1
          clear hv ho
          go_wp2
          (refine wp_region_ext_lit (by kernel_rfl) (by kernel_rfl) ?_; (repeat (go_big_quiet_step (first | (go_at_call 98; exact calls_ext (pat_at _ _ _ _)) | (go_at_call 97; exact calls_ext (kP _))))); refine wpQuiet_nil ?_; intro _ hw'; obtain ⟨z1, hw''⟩ := hw'; subst hw''; have hs1 := z1.size; obtain ⟨hc1, hf1⟩ := bcell z1.below; (try simp only [World.size_alloc, World.size_setCell, World.size_drew] at hc1 hf1); (try simp at hs1))
          go_wp2
          go_ret
          exact ⟨ret_bool HB.out.symm, by (repeat' (first | exact Below.refl _ _ | assumption | (refine Below.alloc ?_ ?_ _) | (refine Below.setCell ?_ ?_ _) | (refine Below.drew ?_) | (refine below_drewN ?_ _) | (refine below_after (Ext.below _) ?_ ?_) | (refine below_after (by assumption) ?_ ?_) | (simp; done) | omega | (simp; omega)))⟩
        · have HB := Lib.hid (rightC_bad hR.len hlt ho)
          have kP := fun w1 => pat_placedV hv w1
          have d1 : decide (s < 1) = false := decide_eq_false (by omega)
          have d2 : decide (8 ≤ s) = true := decide_eq_true h2
          clear hv ho
          go_wp2
          (refine wp_region_ext_lit (by kernel_rfl) (by kernel_rfl) ?_; (repeat (go_big_quiet_step (first | (go_at_call 98; exact calls_ext (pat_at _ _ _ _)) | (go_at_call 97; exact calls_ext (kP _))))); refine wpQuiet_nil ?_; intro _ hw'; obtain ⟨z1, hw''⟩ := hw'; subst hw''; have hs1 := z1.size; obtain ⟨hc1, hf1⟩ := bcell z1.below; (try simp only [World.size_alloc, World.size_setCell, World.size_drew] at hc1 hf1); (try simp at hs1))
          go_wp2
          go_ret
          exact ⟨ret_bool HB.out.symm, by (repeat' (first | exact Below.refl _ _ | assumption | (refine Below.alloc ?_ ?_ _) | (refine Below.setCell ?_ ?_ _) | (refine Below.drew ?_) | (refine below_drewN ?_ _) | (refine below_after (Ext.below _) ?_ ?_) | (refine below_after (by assumption) ?_ ?_) | (simp; done) | omega | (simp; omega)))⟩
        · have HO := Lib.hid ho
          have kP := fun w1 => pat_placedV hv w1
          have d1 : decide (s < 1) = false := decide_eq_false (by omega)
          have d2 : decide (8 ≤ s) = false := decide_eq_false (by omega)
          have d3 : decide ((0 : Int) < j) = false := decide_eq_false (by omega)
          have d3' : decide (0 < j) = false := decide_eq_false (by omega)
          clear hv ho hj0
          go_wp2
          (refine wp_region_ext_lit (by kernel_rfl) (by kernel_rfl) ?_; (repeat (go_big_quiet_step (first | (go_at_call 98; exact calls_ext (pat_at _ _ _ _)) | (go_at_call 97; exact calls_ext (kP _))))); refine wpQuiet_nil ?_; intro _ hw'; obtain ⟨z1, hw''⟩ := hw'; subst hw''; have hs1 := z1.size; obtain ⟨hc1, hf1⟩ := bcell z1.below; (try simp only [World.size_alloc, World.size_setCell, World.size_drew] at hc1 hf1); (try simp at hs1))
          go_wp2
          go_roundw
          case rel => exact ⟨j + 1, by omega, by go_num, (by (repeat' (first | exact Below.refl _ _ | assumption | (refine Below.alloc ?_ ?_ _) | (refine Below.setCell ?_ ?_ _) | (refine Below.drew ?_) | (refine below_drewN ?_ _) | (refine below_after (Ext.below _) ?_ ?_) | (refine below_after (by assumption) ?_ ?_) | (simp; done) | omega | (simp; omega)))), okC_step hno.out HO.out⟩
          case measure => simp [intOf]; omega
        · have kP := fun w1 => pat_placedV hv w1
          have d1 : decide (s < 1) = false := decide_eq_false (by omega)
          have d2 : decide (8 ≤ s) = false := decide_eq_false (by omega)
          have d3 : decide ((0 : Int) < j) = true := decide_eq_true (by omega)
          have d3' : decide (0 < j) = true := decide_eq_true (by omega)
          obtain ⟨a', b', c2, bo', o', hp', he, hbl', g1, g2, g3⟩ := hR.cell (i := j - 1) (by omega)
          obtain ⟨rfl, rfl⟩ : bo = bo' ∧ o = o' := by injection he with he; injection he with e1 e2; exact ⟨e1, e2⟩
          obtain ⟨rfl, rfl, rfl⟩ : a = a' ∧ b = b' ∧ c' = c2 := by have := hp'.out; rw [hp] at this; simpa using this
          have hkm : ((j : Int) - 1).toNat = j - 1 := by omega
          have hk0 : (0 : Int) ≤ (j : Int) - 1 := by omega
          have wk : IntKind.i64.wrap ((j : Int) - 1) = (j : Int) - 1 := IntWalk.i64_in _ (by omega)
          clear he hp hp' hv
          cases hq : befP a b x y with
          | false =>
            have HB := Lib.hid (rightC_bad hR.len hlt (ho.trans hq))
            have d4 : decide (0 ≤ cmpP a b x y) = true := ord_bef hq
            clear ho hq
            go_wp2
            (refine wp_region_ext_lit (by kernel_rfl) (by kernel_rfl) ?_; (repeat (go_big_quiet_step (first | (go_at_call 98; exact calls_ext (pat_at _ _ _ _)) | (go_at_call 97; exact calls_ext (kP _)) | (go_at_call 135; exact calls_ext (pat_order _ _ _ _ _ _ _))))); refine wpQuiet_nil ?_; intro _ hw'; obtain ⟨z1, hw''⟩ := hw'; subst hw''; have hs1 := z1.size; obtain ⟨hc1, hf1⟩ := bcell z1.below; (try simp only [World.size_alloc, World.size_setCell, World.size_drew] at hc1 hf1); (try simp at hs1))
            go_wp2
            go_ret
            exact ⟨ret_bool HB.out.symm, by (repeat' (first | exact Below.refl _ _ | assumption | (refine Below.alloc ?_ ?_ _) | (refine Below.setCell ?_ ?_ _) | (refine Below.drew ?_) | (refine below_drewN ?_ _) | (refine below_after (Ext.below _) ?_ ?_) | (refine below_after (by assumption) ?_ ?_) | (simp; done) | omega | (simp; omega)))⟩
          | true =>
            have HO := Lib.hid (ho.trans hq)
            have d4 : decide (0 ≤ cmpP a b x y) = false := ord_bef hq
            clear ho hq
            go_wp2
            (refine wp_region_ext_lit (by kernel_rfl) (by kernel_rfl) ?_; (repeat (go_big_quiet_step (first | (go_at_call 98; exact calls_ext (pat_at _ _ _ _)) | (go_at_call 97; exact calls_ext (kP _)) | (go_at_call 135; exact calls_ext (pat_order _ _ _ _ _ _ _))))); refine wpQuiet_nil ?_; intro _ hw'; obtain ⟨z1, hw''⟩ := hw'; subst hw''; have hs1 := z1.size; obtain ⟨hc1, hf1⟩ := bcell z1.below; (try simp only [World.size_alloc, World.size_setCell, World.size_drew] at hc1 hf1); (try simp at hs1))
            go_wp2
            go_roundw
            case rel => exact ⟨j + 1, by omega, by go_num, (by (repeat' (first | exact Below.refl _ _ | assumption | (refine Below.alloc ?_ ?_ _) | (refine Below.setCell ?_ ?_ _) | (refine Below.drew ?_) | (refine below_drewN ?_ _) | (refine below_after (Ext.below _) ?_ ?_) | (refine below_after (by assumption) ?_ ?_) | (simp; done) | omega | (simp; omega)))), okC_step hno.out HO.out⟩
            case measure => simp [intOf]; omega
      · obtain rfl : j = n := by omega
        go_wp2
        go_ret
        exact ⟨ret_bool (rightC_all hR.len h5 hno.out).symm, by (repeat' (first | exact Below.refl _ _ | assumption | (refine Below.alloc ?_ ?_ _) | (refine Below.setCell ?_ ?_ _) | (refine Below.drew ?_) | (refine below_drewN ?_ _) | (refine below_after (Ext.below _) ?_ ?_) | (refine below_after (by assumption) ?_ ?_) | (simp; done) | omega | (simp; omega)))⟩
end Go.Proofs.YtellglbmbocgkaaGreatDoor
end
section
namespace Go.Proofs.YtellglbmbocgkaaGreatDoor
open Go Go.RowKit
set_option maxRecDepth 100000
attribute [local go_sem ↓ high] eq_cl neq_cl eq_pt neq_pt
set_option maxHeartbeats 2000000 in
theorem ref05_Right (A : Option Addr) (n c : Nat) (l : List (Int × Int × Int)) (w : World) (hR : Rd encC 3 w A n l) (hn : n ≤ 9223372036854775807) :
    Calls Tryz.prog 43 #[.slice A n c] w fun e w' => e = .returned (.bool (rightC l)) ∧ Below w.heap.size w w' := by
  go_enter Tryz.func43, Tryz.ntmps43
  go_wp2
  go_loopw [3] (fun i wr => ∃ j : Nat, j ≤ n ∧ i = .int .i64 j ∧ Below w.heap.size w wr ∧ Hid (∀ r, r < j → okC l r = true)) (fun i _ => n - (intOf i).toNat)
  case atStart => exact ⟨0, by omega, rfl, Below.refl _ _, fun r hr => absurd hr (by omega)⟩
  case round =>
    obtain ⟨j, hj, rfl, hb, hno⟩ := hrel
    obtain ⟨hc, hf⟩ := bcell hb
    have hs := hb.size
    by_cases hlt : j < n
    · obtain ⟨x, y, s, bo, o, hx, rfl, hbl, hcell, hcell2, hcell3⟩ := hR.cell hlt
      rcases okC_ways hx.out with ⟨hv, ho⟩ | ⟨hv, h1, ho⟩ | ⟨hv, h1, h2, ho⟩ | ⟨hv, h1, h2, hj0, ho⟩ | ⟨hv, h1, h2, h0, a, b, c', hp, ho⟩
      · have HB := Lib.hid (rightC_bad hR.len hlt ho)
        have kP := fun w1 => ref05_PlaceV hv w1
        clear hv ho
        go_wp2
        (refine wp_region_ext_lit (by kernel_rfl) (by kernel_rfl) ?_; (repeat (go_big_quiet_step ((go_at_call 44; exact calls_ext_same (kP _))))); refine wpQuiet_nil ?_; intro _ hw'; obtain ⟨z1, hw''⟩ := hw'; subst hw''; have hs1 := z1.size; obtain ⟨hc1, hf1⟩ := bcell z1.below; (try simp only [World.size_alloc, World.size_setCell, World.size_drew] at hc1 hf1); (try simp at hs1))
        go_wp2
        go_ret
        exact ⟨ret_bool HB.out.symm, by (repeat' (first | exact Below.refl _ _ | assumption | (refine Below.alloc ?_ ?_ _) | (refine Below.setCell ?_ ?_ _) | (refine Below.drew ?_) | (refine below_drewN ?_ _) | (refine below_after (Ext.below _) ?_ ?_) | (refine below_after (by assumption) ?_ ?_) | (simp; done) | omega | (simp; omega)))⟩
      · have HB := Lib.hid (rightC_bad hR.len hlt ho)
        have kP := fun w1 => ref05_PlaceV hv w1
        have d1 : decide (s < 1) = true := decide_eq_true h1
        clear hv ho
        go_wp2
        (refine wp_region_ext_lit (by kernel_rfl) (by kernel_rfl) ?_; (repeat (go_big_quiet_step ((go_at_call 44; exact calls_ext_same (kP _))))); refine wpQuiet_nil ?_; intro _ hw'; obtain ⟨z1, hw''⟩ := hw'; subst hw''; have hs1 := z1.size; obtain ⟨hc1, hf1⟩ := bcell z1.below; (try simp only [World.size_alloc, World.size_setCell, World.size_drew] at hc1 hf1); (try simp at hs1))
        go_wp2
        go_ret
        exact ⟨ret_bool HB.out.symm, by (repeat' (first | exact Below.refl _ _ | assumption | (refine Below.alloc ?_ ?_ _) | (refine Below.setCell ?_ ?_ _) | (refine Below.drew ?_) | (refine below_drewN ?_ _) | (refine below_after (Ext.below _) ?_ ?_) | (refine below_after (by assumption) ?_ ?_) | (simp; done) | omega | (simp; omega)))⟩
      · have HB := Lib.hid (rightC_bad hR.len hlt ho)
        have kP := fun w1 => ref05_PlaceV hv w1
        have d1 : decide (s < 1) = false := decide_eq_false (by omega)
        have d2 : decide (8 ≤ s) = true := decide_eq_true h2
        clear hv ho
        go_wp2
        (refine wp_region_ext_lit (by kernel_rfl) (by kernel_rfl) ?_; (repeat (go_big_quiet_step ((go_at_call 44; exact calls_ext_same (kP _))))); refine wpQuiet_nil ?_; intro _ hw'; obtain ⟨z1, hw''⟩ := hw'; subst hw''; have hs1 := z1.size; obtain ⟨hc1, hf1⟩ := bcell z1.below; (try simp only [World.size_alloc, World.size_setCell, World.size_drew] at hc1 hf1); (try simp at hs1))
        go_wp2
        go_ret
        exact ⟨ret_bool HB.out.symm, by (repeat' (first | exact Below.refl _ _ | assumption | (refine Below.alloc ?_ ?_ _) | (refine Below.setCell ?_ ?_ _) | (refine Below.drew ?_) | (refine below_drewN ?_ _) | (refine below_after (Ext.below _) ?_ ?_) | (refine below_after (by assumption) ?_ ?_) | (simp; done) | omega | (simp; omega)))⟩
      · have HO := Lib.hid ho
        have kP := fun w1 => ref05_PlaceV hv w1
        have d1 : decide (s < 1) = false := decide_eq_false (by omega)
        have d2 : decide (8 ≤ s) = false := decide_eq_false (by omega)
        have d3 : decide ((0 : Int) < j) = false := decide_eq_false (by omega)
        have d3' : decide (0 < j) = false := decide_eq_false (by omega)
        clear hv ho hj0
        go_wp2
        (refine wp_region_ext_lit (by kernel_rfl) (by kernel_rfl) ?_; (repeat (go_big_quiet_step ((go_at_call 44; exact calls_ext_same (kP _))))); refine wpQuiet_nil ?_; intro _ hw'; obtain ⟨z1, hw''⟩ := hw'; subst hw''; have hs1 := z1.size; obtain ⟨hc1, hf1⟩ := bcell z1.below; (try simp only [World.size_alloc, World.size_setCell, World.size_drew] at hc1 hf1); (try simp at hs1))
        go_wp2
        go_roundw
        case rel => exact ⟨j + 1, by omega, by go_num, (by (repeat' (first | exact Below.refl _ _ | assumption | (refine Below.alloc ?_ ?_ _) | (refine Below.setCell ?_ ?_ _) | (refine Below.drew ?_) | (refine below_drewN ?_ _) | (refine below_after (Ext.below _) ?_ ?_) | (refine below_after (by assumption) ?_ ?_) | (simp; done) | omega | (simp; omega)))), okC_step hno.out HO.out⟩
        case measure => simp [intOf]; omega
      · have kP := fun w1 => ref05_PlaceV hv w1
        have d1 : decide (s < 1) = false := decide_eq_false (by omega)
        have d2 : decide (8 ≤ s) = false := decide_eq_false (by omega)
        have d3 : decide ((0 : Int) < j) = true := decide_eq_true (by omega)
        have d3' : decide (0 < j) = true := decide_eq_true (by omega)
        obtain ⟨a', b', c2, bo', o', hp', he, hbl', g1, g2, g3⟩ := hR.cell (i := j - 1) (by omega)
        obtain ⟨rfl, rfl⟩ : bo = bo' ∧ o = o' := by injection he with he; injection he with e1 e2; exact ⟨e1, e2⟩
        obtain ⟨rfl, rfl, rfl⟩ : a = a' ∧ b = b' ∧ c' = c2 := by have := hp'.out; rw [hp] at this; simpa using this
        have hkm : ((j : Int) - 1).toNat = j - 1 := by omega
        have hk0 : (0 : Int) ≤ (j : Int) - 1 := by omega
        have wk : IntKind.i64.wrap ((j : Int) - 1) = (j : Int) - 1 := IntWalk.i64_in _ (by omega)
        clear he hp hp' hv
        cases hq : befP a b x y with
        | false =>
          have HB := Lib.hid (rightC_bad hR.len hlt (ho.trans hq))
          have kB := fun s s1 w1 => ref05_beforeV hq s s1 w1
          clear ho hq
          go_wp2
          (refine wp_region_ext_lit (by kernel_rfl) (by kernel_rfl) ?_; (repeat (go_big_quiet_step (first | (go_at_call 44; exact calls_ext_same (kP _)) | (go_at_call 59; exact calls_ext (kB _ _ _))))); refine wpQuiet_nil ?_; intro _ hw'; obtain ⟨z1, hw''⟩ := hw'; subst hw''; have hs1 := z1.size; obtain ⟨hc1, hf1⟩ := bcell z1.below; (try simp only [World.size_alloc, World.size_setCell, World.size_drew] at hc1 hf1); (try simp at hs1))
          go_wp2
          go_ret
          exact ⟨ret_bool HB.out.symm, by (repeat' (first | exact Below.refl _ _ | assumption | (refine Below.alloc ?_ ?_ _) | (refine Below.setCell ?_ ?_ _) | (refine Below.drew ?_) | (refine below_drewN ?_ _) | (refine below_after (Ext.below _) ?_ ?_) | (refine below_after (by assumption) ?_ ?_) | (simp; done) | omega | (simp; omega)))⟩
        | true =>
          have HO := Lib.hid (ho.trans hq)
          have kB := fun s s1 w1 => ref05_beforeV hq s s1 w1
          clear ho hq
          go_wp2
          (refine wp_region_ext_lit (by kernel_rfl) (by kernel_rfl) ?_; (repeat (go_big_quiet_step (first | (go_at_call 44; exact calls_ext_same (kP _)) | (go_at_call 59; exact calls_ext (kB _ _ _))))); refine wpQuiet_nil ?_; intro _ hw'; obtain ⟨z1, hw''⟩ := hw'; subst hw''; have hs1 := z1.size; obtain ⟨hc1, hf1⟩ := bcell z1.below; (try simp only [World.size_alloc, World.size_setCell, World.size_drew] at hc1 hf1); (try simp at hs1))
          go_wp2
          go_roundw
          case rel => exact ⟨j + 1, by omega, by go_num, (by (repeat' (first | exact Below.refl _ _ | assumption | (refine Below.alloc ?_ ?_ _) | (refine Below.setCell ?_ ?_ _) | (refine Below.drew ?_) | (refine below_drewN ?_ _) | (refine below_after (Ext.below _) ?_ ?_) | (refine below_after (by assumption) ?_ ?_) | (simp; done) | omega | (simp; omega)))), okC_step hno.out HO.out⟩
          case measure => simp [intOf]; omega
    · obtain rfl : j = n := by omega
      have HV : Hid (decide ((j : Int) ≤ 5000) = rightC l) := by
        show _ = _
        by_cases h5 : j ≤ 5000
        · rw [rightC_all hR.len h5 hno.out]; exact decide_eq_true (by omega)
        · rw [rightC_len hR.len (by omega)]; exact decide_eq_false (by omega)
      go_wp2
      go_ret
      exact ⟨ret_bool HV.out, by (repeat' (first | exact Below.refl _ _ | assumption | (refine Below.alloc ?_ ?_ _) | (refine Below.setCell ?_ ?_ _) | (refine Below.drew ?_) | (refine below_drewN ?_ _) | (refine below_after (Ext.below _) ?_ ?_) | (refine below_after (by assumption) ?_ ?_) | (simp; done) | omega | (simp; omega)))⟩
set_option maxHeartbeats 1000000 in
theorem pat_Top (A : Option Addr) (n c : Nat) (l : List (Int × Int × Int)) (w : World) (hR : Rd encC 3 w A n l) (hn : n ≤ 1000000) :
    Calls Tryz.prog 39 #[.slice A n c] w fun e w' => e = .returned (.int .i64 (topC l)) ∧ Below w.heap.size w w' := by
  go_enter Tryz.func39, Tryz.ntmps39
  go_wp2
  go_loopw [3, 7] (fun v i wr => ∃ j : Nat, v = .int .i64 (topC (l.take j)) ∧ j ≤ n ∧ i = .int .i64 j ∧ Below w.heap.size w wr) (fun _ i _ => n - (intOf i).toNat)
  case atStart => exact ⟨0, rfl, by omega, rfl, Below.refl _ _⟩
  case round =>
    obtain ⟨j, rfl, hj, rfl, hb⟩ := hrel
    obtain ⟨hc, hf⟩ := bcell hb
    have hs := hb.size
    by_cases hlt : j < n
    · obtain ⟨x', y', s', bo, o, hx, rfl, hbl, hcell, hcell2, hcell3⟩ := hR.cell hlt
      have hst := Lib.hid (topC_step hx.out)
      generalize topC (l.take j) = m at hst ⊢
      go_wp2
      go_roundw
      case rel => exact ⟨j + 1, by rw [hst.out], by omega, by go_num, by (repeat' (first | exact Below.refl _ _ | assumption | (refine Below.alloc ?_ ?_ _) | (refine Below.setCell ?_ ?_ _) | (refine Below.drew ?_) | (refine below_drewN ?_ _) | (refine below_after (Ext.below _) ?_ ?_) | (refine below_after (by assumption) ?_ ?_) | (simp; done) | omega | (simp; omega)))⟩
      case measure => simp [intOf]; omega
    · obtain rfl : j = n := by omega
      have ht := Lib.hid (show l.take j = l from List.take_of_length_le (by rw [hR.len]; omega))
      go_wp2
      go_ret
      exact ⟨ret_int (by rw [ht.out]), hb⟩
end Go.Proofs.YtellglbmbocgkaaGreatDoor
end
section
namespace Go.Proofs.YtellglbmbocgkaaGreatDoor
open Go Go.RowKit
set_option maxRecDepth 100000
def Sm (n : Int) : Prop := -1000000000 ≤ n ∧ n ≤ 1000000000
end Go.Proofs.YtellglbmbocgkaaGreatDoor
end
section
namespace Go.Proofs.YtellglbmbocgkaaGreatDoor
open Go Go.RowKit
set_option maxRecDepth 100000
noncomputable def arVal (l : List (Int × Int)) : Value := .tuple #[.agg #[.int .i64 (arX l), .int .i64 (arY l), .int .i64 (arW l), .int .i64 (arH l)], .bool (arOk l)]
theorem arVal_no {l : List (Int × Int)} (h : arOk l = false) : Ending.returned (.tuple #[.agg #[.int .i64 0, .int .i64 0, .int .i64 0, .int .i64 0], .bool false]) = .returned (arVal l) := by
  unfold arVal arX arY arW arH; rw [h]; rfl
theorem arVal_yes {l : List (Int × Int)} {fx fy x y z u : Int} (h : arOk l = true) (h1 : fstX l = fx) (h2 : fstY l = fy) (e : x = loX l fx ∧ y = loY l fy ∧ z = hiX l fx - loX l fx + 1 ∧ u = hiY l fy - loY l fy + 1) : Ending.returned (.tuple #[.agg #[.int .i64 x, .int .i64 y, .int .i64 z, .int .i64 u], .bool true]) = .returned (arVal l) := by
  obtain ⟨rfl, rfl, rfl, rfl⟩ := e
  subst h1 h2
  unfold arVal arX arY arW arH ifB; rw [h]; rfl
def okTo (l : List (Int × Int)) (j : Nat) : Prop := ∀ i x y, i < j → l[i]? = some (x, y) → validB x y = true
theorem okTo_bound {l : List (Int × Int)} {n : Nat} {fx fy : Int} (hl : l.length = n) (h0 : l[0]? = some (fx, fy)) (hn : 0 < n) (h : okTo l n) : (Sm (loX l fx) ∧ Sm (loY l fy) ∧ Sm (hiX l fx) ∧ Sm (hiY l fy)) := by
  have hall : ∀ p, p ∈ l → Pt p.1 p.2 := fun p hp => by
    obtain ⟨i, hi, e⟩ := List.getElem_of_mem hp
    exact validB_iff.1 (h i p.1 p.2 (by omega) (by rw [List.getElem?_eq_getElem hi, e]))
  have hf := validB_iff.1 (h 0 fx fy hn h0)
  unfold Pt at hf
  have b1 := lo_bound l fx hall (by omega)
  have b2 := lo_bound l fy hall (by omega)
  unfold Sm
  refine ⟨?_, ?_, ?_, ?_⟩ <;> omega
end Go.Proofs.YtellglbmbocgkaaGreatDoor
end
section
namespace Go.Proofs.YtellglbmbocgkaaGreatDoor
open Go Go.RowKit
set_option maxRecDepth 100000
attribute [local go_sem ↓ high] eq_cl neq_cl eq_pt neq_pt
def posC (l : List (Int × Int × Int)) : List (Int × Int) := l.map fun c => (c.1, c.2.1)
theorem posC_get {l : List (Int × Int × Int)} {j : Nat} {x y s : Int} (h : l[j]? = some (x, y, s)) : (posC l)[j]? = some (x, y) := by unfold posC; rw [List.getElem?_map, h]; rfl
theorem posC_len (l : List (Int × Int × Int)) : (posC l).length = l.length := by unfold posC; simp
def bxPos (l : List (Int × Int × Int)) : List (Int × Int) := if rightC l = true then posC l else []
noncomputable def bxVal (l : List (Int × Int × Int)) : Value := arVal (bxPos l)
theorem bxVal_no {l : List (Int × Int × Int)} (h : l.length = 0 ∨ rightC l = false) : Ending.returned (.tuple #[.agg #[.int .i64 0, .int .i64 0, .int .i64 0, .int .i64 0], .bool false]) = .returned (bxVal l) := by
  refine arVal_no ?_
  unfold bxPos
  split
  · rcases h with h | h
    · obtain rfl : l = [] := List.length_eq_zero_iff.1 h
      rfl
    · rename_i h2; rw [h] at h2; cases h2
  · rfl
theorem arOk_right {l : List (Int × Int × Int)} (h : rightC l = true) (h0 : 0 < l.length) : arOk (posC l) = true := by
  refine arOk_all (posC_len l) h0 fun j x y hj hx => ?_
  unfold posC at hx
  rw [List.getElem?_map] at hx
  cases hq : l[j]? with
  | none => rw [hq] at hx; cases hx
  | some c =>
    rw [hq] at hx
    obtain ⟨a, b, s⟩ := c
    simp only [Option.map_some, Option.some.injEq, Prod.mk.injEq] at hx
    obtain ⟨rfl, rfl⟩ := hx
    exact validB_iff.2 (rightC_elem h hq).1
theorem bxVal_yes {l : List (Int × Int × Int)} {fx fy s x y z u : Int} (h : rightC l = true) (h0 : l[0]? = some (fx, fy, s)) (e : x = loX (posC l) fx ∧ y = loY (posC l) fy ∧ z = hiX (posC l) fx - loX (posC l) fx + 1 ∧ u = hiY (posC l) fy - loY (posC l) fy + 1) :
    Ending.returned (.tuple #[.agg #[.int .i64 x, .int .i64 y, .int .i64 z, .int .i64 u], .bool true]) = .returned (bxVal l) := by
  have hl := (List.getElem?_eq_some_iff.1 h0).1
  have hf := fst_of (posC_get h0)
  unfold bxVal bxPos
  rw [if_pos h]
  exact arVal_yes (arOk_right h hl) hf.1 hf.2 e
theorem bound_right {l : List (Int × Int × Int)} {fx fy s : Int} (h : rightC l = true) (h0 : l[0]? = some (fx, fy, s)) : Sm (loX (posC l) fx) ∧ Sm (loY (posC l) fy) ∧ Sm (hiX (posC l) fx) ∧ Sm (hiY (posC l) fy) := by
  have hl := (List.getElem?_eq_some_iff.1 h0).1
  refine okTo_bound (posC_len l) (posC_get h0) hl fun j x y hj hx => ?_
  unfold posC at hx
  rw [List.getElem?_map] at hx
  cases hq : l[j]? with
  | none => rw [hq] at hx; cases hx
  | some c =>
    rw [hq] at hx
    obtain ⟨a, b, s⟩ := c
    simp only [Option.map_some, Option.some.injEq, Prod.mk.injEq] at hx
    obtain ⟨rfl, rfl⟩ := hx
    exact validB_iff.2 (rightC_elem h hq).1
theorem right_lo {l : List (Int × Int × Int)} {fx fy s : Int} (h : rightC l = true) (h0 : l[0]? = some (fx, fy, s)) : loY (posC l) fy = fy := by
  have hs := rightC_sorted h
  have h1 := (loY_low (posC l) fy).1
  have h2 := loY_le (posC l) fy fy (fun p hp => by
    obtain ⟨c, hc, rfl⟩ := List.mem_map.1 hp
    cases l with
    | nil => simp at hc
    | cons d l =>
      have e : d = (fx, fy, s) := by simpa using h0
      rcases List.mem_cons.1 hc with rfl | hm
      · rw [e]; exact Int.le_refl _
      · have := (List.pairwise_cons.1 hs).1 c hm
        rw [e] at this
        unfold cBef befP at this
        simp only [decide_eq_true_eq] at this
        show fy ≤ c.2.1
        omega) (Int.le_refl _)
  omega
theorem right_hi {l : List (Int × Int × Int)} {fx fy s gx gy t : Int} (h : rightC l = true) (h0 : l[0]? = some (fx, fy, s)) (hn : l[l.length - 1]? = some (gx, gy, t)) : hiY (posC l) fy = gy := by
  have hs := rightC_sorted h
  have key : ∀ c, c ∈ l → c.2.1 ≤ gy := fun c hc => by
    obtain ⟨i, hi, e⟩ := List.getElem_of_mem hc
    have hlen := (List.getElem?_eq_some_iff.1 hn).1
    rcases Nat.lt_or_ge i (l.length - 1) with h3 | h3
    · have := (List.pairwise_iff_getElem.1 hs) i (l.length - 1) hi hlen h3
      rw [e, (List.getElem?_eq_some_iff.1 hn).2] at this
      unfold cBef befP at this
      simp only [decide_eq_true_eq] at this
      omega
    · have : i = l.length - 1 := by omega
      subst this
      rw [(List.getElem?_eq_some_iff.1 hn).2] at e
      rw [← e]; exact Int.le_refl _
  have h1 := (hiY_high (posC l) fy).2 (gx, gy) (List.mem_map.2 ⟨(gx, gy, t), List.mem_of_getElem? hn, rfl⟩)
  have h2 := hiY_le (posC l) fy gy (fun p hp => by
    obtain ⟨c, hc, rfl⟩ := List.mem_map.1 hp
    exact key c hc) (key _ (List.mem_of_getElem? h0))
  simp only at h1
  omega
theorem pat_RightV {A : Option Addr} {n c : Nat} {l : List (Int × Int × Int)} {q : Bool} (h : rightC l = q) (w : World) (hR : Rd encC 3 w A n l) (hn : n ≤ 9223372036854775807) : Calls Tryz.prog 70 #[.slice A n c] w fun e w' => e = .returned (.bool q) ∧ Below w.heap.size w w' := by
  rw [← h]; exact pat_Right A n c l w hR hn
set_option maxHeartbeats 2000000 in
theorem pat_Box (A : Option Addr) (n c : Nat) (l : List (Int × Int × Int)) (w : World) (hR : Rd encC 3 w A n l) (hn : n ≤ 1000000) :
    Calls Tryz.prog 99 #[.slice A n c] w fun e w' => e = .returned (bxVal l) ∧ Below w.heap.size w w' := by
  by_cases hz : n = 0
  · have HV := Lib.hid (bxVal_no (l := l) (.inl (by rw [hR.len]; exact hz)))
    have hdz : ((n : Int) == 0) = true := by simp [hz]
    clear hz
    go_enter Tryz.func99, Tryz.ntmps99
    go_wp2
    refine bodyPost_ret (v := .tuple #[.agg #[.int .i64 0, .int .i64 0, .int .i64 0, .int .i64 0], .bool false]) (by simp [results, Tryz.results99, go_sem, *, ↓IntWalk.iteOmega]) rfl ?_
    exact ⟨HV.out, by (repeat' (first | exact Below.refl _ _ | assumption | (refine Below.alloc ?_ ?_ _) | (refine Below.setCell ?_ ?_ _) | (refine Below.drew ?_) | (refine below_drewN ?_ _) | (refine below_after (Ext.below _) ?_ ?_) | (refine below_after (by assumption) ?_ ?_) | (simp; done) | omega | (simp; omega)))⟩
  · have hdz : ((n : Int) == 0) = false := by simp; omega
    have hz' : 0 < n := by omega
    clear hz
    cases hr : rightC l with
    | false =>
      have HV := Lib.hid (bxVal_no (.inr hr))
      have kR := fun w1 a => pat_RightV (A := A) (n := n) (c := c) hr w1 a (by omega)
      clear hr
      go_enter Tryz.func99, Tryz.ntmps99
      go_wp2_with fail
      (go_at_call 70; refine (kR _ (hR.of (by (repeat' (first | exact Below.refl _ _ | assumption | (refine Below.alloc ?_ ?_ _) | (refine Below.setCell ?_ ?_ _) | (refine Below.drew ?_) | (refine below_drewN ?_ _) | (refine below_after (Ext.below _) ?_ ?_) | (refine below_after (by assumption) ?_ ?_) | (simp; done) | omega | (simp; omega)))))).mono ?_; rintro e w1 ⟨rfl, hb1⟩; obtain ⟨hc1, hf1⟩ := bcell hb1; have hs1 := hb1.size; (try simp only [World.size_alloc, World.size_setCell, World.size_drew] at hc1 hf1); (try simp at hs1))
      go_wp2_with fail
      refine bodyPost_ret (v := .tuple #[.agg #[.int .i64 0, .int .i64 0, .int .i64 0, .int .i64 0], .bool false]) (by simp [results, Tryz.results99, go_sem, *, ↓IntWalk.iteOmega]) rfl ?_
      exact ⟨HV.out, by (repeat' (first | exact Below.refl _ _ | assumption | (refine Below.alloc ?_ ?_ _) | (refine Below.setCell ?_ ?_ _) | (refine Below.drew ?_) | (refine below_drewN ?_ _) | (refine below_after (Ext.below _) ?_ ?_) | (refine below_after (by assumption) ?_ ?_) | (simp; done) | omega | (simp; omega)))⟩
    | true =>
      have HR := Lib.hid hr
      have kR := fun w1 a => pat_RightV (A := A) (n := n) (c := c) hr w1 a (by omega)
      obtain ⟨fx, fy, fs, b0, o0, hx0, rfl, hbl0, hcell0, hcell0', hcell0''⟩ := hR.cell (i := 0) (by omega)
      rw [Nat.zero_mul, Nat.add_zero] at hcell0 hcell0' hcell0''
      clear hr
      go_enter Tryz.func99, Tryz.ntmps99
      go_wp2_with fail
      (go_at_call 70; refine (kR _ (hR.of (by (repeat' (first | exact Below.refl _ _ | assumption | (refine Below.alloc ?_ ?_ _) | (refine Below.setCell ?_ ?_ _) | (refine Below.drew ?_) | (refine below_drewN ?_ _) | (refine below_after (Ext.below _) ?_ ?_) | (refine below_after (by assumption) ?_ ?_) | (simp; done) | omega | (simp; omega)))))).mono ?_; rintro e w1 ⟨rfl, hb1⟩; obtain ⟨hc1, hf1⟩ := bcell hb1; have hs1 := hb1.size; (try simp only [World.size_alloc, World.size_setCell, World.size_drew] at hc1 hf1); (try simp at hs1))
      clear kR
      go_wp2
      (refine wp_region_ext_lit (by kernel_rfl) (by kernel_rfl) ?_; (repeat (go_big_quiet_step (fail))); refine wpQuiet_nil ?_; intro _ hw'; obtain ⟨z2, hw''⟩ := hw'; subst hw''; have hs2 := z2.size; obtain ⟨hc2, hf2⟩ := bcell z2.below; (try simp only [World.size_alloc, World.size_setCell, World.size_drew] at hc2 hf2); (try simp at hs2))
      go_wp2
      go_loopw [4, 5, 28] (fun a1 a3 i wr => ∃ j : Nat, a1 = .int .i64 (loX ((posC l).take j) fx) ∧ a3 = .int .i64 (hiX ((posC l).take j) fx) ∧ i = .int .i64 j ∧ j ≤ n ∧ Below (w.heap.size + 1) (w.alloc (.cells #[.int .i64 0, .int .i64 0, .int .i64 0, .int .i64 0] 162)) wr) (fun _ _ i _ => n - (intOf i).toNat)
      case atStart => exact ⟨0, rfl, rfl, rfl, by omega, by (repeat' (first | exact Below.refl _ _ | assumption | (refine Below.alloc ?_ ?_ _) | (refine Below.setCell ?_ ?_ _) | (refine Below.drew ?_) | (refine below_drewN ?_ _) | (refine below_after (Ext.below _) ?_ ?_) | (refine below_after (by assumption) ?_ ?_) | (simp; done) | omega | (simp; omega)))⟩
      case round =>
        obtain ⟨j, rfl, rfl, rfl, hj, hb⟩ := hrel
        obtain ⟨hc, hf⟩ := bcell hb
        have hs := hb.size
        (try simp only [World.size_alloc] at hs)
        by_cases hlt : j < n
        · obtain ⟨px, py, ps, bo, o, hx, he, hbl, hcell, hcell', hcell''⟩ := hR.cell hlt
          obtain ⟨rfl, rfl⟩ : b0 = bo ∧ o0 = o := by injection he with he; injection he with e1 e2; exact ⟨e1, e2⟩
          clear he
          have st1 := Lib.hid (loX_step (d := fx) (posC_get hx.out))
          have st2 := Lib.hid (loY_step (d := fy) (posC_get hx.out))
          have st3 := Lib.hid (hiX_step (d := fx) (posC_get hx.out))
          have st4 := Lib.hid (hiY_step (d := fy) (posC_get hx.out))
          generalize loX ((posC l).take j) fx = m1 at st1 ⊢
          generalize hiX ((posC l).take j) fx = m3 at st3 ⊢
          go_wp2_with fail
          (refine wp_region_ext_lit (by kernel_rfl) (by kernel_rfl) ?_; (repeat (go_big_quiet_step (fail))); refine wpQuiet_nil ?_; intro _ hw'; obtain ⟨z3, hw''⟩ := hw'; subst hw''; have hs3 := z3.size; obtain ⟨hc3, hf3⟩ := bcell z3.below; (try simp only [World.size_alloc, World.size_setCell, World.size_drew] at hc3 hf3); (try simp at hs3))
          go_wp2_with fail
          go_roundw
          case rel => exact ⟨j + 1, by rw [st1.out], by rw [st3.out], by go_num, by omega, by (repeat' (first | exact Below.refl _ _ | assumption | (refine Below.alloc ?_ ?_ _) | (refine Below.setCell ?_ ?_ _) | (refine Below.drew ?_) | (refine below_drewN ?_ _) | (refine below_after (Ext.below _) ?_ ?_) | (refine below_after (by assumption) ?_ ?_) | (simp; done) | omega | (simp; omega)))⟩
          case measure => simp [intOf]; omega
        · obtain rfl : j = n := by omega
          have hbd := bound_right HR.out hx0.out
          have htake : (posC l).take j = posC l := List.take_of_length_le (by rw [posC_len, hR.len]; omega)
          rw [htake]
          have HV := Lib.hid (fun x y z u => bxVal_yes (x := x) (y := y) (z := z) (u := u) HR.out hx0.out)
          clear htake
          obtain ⟨c1, c2, c3, c4⟩ := hbd
          obtain ⟨gx, gy, gs, b9, o9, hx9, he9, hbl9, k1, k2, k3⟩ := hR.cell (i := j - 1) (by omega)
          obtain ⟨rfl, rfl⟩ : b0 = b9 ∧ o0 = o9 := by injection he9 with he9; injection he9 with e1 e2; exact ⟨e1, e2⟩
          clear he9
          have hlo := right_lo HR.out hx0.out
          have hhi := right_hi HR.out hx0.out (gx := gx) (gy := gy) (t := gs) (by rw [hR.len]; exact hx9.out)
          rw [hlo] at c2
          rw [hhi] at c4
          have HLO := Lib.hid hlo
          have HHI := Lib.hid hhi
          clear hlo hhi
          generalize loX (posC l) fx = m1 at *
          generalize hiX (posC l) fx = m3 at *
          unfold Sm at c1 c2 c3 c4
          have hkm : ((j : Int) - 1).toNat = j - 1 := by omega
          have hk0 : (0 : Int) ≤ (j : Int) - 1 := by omega
          have wk : IntKind.i64.wrap ((j : Int) - 1) = (j : Int) - 1 := IntWalk.i64_in _ (by omega)
          go_wp2_with fail
          refine bodyPost_ret (v := .tuple #[.agg #[.int .i64 m1, .int .i64 fy, .int .i64 (m3 - m1 + 1), .int .i64 (gy - fy + 1)], .bool true]) (by simp [results, Tryz.results99, go_sem, *, ↓IntWalk.iteOmega]) rfl ?_
          exact ⟨HV.out _ _ _ _ ⟨rfl, HLO.out.symm, rfl, by rw [HLO.out, HHI.out]⟩, by (repeat' (first | exact Below.refl _ _ | assumption | (refine Below.alloc ?_ ?_ _) | (refine Below.setCell ?_ ?_ _) | (refine Below.drew ?_) | (refine below_drewN ?_ _) | (refine below_after (Ext.below _) ?_ ?_) | (refine below_after (by assumption) ?_ ?_) | (simp; done) | omega | (simp; omega)))⟩
theorem ref05_RightV {A : Option Addr} {n c : Nat} {l : List (Int × Int × Int)} {q : Bool} (h : rightC l = q) (w : World) (hR : Rd encC 3 w A n l) (hn : n ≤ 9223372036854775807) : Calls Tryz.prog 43 #[.slice A n c] w fun e w' => e = .returned (.bool q) ∧ Below w.heap.size w w' := by
  rw [← h]; exact ref05_Right A n c l w hR hn
end Go.Proofs.YtellglbmbocgkaaGreatDoor
end
section
namespace Go.Proofs.YtellglbmbocgkaaGreatDoor
open Go Go.RowKit
set_option maxRecDepth 100000
attribute [local go_sem ↓ high] eq_cl neq_cl eq_pt neq_pt
theorem own_cell_set {α : Type} {enc : α → List Value} {k : Nat} {e : TypeId} {B g n c : Nat} {w : World} {l : List α} (hk : ∀ x, (enc x).length = k) (h : Own enc k e B w (some ⟨g, 0, none⟩) n c l) {i j : Nat} (hj : j < k) {x y : α} (hx : l[i]? = some x) (u : Value) (he : enc y = (enc x).set j u) :
    Own enc k e B (w.setCell ⟨g, i * k + j, none⟩ u) (some ⟨g, 0, none⟩) n c (l.set i y) := by
  have hl := (List.getElem?_eq_some_iff.1 hx).1
  refine own_stored h (i * k + j) u (by simp [h.len]) ?_
  rw [flatMap_set hk l i y hl, he]
  have hlen := flatMap_len hk l
  have hik : i * k + k ≤ l.length * k := by
    have := Nat.mul_le_mul_right k (show i + 1 ≤ l.length by omega); rwa [Nat.add_mul, Nat.one_mul] at this
  apply List.ext_getElem?
  intro t
  rw [List.getElem?_set, List.append_assoc, List.getElem?_append, List.length_take, List.getElem?_append, List.length_set, hk, hlen, Nat.min_eq_left (by omega)]
  by_cases e1 : i * k + j = t
  · subst e1
    rw [if_pos rfl, if_pos (by omega), if_neg (by omega), if_pos (by omega), List.getElem?_set, if_pos (by omega), if_pos (by rw [hk]; omega)]
  · rw [if_neg e1]
    by_cases e2 : t < i * k
    · rw [if_pos e2, List.getElem?_take, if_pos e2]
    · rw [if_neg e2]
      by_cases e3 : t - i * k < k
      · rw [if_pos e3, List.getElem?_set, if_neg (by omega)]
        have e4 : (enc x)[t - i * k]? = some ((enc x)[t - i * k]'(by rw [hk]; exact e3)) := List.getElem?_eq_getElem _
        have := flatMap_get hk l i x hx (t - i * k) _ e4
        rw [show i * k + (t - i * k) = t by omega] at this
        rw [this, e4]
      · rw [if_neg e3, List.getElem?_drop]
        congr 1; omega
theorem rd_ce_own {e : TypeId} {B g n c : Nat} {w : World} {l : List (Int × Int × Int)} (h : Own encC 3 e B w (some ⟨g, 0, none⟩) n c l) {i : Nat} {x y s : Int} (hi : i < n) (hx : l[i]? = some (x, y, s)) : w.cell? ⟨g, i * 3, none⟩ = some (.int .i64 x) ∧ w.cell? ⟨g, i * 3 + 1, none⟩ = some (.int .i64 y) ∧ w.cell? ⟨g, i * 3 + 2, none⟩ = some (.int .i64 s) ∧
    w.frozen? ⟨g, i * 3, none⟩ = false ∧ w.frozen? ⟨g, i * 3 + 1, none⟩ = false ∧ w.frozen? ⟨g, i * 3 + 2, none⟩ = false := by
  have h1 := own_cells encC_len h (j := i * 3) (by omega)
  have h2 := own_cells encC_len h (j := i * 3 + 1) (by omega)
  have h3 := own_cells encC_len h (j := i * 3 + 2) (by omega)
  have e1 := flatMap_get encC_len l i (x, y, s) hx 0 _ rfl
  have e2 := flatMap_get encC_len l i (x, y, s) hx 1 _ rfl
  have e3 := flatMap_get encC_len l i (x, y, s) hx 2 _ rfl
  rw [Nat.add_zero] at e1
  exact ⟨h1.1.trans e1, h2.1.trans e2, h3.1.trans e3, h1.2, h2.2, h3.2⟩
theorem own_cap {α : Type} {enc : α → List Value} {k : Nat} {e : TypeId} {B n c : Nat} {w : World} {A : Option Addr} {l : List α} (h : Own enc k e B w A n c l) : n ≤ c := by
  rcases h.row.2 with ⟨h0, _⟩ | ⟨g, cap, cur, hv, hg, hh, h1, r⟩
  · injection h0 with _ e1 e2; omega
  · injection hv with _ e1 e2; omega
theorem ret_pe {v : Value} {a b : Int} (h : a = b) : Ending.returned (.tuple #[v, .int .i64 a]) = .returned (.tuple #[v, .int .i64 b]) := by rw [h]
def mv (dx dy : Int) (c : Int × Int × Int) : Int × Int × Int := (c.1 + dx, c.2.1 + dy, c.2.2)
def farB (dx dy : Int) : Bool := decide (-2097152 ≤ dx ∧ dx ≤ 2097152 ∧ -2097152 ≤ dy ∧ dy ≤ 2097152)
def plC (c : Int × Int × Int) : Bool := validB c.1 c.2.1
def shE (l : List (Int × Int × Int)) (dx dy : Int) : Int := if rightC l = true then (if farB dx dy = true then (if (l.map (mv dx dy)).all plC = true then 0 else 5) else 5) else 2
def shL (l : List (Int × Int × Int)) (dx dy : Int) : List (Int × Int × Int) := if shE l dx dy = 0 then l.map (mv dx dy) else []
def mvAt (l : List (Int × Int × Int)) (dx dy : Int) (j : Nat) : List (Int × Int × Int) := (l.map (mv dx dy)).take j ++ l.drop j
section
variable {l : List (Int × Int × Int)} {dx dy x y s : Int} {j : Nat}
theorem mvAt_get (hx : l[j]? = some (x, y, s)) : (mvAt l dx dy j)[j]? = some (x, y, s) := by
  have hl := (List.getElem?_eq_some_iff.1 hx).1
  unfold mvAt
  rw [List.getElem?_append_right (by rw [List.length_take, List.length_map]; omega), List.length_take, List.length_map, Nat.min_eq_left (by omega), Nat.sub_self, List.getElem?_drop, Nat.add_zero, hx]
theorem mvAt_step (hx : l[j]? = some (x, y, s)) : (mvAt l dx dy j).set j (x + dx, y + dy, s) = mvAt l dx dy (j + 1) := by
  have hl := (List.getElem?_eq_some_iff.1 hx).1
  apply List.ext_getElem?
  intro t
  unfold mvAt
  rw [List.getElem?_set, List.getElem?_append, List.getElem?_append, List.length_take, List.length_take, List.length_map, Nat.min_eq_left (by omega), Nat.min_eq_left (by omega), List.getElem?_take, List.getElem?_take, List.getElem?_drop, List.getElem?_drop]
  by_cases e : j = t
  · subst e
    rw [if_pos rfl, if_pos (by rw [List.length_append, List.length_take, List.length_drop, List.length_map]; omega), if_pos (by omega), if_pos (by omega), List.getElem?_map, hx]; rfl
  · rw [if_neg e]
    by_cases e2 : t < j
    · rw [if_pos e2, if_pos e2, if_pos (by omega), if_pos (by omega)]
    · rw [if_neg e2, if_neg (by omega)]
      congr 1; omega
theorem mvAt_end (h : l.length ≤ j) : mvAt l dx dy j = l.map (mv dx dy) := by
  unfold mvAt; rw [List.drop_of_length_le h, List.append_nil, List.take_of_length_le (by rw [List.length_map]; exact h)]
def plTo (l : List (Int × Int × Int)) (dx dy : Int) (j : Nat) : Prop := ∀ i x y s, i < j → l[i]? = some (x, y, s) → validB (x + dx) (y + dy) = true
theorem plTo_step (h : plTo l dx dy j) (hx : l[j]? = some (x, y, s)) (hv : validB (x + dx) (y + dy) = true) : plTo l dx dy (j + 1) := by
  intro i a b t hi hy
  by_cases e : i = j
  · rw [e, hx] at hy; cases hy; exact hv
  · exact h i a b t (by omega) hy
theorem all_of_plTo {n : Nat} (hl : l.length = n) (h : plTo l dx dy n) : (l.map (mv dx dy)).all plC = true := by
  rw [List.all_eq_true]
  intro c hc
  obtain ⟨d, hd, rfl⟩ := List.mem_map.1 hc
  obtain ⟨i, hi, e⟩ := List.getElem_of_mem hd
  exact h i d.1 d.2.1 d.2.2 (by omega) (by rw [List.getElem?_eq_getElem hi, e])
theorem not_all (hx : l[j]? = some (x, y, s)) (hv : validB (x + dx) (y + dy) = false) : (l.map (mv dx dy)).all plC = false := by
  rw [List.all_eq_false]
  refine ⟨mv dx dy (x, y, s), List.mem_map.2 ⟨_, List.mem_of_getElem? hx, rfl⟩, ?_⟩
  show ¬ validB (x + dx) (y + dy) = true
  rw [hv]; simp
theorem shE_arg (h : rightC l = false) : shE l dx dy = 2 := by unfold shE; rw [if_neg (by rw [h]; simp)]
theorem shE_far (h : rightC l = true) (hf : farB dx dy = false) : shE l dx dy = 5 := by unfold shE; rw [if_pos h, if_neg (by rw [hf]; simp)]
theorem shE_out (h : rightC l = true) (hf : farB dx dy = true) (ha : (l.map (mv dx dy)).all plC = false) : shE l dx dy = 5 := by unfold shE; rw [if_pos h, if_pos hf, if_neg (by rw [ha]; simp)]
theorem shE_ok (h : rightC l = true) (hf : farB dx dy = true) (ha : (l.map (mv dx dy)).all plC = true) : shE l dx dy = 0 := by unfold shE; rw [if_pos h, if_pos hf, if_pos ha]
theorem shL_no {n : Int} (h : shE l dx dy = n) (hn : n ≠ 0) : shL l dx dy = [] := by unfold shL; rw [if_neg (by rw [h]; exact hn)]
theorem shL_ok (h : shE l dx dy = 0) : shL l dx dy = l.map (mv dx dy) := by unfold shL; rw [if_pos h]
end
theorem farB_no {dx dy : Int} (h : farB dx dy = false) : (decide (2097152 < max dx dy) = true) ∨ (decide (2097152 < max dx dy) = false ∧ decide (min dx dy < -2097152) = true) := by
  unfold farB at h
  simp only [decide_eq_true_eq, decide_eq_false_iff_not] at h ⊢; omega
theorem farB_no2 {dx dy : Int} (h : farB dx dy = false) : (decide (dx < -2097152) = true) ∨ (decide (dx < -2097152) = false ∧ decide (2097152 < dx) = true) ∨ (decide (dx < -2097152) = false ∧ decide (2097152 < dx) = false ∧ decide (dy < -2097152) = true) ∨ (decide (dx < -2097152) = false ∧ decide (2097152 < dx) = false ∧ decide (dy < -2097152) = false ∧ decide (2097152 < dy) = true) := by
  unfold farB at h
  simp only [decide_eq_true_eq, decide_eq_false_iff_not] at h ⊢; omega
set_option maxHeartbeats 400000 in
theorem clone_ce (A : Option Addr) (n c : Nat) (l : List (Int × Int × Int)) (w : World) (hR : Rd encC 3 w A n l) (hn : n ≤ 1000000) :
    Calls Tryz.prog 96 #[.slice A n c] w fun e w' => ∃ A' c', e = .returned (.slice A' n c') ∧ Own encC 3 79 w.heap.size w' A' n c' l ∧ Below w.heap.size w w' := by
  have q22 : ∀ (w : World) (a : Option Addr) (n c n' c' : Nat), (binOp .eql 27 (.slice a n c) (.slice none n' c')).run Tryz.prog w = .ok (.bool a.isNone) w := fun w a n c n' c' => Lib.run_eql_slice_nil w _ _ a n c n' c' Tryz.underlying27
  cases A with
  | none =>
    have hz : n = 0 := by
      rcases Nat.eq_zero_or_pos n with h | h
      · exact h
      · obtain ⟨b, o, e, _⟩ := hR.2 h; cases e
    subst hz
    obtain rfl : l = [] := List.length_eq_zero_iff.1 hR.len
    clear hR
    go_enter Tryz.func96, Tryz.ntmps96
    go_wp2
    go_ret
    exact ⟨none, 0, rfl, Own.nil_, by (repeat' (first | exact Below.refl _ _ | assumption | (refine Below.alloc ?_ ?_ _) | (refine Below.setCell ?_ ?_ _) | (refine Below.drew ?_) | (refine below_drewN ?_ _) | (refine below_after (Ext.below _) ?_ ?_) | (refine below_after (by assumption) ?_ ?_) | (simp; done) | omega | (simp; omega)))⟩
  | some ad =>
    obtain ⟨i0, hi0, hz0, hz1, hz2⟩ := info_parts (show (Tryz.prog.info? 79).map (fun i => (i.zero, i.size, i.bytes)) = some (some (.agg #[.int .i64 0, .int .i64 0, .int .i64 0]), 3, 24) by kernel_rfl)
    have hnews : Hid (∀ j u, (l.flatMap encC)[j]? = some u → w.cell? (ad.add j) = some u) := by
      intro j u hu
      have hj : j < n * 3 := by have := (List.getElem?_eq_some_iff.1 hu).1; rwa [flatMap_len encC_len, hR.len] at this
      obtain ⟨x, b, o, hx, e, hb, hcell⟩ := hR.elem (i := j / 3) (by omega)
      injection e with e
      subst e
      have e1 : (encC x)[j % 3]? = some ((encC x)[j % 3]'(by rw [encC_len]; omega)) := List.getElem?_eq_getElem _
      have e2 := flatMap_get encC_len l (j / 3) x hx (j % 3) _ e1
      rw [show j / 3 * 3 + j % 3 = j by omega, hu] at e2
      injection e2 with e2
      have h3 := hcell (j % 3) _ e1
      rw [show o + j / 3 * 3 + j % 3 = o + j by omega] at h3
      have ha : (⟨b, o, none⟩ : Addr).add j = ⟨b, o + j, none⟩ := by unfold Addr.add; split <;> simp_all
      rw [ha, h3, e2]
    have hlen := hR.len
    clear hR
    go_enter Tryz.func96, Tryz.ntmps96
    go_wp2_with (at_builtin; refine wpList_append_own _ rfl _ _ 27 rfl w.heap.size 79 i0 _ 3 24 Tryz.underlying27 hi0 hz0 hz1 hz2 rfl (by omega) _ _ _ rfl (World.ownsRow_made w #[] 0 (Nat.le_refl _) (Nat.zero_le _) (by simp)) ad n c (l.flatMap encC) rfl ?qc1 ?qc2 ?qc3 ?qc4 ?qc5 ?qc6 ?_)
    case qc1 => rw [flatMap_len encC_len, hlen]
    case qc2 =>
      intro j u hu
      exact Lib.cell?_alloc_some _ (hnews.out j u hu)
    case qc3 =>
      intro u hu
      obtain ⟨x, _, hx⟩ := List.mem_flatMap.1 hu
      exact encC_one x u hx
    case qc4 => unfold maxLen; omega
    case qc5 => omega
    case qc6 => simp
    intro v' w1 hown hgrow hnil
    have hB : Below w.heap.size w w1 := ((Below.refl _ w).alloc (Nat.le_refl _) _).grown hgrow (by simp) (by intro k hk; simp [Value.ownBlock] at hk; omega)
    have hown' : w1.ownsRow w.heap.size 79 3 v' n (l.flatMap encC) := by simpa using hown
    have hex : ∃ A' c', v' = .slice A' n c' := by
      rcases hown'.2 with ⟨h1, h2⟩ | ⟨g, cap, cur, h1, _⟩
      · exact ⟨none, 0, by rw [h1, h2]⟩
      · exact ⟨_, _, h1⟩
    obtain ⟨A', c', rfl⟩ := hex
    go_wp2
    go_ret
    exact ⟨A', c', rfl, ⟨hown', hlen⟩, hB⟩
set_option maxHeartbeats 2000000 in
theorem pat_ShiftN (A : Option Addr) (n c : Nat) (l : List (Int × Int × Int)) (dx dy : Int) (w : World) (hR : Rd encC 3 w A n l) (hn : n ≤ 1000000) :
    Calls Tryz.prog 56 #[.slice A n c, .int .i64 dx, .int .i64 dy] w fun e w' => ∃ A' n' c', e = .returned (.tuple #[.slice A' n' c', .int .i64 (shE l dx dy)]) ∧ NewP w.heap.size w' A' n' c' (shL l dx dy) ∧ n' ≤ n ∧ Below w.heap.size w w' := by
  cases hr : rightC l with
  | false =>
    have HE := Lib.hid (shE_arg (dx := dx) (dy := dy) hr)
    have kR := fun w1 a => pat_RightV (A := A) (n := n) (c := c) hr w1 a (by omega)
    clear hr
    go_enter Tryz.func56, Tryz.ntmps56
    go_wp2_with fail
    (go_at_call 70; refine (kR _ (hR.of (by (repeat' (first | exact Below.refl _ _ | assumption | (refine Below.alloc ?_ ?_ _) | (refine Below.setCell ?_ ?_ _) | (refine Below.drew ?_) | (refine below_drewN ?_ _) | (refine below_after (Ext.below _) ?_ ?_) | (refine below_after (by assumption) ?_ ?_) | (simp; done) | omega | (simp; omega)))))).mono ?_; rintro e w1 ⟨rfl, hb1⟩; obtain ⟨hc1, hf1⟩ := bcell hb1; have hs1 := hb1.size; (try simp only [World.size_alloc, World.size_setCell, World.size_drew] at hc1 hf1); (try simp at hs1))
    go_wp2_with fail
    go_ret2
    exact ⟨none, 0, 0, ret_pe HE.out.symm, by rw [shL_no HE.out (by omega)]; exact NewP.nil_, by omega, by (repeat' (first | exact Below.refl _ _ | assumption | (refine Below.alloc ?_ ?_ _) | (refine Below.setCell ?_ ?_ _) | (refine Below.drew ?_) | (refine below_drewN ?_ _) | (refine below_after (Ext.below _) ?_ ?_) | (refine below_after (by assumption) ?_ ?_) | (simp; done) | omega | (simp; omega)))⟩
  | true =>
    have kR := fun w1 a => pat_RightV (A := A) (n := n) (c := c) hr w1 a (by omega)
    cases hf : farB dx dy with
    | false =>
      have HE := Lib.hid (shE_far hr hf)
      have hfar := farB_no hf
      clear hr hf
      rcases hfar with d1 | ⟨d1, d2⟩
      all_goals
        go_enter Tryz.func56, Tryz.ntmps56
        go_wp2_with fail
        (go_at_call 70; refine (kR _ (hR.of (by (repeat' (first | exact Below.refl _ _ | assumption | (refine Below.alloc ?_ ?_ _) | (refine Below.setCell ?_ ?_ _) | (refine Below.drew ?_) | (refine below_drewN ?_ _) | (refine below_after (Ext.below _) ?_ ?_) | (refine below_after (by assumption) ?_ ?_) | (simp; done) | omega | (simp; omega)))))).mono ?_; rintro e w1 ⟨rfl, hb1⟩; obtain ⟨hc1, hf1⟩ := bcell hb1; have hs1 := hb1.size; (try simp only [World.size_alloc, World.size_setCell, World.size_drew] at hc1 hf1); (try simp at hs1))
        go_wp2_with fail
        go_ret2
        exact ⟨none, 0, 0, ret_pe HE.out.symm, by rw [shL_no HE.out (by omega)]; exact NewP.nil_, by omega, by (repeat' (first | exact Below.refl _ _ | assumption | (refine Below.alloc ?_ ?_ _) | (refine Below.setCell ?_ ?_ _) | (refine Below.drew ?_) | (refine below_drewN ?_ _) | (refine below_after (Ext.below _) ?_ ?_) | (refine below_after (by assumption) ?_ ?_) | (simp; done) | omega | (simp; omega)))⟩
    | true =>
      have HR := Lib.hid hr
      have HF := Lib.hid hf
      have hb0 := hf
      unfold farB at hb0
      simp only [decide_eq_true_eq] at hb0
      obtain ⟨f1, f2, f3, f4⟩ := hb0
      have hel := fun j x y s (hx : l[j]? = some (x, y, s)) => (rightC_elem hr hx).1
      clear hr hf
      go_enter Tryz.func56, Tryz.ntmps56
      go_wp2_with fail
      (go_at_call 70; refine (kR _ (hR.of (by (repeat' (first | exact Below.refl _ _ | assumption | (refine Below.alloc ?_ ?_ _) | (refine Below.setCell ?_ ?_ _) | (refine Below.drew ?_) | (refine below_drewN ?_ _) | (refine below_after (Ext.below _) ?_ ?_) | (refine below_after (by assumption) ?_ ?_) | (simp; done) | omega | (simp; omega)))))).mono ?_; rintro e w1 ⟨rfl, hb1⟩; obtain ⟨hc1, hf1⟩ := bcell hb1; have hs1 := hb1.size; (try simp only [World.size_alloc, World.size_setCell, World.size_drew] at hc1 hf1); (try simp at hs1))
      clear kR
      go_wp2_with fail
      go_at_call 96
      refine (clone_ce _ _ _ _ _ (hR.of hb1) hn).mono ?_
      rintro e w2 ⟨A2, c2, rfl, hown2, hb2⟩
      have hB2 : Below w.heap.size w w2 := below_after hb2 hb1 (by omega)
      have hown2 := hown2.more (show w.heap.size ≤ w1.heap.size by omega)
      clear hb1 hb2 hc1 hf1 hs1
      go_wp2
      go_loopw [27] (fun i wr => ∃ j : Nat, i = .int .i64 j ∧ j ≤ n ∧ Own encC 3 79 w.heap.size wr A2 n c2 (mvAt l dx dy j) ∧ Hid (plTo l dx dy j) ∧ Below w.heap.size w wr) (fun i _ => n - (intOf i).toNat)
      case atStart => exact ⟨0, rfl, by omega, by unfold mvAt; simpa using hown2, (fun i x y s hi => absurd hi (by omega)), hB2⟩
      case round =>
        obtain ⟨j, rfl, hj, hown, hpl, hb⟩ := hrel
        have hs := hb.size
        by_cases hlt : j < n
        · obtain ⟨q, hq⟩ : ∃ q, l[j]? = some q := ⟨_, List.getElem?_eq_getElem (by rw [hR.len]; exact hlt)⟩
          obtain ⟨x, y, s⟩ := q
          obtain ⟨g, rfl⟩ : ∃ g, A2 = some ⟨g, 0, none⟩ := by
            rcases hown.row.2 with ⟨_, h0⟩ | ⟨g, cap, cur, hv, _⟩
            · omega
            · injection hv with hv; exact ⟨g, hv⟩
          have hpt := hel j x y s hq
          unfold Pt at hpt
          obtain ⟨p1, p2, p3, p4⟩ := hpt
          obtain ⟨k1, k2, k3, z1, z2, z3⟩ := rd_ce_own hown hlt (mvAt_get hq)
          have hgl := own_lt hown
          obtain ⟨hg1, hg2⟩ := hgl
          have hset1 := own_cell_set encC_len hown (i := j) (j := 0) (by omega) (mvAt_get hq) (.int .i64 (x + dx)) (y := (x + dx, y, s)) rfl
          have hset2 := own_cell_set encC_len hset1 (i := j) (j := 1) (by omega) (List.getElem?_set_self (by rw [hown.len]; exact hlt)) (.int .i64 (y + dy)) (y := (x + dx, y + dy, s)) rfl
          rw [List.set_set, mvAt_step hq, Nat.add_zero] at hset2
          clear hset1
          have HQ := Lib.hid hq
          clear hq
          cases hv : validB (x + dx) (y + dy) with
          | false =>
            have HE := Lib.hid (shE_out HR.out HF.out (not_all HQ.out hv))
            have kP := fun w1 => pat_placedV hv w1
            clear hv
            go_wp2_with fail
            (go_at_call 98; refine (pat_at _ _ _ _).mono ?_; rintro e w3 ⟨rfl, hb3⟩; obtain ⟨hc3, hf3⟩ := bcell hb3; have hs3 := hb3.size; (try simp only [World.size_alloc, World.size_setCell, World.size_drew] at hc3 hf3); (try simp at hs3))
            go_wp2_with fail
            (go_at_call 97; refine (kP _).mono ?_; rintro e w4 ⟨rfl, hb4⟩; obtain ⟨hc4, hf4⟩ := bcell hb4; have hs4 := hb4.size; (try simp only [World.size_alloc, World.size_setCell, World.size_drew] at hc4 hf4); (try simp at hs4))
            go_wp2_with fail
            go_ret2
            have hB3 : Below w.heap.size w ((wr.setCell ⟨g, j * 3, none⟩ (.int .i64 (x + dx))).setCell ⟨g, j * 3 + 1, none⟩ (.int .i64 (y + dy))) := (hb.setCell hg1 _).setCell hg1 _
            exact ⟨none, 0, 0, ret_pe HE.out.symm, by rw [shL_no HE.out (by omega)]; exact NewP.nil_, by omega, below_after hb4 (below_after hb3 hB3 (by simp; omega)) (by first | omega | (simp at hs3; omega))⟩
          | true =>
            have hpl2 := Lib.hid (plTo_step hpl.out HQ.out hv)
            have kP := fun w1 => pat_placedV hv w1
            clear hv
            go_wp2_with fail
            (go_at_call 98; refine (pat_at _ _ _ _).mono ?_; rintro e w3 ⟨rfl, hb3⟩; obtain ⟨hc3, hf3⟩ := bcell hb3; have hs3 := hb3.size; (try simp only [World.size_alloc, World.size_setCell, World.size_drew] at hc3 hf3); (try simp at hs3))
            go_wp2_with fail
            (go_at_call 97; refine (kP _).mono ?_; rintro e w4 ⟨rfl, hb4⟩; obtain ⟨hc4, hf4⟩ := bcell hb4; have hs4 := hb4.size; (try simp only [World.size_alloc, World.size_setCell, World.size_drew] at hc4 hf4); (try simp at hs4))
            go_wp2_with fail
            have hB3 : Below w.heap.size w ((wr.setCell ⟨g, j * 3, none⟩ (.int .i64 (x + dx))).setCell ⟨g, j * 3 + 1, none⟩ (.int .i64 (y + dy))) := (hb.setCell hg1 _).setCell hg1 _
            go_roundw
            case rel => exact ⟨j + 1, by go_num, by omega, (hset2.of hb3).of hb4, hpl2, below_after hb4 (below_after hb3 hB3 (by simp; omega)) (by first | omega | (simp at hs3; omega))⟩
            case measure => simp [intOf]; omega
        · obtain rfl : j = n := by omega
          have HE := Lib.hid (shE_ok HR.out HF.out (all_of_plTo hR.len hpl.out))
          go_wp2
          go_ret2
          exact ⟨A2, j, c2, ret_pe HE.out.symm, by rw [shL_ok HE.out, ← mvAt_end (l := l) (dx := dx) (dy := dy) (j := j) (by rw [hR.len]; omega)]; exact NewP.own hown, by omega, hb⟩
end Go.Proofs.YtellglbmbocgkaaGreatDoor
end
section
namespace Go.Proofs.YtellglbmbocgkaaGreatDoor
open Go Go.RowKit
set_option maxRecDepth 100000
attribute [local go_sem ↓ high] eq_cl neq_cl eq_pt neq_pt
theorem same_ne_cl {l r : List (Int × Int × Int)} {j : Nat} {a b s a' b' s' : Int} (hx : l[j]? = some (a, b, s)) (hy : r[j]? = some (a', b', s')) (h : ¬(a = a' ∧ b = b' ∧ s = s')) : sameL l r = false :=
  sameL_ne hx hy (fun e => h (by injection e with e1 e2; injection e2 with e2 e3; exact ⟨e1, e2, e3⟩))
set_option maxHeartbeats 400000 in
theorem slices_EqualC (A B : Option Addr) (n m c d : Nat) (l r : List (Int × Int × Int)) (w : World) (hR : Rd encC 3 w A n l) (hS : Rd encC 3 w B m r) (hn : n ≤ 1000000) :
    Calls Tryz.prog 80 #[.slice A n c, .slice B m d] w fun e w' => e = .returned (.bool (sameL l r)) ∧ Below w.heap.size w w' := by
  by_cases hnm : n = m
  · subst hnm
    go_enter Tryz.func80, Tryz.ntmps80
    go_wp2
    go_loopw [13] (fun i wr => ∃ j : Nat, j ≤ n ∧ i = .int .i64 j ∧ Below w.heap.size w wr ∧ Hid (∀ i, i < j → l[i]? = r[i]?)) (fun i _ => n - (intOf i).toNat)
    case atStart => exact ⟨0, by omega, rfl, Below.refl _ _, fun r hr => absurd hr (by omega)⟩
    case round =>
      obtain ⟨j, hj, rfl, hb, hno⟩ := hrel
      obtain ⟨hc, hf⟩ := bcell hb
      have hs := hb.size
      by_cases hlt : j < n
      · obtain ⟨a, b, s, bo, o, hx, rfl, hbl, hcell, hcell2, hcell3⟩ := hR.cell hlt
        obtain ⟨a', b', s', bo', o', hy, rfl, hbl', hcell', hcell2', hcell3'⟩ := hS.cell hlt
        by_cases hq : a = a' ∧ b = b' ∧ s = s'
        · obtain ⟨rfl, rfl, rfl⟩ := hq
          go_wp2
          (refine wp_region_ext_lit (by kernel_rfl) (by kernel_rfl) ?_; (repeat (go_big_quiet_step (fail))); refine wpQuiet_nil ?_; intro _ hw'; obtain ⟨z1, hw''⟩ := hw'; subst hw''; have hs1 := z1.size; obtain ⟨hc1, hf1⟩ := bcell z1.below; (try simp only [World.size_alloc, World.size_setCell, World.size_drew] at hc1 hf1); (try simp at hs1))
          go_wp2
          go_roundw
          case rel => exact ⟨j + 1, by omega, by go_num, (by (repeat' (first | exact Below.refl _ _ | assumption | (refine Below.alloc ?_ ?_ _) | (refine Below.setCell ?_ ?_ _) | (refine Below.drew ?_) | (refine below_drewN ?_ _) | (refine below_after (Ext.below _) ?_ ?_) | (refine below_after (by assumption) ?_ ?_) | (simp; done) | omega | (simp; omega)))), same_step hno.out (hx.out.trans hy.out.symm)⟩
          case measure => simp [intOf]; omega
        · have hq' : decide (a = a' ∧ b = b' ∧ s = s') = false := decide_eq_false hq
          have HQ := Lib.hid hq
          clear hq
          go_wp2
          (refine wp_region_ext_lit (by kernel_rfl) (by kernel_rfl) ?_; (repeat (go_big_quiet_step (fail))); refine wpQuiet_nil ?_; intro _ hw'; obtain ⟨z1, hw''⟩ := hw'; subst hw''; have hs1 := z1.size; obtain ⟨hc1, hf1⟩ := bcell z1.below; (try simp only [World.size_alloc, World.size_setCell, World.size_drew] at hc1 hf1); (try simp at hs1))
          go_wp2
          go_ret
          exact ⟨ret_bool (same_ne_cl hx.out hy.out HQ.out).symm, by (repeat' (first | exact Below.refl _ _ | assumption | (refine Below.alloc ?_ ?_ _) | (refine Below.setCell ?_ ?_ _) | (refine Below.drew ?_) | (refine below_drewN ?_ _) | (refine below_after (Ext.below _) ?_ ?_) | (refine below_after (by assumption) ?_ ?_) | (simp; done) | omega | (simp; omega)))⟩
      · obtain rfl : j = n := by omega
        go_wp2
        go_ret
        exact ⟨ret_bool (sameL_all hR.len hS.len hno.out).symm, by (repeat' (first | exact Below.refl _ _ | assumption | (refine Below.alloc ?_ ?_ _) | (refine Below.setCell ?_ ?_ _) | (refine Below.drew ?_) | (refine below_drewN ?_ _) | (refine below_after (Ext.below _) ?_ ?_) | (refine below_after (by assumption) ?_ ?_) | (simp; done) | omega | (simp; omega)))⟩
  · have hq : ((n : Int) != (m : Int)) = true := by simp; omega
    have hq2 : ((n : Int) == (m : Int)) = false := by simp; omega
    have hlen := Lib.hid (sameL_len hR.len hS.len hnm)
    clear hnm
    go_enter Tryz.func80, Tryz.ntmps80
    go_wp2
    go_ret
    exact ⟨ret_bool hlen.out.symm, Below.refl _ _⟩
theorem pat_Same (A B : Option Addr) (n m c d : Nat) (l r : List (Int × Int × Int)) (w : World) (hR : Rd encC 3 w A n l) (hS : Rd encC 3 w B m r) (hn : n ≤ 1000000) :
    Calls Tryz.prog 40 #[.slice A n c, .slice B m d] w fun e w' => e = .returned (.bool (sameL l r)) ∧ Below w.heap.size w w' := by
  go_enter Tryz.func40, Tryz.ntmps40
  go_wp2_with (first | (go_at_call 80; refine (slices_EqualC _ _ _ _ _ _ _ _ _ hR hS hn).mono ?_; rintro e w1 ⟨rfl, hb1⟩; obtain ⟨hc1, hf1⟩ := bcell hb1; have hs1 := hb1.size; (try simp only [World.size_alloc, World.size_setCell, World.size_drew] at hc1 hf1); (try simp at hs1)))
  go_ret
  exact ⟨rfl, hb1⟩
theorem cmpC_y {x y s x' y' s' : Int} (h : y ≠ y') : cmpC (x, y, s) (x', y', s') = cmpI y y' := by
  unfold cmpC cmpO cmpP orI cmpI; simp only; (repeat' split) <;> omega
theorem cmpC_x {x y s x' y' s' : Int} (h : y = y') (h2 : x ≠ x') : cmpC (x, y, s) (x', y', s') = cmpI x x' := by
  unfold cmpC cmpO cmpP orI cmpI; simp only; (repeat' split) <;> omega
theorem cmpC_s {x y s x' y' s' : Int} (h : y = y') (h2 : x = x') : cmpC (x, y, s) (x', y', s') = cmpI s s' := by
  unfold cmpC cmpO cmpP orI cmpI; simp only; (repeat' split) <;> omega
end Go.Proofs.YtellglbmbocgkaaGreatDoor
end
section
namespace Go.Proofs.YtellglbmbocgkaaGreatDoor
open Go Go.RowKit
set_option maxRecDepth 100000
attribute [local go_sem ↓ high] eq_cl neq_cl eq_pt neq_pt
set_option maxHeartbeats 2000000 in
theorem ref05_Compare (A B : Option Addr) (n m c d : Nat) (l r : List (Int × Int × Int)) (w : World) (hR : Rd encC 3 w A n l) (hS : Rd encC 3 w B m r) (hn : n ≤ 1000000) (hm : m ≤ 1000000) :
    Calls Tryz.prog 35 #[.slice A n c, .slice B m d] w fun e w' => e = .returned (.int .i64 (cmpL l r)) ∧ Below w.heap.size w w' := by
  go_enter Tryz.func35, Tryz.ntmps35
  go_wp2
  go_loopw [5] (fun i wr => ∃ j : Nat, j ≤ n ∧ j ≤ m ∧ i = .int .i64 j ∧ Below w.heap.size w wr ∧ Hid (∀ i, i < j → l[i]? = r[i]?)) (fun i _ => n - (intOf i).toNat)
  case atStart => exact ⟨0, by omega, by omega, rfl, Below.refl _ _, fun r hr => absurd hr (by omega)⟩
  case round =>
    obtain ⟨j, hj, hjm, rfl, hb, hno⟩ := hrel
    obtain ⟨hc, hf⟩ := bcell hb
    have hs := hb.size
    by_cases hend : j = n ∨ j = m
    · have HV := Lib.hid (cmpL_end hR.len hS.len hj hjm hno.out hend)
      have dd : decide ((j : Int) < n) = false ∨ (decide ((j : Int) < n) = true ∧ decide ((j : Int) < m) = false) := by simp only [decide_eq_true_eq, decide_eq_false_iff_not]; omega
      clear hend
      have ee : decide (j < n) = false ∨ (decide (j < n) = true ∧ decide (j < m) = false) := by simp only [decide_eq_true_eq, decide_eq_false_iff_not] at dd ⊢; omega
      rcases dd with d1 | ⟨d1, d2⟩ <;> rcases ee with e1 | ⟨e1, e2⟩
      all_goals (try (exfalso; simp only [decide_eq_true_eq, decide_eq_false_iff_not] at *; omega))
      all_goals
        go_wp2_with (first | (go_at_call 76; refine (ref05_order _ _ _).mono ?_; rintro e w' ⟨rfl, rfl⟩))
        go_ret
        exact ⟨ret_int HV.out.symm, by (repeat' (first | exact Below.refl _ _ | assumption | (refine Below.alloc ?_ ?_ _) | (refine Below.setCell ?_ ?_ _) | (refine Below.drew ?_) | (refine below_drewN ?_ _) | (refine below_after (Ext.below _) ?_ ?_) | (refine below_after (by assumption) ?_ ?_) | (simp; done) | omega | (simp; omega)))⟩
    · have hlt : j < n := by omega
      have hltm : j < m := by omega
      have d1 : decide ((j : Int) < n) = true := decide_eq_true (by omega)
      have d2 : decide ((j : Int) < m) = true := decide_eq_true (by omega)
      have e1 : decide (j < n) = true := decide_eq_true (by omega)
      have e2 : decide (j < m) = true := decide_eq_true (by omega)
      obtain ⟨a, b, s, bo, o, hx, rfl, hbl, g1, g2, g3⟩ := hR.cell hlt
      obtain ⟨a', b', s', bo', o', hy, rfl, hbl', k1, k2, k3⟩ := hS.cell hltm
      by_cases h1 : b = b'
      · by_cases h2 : a = a'
        · by_cases h3 : s = s'
          · subst h1 h2 h3
            have HS : Hid (∀ i, i < j + 1 → l[i]? = r[i]?) := same_step hno.out (hx.out.trans hy.out.symm)
            go_wp2
            (refine wp_region_ext_lit (by kernel_rfl) (by kernel_rfl) ?_; (repeat (go_big_quiet_step (fail))); refine wpQuiet_nil ?_; intro _ hw'; obtain ⟨z2, hw''⟩ := hw'; subst hw''; have hs2 := z2.size; obtain ⟨hc2, hf2⟩ := bcell z2.below; (try simp only [World.size_alloc, World.size_setCell, World.size_drew] at hc2 hf2); (try simp at hs2))
            go_wp2
            (refine wp_region_ext_lit (by kernel_rfl) (by kernel_rfl) ?_; (repeat (go_big_quiet_step (fail))); refine wpQuiet_nil ?_; intro _ hw'; obtain ⟨z3, hw''⟩ := hw'; subst hw''; have hs3 := z3.size; obtain ⟨hc3, hf3⟩ := bcell z3.below; (try simp only [World.size_alloc, World.size_setCell, World.size_drew] at hc3 hf3); (try simp at hs3))
            go_wp2
            (refine wp_region_ext_lit (by kernel_rfl) (by kernel_rfl) ?_; (repeat (go_big_quiet_step (fail))); refine wpQuiet_nil ?_; intro _ hw'; obtain ⟨z4, hw''⟩ := hw'; subst hw''; have hs4 := z4.size; obtain ⟨hc4, hf4⟩ := bcell z4.below; (try simp only [World.size_alloc, World.size_setCell, World.size_drew] at hc4 hf4); (try simp at hs4))
            go_wp2
            go_roundw
            case rel => exact ⟨j + 1, by omega, by omega, by go_num, (by (repeat' (first | exact Below.refl _ _ | assumption | (refine Below.alloc ?_ ?_ _) | (refine Below.setCell ?_ ?_ _) | (refine Below.drew ?_) | (refine below_drewN ?_ _) | (refine below_after (Ext.below _) ?_ ?_) | (refine below_after (by assumption) ?_ ?_) | (simp; done) | omega | (simp; omega)))), HS.out⟩
            case measure => simp [intOf]; omega
          · have HV := Lib.hid ((cmpL_at hno.out hx.out hy.out (fun e => h3 (by injection e with e1 e2; injection e2))).trans (cmpC_s h1 h2))
            subst h1 h2
            have q3 : (s != s') = true := by simpa using h3
            clear h3
            go_wp2
            (refine wp_region_ext_lit (by kernel_rfl) (by kernel_rfl) ?_; (repeat (go_big_quiet_step (fail))); refine wpQuiet_nil ?_; intro _ hw'; obtain ⟨z2, hw''⟩ := hw'; subst hw''; have hs2 := z2.size; obtain ⟨hc2, hf2⟩ := bcell z2.below; (try simp only [World.size_alloc, World.size_setCell, World.size_drew] at hc2 hf2); (try simp at hs2))
            go_wp2
            (refine wp_region_ext_lit (by kernel_rfl) (by kernel_rfl) ?_; (repeat (go_big_quiet_step (fail))); refine wpQuiet_nil ?_; intro _ hw'; obtain ⟨z3, hw''⟩ := hw'; subst hw''; have hs3 := z3.size; obtain ⟨hc3, hf3⟩ := bcell z3.below; (try simp only [World.size_alloc, World.size_setCell, World.size_drew] at hc3 hf3); (try simp at hs3))
            go_wp2
            (refine wp_region_ext_lit (by kernel_rfl) (by kernel_rfl) ?_; (repeat (go_big_quiet_step (fail))); refine wpQuiet_nil ?_; intro _ hw'; obtain ⟨z4, hw''⟩ := hw'; subst hw''; have hs4 := z4.size; obtain ⟨hc4, hf4⟩ := bcell z4.below; (try simp only [World.size_alloc, World.size_setCell, World.size_drew] at hc4 hf4); (try simp at hs4))
            go_wp2
            (refine wp_region_ext_lit (by kernel_rfl) (by kernel_rfl) ?_; (repeat (go_big_quiet_step ((go_at_call 76; exact calls_ext_same (ref05_order _ _ _))))); refine wpQuiet_nil ?_; intro _ hw'; obtain ⟨z5, hw''⟩ := hw'; subst hw''; have hs5 := z5.size; obtain ⟨hc5, hf5⟩ := bcell z5.below; (try simp only [World.size_alloc, World.size_setCell, World.size_drew] at hc5 hf5); (try simp at hs5))
            go_wp2
            go_ret
            exact ⟨ret_int HV.out.symm, by (repeat' (first | exact Below.refl _ _ | assumption | (refine Below.alloc ?_ ?_ _) | (refine Below.setCell ?_ ?_ _) | (refine Below.drew ?_) | (refine below_drewN ?_ _) | (refine below_after (Ext.below _) ?_ ?_) | (refine below_after (by assumption) ?_ ?_) | (simp; done) | omega | (simp; omega)))⟩
        · have HV := Lib.hid ((cmpL_at hno.out hx.out hy.out (fun e => h2 (by injection e))).trans (cmpC_x h1 h2))
          subst h1
          have q2 : (a != a') = true := by simpa using h2
          clear h2
          go_wp2
          (refine wp_region_ext_lit (by kernel_rfl) (by kernel_rfl) ?_; (repeat (go_big_quiet_step (fail))); refine wpQuiet_nil ?_; intro _ hw'; obtain ⟨z2, hw''⟩ := hw'; subst hw''; have hs2 := z2.size; obtain ⟨hc2, hf2⟩ := bcell z2.below; (try simp only [World.size_alloc, World.size_setCell, World.size_drew] at hc2 hf2); (try simp at hs2))
          go_wp2
          (refine wp_region_ext_lit (by kernel_rfl) (by kernel_rfl) ?_; (repeat (go_big_quiet_step (fail))); refine wpQuiet_nil ?_; intro _ hw'; obtain ⟨z3, hw''⟩ := hw'; subst hw''; have hs3 := z3.size; obtain ⟨hc3, hf3⟩ := bcell z3.below; (try simp only [World.size_alloc, World.size_setCell, World.size_drew] at hc3 hf3); (try simp at hs3))
          go_wp2
          (refine wp_region_ext_lit (by kernel_rfl) (by kernel_rfl) ?_; (repeat (go_big_quiet_step ((go_at_call 76; exact calls_ext_same (ref05_order _ _ _))))); refine wpQuiet_nil ?_; intro _ hw'; obtain ⟨z5, hw''⟩ := hw'; subst hw''; have hs5 := z5.size; obtain ⟨hc5, hf5⟩ := bcell z5.below; (try simp only [World.size_alloc, World.size_setCell, World.size_drew] at hc5 hf5); (try simp at hs5))
          go_wp2
          go_ret
          exact ⟨ret_int HV.out.symm, by (repeat' (first | exact Below.refl _ _ | assumption | (refine Below.alloc ?_ ?_ _) | (refine Below.setCell ?_ ?_ _) | (refine Below.drew ?_) | (refine below_drewN ?_ _) | (refine below_after (Ext.below _) ?_ ?_) | (refine below_after (by assumption) ?_ ?_) | (simp; done) | omega | (simp; omega)))⟩
      · have HV := Lib.hid ((cmpL_at hno.out hx.out hy.out (fun e => h1 (by injection e with e1 e2; injection e2))).trans (cmpC_y h1))
        have q1 : (b != b') = true := by simpa using h1
        clear h1
        go_wp2
        (refine wp_region_ext_lit (by kernel_rfl) (by kernel_rfl) ?_; (repeat (go_big_quiet_step (fail))); refine wpQuiet_nil ?_; intro _ hw'; obtain ⟨z2, hw''⟩ := hw'; subst hw''; have hs2 := z2.size; obtain ⟨hc2, hf2⟩ := bcell z2.below; (try simp only [World.size_alloc, World.size_setCell, World.size_drew] at hc2 hf2); (try simp at hs2))
        go_wp2
        (refine wp_region_ext_lit (by kernel_rfl) (by kernel_rfl) ?_; (repeat (go_big_quiet_step ((go_at_call 76; exact calls_ext_same (ref05_order _ _ _))))); refine wpQuiet_nil ?_; intro _ hw'; obtain ⟨z5, hw''⟩ := hw'; subst hw''; have hs5 := z5.size; obtain ⟨hc5, hf5⟩ := bcell z5.below; (try simp only [World.size_alloc, World.size_setCell, World.size_drew] at hc5 hf5); (try simp at hs5))
        go_wp2
        go_ret
        exact ⟨ret_int HV.out.symm, by (repeat' (first | exact Below.refl _ _ | assumption | (refine Below.alloc ?_ ?_ _) | (refine Below.setCell ?_ ?_ _) | (refine Below.drew ?_) | (refine below_drewN ?_ _) | (refine below_after (Ext.below _) ?_ ?_) | (refine below_after (by assumption) ?_ ?_) | (simp; done) | omega | (simp; omega)))⟩
theorem cmpL_same : ∀ (l r : List (Int × Int × Int)), (cmpL l r == 0) = sameL l r
  | [], [] => rfl
  | [], b :: r => rfl
  | a :: l, [] => rfl
  | a :: l, b :: r => by
    have ih := cmpL_same l r
    show ((if a = b then cmpL l r else cmpC a b) == 0) = _
    by_cases e : a = b
    · subst e
      rw [if_pos rfl, ih]
      unfold sameL; simp
    · rw [if_neg e]
      have h1 : (cmpC a b == 0) = false := by simp only [beq_eq_false_iff_ne, ne_eq]; exact fun h => e (cmpC_zero h)
      rw [h1]
      unfold sameL
      symm; exact decide_eq_false (fun h => e (by injection h))
theorem ref05_Same (A B : Option Addr) (n m c d : Nat) (l r : List (Int × Int × Int)) (w : World) (hR : Rd encC 3 w A n l) (hS : Rd encC 3 w B m r) (hn : n ≤ 1000000) (hm : m ≤ 1000000) :
    Calls Tryz.prog 12 #[.slice A n c, .slice B m d] w fun e w' => e = .returned (.bool (sameL l r)) ∧ Below w.heap.size w w' := by
  have hq := cmpL_same l r
  generalize sameL l r = q at hq ⊢
  have HQ := Lib.hid hq
  clear hq
  go_enter Tryz.func12, Tryz.ntmps12
  go_wp2_with (first | (go_at_call 35; refine (ref05_Compare _ _ _ _ _ _ _ _ _ hR hS hn hm).mono ?_; rintro e w1 ⟨rfl, hb1⟩; obtain ⟨hc1, hf1⟩ := bcell hb1; have hs1 := hb1.size; (try simp only [World.size_alloc, World.size_setCell, World.size_drew] at hc1 hf1); (try simp at hs1)))
  go_ret
  exact ⟨ret_bool HQ.out, hb1⟩
end Go.Proofs.YtellglbmbocgkaaGreatDoor
end
section
namespace Go.Proofs.YtellglbmbocgkaaGreatDoor
open Go Go.RowKit
def hmX (l : List (Int × Int × Int)) : Int := arX (bxPos l)
def hmY (l : List (Int × Int × Int)) : Int := arY (bxPos l)
def hmL (l : List (Int × Int × Int)) : List (Int × Int × Int) := if arOk (bxPos l) = true then l.map (mv5 (-hmX l) (-hmY l)) else l
section
variable {l : List (Int × Int × Int)}
theorem hm_bad (h : rightC l = false ∨ l.length = 0) : arOk (bxPos l) = false ∧ hmL l = l := by
  have h0 : arOk (bxPos l) = false := by
    unfold bxPos
    split
    · rename_i h2
      rcases h with h | h
      · rw [h] at h2; cases h2
      · obtain rfl : l = [] := List.length_eq_zero_iff.1 h; rfl
    · rfl
  exact ⟨h0, by unfold hmL; rw [if_neg (by rw [h0]; simp)]⟩
theorem hm_good (h : rightC l = true) (h0 : 0 < l.length) : arOk (bxPos l) = true ∧ hmL l = l.map (mv5 (-hmX l) (-hmY l)) ∧ hmX l = loX (posC l) (fstX (posC l)) ∧ hmY l = loY (posC l) (fstY (posC l)) := by
  have hb : bxPos l = posC l := by unfold bxPos; rw [if_pos h]
  have ho : arOk (bxPos l) = true := by rw [hb]; exact arOk_right h h0
  refine ⟨ho, by unfold hmL; rw [if_pos ho], ?_, ?_⟩
  · unfold hmX arX; rw [ho, hb]; rfl
  · unfold hmY arY; rw [ho, hb]; rfl
theorem hm_bound (h : rightC l = true) (h0 : 0 < l.length) : -1048576 ≤ hmX l ∧ hmX l ≤ 1048576 ∧ -1048576 ≤ hmY l ∧ hmY l ≤ 1048576 := by
  obtain ⟨_, _, h1, h2⟩ := hm_good h h0
  have hp : ∀ p, p ∈ posC l → Pt p.1 p.2 := fun p hp => by
    unfold posC at hp
    obtain ⟨c, hc, rfl⟩ := List.mem_map.1 hp
    exact (okCells_right h c hc).1
  obtain ⟨c, hc⟩ : ∃ c, l[0]? = some c := ⟨_, List.getElem?_eq_getElem h0⟩
  obtain ⟨x, y, s⟩ := c
  have hf := fst_of (posC_get hc)
  have hpt := (okCells_right h _ (List.mem_of_getElem? hc)).1
  unfold Pt at hpt
  have b1 := (lo_bound (posC l) (fstX (posC l)) hp (by rw [hf.1]; exact ⟨hpt.1, hpt.2.1⟩)).1
  have b2 := (lo_bound (posC l) (fstY (posC l)) hp (by rw [hf.2]; exact ⟨hpt.2.2.1, hpt.2.2.2⟩)).2.1
  rw [h1, h2]
  exact ⟨b1.1, b1.2, b2.1, b2.2⟩
theorem hm_len (l : List (Int × Int × Int)) : (hmL l).length = l.length := by
  unfold hmL; split
  · rw [List.length_map]
  · rfl
end
end Go.Proofs.YtellglbmbocgkaaGreatDoor
end
