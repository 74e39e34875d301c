/- Contracts of cmp.Compare, cmp.Or and point.Compare. What the model's == and != say of positions, boxes and arrays of four integers. Contracts of the small functions of pattern and of its reference. The contracts of Right, of pattern and of its reference. The contracts of the reference's Right, and of Get and Top. Contracts of the tests on coordinates and boxes, of the program and of the reference. Contracts of Meet, Join, Grow and In, of point and of its reference. The contracts of Around, of point and of its reference. The contracts of Box, of pattern and of its reference. The contracts of slices.Clone at cells and of Shift, of pattern and of its reference. Boxes of a function's own; chains of worlds; slices behind a name. The contracts of Same and Compare, of pattern and of its reference. The contracts of the reference's Compare and Same. Plain facts on moving a pattern home. Plain: the box of a pattern and the states of its positions, row by row. No program in sight. -/
import Derived.Test.YtfdihjjnlmhibaaGreatProg
import Derived.Test.YtfdihjjnlmhibaaGreatMEM
import Derived.Test.YtfdihjjnlmhibaaGreatPLN
import Derived.StillTailTactics
import Derived.Laws.StructEq
import Derived.ChangeKeysEq
import Derived.Deep.RegionHeld3
set_option linter.unusedSimpArgs false
set_option linter.unusedVariables false
section
namespace Go.Proofs.YtfdihjjnlmhibaaGreat
open Go Go.RowKit
set_option maxRecDepth 100000
theorem cmp_isNaN (a : Int) (w : World) : Calls Tryz.prog 123 #[.int .i64 a] w fun e w' => e = .returned (.bool false) ∧ w = w' := by
  go_enter Tryz.func123, Tryz.ntmps123
  go_wp2
  go_ret
  exact ⟨ret_bool (by simp), rfl⟩
theorem cmp_Compare (a b : Int) (w : World) : Calls Tryz.prog 108 #[.int .i64 a, .int .i64 b] w fun e w' => e = .returned (.int .i64 (cmpI a b)) ∧ w = w' := by
  go_enter Tryz.func108, Tryz.ntmps108
  go_wp2_with (first | (go_at_call 123; refine (cmp_isNaN _ _).mono ?_; rintro e w' ⟨rfl, rfl⟩))
  all_goals
    go_ret
    exact ⟨ret_int (by unfold cmpI; (repeat' split) <;> omega), rfl⟩
set_option maxHeartbeats 400000 in
theorem cmp_Or2 (A : Option Addr) (c : Nat) (a b : Int) (w : World) (hR : Rd encI 1 w A 2 [a, b]) : Calls Tryz.prog 107 #[.slice A 2 c] w fun e w' => e = .returned (.int .i64 (orI a b)) ∧ w = w' := by
  obtain ⟨x0, b0, o0, hx0, rfl, hb0, hc0⟩ := hR.int (i := 0) (by omega)
  obtain ⟨x1, b1, o1, hx1, he, hb1, hc1⟩ := hR.int (i := 1) (by omega)
  obtain ⟨rfl, rfl⟩ : b0 = b1 ∧ o0 = o1 := by injection he with he; injection he with e1 e2; exact ⟨e1, e2⟩
  obtain rfl : a = x0 := by have := hx0.out; simpa using this
  obtain rfl : b = x1 := by have := hx1.out; simpa using this
  clear he hx0 hx1
  simp only [Nat.add_zero] at hc0
  go_enter Tryz.func107, Tryz.ntmps107
  go_wp2
  go_loop [8] (fun i => ∃ j : Nat, j ≤ 2 ∧ i = .int .i64 j ∧ Hid (0 < j → a = 0) ∧ Hid (1 < j → b = 0)) (fun i => 2 - (intOf i).toNat)
  case atStart => exact ⟨0, by omega, rfl, fun h => absurd h (by omega), fun h => absurd h (by omega)⟩
  case round =>
    obtain ⟨j, hj, rfl, h0, h1⟩ := hrel
    have hjc : j = 0 ∨ j = 1 ∨ j = 2 := by omega
    rcases hjc with rfl | rfl | rfl
    · by_cases hq : a = 0
      · have hq' : (a != 0) = false := by simp [hq]
        have HQ := Lib.hid hq
        clear hq
        go_wp2
        go_round
        case rel => exact ⟨1, by omega, by go_num, fun _ => HQ.out, fun h => absurd h (by omega)⟩
        case measure => simp [intOf]
      · have hq' : (a != 0) = true := by simp [hq]
        have HQ := Lib.hid hq
        clear hq
        go_wp2
        go_ret
        exact ⟨ret_int (by unfold orI; rw [if_neg HQ.out]), rfl⟩
    · have ha := Lib.hid (h0.out (by omega))
      by_cases hq : b = 0
      · have hq' : (b != 0) = false := by simp [hq]
        have HQ := Lib.hid hq
        clear hq
        go_wp2
        go_round
        case rel => exact ⟨2, by omega, by go_num, fun _ => ha.out, fun _ => HQ.out⟩
        case measure => simp [intOf]
      · have hq' : (b != 0) = true := by simp [hq]
        have HQ := Lib.hid hq
        clear hq
        go_wp2
        go_ret
        exact ⟨ret_int (by unfold orI; rw [if_pos ha.out]), rfl⟩
    · have ha := Lib.hid (h0.out (by omega))
      have hb := Lib.hid (h1.out (by omega))
      go_wp2
      go_ret
      exact ⟨ret_int (by unfold orI; rw [if_pos ha.out, hb.out]), rfl⟩
theorem cmp_CompareS (a b : Int) (w : World) : Calls Tryz.prog 108 #[.int .i64 a, .int .i64 b] w fun e w' => e = .returned (.int .i64 (cmpI a b)) ∧ w' = w :=
  (cmp_Compare a b w).mono fun e w' ⟨h1, h2⟩ => ⟨h1, h2.symm⟩
set_option maxHeartbeats 400000 in
theorem point_Compare (ax ay bx bx' : Int) (w : World) : Calls Tryz.prog 91 #[.agg #[.int .i64 ax, .int .i64 ay], .agg #[.int .i64 bx, .int .i64 bx']] w fun e w' => e = .returned (.int .i64 (cmpP ax ay bx bx')) ∧ Below w.heap.size w w' := by
  go_enter Tryz.func91, Tryz.ntmps91
  go_wp2
  refine wp_region_still_tail 10 (by kernel_rfl) (by kernel_rfl) ?_
  simp only [List.take_succ_cons, List.take_zero, List.drop_succ_cons, List.drop_zero]
  change wpStill _ _ (World.drew _) (fun a' => wpList _ _ _ _ a' (World.drew _)) _ _
  have hb : Below (w.heap.size + 2) ((w.alloc (.cells #[.int .i64 ax, .int .i64 ay] 74)).alloc (.cells #[.int .i64 bx, .int .i64 bx'] 74)) ((w.alloc (.cells #[.int .i64 ax, .int .i64 ay] 74)).alloc (.cells #[.int .i64 bx, .int .i64 bx'] 74)).drew := (Below.refl _ _).drew
  generalize ((w.alloc (.cells #[.int .i64 ax, .int .i64 ay] 74)).alloc (.cells #[.int .i64 bx, .int .i64 bx'] 74)).drew = W at hb ⊢
  have hs := hb.size
  simp only [World.size_alloc] at hs
  have c0 : W.cell? ⟨w.heap.size, 0, none⟩ = some (.int .i64 ax) := by rw [hb.cell (p := ⟨w.heap.size, 0, none⟩) (by show w.heap.size < _; omega)]; simp [cell_alloc_if, cellOf]
  have c1 : W.cell? ⟨w.heap.size, 1, none⟩ = some (.int .i64 ay) := by rw [hb.cell (p := ⟨w.heap.size, 1, none⟩) (by show w.heap.size < _; omega)]; simp [cell_alloc_if, cellOf]
  have c2 : W.cell? ⟨w.heap.size + 1, 0, none⟩ = some (.int .i64 bx) := by rw [hb.cell (p := ⟨w.heap.size + 1, 0, none⟩) (by show w.heap.size + 1 < _; omega)]; simp [cell_alloc_if, cellOf]
  have c3 : W.cell? ⟨w.heap.size + 1, 1, none⟩ = some (.int .i64 bx') := by rw [hb.cell (p := ⟨w.heap.size + 1, 1, none⟩) (by show w.heap.size + 1 < _; omega)]; simp [cell_alloc_if, cellOf]
  repeat still_step
  still_call (cmp_CompareS _ _ _)
  repeat still_step
  still_call (cmp_CompareS _ _ _)
  refine wpStill_nil ?_
  have hl := (Own.lit encI_len W 3 W.heap.size (Nat.le_refl _) [cmpI ay bx', cmpI ax bx] 2 rfl (by omega) [.int .i64 (cmpI ay bx'), .int .i64 (cmpI ax bx)] rfl).rd encI_len
  show wpList _ _ _ _ _ _
  go_wp2_with fail
  go_at_call 107
  refine (cmp_Or2 _ _ _ _ _ hl).mono ?_
  rintro e w' ⟨rfl, rfl⟩
  go_wp2_with fail
  go_ret
  exact ⟨rfl, by (repeat' (first | exact Below.refl _ _ | assumption | (refine Below.alloc ?_ ?_ _) | (refine Below.setCell ?_ ?_ _) | (refine Below.drew ?_) | (refine below_drewN ?_ _) | (refine below_after (Ext.below _) ?_ ?_) | (refine below_after (by assumption) ?_ ?_) | (simp; done) | omega | (simp; omega)))⟩
end Go.Proofs.YtfdihjjnlmhibaaGreat
end
section
namespace Go.Proofs.YtfdihjjnlmhibaaGreat
open Go Go.RowKit
theorem eq_pt (x y x' y' : Int) (w : World) : (binOp .eql 74 (.agg #[.int .i64 x, .int .i64 y]) (.agg #[.int .i64 x', .int .i64 y'])).run Tryz.prog w = .ok (.bool (decide (x = x' ∧ y = y'))) w := by
  have u3 := Tryz.underlying3
  have a3 := Tryz.isAgg3
  have z3 := Tryz.sizeOf3
  have hS : Tryz.prog.underlying 74 = some (.struct (Tryz.prog.fieldsOf 74)) := by kernel_rfl
  have hp : Tryz.prog.stoodInHeld 74 = false := by kernel_rfl
  rw [run_eql_struct, show (10000 : Nat) = 9999 + 1 from rfl, run_equalIn_agg w 9999 74 _ _ hS hp]
  simp only [Program.fieldsOf, Tryz.underlying74]
  go_simp
  by_cases h1 : x = x' <;> by_cases h2 : y = y' <;> simp [h1, h2]
theorem neq_pt (x y x' y' : Int) (w : World) : (binOp .neq 74 (.agg #[.int .i64 x, .int .i64 y]) (.agg #[.int .i64 x', .int .i64 y'])).run Tryz.prog w = .ok (.bool (!decide (x = x' ∧ y = y'))) w := by
  have h := eq_pt x y x' y' w
  rw [run_eql_struct] at h
  rw [run_neq_struct]
  generalize (Op.equalIn 10000 74 (.agg #[.int .i64 x, .int .i64 y]) (.agg #[.int .i64 x', .int .i64 y'])).run Tryz.prog w = r at *
  cases r <;> simp_all [Result.andThen]
theorem eq_box (x y z u x' y' z' u' : Int) (w : World) : (binOp .eql 129 (.agg #[.int .i64 x, .int .i64 y, .int .i64 z, .int .i64 u]) (.agg #[.int .i64 x', .int .i64 y', .int .i64 z', .int .i64 u'])).run Tryz.prog w = .ok (.bool (decide (x = x' ∧ y = y' ∧ z = z' ∧ u = u'))) w := by
  have u3 := Tryz.underlying3
  have a3 := Tryz.isAgg3
  have z3 := Tryz.sizeOf3
  have hS : Tryz.prog.underlying 129 = some (.struct (Tryz.prog.fieldsOf 129)) := by kernel_rfl
  have hp : Tryz.prog.stoodInHeld 129 = false := by kernel_rfl
  rw [run_eql_struct, show (10000 : Nat) = 9999 + 1 from rfl, run_equalIn_agg w 9999 129 _ _ hS hp]
  simp only [Program.fieldsOf, Tryz.underlying129]
  go_simp
  by_cases h1 : x = x' <;> by_cases h2 : y = y' <;> by_cases h3 : z = z' <;> by_cases h4 : u = u' <;> simp [h1, h2, h3, h4]
theorem neq_box (x y z u x' y' z' u' : Int) (w : World) : (binOp .neq 129 (.agg #[.int .i64 x, .int .i64 y, .int .i64 z, .int .i64 u]) (.agg #[.int .i64 x', .int .i64 y', .int .i64 z', .int .i64 u'])).run Tryz.prog w = .ok (.bool (!decide (x = x' ∧ y = y' ∧ z = z' ∧ u = u'))) w := by
  have h := eq_box x y z u x' y' z' u' w
  rw [run_eql_struct] at h
  rw [run_neq_struct]
  generalize (Op.equalIn 10000 129 (.agg #[.int .i64 x, .int .i64 y, .int .i64 z, .int .i64 u]) (.agg #[.int .i64 x', .int .i64 y', .int .i64 z', .int .i64 u'])).run Tryz.prog w = r at *
  cases r <;> simp_all [Result.andThen]
end Go.Proofs.YtfdihjjnlmhibaaGreat
end
section
namespace Go.Proofs.YtfdihjjnlmhibaaGreat
open Go Go.RowKit
set_option maxRecDepth 100000
theorem eq_cl (x y s x' y' s' : Int) (w : World) : (binOp .eql 50 (.agg #[.int .i64 x, .int .i64 y, .int .i64 s]) (.agg #[.int .i64 x', .int .i64 y', .int .i64 s'])).run Tryz.prog w = .ok (.bool (decide (x = x' ∧ y = y' ∧ s = s'))) w := by
  have u3 := Tryz.underlying3
  have a3 := Tryz.isAgg3
  have z3 := Tryz.sizeOf3
  have hS : Tryz.prog.underlying 50 = some (.struct (Tryz.prog.fieldsOf 50)) := by kernel_rfl
  have hp : Tryz.prog.stoodInHeld 50 = false := by kernel_rfl
  rw [run_eql_struct, show (10000 : Nat) = 9999 + 1 from rfl, run_equalIn_agg w 9999 50 _ _ hS hp]
  simp only [Program.fieldsOf, Tryz.underlying50]
  go_simp
  by_cases h1 : x = x' <;> by_cases h2 : y = y' <;> by_cases h3 : s = s' <;> simp [h1, h2, h3]
theorem neq_cl (x y s x' y' s' : Int) (w : World) : (binOp .neq 50 (.agg #[.int .i64 x, .int .i64 y, .int .i64 s]) (.agg #[.int .i64 x', .int .i64 y', .int .i64 s'])).run Tryz.prog w = .ok (.bool (!decide (x = x' ∧ y = y' ∧ s = s'))) w := by
  have h := eq_cl x y s x' y' s' w
  rw [run_eql_struct] at h
  rw [run_neq_struct]
  generalize (Op.equalIn 10000 50 (.agg #[.int .i64 x, .int .i64 y, .int .i64 s]) (.agg #[.int .i64 x', .int .i64 y', .int .i64 s'])).run Tryz.prog w = r at *
  cases r <;> simp_all [Result.andThen]
attribute [local go_sem ↓ high] eq_cl neq_cl eq_pt neq_pt
theorem pat_at (x y s : Int) (w : World) : Calls Tryz.prog 63 #[.agg #[.int .i64 x, .int .i64 y, .int .i64 s]] w fun e w' => e = .returned (.agg #[.int .i64 x, .int .i64 y]) ∧ Below w.heap.size w w' := by
  go_enter Tryz.func63, Tryz.ntmps63
  go_wp2
  refine bodyPost_ret (v := .agg #[.int .i64 x, .int .i64 y]) (by simp [results, Tryz.results63, go_sem, *, ↓IntWalk.iteOmega]) rfl ?_
  exact ⟨rfl, by (repeat' (first | exact Below.refl _ _ | assumption | (refine Below.alloc ?_ ?_ _) | (refine Below.setCell ?_ ?_ _) | (refine Below.drew ?_) | (refine below_drewN ?_ _) | (refine below_after (Ext.below _) ?_ ?_) | (refine below_after (by assumption) ?_ ?_) | (simp; done) | omega | (simp; omega)))⟩
theorem pat_placed (x y : Int) (w : World) : Calls Tryz.prog 62 #[.agg #[.int .i64 x, .int .i64 y]] w fun e w' => e = .returned (.bool (validB x y)) ∧ Below w.heap.size w w' := by
  go_enter Tryz.func62, Tryz.ntmps62
  go_wp2
  all_goals (go_ret; refine ⟨ret_bool ?_, by (repeat' (first | exact Below.refl _ _ | assumption | (refine Below.alloc ?_ ?_ _) | (refine Below.setCell ?_ ?_ _) | (refine Below.drew ?_) | (refine below_drewN ?_ _) | (refine below_after (Ext.below _) ?_ ?_) | (refine below_after (by assumption) ?_ ?_) | (simp; done) | omega | (simp; omega)))⟩; rw [Bool.eq_iff_iff]; simp [validB]; try omega)
theorem pat_placedV {x y : Int} {q : Bool} (h : validB x y = q) (w : World) : Calls Tryz.prog 62 #[.agg #[.int .i64 x, .int .i64 y]] w fun e w' => e = .returned (.bool q) ∧ Below w.heap.size w w' := by
  rw [← h]; exact pat_placed x y w
theorem pat_order (x y s x' y' s' : Int) (w : World) : Calls Tryz.prog 64 #[.agg #[.int .i64 x, .int .i64 y, .int .i64 s], .agg #[.int .i64 x', .int .i64 y', .int .i64 s']] w fun e w' => e = .returned (.int .i64 (cmpP x y x' y')) ∧ Below w.heap.size w w' := by
  go_enter Tryz.func64, Tryz.ntmps64
  go_wp2
  (refine wp_region_ext_lit (by kernel_rfl) (by kernel_rfl) ?_; (repeat (go_big_quiet_step (first | (go_at_call 63; exact calls_ext (pat_at _ _ _ _)) | (go_at_call 91; exact calls_ext (point_Compare _ _ _ _ _))))); refine wpQuiet_nil ?_; intro _ hw'; obtain ⟨z1, hw''⟩ := hw'; subst hw''; have hs1 := z1.size; obtain ⟨hc1, hf1⟩ := bcell z1.below; (try simp only [World.size_alloc, World.size_setCell, World.size_drew] at hc1 hf1); (try simp at hs1))
  go_wp2
  go_ret
  exact ⟨rfl, by (repeat' (first | exact Below.refl _ _ | assumption | (refine Below.alloc ?_ ?_ _) | (refine Below.setCell ?_ ?_ _) | (refine Below.drew ?_) | (refine below_drewN ?_ _) | (refine below_after (Ext.below _) ?_ ?_) | (refine below_after (by assumption) ?_ ?_) | (simp; done) | omega | (simp; omega)))⟩
theorem ref05_Place (x y : Int) (w : World) : Calls Tryz.prog 78 #[.int .i64 x, .int .i64 y] w fun e w' => e = .returned (.bool (validB x y)) ∧ w = w' := by
  go_enter Tryz.func78, Tryz.ntmps78
  go_wp2
  all_goals (go_ret; refine ⟨ret_bool ?_, rfl⟩; rw [Bool.eq_iff_iff]; simp [validB]; try omega)
theorem ref05_PlaceV {x y : Int} {q : Bool} (h : validB x y = q) (w : World) : Calls Tryz.prog 78 #[.int .i64 x, .int .i64 y] w fun e w' => e = .returned (.bool q) ∧ w = w' := by
  rw [← h]; exact ref05_Place x y w
set_option maxHeartbeats 400000 in
theorem ref05_before (x y s x' y' s' : Int) (w : World) : Calls Tryz.prog 79 #[.agg #[.int .i64 x, .int .i64 y, .int .i64 s], .agg #[.int .i64 x', .int .i64 y', .int .i64 s']] w fun e w' => e = .returned (.bool (befP x y x' y')) ∧ Below w.heap.size w w' := by
  go_enter Tryz.func79, Tryz.ntmps79
  go_wp2
  all_goals (go_ret; refine ⟨ret_bool ?_, by (repeat' (first | exact Below.refl _ _ | assumption | (refine Below.alloc ?_ ?_ _) | (refine Below.setCell ?_ ?_ _) | (refine Below.drew ?_) | (refine below_drewN ?_ _) | (refine below_after (Ext.below _) ?_ ?_) | (refine below_after (by assumption) ?_ ?_) | (simp; done) | omega | (simp; omega)))⟩; (try simp only [Bool.not_eq_eq_eq_not, Bool.not_true, Bool.not_false, decide_eq_false_iff_not, decide_eq_true_eq, Int.not_le, Int.not_lt] at *); rw [Bool.eq_iff_iff]; simp [befP]; try omega)
theorem ref05_beforeV {x y x' y' : Int} {q : Bool} (h : befP x y x' y' = q) (s s' : Int) (w : World) : Calls Tryz.prog 79 #[.agg #[.int .i64 x, .int .i64 y, .int .i64 s], .agg #[.int .i64 x', .int .i64 y', .int .i64 s']] w fun e w' => e = .returned (.bool q) ∧ Below w.heap.size w w' := by
  rw [← h]; exact ref05_before x y s x' y' s' w
theorem ref05_order (a b : Int) (w : World) : Calls Tryz.prog 68 #[.int .i64 a, .int .i64 b] w fun e w' => e = .returned (.int .i64 (cmpI a b)) ∧ w = w' := by
  go_enter Tryz.func68, Tryz.ntmps68
  go_wp2
  all_goals (go_ret; exact ⟨ret_int (by unfold cmpI; (repeat' split) <;> omega), rfl⟩)
end Go.Proofs.YtfdihjjnlmhibaaGreat
end
section
namespace Go.Proofs.YtfdihjjnlmhibaaGreat
open Go Go.RowKit
set_option maxRecDepth 100000
attribute [local go_sem ↓ high] eq_cl neq_cl eq_pt neq_pt
theorem ord_bef {a b x y : Int} {q : Bool} (h : befP a b x y = q) : decide (0 ≤ cmpP a b x y) = !q := by rw [← h]; exact cmpP_bef a b x y
/-- The ways of one cell's test. -/
theorem okC_ways {l : List (Int × Int × Int)} {j : Nat} {x y s : Int} (hx : l[j]? = some (x, y, s)) :
    (validB x y = false ∧ okC l j = false) ∨ (validB x y = true ∧ s < 1 ∧ okC l j = false) ∨ (validB x y = true ∧ 1 ≤ s ∧ 8 ≤ s ∧ okC l j = false) ∨ (validB x y = true ∧ 1 ≤ s ∧ s ≤ 7 ∧ j = 0 ∧ okC l j = true) ∨
    (validB x y = true ∧ 1 ≤ s ∧ s ≤ 7 ∧ 0 < j ∧ ∃ a b c, l[j - 1]? = some (a, b, c) ∧ okC l j = befP a b x y) := by
  cases hv : validB x y with
  | false => exact .inl ⟨rfl, okC_place hx hv⟩
  | true =>
    by_cases h1 : s < 1
    · exact .inr (.inl ⟨rfl, h1, okC_state hx (.inl h1)⟩)
    · by_cases h2 : 8 ≤ s
      · exact .inr (.inr (.inl ⟨rfl, by omega, h2, okC_state hx (.inr (by omega))⟩))
      · rcases Nat.eq_zero_or_pos j with rfl | h0
        · exact .inr (.inr (.inr (.inl ⟨rfl, by omega, by omega, rfl, okC_first hx hv ⟨by omega, by omega⟩⟩)))
        · have hl := (List.getElem?_eq_some_iff.1 hx).1
          refine .inr (.inr (.inr (.inr ⟨rfl, by omega, by omega, h0, _, _, _, List.getElem?_eq_getElem (by omega), okC_next h0 hx (List.getElem?_eq_getElem (by omega)) hv ⟨by omega, by omega⟩⟩)))
set_option maxHeartbeats 2000000 in
theorem pat_Right (A : Option Addr) (n c : Nat) (l : List (Int × Int × Int)) (w : World) (hR : Rd encC 3 w A n l) (hn : n ≤ 9223372036854775807) :
    Calls Tryz.prog 38 #[.slice A n c] w fun e w' => e = .returned (.bool (rightC l)) ∧ Below w.heap.size w w' := by
  rcases Nat.lt_or_ge 5000 n with h5 | h5
  · have HV := Lib.hid (rightC_len hR.len h5)
    go_enter Tryz.func38, Tryz.ntmps38
    go_wp2
    go_ret
    exact ⟨ret_bool HV.out.symm, by (repeat' (first | exact Below.refl _ _ | assumption | (refine Below.alloc ?_ ?_ _) | (refine Below.setCell ?_ ?_ _) | (refine Below.drew ?_) | (refine below_drewN ?_ _) | (refine below_after (Ext.below _) ?_ ?_) | (refine below_after (by assumption) ?_ ?_) | (simp; done) | omega | (simp; omega)))⟩
  · go_enter Tryz.func38, Tryz.ntmps38
    go_wp2
    go_loopw [10] (fun i wr => ∃ j : Nat, j ≤ n ∧ i = .int .i64 j ∧ Below w.heap.size w wr ∧ Hid (∀ r, r < j → okC l r = true)) (fun i _ => n - (intOf i).toNat)
    case atStart => exact ⟨0, by omega, rfl, Below.refl _ _, fun r hr => absurd hr (by omega)⟩
    case round =>
      obtain ⟨j, hj, rfl, hb, hno⟩ := hrel
      obtain ⟨hc, hf⟩ := bcell hb
      have hs := hb.size
      by_cases hlt : j < n
      · obtain ⟨x, y, s, bo, o, hx, rfl, hbl, hcell, hcell2, hcell3⟩ := hR.cell hlt
        rcases okC_ways hx.out with ⟨hv, ho⟩ | ⟨hv, h1, ho⟩ | ⟨hv, h1, h2, ho⟩ | ⟨hv, h1, h2, hj0, ho⟩ | ⟨hv, h1, h2, h0, a, b, c', hp, ho⟩
        · have HB := Lib.hid (rightC_bad hR.len hlt ho)
          have kP := fun w1 => pat_placedV hv w1
          clear hv ho
          go_wp2
          (refine wp_region_ext_lit (by kernel_rfl) (by kernel_rfl) ?_; (repeat (go_big_quiet_step (first | (go_at_call 63; exact calls_ext (pat_at _ _ _ _)) | (go_at_call 62; exact calls_ext (kP _))))); refine wpQuiet_nil ?_; intro _ hw'; obtain ⟨z1, hw''⟩ := hw'; subst hw''; have hs1 := z1.size; obtain ⟨hc1, hf1⟩ := bcell z1.below; (try simp only [World.size_alloc, World.size_setCell, World.size_drew] at hc1 hf1); (try simp at hs1))
          go_wp2
          go_ret
          exact ⟨ret_bool HB.out.symm, by (repeat' (first | exact Below.refl _ _ | assumption | (refine Below.alloc ?_ ?_ _) | (refine Below.setCell ?_ ?_ _) | (refine Below.drew ?_) | (refine below_drewN ?_ _) | (refine below_after (Ext.below _) ?_ ?_) | (refine below_after (by assumption) ?_ ?_) | (simp; done) | omega | (simp; omega)))⟩
        · have HB := Lib.hid (rightC_bad hR.len hlt ho)
          have kP := fun w1 => pat_placedV hv w1
          have d1 : decide (s < 1) = true := decide_eq_true h1
          clear hv ho
          go_wp2
          (refine wp_region_ext_lit (by kernel_rfl) (by kernel_rfl) ?_; (repeat (go_big_quiet_step (first | (go_at_call 63; exact calls_ext (pat_at _ _ _ _)) | (go_at_call 62; exact calls_ext (kP _))))); refine wpQuiet_nil ?_; intro _ hw'; obtain ⟨z1, hw''⟩ := hw'; subst hw''; have hs1 := z1.size; obtain ⟨hc1, hf1⟩ := bcell z1.below; (try simp only [World.size_alloc, World.size_setCell, World.size_drew] at hc1 hf1); (try simp at hs1))
          go_wp2
          go_ret
          exact ⟨ret_bool HB.out.symm, by (repeat' (first | exact Below.refl _ _ | assumption | (refine Below.alloc ?_ ?_ _) | (refine Below.setCell ?_ ?_ _) | (refine Below.drew ?_) | (refine below_drewN ?_ _) | (refine below_after (Ext.below _) ?_ ?_) | (refine below_after (by assumption) ?_ ?_) | (simp; done) | omega | (simp; omega)))⟩
        · have HB := Lib.hid (rightC_bad hR.len hlt ho)
          have kP := fun w1 => pat_placedV hv w1
          have d1 : decide (s < 1) = false := decide_eq_false (by omega)
          have d2 : decide (8 ≤ s) = true := decide_eq_true h2
          clear hv ho
          go_wp2
          (refine wp_region_ext_lit (by kernel_rfl) (by kernel_rfl) ?_; (repeat (go_big_quiet_step (first | (go_at_call 63; exact calls_ext (pat_at _ _ _ _)) | (go_at_call 62; exact calls_ext (kP _))))); refine wpQuiet_nil ?_; intro _ hw'; obtain ⟨z1, hw''⟩ := hw'; subst hw''; have hs1 := z1.size; obtain ⟨hc1, hf1⟩ := bcell z1.below; (try simp only [World.size_alloc, World.size_setCell, World.size_drew] at hc1 hf1); (try simp at hs1))
          go_wp2
          go_ret
          exact ⟨ret_bool HB.out.symm, by (repeat' (first | exact Below.refl _ _ | assumption | (refine Below.alloc ?_ ?_ _) | (refine Below.setCell ?_ ?_ _) | (refine Below.drew ?_) | (refine below_drewN ?_ _) | (refine below_after (Ext.below _) ?_ ?_) | (refine below_after (by assumption) ?_ ?_) | (simp; done) | omega | (simp; omega)))⟩
        · have HO := Lib.hid ho
          have kP := fun w1 => pat_placedV hv w1
          have d1 : decide (s < 1) = false := decide_eq_false (by omega)
          have d2 : decide (8 ≤ s) = false := decide_eq_false (by omega)
          have d3 : decide ((0 : Int) < j) = false := decide_eq_false (by omega)
          have d3' : decide (0 < j) = false := decide_eq_false (by omega)
          clear hv ho hj0
          go_wp2
          (refine wp_region_ext_lit (by kernel_rfl) (by kernel_rfl) ?_; (repeat (go_big_quiet_step (first | (go_at_call 63; exact calls_ext (pat_at _ _ _ _)) | (go_at_call 62; exact calls_ext (kP _))))); refine wpQuiet_nil ?_; intro _ hw'; obtain ⟨z1, hw''⟩ := hw'; subst hw''; have hs1 := z1.size; obtain ⟨hc1, hf1⟩ := bcell z1.below; (try simp only [World.size_alloc, World.size_setCell, World.size_drew] at hc1 hf1); (try simp at hs1))
          go_wp2
          go_roundw
          case rel => exact ⟨j + 1, by omega, by go_num, (by (repeat' (first | exact Below.refl _ _ | assumption | (refine Below.alloc ?_ ?_ _) | (refine Below.setCell ?_ ?_ _) | (refine Below.drew ?_) | (refine below_drewN ?_ _) | (refine below_after (Ext.below _) ?_ ?_) | (refine below_after (by assumption) ?_ ?_) | (simp; done) | omega | (simp; omega)))), okC_step hno.out HO.out⟩
          case measure => simp [intOf]; omega
        · have kP := fun w1 => pat_placedV hv w1
          have d1 : decide (s < 1) = false := decide_eq_false (by omega)
          have d2 : decide (8 ≤ s) = false := decide_eq_false (by omega)
          have d3 : decide ((0 : Int) < j) = true := decide_eq_true (by omega)
          have d3' : decide (0 < j) = true := decide_eq_true (by omega)
          obtain ⟨a', b', c2, bo', o', hp', he, hbl', g1, g2, g3⟩ := hR.cell (i := j - 1) (by omega)
          obtain ⟨rfl, rfl⟩ : bo = bo' ∧ o = o' := by injection he with he; injection he with e1 e2; exact ⟨e1, e2⟩
          obtain ⟨rfl, rfl, rfl⟩ : a = a' ∧ b = b' ∧ c' = c2 := by have := hp'.out; rw [hp] at this; simpa using this
          have hkm : ((j : Int) - 1).toNat = j - 1 := by omega
          have hk0 : (0 : Int) ≤ (j : Int) - 1 := by omega
          have wk : IntKind.i64.wrap ((j : Int) - 1) = (j : Int) - 1 := IntWalk.i64_in _ (by omega)
          clear he hp hp' hv
          cases hq : befP a b x y with
          | false =>
            have HB := Lib.hid (rightC_bad hR.len hlt (ho.trans hq))
            have d4 : decide (0 ≤ cmpP a b x y) = true := ord_bef hq
            clear ho hq
            go_wp2
            (refine wp_region_ext_lit (by kernel_rfl) (by kernel_rfl) ?_; (repeat (go_big_quiet_step (first | (go_at_call 63; exact calls_ext (pat_at _ _ _ _)) | (go_at_call 62; exact calls_ext (kP _)) | (go_at_call 64; exact calls_ext (pat_order _ _ _ _ _ _ _))))); refine wpQuiet_nil ?_; intro _ hw'; obtain ⟨z1, hw''⟩ := hw'; subst hw''; have hs1 := z1.size; obtain ⟨hc1, hf1⟩ := bcell z1.below; (try simp only [World.size_alloc, World.size_setCell, World.size_drew] at hc1 hf1); (try simp at hs1))
            go_wp2
            go_ret
            exact ⟨ret_bool HB.out.symm, by (repeat' (first | exact Below.refl _ _ | assumption | (refine Below.alloc ?_ ?_ _) | (refine Below.setCell ?_ ?_ _) | (refine Below.drew ?_) | (refine below_drewN ?_ _) | (refine below_after (Ext.below _) ?_ ?_) | (refine below_after (by assumption) ?_ ?_) | (simp; done) | omega | (simp; omega)))⟩
          | true =>
            have HO := Lib.hid (ho.trans hq)
            have d4 : decide (0 ≤ cmpP a b x y) = false := ord_bef hq
            clear ho hq
            go_wp2
            (refine wp_region_ext_lit (by kernel_rfl) (by kernel_rfl) ?_; (repeat (go_big_quiet_step (first | (go_at_call 63; exact calls_ext (pat_at _ _ _ _)) | (go_at_call 62; exact calls_ext (kP _)) | (go_at_call 64; exact calls_ext (pat_order _ _ _ _ _ _ _))))); refine wpQuiet_nil ?_; intro _ hw'; obtain ⟨z1, hw''⟩ := hw'; subst hw''; have hs1 := z1.size; obtain ⟨hc1, hf1⟩ := bcell z1.below; (try simp only [World.size_alloc, World.size_setCell, World.size_drew] at hc1 hf1); (try simp at hs1))
            go_wp2
            go_roundw
            case rel => exact ⟨j + 1, by omega, by go_num, (by (repeat' (first | exact Below.refl _ _ | assumption | (refine Below.alloc ?_ ?_ _) | (refine Below.setCell ?_ ?_ _) | (refine Below.drew ?_) | (refine below_drewN ?_ _) | (refine below_after (Ext.below _) ?_ ?_) | (refine below_after (by assumption) ?_ ?_) | (simp; done) | omega | (simp; omega)))), okC_step hno.out HO.out⟩
            case measure => simp [intOf]; omega
      · obtain rfl : j = n := by omega
        go_wp2
        go_ret
        exact ⟨ret_bool (rightC_all hR.len h5 hno.out).symm, by (repeat' (first | exact Below.refl _ _ | assumption | (refine Below.alloc ?_ ?_ _) | (refine Below.setCell ?_ ?_ _) | (refine Below.drew ?_) | (refine below_drewN ?_ _) | (refine below_after (Ext.below _) ?_ ?_) | (refine below_after (by assumption) ?_ ?_) | (simp; done) | omega | (simp; omega)))⟩
end Go.Proofs.YtfdihjjnlmhibaaGreat
end
section
namespace Go.Proofs.YtfdihjjnlmhibaaGreat
open Go Go.RowKit
set_option maxRecDepth 100000
attribute [local go_sem ↓ high] eq_cl neq_cl eq_pt neq_pt
set_option maxHeartbeats 2000000 in
theorem ref05_Right (A : Option Addr) (n c : Nat) (l : List (Int × Int × Int)) (w : World) (hR : Rd encC 3 w A n l) (hn : n ≤ 9223372036854775807) :
    Calls Tryz.prog 55 #[.slice A n c] w fun e w' => e = .returned (.bool (rightC l)) ∧ Below w.heap.size w w' := by
  go_enter Tryz.func55, Tryz.ntmps55
  go_wp2
  go_loopw [3] (fun i wr => ∃ j : Nat, j ≤ n ∧ i = .int .i64 j ∧ Below w.heap.size w wr ∧ Hid (∀ r, r < j → okC l r = true)) (fun i _ => n - (intOf i).toNat)
  case atStart => exact ⟨0, by omega, rfl, Below.refl _ _, fun r hr => absurd hr (by omega)⟩
  case round =>
    obtain ⟨j, hj, rfl, hb, hno⟩ := hrel
    obtain ⟨hc, hf⟩ := bcell hb
    have hs := hb.size
    by_cases hlt : j < n
    · obtain ⟨x, y, s, bo, o, hx, rfl, hbl, hcell, hcell2, hcell3⟩ := hR.cell hlt
      rcases okC_ways hx.out with ⟨hv, ho⟩ | ⟨hv, h1, ho⟩ | ⟨hv, h1, h2, ho⟩ | ⟨hv, h1, h2, hj0, ho⟩ | ⟨hv, h1, h2, h0, a, b, c', hp, ho⟩
      · have HB := Lib.hid (rightC_bad hR.len hlt ho)
        have kP := fun w1 => ref05_PlaceV hv w1
        clear hv ho
        go_wp2
        (refine wp_region_ext_lit (by kernel_rfl) (by kernel_rfl) ?_; (repeat (go_big_quiet_step ((go_at_call 78; exact calls_ext_same (kP _))))); refine wpQuiet_nil ?_; intro _ hw'; obtain ⟨z1, hw''⟩ := hw'; subst hw''; have hs1 := z1.size; obtain ⟨hc1, hf1⟩ := bcell z1.below; (try simp only [World.size_alloc, World.size_setCell, World.size_drew] at hc1 hf1); (try simp at hs1))
        go_wp2
        go_ret
        exact ⟨ret_bool HB.out.symm, by (repeat' (first | exact Below.refl _ _ | assumption | (refine Below.alloc ?_ ?_ _) | (refine Below.setCell ?_ ?_ _) | (refine Below.drew ?_) | (refine below_drewN ?_ _) | (refine below_after (Ext.below _) ?_ ?_) | (refine below_after (by assumption) ?_ ?_) | (simp; done) | omega | (simp; omega)))⟩
      · have HB := Lib.hid (rightC_bad hR.len hlt ho)
        have kP := fun w1 => ref05_PlaceV hv w1
        have d1 : decide (s < 1) = true := decide_eq_true h1
        clear hv ho
        go_wp2
        (refine wp_region_ext_lit (by kernel_rfl) (by kernel_rfl) ?_; (repeat (go_big_quiet_step ((go_at_call 78; exact calls_ext_same (kP _))))); refine wpQuiet_nil ?_; intro _ hw'; obtain ⟨z1, hw''⟩ := hw'; subst hw''; have hs1 := z1.size; obtain ⟨hc1, hf1⟩ := bcell z1.below; (try simp only [World.size_alloc, World.size_setCell, World.size_drew] at hc1 hf1); (try simp at hs1))
        go_wp2
        go_ret
        exact ⟨ret_bool HB.out.symm, by (repeat' (first | exact Below.refl _ _ | assumption | (refine Below.alloc ?_ ?_ _) | (refine Below.setCell ?_ ?_ _) | (refine Below.drew ?_) | (refine below_drewN ?_ _) | (refine below_after (Ext.below _) ?_ ?_) | (refine below_after (by assumption) ?_ ?_) | (simp; done) | omega | (simp; omega)))⟩
      · have HB := Lib.hid (rightC_bad hR.len hlt ho)
        have kP := fun w1 => ref05_PlaceV hv w1
        have d1 : decide (s < 1) = false := decide_eq_false (by omega)
        have d2 : decide (8 ≤ s) = true := decide_eq_true h2
        clear hv ho
        go_wp2
        (refine wp_region_ext_lit (by kernel_rfl) (by kernel_rfl) ?_; (repeat (go_big_quiet_step ((go_at_call 78; exact calls_ext_same (kP _))))); refine wpQuiet_nil ?_; intro _ hw'; obtain ⟨z1, hw''⟩ := hw'; subst hw''; have hs1 := z1.size; obtain ⟨hc1, hf1⟩ := bcell z1.below; (try simp only [World.size_alloc, World.size_setCell, World.size_drew] at hc1 hf1); (try simp at hs1))
        go_wp2
        go_ret
        exact ⟨ret_bool HB.out.symm, by (repeat' (first | exact Below.refl _ _ | assumption | (refine Below.alloc ?_ ?_ _) | (refine Below.setCell ?_ ?_ _) | (refine Below.drew ?_) | (refine below_drewN ?_ _) | (refine below_after (Ext.below _) ?_ ?_) | (refine below_after (by assumption) ?_ ?_) | (simp; done) | omega | (simp; omega)))⟩
      · have HO := Lib.hid ho
        have kP := fun w1 => ref05_PlaceV hv w1
        have d1 : decide (s < 1) = false := decide_eq_false (by omega)
        have d2 : decide (8 ≤ s) = false := decide_eq_false (by omega)
        have d3 : decide ((0 : Int) < j) = false := decide_eq_false (by omega)
        have d3' : decide (0 < j) = false := decide_eq_false (by omega)
        clear hv ho hj0
        go_wp2
        (refine wp_region_ext_lit (by kernel_rfl) (by kernel_rfl) ?_; (repeat (go_big_quiet_step ((go_at_call 78; exact calls_ext_same (kP _))))); refine wpQuiet_nil ?_; intro _ hw'; obtain ⟨z1, hw''⟩ := hw'; subst hw''; have hs1 := z1.size; obtain ⟨hc1, hf1⟩ := bcell z1.below; (try simp only [World.size_alloc, World.size_setCell, World.size_drew] at hc1 hf1); (try simp at hs1))
        go_wp2
        go_roundw
        case rel => exact ⟨j + 1, by omega, by go_num, (by (repeat' (first | exact Below.refl _ _ | assumption | (refine Below.alloc ?_ ?_ _) | (refine Below.setCell ?_ ?_ _) | (refine Below.drew ?_) | (refine below_drewN ?_ _) | (refine below_after (Ext.below _) ?_ ?_) | (refine below_after (by assumption) ?_ ?_) | (simp; done) | omega | (simp; omega)))), okC_step hno.out HO.out⟩
        case measure => simp [intOf]; omega
      · have kP := fun w1 => ref05_PlaceV hv w1
        have d1 : decide (s < 1) = false := decide_eq_false (by omega)
        have d2 : decide (8 ≤ s) = false := decide_eq_false (by omega)
        have d3 : decide ((0 : Int) < j) = true := decide_eq_true (by omega)
        have d3' : decide (0 < j) = true := decide_eq_true (by omega)
        obtain ⟨a', b', c2, bo', o', hp', he, hbl', g1, g2, g3⟩ := hR.cell (i := j - 1) (by omega)
        obtain ⟨rfl, rfl⟩ : bo = bo' ∧ o = o' := by injection he with he; injection he with e1 e2; exact ⟨e1, e2⟩
        obtain ⟨rfl, rfl, rfl⟩ : a = a' ∧ b = b' ∧ c' = c2 := by have := hp'.out; rw [hp] at this; simpa using this
        have hkm : ((j : Int) - 1).toNat = j - 1 := by omega
        have hk0 : (0 : Int) ≤ (j : Int) - 1 := by omega
        have wk : IntKind.i64.wrap ((j : Int) - 1) = (j : Int) - 1 := IntWalk.i64_in _ (by omega)
        clear he hp hp' hv
        cases hq : befP a b x y with
        | false =>
          have HB := Lib.hid (rightC_bad hR.len hlt (ho.trans hq))
          have kB := fun s s1 w1 => ref05_beforeV hq s s1 w1
          clear ho hq
          go_wp2
          (refine wp_region_ext_lit (by kernel_rfl) (by kernel_rfl) ?_; (repeat (go_big_quiet_step (first | (go_at_call 78; exact calls_ext_same (kP _)) | (go_at_call 79; exact calls_ext (kB _ _ _))))); refine wpQuiet_nil ?_; intro _ hw'; obtain ⟨z1, hw''⟩ := hw'; subst hw''; have hs1 := z1.size; obtain ⟨hc1, hf1⟩ := bcell z1.below; (try simp only [World.size_alloc, World.size_setCell, World.size_drew] at hc1 hf1); (try simp at hs1))
          go_wp2
          go_ret
          exact ⟨ret_bool HB.out.symm, by (repeat' (first | exact Below.refl _ _ | assumption | (refine Below.alloc ?_ ?_ _) | (refine Below.setCell ?_ ?_ _) | (refine Below.drew ?_) | (refine below_drewN ?_ _) | (refine below_after (Ext.below _) ?_ ?_) | (refine below_after (by assumption) ?_ ?_) | (simp; done) | omega | (simp; omega)))⟩
        | true =>
          have HO := Lib.hid (ho.trans hq)
          have kB := fun s s1 w1 => ref05_beforeV hq s s1 w1
          clear ho hq
          go_wp2
          (refine wp_region_ext_lit (by kernel_rfl) (by kernel_rfl) ?_; (repeat (go_big_quiet_step (first | (go_at_call 78; exact calls_ext_same (kP _)) | (go_at_call 79; exact calls_ext (kB _ _ _))))); refine wpQuiet_nil ?_; intro _ hw'; obtain ⟨z1, hw''⟩ := hw'; subst hw''; have hs1 := z1.size; obtain ⟨hc1, hf1⟩ := bcell z1.below; (try simp only [World.size_alloc, World.size_setCell, World.size_drew] at hc1 hf1); (try simp at hs1))
          go_wp2
          go_roundw
          case rel => exact ⟨j + 1, by omega, by go_num, (by (repeat' (first | exact Below.refl _ _ | assumption | (refine Below.alloc ?_ ?_ _) | (refine Below.setCell ?_ ?_ _) | (refine Below.drew ?_) | (refine below_drewN ?_ _) | (refine below_after (Ext.below _) ?_ ?_) | (refine below_after (by assumption) ?_ ?_) | (simp; done) | omega | (simp; omega)))), okC_step hno.out HO.out⟩
          case measure => simp [intOf]; omega
    · obtain rfl : j = n := by omega
      have HV : Hid (decide ((j : Int) ≤ 5000) = rightC l) := by
        show _ = _
        by_cases h5 : j ≤ 5000
        · rw [rightC_all hR.len h5 hno.out]; exact decide_eq_true (by omega)
        · rw [rightC_len hR.len (by omega)]; exact decide_eq_false (by omega)
      go_wp2
      go_ret
      exact ⟨ret_bool HV.out, by (repeat' (first | exact Below.refl _ _ | assumption | (refine Below.alloc ?_ ?_ _) | (refine Below.setCell ?_ ?_ _) | (refine Below.drew ?_) | (refine below_drewN ?_ _) | (refine below_after (Ext.below _) ?_ ?_) | (refine below_after (by assumption) ?_ ?_) | (simp; done) | omega | (simp; omega)))⟩
set_option maxHeartbeats 1000000 in
theorem ref05_Get (A : Option Addr) (n c : Nat) (l : List (Int × Int × Int)) (x y : Int) (w : World) (hR : Rd encC 3 w A n l) (hn : n ≤ 1000000) :
    Calls Tryz.prog 81 #[.slice A n c, .int .i64 x, .int .i64 y] w fun e w' => e = .returned (.int .i64 (getC l x y)) ∧ Below w.heap.size w w' := by
  go_enter Tryz.func81, Tryz.ntmps81
  go_wp2
  go_loopw [7] (fun i wr => ∃ j : Nat, j ≤ n ∧ i = .int .i64 j ∧ Below w.heap.size w wr ∧ Hid (∀ r a b c, r < j → l[r]? = some (a, b, c) → ¬(a = x ∧ b = y))) (fun i _ => n - (intOf i).toNat)
  case atStart => exact ⟨0, by omega, rfl, Below.refl _ _, fun r a b c hr => absurd hr (by omega)⟩
  case round =>
    obtain ⟨j, hj, rfl, hb, hno⟩ := hrel
    obtain ⟨hc, hf⟩ := bcell hb
    have hs := hb.size
    by_cases hlt : j < n
    · obtain ⟨x', y', s', bo, o, hx, rfl, hbl, hcell, hcell2, hcell3⟩ := hR.cell hlt
      by_cases h1 : x' = x
      · by_cases h2 : y' = y
        · subst h1 h2
          have HV := Lib.hid (getC_found hno.out hx.out)
          go_wp2
          go_ret
          exact ⟨ret_int HV.out.symm, by (repeat' (first | exact Below.refl _ _ | assumption | (refine Below.alloc ?_ ?_ _) | (refine Below.setCell ?_ ?_ _) | (refine Below.drew ?_) | (refine below_drewN ?_ _) | (refine below_after (Ext.below _) ?_ ?_) | (refine below_after (by assumption) ?_ ?_) | (simp; done) | omega | (simp; omega)))⟩
        · have d1 : (x' == x) = true := by simp [h1]
          have d2 : (y' == y) = false := by simpa using h2
          have HN : Hid (∀ r a b c, r < j + 1 → l[r]? = some (a, b, c) → ¬(a = x ∧ b = y)) := by
            intro r a b c hr hy
            by_cases e : r = j
            · rw [e, hx.out] at hy; cases hy; exact fun h => h2 h.2
            · exact hno.out r a b c (by omega) hy
          clear h1 h2
          go_wp2
          go_roundw
          case rel => exact ⟨j + 1, by omega, by go_num, (by (repeat' (first | exact Below.refl _ _ | assumption | (refine Below.alloc ?_ ?_ _) | (refine Below.setCell ?_ ?_ _) | (refine Below.drew ?_) | (refine below_drewN ?_ _) | (refine below_after (Ext.below _) ?_ ?_) | (refine below_after (by assumption) ?_ ?_) | (simp; done) | omega | (simp; omega)))), HN.out⟩
          case measure => simp [intOf]; omega
      · have d1 : (x' == x) = false := by simpa using h1
        have HN : Hid (∀ r a b c, r < j + 1 → l[r]? = some (a, b, c) → ¬(a = x ∧ b = y)) := by
          intro r a b c hr hy
          by_cases e : r = j
          · rw [e, hx.out] at hy; cases hy; exact fun h => h1 h.1
          · exact hno.out r a b c (by omega) hy
        clear h1
        go_wp2
        go_roundw
        case rel => exact ⟨j + 1, by omega, by go_num, (by (repeat' (first | exact Below.refl _ _ | assumption | (refine Below.alloc ?_ ?_ _) | (refine Below.setCell ?_ ?_ _) | (refine Below.drew ?_) | (refine below_drewN ?_ _) | (refine below_after (Ext.below _) ?_ ?_) | (refine below_after (by assumption) ?_ ?_) | (simp; done) | omega | (simp; omega)))), HN.out⟩
        case measure => simp [intOf]; omega
    · obtain rfl : j = n := by omega
      have HV := Lib.hid (getC_none (l := l) (x := x) (y := y) (fun r a b c h => hno.out r a b c (by have := (List.getElem?_eq_some_iff.1 h).1; rw [hR.len] at this; exact this) h))
      go_wp2
      go_ret
      exact ⟨ret_int HV.out.symm, by (repeat' (first | exact Below.refl _ _ | assumption | (refine Below.alloc ?_ ?_ _) | (refine Below.setCell ?_ ?_ _) | (refine Below.drew ?_) | (refine below_drewN ?_ _) | (refine below_after (Ext.below _) ?_ ?_) | (refine below_after (by assumption) ?_ ?_) | (simp; done) | omega | (simp; omega)))⟩
set_option maxHeartbeats 1000000 in
theorem pat_Top (A : Option Addr) (n c : Nat) (l : List (Int × Int × Int)) (w : World) (hR : Rd encC 3 w A n l) (hn : n ≤ 1000000) :
    Calls Tryz.prog 24 #[.slice A n c] w fun e w' => e = .returned (.int .i64 (topC l)) ∧ Below w.heap.size w w' := by
  go_enter Tryz.func24, Tryz.ntmps24
  go_wp2
  go_loopw [3, 7] (fun v i wr => ∃ j : Nat, v = .int .i64 (topC (l.take j)) ∧ j ≤ n ∧ i = .int .i64 j ∧ Below w.heap.size w wr) (fun _ i _ => n - (intOf i).toNat)
  case atStart => exact ⟨0, rfl, by omega, rfl, Below.refl _ _⟩
  case round =>
    obtain ⟨j, rfl, hj, rfl, hb⟩ := hrel
    obtain ⟨hc, hf⟩ := bcell hb
    have hs := hb.size
    by_cases hlt : j < n
    · obtain ⟨x', y', s', bo, o, hx, rfl, hbl, hcell, hcell2, hcell3⟩ := hR.cell hlt
      have hst := Lib.hid (topC_step hx.out)
      generalize topC (l.take j) = m at hst ⊢
      go_wp2
      go_roundw
      case rel => exact ⟨j + 1, by rw [hst.out], by omega, by go_num, by (repeat' (first | exact Below.refl _ _ | assumption | (refine Below.alloc ?_ ?_ _) | (refine Below.setCell ?_ ?_ _) | (refine Below.drew ?_) | (refine below_drewN ?_ _) | (refine below_after (Ext.below _) ?_ ?_) | (refine below_after (by assumption) ?_ ?_) | (simp; done) | omega | (simp; omega)))⟩
      case measure => simp [intOf]; omega
    · obtain rfl : j = n := by omega
      have ht := Lib.hid (show l.take j = l from List.take_of_length_le (by rw [hR.len]; omega))
      go_wp2
      go_ret
      exact ⟨ret_int (by rw [ht.out]), hb⟩
set_option maxHeartbeats 1000000 in
theorem ref05_Top (A : Option Addr) (n c : Nat) (l : List (Int × Int × Int)) (w : World) (hR : Rd encC 3 w A n l) (hn : n ≤ 1000000) :
    Calls Tryz.prog 29 #[.slice A n c] w fun e w' => e = .returned (.int .i64 (topC l)) ∧ Below w.heap.size w w' := by
  go_enter Tryz.func29, Tryz.ntmps29
  go_wp2
  go_loopw [3, 4] (fun v i wr => ∃ j : Nat, v = .int .i64 (topC (l.take j)) ∧ j ≤ n ∧ i = .int .i64 j ∧ Below w.heap.size w wr) (fun _ i _ => n - (intOf i).toNat)
  case atStart => exact ⟨0, rfl, by omega, rfl, Below.refl _ _⟩
  case round =>
    obtain ⟨j, rfl, hj, rfl, hb⟩ := hrel
    obtain ⟨hc, hf⟩ := bcell hb
    have hs := hb.size
    by_cases hlt : j < n
    · obtain ⟨x', y', s', bo, o, hx, rfl, hbl, hcell, hcell2, hcell3⟩ := hR.cell hlt
      have hst := Lib.hid (topC_step hx.out)
      generalize topC (l.take j) = m at hst ⊢
      go_wp2
      go_roundw
      case rel => exact ⟨j + 1, by rw [hst.out], by omega, by go_num, by (repeat' (first | exact Below.refl _ _ | assumption | (refine Below.alloc ?_ ?_ _) | (refine Below.setCell ?_ ?_ _) | (refine Below.drew ?_) | (refine below_drewN ?_ _) | (refine below_after (Ext.below _) ?_ ?_) | (refine below_after (by assumption) ?_ ?_) | (simp; done) | omega | (simp; omega)))⟩
      case measure => simp [intOf]; omega
    · obtain rfl : j = n := by omega
      have ht := Lib.hid (show l.take j = l from List.take_of_length_le (by rw [hR.len]; omega))
      go_wp2
      go_ret
      exact ⟨ret_int (by rw [ht.out]), hb⟩
end Go.Proofs.YtfdihjjnlmhibaaGreat
end
section
namespace Go.Proofs.YtfdihjjnlmhibaaGreat
open Go Go.RowKit
set_option maxRecDepth 100000
set_option maxHeartbeats 400000 in
theorem ref_Valid (x y : Int) (w : World) : Calls Tryz.prog 97 #[.agg #[.int .i64 x, .int .i64 y]] w fun e w' => e = .returned (.bool (decide (-1048576 ≤ x ∧ x ≤ 1048576 ∧ -1048576 ≤ y ∧ y ≤ 1048576))) ∧ Below w.heap.size w w' := by
  go_enter Tryz.func97, Tryz.ntmps97
  go_wp2
  all_goals (go_ret; refine ⟨ret_bool ?_, by (repeat' (first | exact Below.refl _ _ | assumption | (refine Below.alloc ?_ ?_ _) | (refine Below.setCell ?_ ?_ _) | (refine Below.drew ?_) | (refine below_drewN ?_ _) | (refine below_after (Ext.below _) ?_ ?_) | (refine below_after (by assumption) ?_ ?_) | (simp; done) | omega | (simp; omega)))⟩; rw [Bool.eq_iff_iff]; simp; try omega)
end Go.Proofs.YtfdihjjnlmhibaaGreat
end
section
namespace Go.Proofs.YtfdihjjnlmhibaaGreat
open Go Go.RowKit
set_option maxRecDepth 100000
def Sm (n : Int) : Prop := -1000000000 ≤ n ∧ n ≤ 1000000000
end Go.Proofs.YtfdihjjnlmhibaaGreat
end
section
namespace Go.Proofs.YtfdihjjnlmhibaaGreat
open Go Go.RowKit
set_option maxRecDepth 100000
noncomputable def arVal (l : List (Int × Int)) : Value := .tuple #[.agg #[.int .i64 (arX l), .int .i64 (arY l), .int .i64 (arW l), .int .i64 (arH l)], .bool (arOk l)]
theorem arVal_no {l : List (Int × Int)} (h : arOk l = false) : Ending.returned (.tuple #[.agg #[.int .i64 0, .int .i64 0, .int .i64 0, .int .i64 0], .bool false]) = .returned (arVal l) := by
  unfold arVal arX arY arW arH; rw [h]; rfl
theorem arVal_yes {l : List (Int × Int)} {fx fy x y z u : Int} (h : arOk l = true) (h1 : fstX l = fx) (h2 : fstY l = fy) (e : x = loX l fx ∧ y = loY l fy ∧ z = hiX l fx - loX l fx + 1 ∧ u = hiY l fy - loY l fy + 1) : Ending.returned (.tuple #[.agg #[.int .i64 x, .int .i64 y, .int .i64 z, .int .i64 u], .bool true]) = .returned (arVal l) := by
  obtain ⟨rfl, rfl, rfl, rfl⟩ := e
  subst h1 h2
  unfold arVal arX arY arW arH ifB; rw [h]; rfl
def okTo (l : List (Int × Int)) (j : Nat) : Prop := ∀ i x y, i < j → l[i]? = some (x, y) → validB x y = true
theorem okTo_bound {l : List (Int × Int)} {n : Nat} {fx fy : Int} (hl : l.length = n) (h0 : l[0]? = some (fx, fy)) (hn : 0 < n) (h : okTo l n) : (Sm (loX l fx) ∧ Sm (loY l fy) ∧ Sm (hiX l fx) ∧ Sm (hiY l fy)) := by
  have hall : ∀ p, p ∈ l → Pt p.1 p.2 := fun p hp => by
    obtain ⟨i, hi, e⟩ := List.getElem_of_mem hp
    exact validB_iff.1 (h i p.1 p.2 (by omega) (by rw [List.getElem?_eq_getElem hi, e]))
  have hf := validB_iff.1 (h 0 fx fy hn h0)
  unfold Pt at hf
  have b1 := lo_bound l fx hall (by omega)
  have b2 := lo_bound l fy hall (by omega)
  unfold Sm
  refine ⟨?_, ?_, ?_, ?_⟩ <;> omega
end Go.Proofs.YtfdihjjnlmhibaaGreat
end
section
namespace Go.Proofs.YtfdihjjnlmhibaaGreat
open Go Go.RowKit
set_option maxRecDepth 100000
attribute [local go_sem ↓ high] eq_cl neq_cl eq_pt neq_pt
def posC (l : List (Int × Int × Int)) : List (Int × Int) := l.map fun c => (c.1, c.2.1)
theorem posC_get {l : List (Int × Int × Int)} {j : Nat} {x y s : Int} (h : l[j]? = some (x, y, s)) : (posC l)[j]? = some (x, y) := by unfold posC; rw [List.getElem?_map, h]; rfl
theorem posC_len (l : List (Int × Int × Int)) : (posC l).length = l.length := by unfold posC; simp
def bxPos (l : List (Int × Int × Int)) : List (Int × Int) := if rightC l = true then posC l else []
noncomputable def bxVal (l : List (Int × Int × Int)) : Value := arVal (bxPos l)
theorem bxVal_no {l : List (Int × Int × Int)} (h : l.length = 0 ∨ rightC l = false) : Ending.returned (.tuple #[.agg #[.int .i64 0, .int .i64 0, .int .i64 0, .int .i64 0], .bool false]) = .returned (bxVal l) := by
  refine arVal_no ?_
  unfold bxPos
  split
  · rcases h with h | h
    · obtain rfl : l = [] := List.length_eq_zero_iff.1 h
      rfl
    · rename_i h2; rw [h] at h2; cases h2
  · rfl
theorem arOk_right {l : List (Int × Int × Int)} (h : rightC l = true) (h0 : 0 < l.length) : arOk (posC l) = true := by
  refine arOk_all (posC_len l) h0 fun j x y hj hx => ?_
  unfold posC at hx
  rw [List.getElem?_map] at hx
  cases hq : l[j]? with
  | none => rw [hq] at hx; cases hx
  | some c =>
    rw [hq] at hx
    obtain ⟨a, b, s⟩ := c
    simp only [Option.map_some, Option.some.injEq, Prod.mk.injEq] at hx
    obtain ⟨rfl, rfl⟩ := hx
    exact validB_iff.2 (rightC_elem h hq).1
theorem bxVal_yes {l : List (Int × Int × Int)} {fx fy s x y z u : Int} (h : rightC l = true) (h0 : l[0]? = some (fx, fy, s)) (e : x = loX (posC l) fx ∧ y = loY (posC l) fy ∧ z = hiX (posC l) fx - loX (posC l) fx + 1 ∧ u = hiY (posC l) fy - loY (posC l) fy + 1) :
    Ending.returned (.tuple #[.agg #[.int .i64 x, .int .i64 y, .int .i64 z, .int .i64 u], .bool true]) = .returned (bxVal l) := by
  have hl := (List.getElem?_eq_some_iff.1 h0).1
  have hf := fst_of (posC_get h0)
  unfold bxVal bxPos
  rw [if_pos h]
  exact arVal_yes (arOk_right h hl) hf.1 hf.2 e
theorem bound_right {l : List (Int × Int × Int)} {fx fy s : Int} (h : rightC l = true) (h0 : l[0]? = some (fx, fy, s)) : Sm (loX (posC l) fx) ∧ Sm (loY (posC l) fy) ∧ Sm (hiX (posC l) fx) ∧ Sm (hiY (posC l) fy) := by
  have hl := (List.getElem?_eq_some_iff.1 h0).1
  refine okTo_bound (posC_len l) (posC_get h0) hl fun j x y hj hx => ?_
  unfold posC at hx
  rw [List.getElem?_map] at hx
  cases hq : l[j]? with
  | none => rw [hq] at hx; cases hx
  | some c =>
    rw [hq] at hx
    obtain ⟨a, b, s⟩ := c
    simp only [Option.map_some, Option.some.injEq, Prod.mk.injEq] at hx
    obtain ⟨rfl, rfl⟩ := hx
    exact validB_iff.2 (rightC_elem h hq).1
theorem ref05_RightV {A : Option Addr} {n c : Nat} {l : List (Int × Int × Int)} {q : Bool} (h : rightC l = q) (w : World) (hR : Rd encC 3 w A n l) (hn : n ≤ 9223372036854775807) : Calls Tryz.prog 55 #[.slice A n c] w fun e w' => e = .returned (.bool q) ∧ Below w.heap.size w w' := by
  rw [← h]; exact ref05_Right A n c l w hR hn
set_option maxHeartbeats 2000000 in
theorem ref05_Box (A : Option Addr) (n c : Nat) (l : List (Int × Int × Int)) (w : World) (hR : Rd encC 3 w A n l) (hn : n ≤ 1000000) :
    Calls Tryz.prog 120 #[.slice A n c] w fun e w' => e = .returned (bxVal l) ∧ Below w.heap.size w w' := by
  by_cases hz : n = 0
  · have HV := Lib.hid (bxVal_no (l := l) (.inl (by rw [hR.len]; exact hz)))
    have hdz : ((n : Int) == 0) = true := by simp [hz]
    clear hz
    go_enter Tryz.func120, Tryz.ntmps120
    go_wp2
    refine bodyPost_ret (v := .tuple #[.agg #[.int .i64 0, .int .i64 0, .int .i64 0, .int .i64 0], .bool false]) (by simp [results, Tryz.results120, go_sem, *, ↓IntWalk.iteOmega]) rfl ?_
    exact ⟨HV.out, by (repeat' (first | exact Below.refl _ _ | assumption | (refine Below.alloc ?_ ?_ _) | (refine Below.setCell ?_ ?_ _) | (refine Below.drew ?_) | (refine below_drewN ?_ _) | (refine below_after (Ext.below _) ?_ ?_) | (refine below_after (by assumption) ?_ ?_) | (simp; done) | omega | (simp; omega)))⟩
  · have hdz : ((n : Int) == 0) = false := by simp; omega
    have hz' : 0 < n := by omega
    clear hz
    cases hr : rightC l with
    | false =>
      have HV := Lib.hid (bxVal_no (.inr hr))
      have kR := fun w1 a => ref05_RightV (A := A) (n := n) (c := c) hr w1 a (by omega)
      clear hr
      go_enter Tryz.func120, Tryz.ntmps120
      go_wp2_with fail
      (go_at_call 55; refine (kR _ (hR.of (by (repeat' (first | exact Below.refl _ _ | assumption | (refine Below.alloc ?_ ?_ _) | (refine Below.setCell ?_ ?_ _) | (refine Below.drew ?_) | (refine below_drewN ?_ _) | (refine below_after (Ext.below _) ?_ ?_) | (refine below_after (by assumption) ?_ ?_) | (simp; done) | omega | (simp; omega)))))).mono ?_; rintro e w1 ⟨rfl, hb1⟩; obtain ⟨hc1, hf1⟩ := bcell hb1; have hs1 := hb1.size; (try simp only [World.size_alloc, World.size_setCell, World.size_drew] at hc1 hf1); (try simp at hs1))
      go_wp2_with fail
      refine bodyPost_ret (v := .tuple #[.agg #[.int .i64 0, .int .i64 0, .int .i64 0, .int .i64 0], .bool false]) (by simp [results, Tryz.results120, go_sem, *, ↓IntWalk.iteOmega]) rfl ?_
      exact ⟨HV.out, by (repeat' (first | exact Below.refl _ _ | assumption | (refine Below.alloc ?_ ?_ _) | (refine Below.setCell ?_ ?_ _) | (refine Below.drew ?_) | (refine below_drewN ?_ _) | (refine below_after (Ext.below _) ?_ ?_) | (refine below_after (by assumption) ?_ ?_) | (simp; done) | omega | (simp; omega)))⟩
    | true =>
      have HR := Lib.hid hr
      have kR := fun w1 a => ref05_RightV (A := A) (n := n) (c := c) hr w1 a (by omega)
      obtain ⟨fx, fy, fs, b0, o0, hx0, rfl, hbl0, hcell0, hcell0', hcell0''⟩ := hR.cell (i := 0) (by omega)
      rw [Nat.zero_mul, Nat.add_zero] at hcell0 hcell0' hcell0''
      clear hr
      go_enter Tryz.func120, Tryz.ntmps120
      go_wp2_with fail
      (go_at_call 55; refine (kR _ (hR.of (by (repeat' (first | exact Below.refl _ _ | assumption | (refine Below.alloc ?_ ?_ _) | (refine Below.setCell ?_ ?_ _) | (refine Below.drew ?_) | (refine below_drewN ?_ _) | (refine below_after (Ext.below _) ?_ ?_) | (refine below_after (by assumption) ?_ ?_) | (simp; done) | omega | (simp; omega)))))).mono ?_; rintro e w1 ⟨rfl, hb1⟩; obtain ⟨hc1, hf1⟩ := bcell hb1; have hs1 := hb1.size; (try simp only [World.size_alloc, World.size_setCell, World.size_drew] at hc1 hf1); (try simp at hs1))
      clear kR
      go_wp2
      (refine wp_region_ext_lit (by kernel_rfl) (by kernel_rfl) ?_; (repeat (go_big_quiet_step (fail))); refine wpQuiet_nil ?_; intro _ hw'; obtain ⟨z2, hw''⟩ := hw'; subst hw''; have hs2 := z2.size; obtain ⟨hc2, hf2⟩ := bcell z2.below; (try simp only [World.size_alloc, World.size_setCell, World.size_drew] at hc2 hf2); (try simp at hs2))
      go_wp2
      go_loopw [4, 5, 6, 7, 8] (fun a1 a2 a3 a4 i wr => ∃ j : Nat, a1 = .int .i64 (loX ((posC l).take j) fx) ∧ a2 = .int .i64 (loY ((posC l).take j) fy) ∧ a3 = .int .i64 (hiX ((posC l).take j) fx) ∧ a4 = .int .i64 (hiY ((posC l).take j) fy) ∧ i = .int .i64 j ∧ j ≤ n ∧ Below (w.heap.size + 1) (w.alloc (.cells #[.int .i64 0, .int .i64 0, .int .i64 0, .int .i64 0] 129)) wr) (fun _ _ _ _ i _ => n - (intOf i).toNat)
      case atStart => exact ⟨0, rfl, rfl, rfl, rfl, rfl, by omega, by (repeat' (first | exact Below.refl _ _ | assumption | (refine Below.alloc ?_ ?_ _) | (refine Below.setCell ?_ ?_ _) | (refine Below.drew ?_) | (refine below_drewN ?_ _) | (refine below_after (Ext.below _) ?_ ?_) | (refine below_after (by assumption) ?_ ?_) | (simp; done) | omega | (simp; omega)))⟩
      case round =>
        obtain ⟨j, rfl, rfl, rfl, rfl, rfl, hj, hb⟩ := hrel
        obtain ⟨hc, hf⟩ := bcell hb
        have hs := hb.size
        (try simp only [World.size_alloc] at hs)
        by_cases hlt : j < n
        · obtain ⟨px, py, ps, bo, o, hx, he, hbl, hcell, hcell', hcell''⟩ := hR.cell hlt
          obtain ⟨rfl, rfl⟩ : b0 = bo ∧ o0 = o := by injection he with he; injection he with e1 e2; exact ⟨e1, e2⟩
          clear he
          have st1 := Lib.hid (loX_step (d := fx) (posC_get hx.out))
          have st2 := Lib.hid (loY_step (d := fy) (posC_get hx.out))
          have st3 := Lib.hid (hiX_step (d := fx) (posC_get hx.out))
          have st4 := Lib.hid (hiY_step (d := fy) (posC_get hx.out))
          generalize loX ((posC l).take j) fx = m1 at st1 ⊢
          generalize hiX ((posC l).take j) fx = m3 at st3 ⊢
          generalize loY ((posC l).take j) fy = m2 at st2 ⊢
          generalize hiY ((posC l).take j) fy = m4 at st4 ⊢
          go_wp2_with fail
          go_roundw
          case rel => exact ⟨j + 1, by rw [st1.out], by rw [st2.out], by rw [st3.out], by rw [st4.out], by go_num, by omega, by (repeat' (first | exact Below.refl _ _ | assumption | (refine Below.alloc ?_ ?_ _) | (refine Below.setCell ?_ ?_ _) | (refine Below.drew ?_) | (refine below_drewN ?_ _) | (refine below_after (Ext.below _) ?_ ?_) | (refine below_after (by assumption) ?_ ?_) | (simp; done) | omega | (simp; omega)))⟩
          case measure => simp [intOf]; omega
        · obtain rfl : j = n := by omega
          have hbd := bound_right HR.out hx0.out
          have htake : (posC l).take j = posC l := List.take_of_length_le (by rw [posC_len, hR.len]; omega)
          rw [htake]
          have HV := Lib.hid (fun x y z u => bxVal_yes (x := x) (y := y) (z := z) (u := u) HR.out hx0.out)
          clear htake
          obtain ⟨c1, c2, c3, c4⟩ := hbd
          generalize loX (posC l) fx = m1 at *
          generalize loY (posC l) fy = m2 at *
          generalize hiX (posC l) fx = m3 at *
          generalize hiY (posC l) fy = m4 at *
          unfold Sm at c1 c2 c3 c4
          go_wp2_with fail
          refine bodyPost_ret (v := .tuple #[.agg #[.int .i64 m1, .int .i64 m2, .int .i64 (m3 - m1 + 1), .int .i64 (m4 - m2 + 1)], .bool true]) (by simp [results, Tryz.results120, go_sem, *, ↓IntWalk.iteOmega]) rfl ?_
          exact ⟨HV.out _ _ _ _ ⟨rfl, rfl, rfl, rfl⟩, by (repeat' (first | exact Below.refl _ _ | assumption | (refine Below.alloc ?_ ?_ _) | (refine Below.setCell ?_ ?_ _) | (refine Below.drew ?_) | (refine below_drewN ?_ _) | (refine below_after (Ext.below _) ?_ ?_) | (refine below_after (by assumption) ?_ ?_) | (simp; done) | omega | (simp; omega)))⟩
end Go.Proofs.YtfdihjjnlmhibaaGreat
end
section
namespace Go.Proofs.YtfdihjjnlmhibaaGreat
open Go Go.RowKit
set_option maxRecDepth 100000
attribute [local go_sem ↓ high] eq_cl neq_cl eq_pt neq_pt
theorem rd_ce_own {e : TypeId} {B g n c : Nat} {w : World} {l : List (Int × Int × Int)} (h : Own encC 3 e B w (some ⟨g, 0, none⟩) n c l) {i : Nat} {x y s : Int} (hi : i < n) (hx : l[i]? = some (x, y, s)) : w.cell? ⟨g, i * 3, none⟩ = some (.int .i64 x) ∧ w.cell? ⟨g, i * 3 + 1, none⟩ = some (.int .i64 y) ∧ w.cell? ⟨g, i * 3 + 2, none⟩ = some (.int .i64 s) ∧
    w.frozen? ⟨g, i * 3, none⟩ = false ∧ w.frozen? ⟨g, i * 3 + 1, none⟩ = false ∧ w.frozen? ⟨g, i * 3 + 2, none⟩ = false := by
  have h1 := own_cells encC_len h (j := i * 3) (by omega)
  have h2 := own_cells encC_len h (j := i * 3 + 1) (by omega)
  have h3 := own_cells encC_len h (j := i * 3 + 2) (by omega)
  have e1 := flatMap_get encC_len l i (x, y, s) hx 0 _ rfl
  have e2 := flatMap_get encC_len l i (x, y, s) hx 1 _ rfl
  have e3 := flatMap_get encC_len l i (x, y, s) hx 2 _ rfl
  rw [Nat.add_zero] at e1
  exact ⟨h1.1.trans e1, h2.1.trans e2, h3.1.trans e3, h1.2, h2.2, h3.2⟩
theorem own_cap {α : Type} {enc : α → List Value} {k : Nat} {e : TypeId} {B n c : Nat} {w : World} {A : Option Addr} {l : List α} (h : Own enc k e B w A n c l) : n ≤ c := by
  rcases h.row.2 with ⟨h0, _⟩ | ⟨g, cap, cur, hv, hg, hh, h1, r⟩
  · injection h0 with _ e1 e2; omega
  · injection hv with _ e1 e2; omega
theorem ret_pe {v : Value} {a b : Int} (h : a = b) : Ending.returned (.tuple #[v, .int .i64 a]) = .returned (.tuple #[v, .int .i64 b]) := by rw [h]
section
variable {l : List (Int × Int × Int)} {dx dy x y s : Int} {j : Nat}
end
end Go.Proofs.YtfdihjjnlmhibaaGreat
end
section
namespace Go.Proofs.YtfdihjjnlmhibaaGreat
open Go Go.RowKit
set_option maxRecDepth 100000
theorem below_thru {w w1 w2 : World} (h : Below w.heap.size w w1) (h2 : Below w1.heap.size w1 w2) : Below w.heap.size w w2 :=
  below_after h2 h h.size
theorem below_thruA {w w1 w2 : World} {o : Obj} (h : Below w.heap.size w w1) (h2 : Below (w1.alloc o).heap.size (w1.alloc o) w2) : Below w.heap.size w w2 :=
  below_after h2 (h.alloc h.size o) (by have := h.size; rw [World.size_alloc]; omega)
def BoxAt (w : World) (b : Nat) (x y z u : Int) : Prop := b < w.heap.size ∧ w.cell? ⟨b, 0, none⟩ = some (.int .i64 x) ∧ w.cell? ⟨b, 1, none⟩ = some (.int .i64 y) ∧ w.cell? ⟨b, 2, none⟩ = some (.int .i64 z) ∧ w.cell? ⟨b, 3, none⟩ = some (.int .i64 u)
theorem BoxAt.of {w w' : World} {b : Nat} {x y z u : Int} (h : BoxAt w b x y z u) (hb : Below w.heap.size w w') : BoxAt w' b x y z u := by
  obtain ⟨h0, h1, h2, h3, h4⟩ := h
  exact ⟨by have := hb.size; omega, (hb.cell (p := ⟨_, _, none⟩) h0).trans h1, (hb.cell (p := ⟨_, _, none⟩) h0).trans h2, (hb.cell (p := ⟨_, _, none⟩) h0).trans h3, (hb.cell (p := ⟨_, _, none⟩) h0).trans h4⟩
theorem BoxAt.alloc {w : World} {b : Nat} {x y z u : Int} (h : BoxAt w b x y z u) (o : Obj) : BoxAt (w.alloc o) b x y z u := h.of ((Below.refl _ _).alloc (Nat.le_refl _) o)
theorem BoxAt.new (w : World) (x y z u : Int) (t : TypeId) : BoxAt (w.alloc (.cells #[.int .i64 x, .int .i64 y, .int .i64 z, .int .i64 u] t)) w.heap.size x y z u := by
  refine ⟨by simp, ?_, ?_, ?_, ?_⟩ <;> simp [cell_alloc_if]
structure HRd {α : Type} (enc : α → List Value) (k : Nat) (w : World) (A : Option Addr) (n : Nat) (l : List α) : Prop where
  rd : Rd enc k w A n l
theorem HRd.drew {α : Type} {enc : α → List Value} {k : Nat} {w : World} {A : Option Addr} {n : Nat} {l : List α} (h : HRd enc k w A n l) : HRd enc k w.drew A n l := ⟨h.rd⟩
theorem HRd.of {α : Type} {enc : α → List Value} {k : Nat} {w w' : World} {A : Option Addr} {n : Nat} {l : List α} (h : HRd enc k w A n l) (hb : Below w.heap.size w w') : HRd enc k w' A n l := ⟨h.rd.of hb⟩
theorem HRd.alloc {α : Type} {enc : α → List Value} {k : Nat} {w : World} {A : Option Addr} {n : Nat} {l : List α} (h : HRd enc k w A n l) (o : Obj) : HRd enc k (w.alloc o) A n l := h.of ((Below.refl _ _).alloc (Nat.le_refl _) o)
def PtAt (w : World) (b : Nat) (x y : Int) : Prop := b < w.heap.size ∧ w.cell? ⟨b, 0, none⟩ = some (.int .i64 x) ∧ w.cell? ⟨b, 1, none⟩ = some (.int .i64 y)
theorem PtAt.of {w w' : World} {b : Nat} {x y : Int} (h : PtAt w b x y) (hb : Below w.heap.size w w') : PtAt w' b x y := by
  obtain ⟨h0, h1, h2⟩ := h
  exact ⟨by have := hb.size; omega, (hb.cell (p := ⟨_, _, none⟩) h0).trans h1, (hb.cell (p := ⟨_, _, none⟩) h0).trans h2⟩
theorem PtAt.alloc {w : World} {b : Nat} {x y : Int} (h : PtAt w b x y) (o : Obj) : PtAt (w.alloc o) b x y := h.of ((Below.refl _ _).alloc (Nat.le_refl _) o)
theorem PtAt.new (w : World) (x y : Int) (t : TypeId) : PtAt (w.alloc (.cells #[.int .i64 x, .int .i64 y] t)) w.heap.size x y := by
  refine ⟨by simp, ?_, ?_⟩ <;> simp [cell_alloc_if]
end Go.Proofs.YtfdihjjnlmhibaaGreat
end
section
namespace Go.Proofs.YtfdihjjnlmhibaaGreat
open Go Go.RowKit
set_option maxRecDepth 100000
attribute [local go_sem ↓ high] eq_cl neq_cl eq_pt neq_pt
theorem same_ne_cl {l r : List (Int × Int × Int)} {j : Nat} {a b s a' b' s' : Int} (hx : l[j]? = some (a, b, s)) (hy : r[j]? = some (a', b', s')) (h : ¬(a = a' ∧ b = b' ∧ s = s')) : sameL l r = false :=
  sameL_ne hx hy (fun e => h (by injection e with e1 e2; injection e2 with e2 e3; exact ⟨e1, e2, e3⟩))
theorem rd_litI (w : World) (l : List Int) (cs : Array Value) (n : Nat) (hn : l.length = n) (hm : n ≤ 4611686018427387904) (hcs : cs.toList = l.flatMap encI) : Rd encI 1 (w.alloc (.cells cs 3)) (some ⟨w.heap.size, 0, none⟩) n l := by
  have h := (Own.lit encI_len w 3 w.heap.size (Nat.le_refl _) l n hn hm cs.toList hcs).rd encI_len
  simpa using h
set_option maxHeartbeats 400000 in
theorem slices_EqualC (A B : Option Addr) (n m c d : Nat) (l r : List (Int × Int × Int)) (w : World) (hR : Rd encC 3 w A n l) (hS : Rd encC 3 w B m r) (hn : n ≤ 1000000) :
    Calls Tryz.prog 52 #[.slice A n c, .slice B m d] w fun e w' => e = .returned (.bool (sameL l r)) ∧ Below w.heap.size w w' := by
  by_cases hnm : n = m
  · subst hnm
    go_enter Tryz.func52, Tryz.ntmps52
    go_wp2
    go_loopw [13] (fun i wr => ∃ j : Nat, j ≤ n ∧ i = .int .i64 j ∧ Below w.heap.size w wr ∧ Hid (∀ i, i < j → l[i]? = r[i]?)) (fun i _ => n - (intOf i).toNat)
    case atStart => exact ⟨0, by omega, rfl, Below.refl _ _, fun r hr => absurd hr (by omega)⟩
    case round =>
      obtain ⟨j, hj, rfl, hb, hno⟩ := hrel
      obtain ⟨hc, hf⟩ := bcell hb
      have hs := hb.size
      by_cases hlt : j < n
      · obtain ⟨a, b, s, bo, o, hx, rfl, hbl, hcell, hcell2, hcell3⟩ := hR.cell hlt
        obtain ⟨a', b', s', bo', o', hy, rfl, hbl', hcell', hcell2', hcell3'⟩ := hS.cell hlt
        by_cases hq : a = a' ∧ b = b' ∧ s = s'
        · obtain ⟨rfl, rfl, rfl⟩ := hq
          go_wp2
          (refine wp_region_ext_lit (by kernel_rfl) (by kernel_rfl) ?_; (repeat (go_big_quiet_step (fail))); refine wpQuiet_nil ?_; intro _ hw'; obtain ⟨z1, hw''⟩ := hw'; subst hw''; have hs1 := z1.size; obtain ⟨hc1, hf1⟩ := bcell z1.below; (try simp only [World.size_alloc, World.size_setCell, World.size_drew] at hc1 hf1); (try simp at hs1))
          go_wp2
          go_roundw
          case rel => exact ⟨j + 1, by omega, by go_num, (by (repeat' (first | exact Below.refl _ _ | assumption | (refine Below.alloc ?_ ?_ _) | (refine Below.setCell ?_ ?_ _) | (refine Below.drew ?_) | (refine below_drewN ?_ _) | (refine below_after (Ext.below _) ?_ ?_) | (refine below_after (by assumption) ?_ ?_) | (simp; done) | omega | (simp; omega)))), same_step hno.out (hx.out.trans hy.out.symm)⟩
          case measure => simp [intOf]; omega
        · have hq' : decide (a = a' ∧ b = b' ∧ s = s') = false := decide_eq_false hq
          have HQ := Lib.hid hq
          clear hq
          go_wp2
          (refine wp_region_ext_lit (by kernel_rfl) (by kernel_rfl) ?_; (repeat (go_big_quiet_step (fail))); refine wpQuiet_nil ?_; intro _ hw'; obtain ⟨z1, hw''⟩ := hw'; subst hw''; have hs1 := z1.size; obtain ⟨hc1, hf1⟩ := bcell z1.below; (try simp only [World.size_alloc, World.size_setCell, World.size_drew] at hc1 hf1); (try simp at hs1))
          go_wp2
          go_ret
          exact ⟨ret_bool (same_ne_cl hx.out hy.out HQ.out).symm, by (repeat' (first | exact Below.refl _ _ | assumption | (refine Below.alloc ?_ ?_ _) | (refine Below.setCell ?_ ?_ _) | (refine Below.drew ?_) | (refine below_drewN ?_ _) | (refine below_after (Ext.below _) ?_ ?_) | (refine below_after (by assumption) ?_ ?_) | (simp; done) | omega | (simp; omega)))⟩
      · obtain rfl : j = n := by omega
        go_wp2
        go_ret
        exact ⟨ret_bool (sameL_all hR.len hS.len hno.out).symm, by (repeat' (first | exact Below.refl _ _ | assumption | (refine Below.alloc ?_ ?_ _) | (refine Below.setCell ?_ ?_ _) | (refine Below.drew ?_) | (refine below_drewN ?_ _) | (refine below_after (Ext.below _) ?_ ?_) | (refine below_after (by assumption) ?_ ?_) | (simp; done) | omega | (simp; omega)))⟩
  · have hq : ((n : Int) != (m : Int)) = true := by simp; omega
    have hq2 : ((n : Int) == (m : Int)) = false := by simp; omega
    have hlen := Lib.hid (sameL_len hR.len hS.len hnm)
    clear hnm
    go_enter Tryz.func52, Tryz.ntmps52
    go_wp2
    go_ret
    exact ⟨ret_bool hlen.out.symm, Below.refl _ _⟩
theorem pat_Same (A B : Option Addr) (n m c d : Nat) (l r : List (Int × Int × Int)) (w : World) (hR : Rd encC 3 w A n l) (hS : Rd encC 3 w B m r) (hn : n ≤ 1000000) :
    Calls Tryz.prog 26 #[.slice A n c, .slice B m d] w fun e w' => e = .returned (.bool (sameL l r)) ∧ Below w.heap.size w w' := by
  go_enter Tryz.func26, Tryz.ntmps26
  go_wp2_with (first | (go_at_call 52; refine (slices_EqualC _ _ _ _ _ _ _ _ _ hR hS hn).mono ?_; rintro e w1 ⟨rfl, hb1⟩; obtain ⟨hc1, hf1⟩ := bcell hb1; have hs1 := hb1.size; (try simp only [World.size_alloc, World.size_setCell, World.size_drew] at hc1 hf1); (try simp at hs1)))
  go_ret
  exact ⟨rfl, hb1⟩
theorem cmpC_y {x y s x' y' s' : Int} (h : y ≠ y') : cmpC (x, y, s) (x', y', s') = cmpI y y' := by
  unfold cmpC cmpO cmpP orI cmpI; simp only; (repeat' split) <;> omega
theorem cmpC_x {x y s x' y' s' : Int} (h : y = y') (h2 : x ≠ x') : cmpC (x, y, s) (x', y', s') = cmpI x x' := by
  unfold cmpC cmpO cmpP orI cmpI; simp only; (repeat' split) <;> omega
theorem cmpC_s {x y s x' y' s' : Int} (h : y = y') (h2 : x = x') : cmpC (x, y, s) (x', y', s') = cmpI s s' := by
  unfold cmpC cmpO cmpP orI cmpI; simp only; (repeat' split) <;> omega
end Go.Proofs.YtfdihjjnlmhibaaGreat
end
section
namespace Go.Proofs.YtfdihjjnlmhibaaGreat
open Go Go.RowKit
set_option maxRecDepth 100000
attribute [local go_sem ↓ high] eq_cl neq_cl eq_pt neq_pt
set_option maxHeartbeats 2000000 in
theorem ref05_Compare (A B : Option Addr) (n m c d : Nat) (l r : List (Int × Int × Int)) (w : World) (hR : Rd encC 3 w A n l) (hS : Rd encC 3 w B m r) (hn : n ≤ 1000000) (hm : m ≤ 1000000) :
    Calls Tryz.prog 42 #[.slice A n c, .slice B m d] w fun e w' => e = .returned (.int .i64 (cmpL l r)) ∧ Below w.heap.size w w' := by
  go_enter Tryz.func42, Tryz.ntmps42
  go_wp2
  go_loopw [5] (fun i wr => ∃ j : Nat, j ≤ n ∧ j ≤ m ∧ i = .int .i64 j ∧ Below w.heap.size w wr ∧ Hid (∀ i, i < j → l[i]? = r[i]?)) (fun i _ => n - (intOf i).toNat)
  case atStart => exact ⟨0, by omega, by omega, rfl, Below.refl _ _, fun r hr => absurd hr (by omega)⟩
  case round =>
    obtain ⟨j, hj, hjm, rfl, hb, hno⟩ := hrel
    obtain ⟨hc, hf⟩ := bcell hb
    have hs := hb.size
    by_cases hend : j = n ∨ j = m
    · have HV := Lib.hid (cmpL_end hR.len hS.len hj hjm hno.out hend)
      have dd : decide ((j : Int) < n) = false ∨ (decide ((j : Int) < n) = true ∧ decide ((j : Int) < m) = false) := by simp only [decide_eq_true_eq, decide_eq_false_iff_not]; omega
      clear hend
      have ee : decide (j < n) = false ∨ (decide (j < n) = true ∧ decide (j < m) = false) := by simp only [decide_eq_true_eq, decide_eq_false_iff_not] at dd ⊢; omega
      rcases dd with d1 | ⟨d1, d2⟩ <;> rcases ee with e1 | ⟨e1, e2⟩
      all_goals (try (exfalso; simp only [decide_eq_true_eq, decide_eq_false_iff_not] at *; omega))
      all_goals
        go_wp2_with (first | (go_at_call 68; refine (ref05_order _ _ _).mono ?_; rintro e w' ⟨rfl, rfl⟩))
        go_ret
        exact ⟨ret_int HV.out.symm, by (repeat' (first | exact Below.refl _ _ | assumption | (refine Below.alloc ?_ ?_ _) | (refine Below.setCell ?_ ?_ _) | (refine Below.drew ?_) | (refine below_drewN ?_ _) | (refine below_after (Ext.below _) ?_ ?_) | (refine below_after (by assumption) ?_ ?_) | (simp; done) | omega | (simp; omega)))⟩
    · have hlt : j < n := by omega
      have hltm : j < m := by omega
      have d1 : decide ((j : Int) < n) = true := decide_eq_true (by omega)
      have d2 : decide ((j : Int) < m) = true := decide_eq_true (by omega)
      have e1 : decide (j < n) = true := decide_eq_true (by omega)
      have e2 : decide (j < m) = true := decide_eq_true (by omega)
      obtain ⟨a, b, s, bo, o, hx, rfl, hbl, g1, g2, g3⟩ := hR.cell hlt
      obtain ⟨a', b', s', bo', o', hy, rfl, hbl', k1, k2, k3⟩ := hS.cell hltm
      by_cases h1 : b = b'
      · by_cases h2 : a = a'
        · by_cases h3 : s = s'
          · subst h1 h2 h3
            have HS : Hid (∀ i, i < j + 1 → l[i]? = r[i]?) := same_step hno.out (hx.out.trans hy.out.symm)
            go_wp2
            (refine wp_region_ext_lit (by kernel_rfl) (by kernel_rfl) ?_; (repeat (go_big_quiet_step (fail))); refine wpQuiet_nil ?_; intro _ hw'; obtain ⟨z2, hw''⟩ := hw'; subst hw''; have hs2 := z2.size; obtain ⟨hc2, hf2⟩ := bcell z2.below; (try simp only [World.size_alloc, World.size_setCell, World.size_drew] at hc2 hf2); (try simp at hs2))
            go_wp2
            (refine wp_region_ext_lit (by kernel_rfl) (by kernel_rfl) ?_; (repeat (go_big_quiet_step (fail))); refine wpQuiet_nil ?_; intro _ hw'; obtain ⟨z3, hw''⟩ := hw'; subst hw''; have hs3 := z3.size; obtain ⟨hc3, hf3⟩ := bcell z3.below; (try simp only [World.size_alloc, World.size_setCell, World.size_drew] at hc3 hf3); (try simp at hs3))
            go_wp2
            (refine wp_region_ext_lit (by kernel_rfl) (by kernel_rfl) ?_; (repeat (go_big_quiet_step (fail))); refine wpQuiet_nil ?_; intro _ hw'; obtain ⟨z4, hw''⟩ := hw'; subst hw''; have hs4 := z4.size; obtain ⟨hc4, hf4⟩ := bcell z4.below; (try simp only [World.size_alloc, World.size_setCell, World.size_drew] at hc4 hf4); (try simp at hs4))
            go_wp2
            go_roundw
            case rel => exact ⟨j + 1, by omega, by omega, by go_num, (by (repeat' (first | exact Below.refl _ _ | assumption | (refine Below.alloc ?_ ?_ _) | (refine Below.setCell ?_ ?_ _) | (refine Below.drew ?_) | (refine below_drewN ?_ _) | (refine below_after (Ext.below _) ?_ ?_) | (refine below_after (by assumption) ?_ ?_) | (simp; done) | omega | (simp; omega)))), HS.out⟩
            case measure => simp [intOf]; omega
          · have HV := Lib.hid ((cmpL_at hno.out hx.out hy.out (fun e => h3 (by injection e with e1 e2; injection e2))).trans (cmpC_s h1 h2))
            subst h1 h2
            have q3 : (s != s') = true := by simpa using h3
            clear h3
            go_wp2
            (refine wp_region_ext_lit (by kernel_rfl) (by kernel_rfl) ?_; (repeat (go_big_quiet_step (fail))); refine wpQuiet_nil ?_; intro _ hw'; obtain ⟨z2, hw''⟩ := hw'; subst hw''; have hs2 := z2.size; obtain ⟨hc2, hf2⟩ := bcell z2.below; (try simp only [World.size_alloc, World.size_setCell, World.size_drew] at hc2 hf2); (try simp at hs2))
            go_wp2
            (refine wp_region_ext_lit (by kernel_rfl) (by kernel_rfl) ?_; (repeat (go_big_quiet_step (fail))); refine wpQuiet_nil ?_; intro _ hw'; obtain ⟨z3, hw''⟩ := hw'; subst hw''; have hs3 := z3.size; obtain ⟨hc3, hf3⟩ := bcell z3.below; (try simp only [World.size_alloc, World.size_setCell, World.size_drew] at hc3 hf3); (try simp at hs3))
            go_wp2
            (refine wp_region_ext_lit (by kernel_rfl) (by kernel_rfl) ?_; (repeat (go_big_quiet_step (fail))); refine wpQuiet_nil ?_; intro _ hw'; obtain ⟨z4, hw''⟩ := hw'; subst hw''; have hs4 := z4.size; obtain ⟨hc4, hf4⟩ := bcell z4.below; (try simp only [World.size_alloc, World.size_setCell, World.size_drew] at hc4 hf4); (try simp at hs4))
            go_wp2
            (refine wp_region_ext_lit (by kernel_rfl) (by kernel_rfl) ?_; (repeat (go_big_quiet_step ((go_at_call 68; exact calls_ext_same (ref05_order _ _ _))))); refine wpQuiet_nil ?_; intro _ hw'; obtain ⟨z5, hw''⟩ := hw'; subst hw''; have hs5 := z5.size; obtain ⟨hc5, hf5⟩ := bcell z5.below; (try simp only [World.size_alloc, World.size_setCell, World.size_drew] at hc5 hf5); (try simp at hs5))
            go_wp2
            go_ret
            exact ⟨ret_int HV.out.symm, by (repeat' (first | exact Below.refl _ _ | assumption | (refine Below.alloc ?_ ?_ _) | (refine Below.setCell ?_ ?_ _) | (refine Below.drew ?_) | (refine below_drewN ?_ _) | (refine below_after (Ext.below _) ?_ ?_) | (refine below_after (by assumption) ?_ ?_) | (simp; done) | omega | (simp; omega)))⟩
        · have HV := Lib.hid ((cmpL_at hno.out hx.out hy.out (fun e => h2 (by injection e))).trans (cmpC_x h1 h2))
          subst h1
          have q2 : (a != a') = true := by simpa using h2
          clear h2
          go_wp2
          (refine wp_region_ext_lit (by kernel_rfl) (by kernel_rfl) ?_; (repeat (go_big_quiet_step (fail))); refine wpQuiet_nil ?_; intro _ hw'; obtain ⟨z2, hw''⟩ := hw'; subst hw''; have hs2 := z2.size; obtain ⟨hc2, hf2⟩ := bcell z2.below; (try simp only [World.size_alloc, World.size_setCell, World.size_drew] at hc2 hf2); (try simp at hs2))
          go_wp2
          (refine wp_region_ext_lit (by kernel_rfl) (by kernel_rfl) ?_; (repeat (go_big_quiet_step (fail))); refine wpQuiet_nil ?_; intro _ hw'; obtain ⟨z3, hw''⟩ := hw'; subst hw''; have hs3 := z3.size; obtain ⟨hc3, hf3⟩ := bcell z3.below; (try simp only [World.size_alloc, World.size_setCell, World.size_drew] at hc3 hf3); (try simp at hs3))
          go_wp2
          (refine wp_region_ext_lit (by kernel_rfl) (by kernel_rfl) ?_; (repeat (go_big_quiet_step ((go_at_call 68; exact calls_ext_same (ref05_order _ _ _))))); refine wpQuiet_nil ?_; intro _ hw'; obtain ⟨z5, hw''⟩ := hw'; subst hw''; have hs5 := z5.size; obtain ⟨hc5, hf5⟩ := bcell z5.below; (try simp only [World.size_alloc, World.size_setCell, World.size_drew] at hc5 hf5); (try simp at hs5))
          go_wp2
          go_ret
          exact ⟨ret_int HV.out.symm, by (repeat' (first | exact Below.refl _ _ | assumption | (refine Below.alloc ?_ ?_ _) | (refine Below.setCell ?_ ?_ _) | (refine Below.drew ?_) | (refine below_drewN ?_ _) | (refine below_after (Ext.below _) ?_ ?_) | (refine below_after (by assumption) ?_ ?_) | (simp; done) | omega | (simp; omega)))⟩
      · have HV := Lib.hid ((cmpL_at hno.out hx.out hy.out (fun e => h1 (by injection e with e1 e2; injection e2))).trans (cmpC_y h1))
        have q1 : (b != b') = true := by simpa using h1
        clear h1
        go_wp2
        (refine wp_region_ext_lit (by kernel_rfl) (by kernel_rfl) ?_; (repeat (go_big_quiet_step (fail))); refine wpQuiet_nil ?_; intro _ hw'; obtain ⟨z2, hw''⟩ := hw'; subst hw''; have hs2 := z2.size; obtain ⟨hc2, hf2⟩ := bcell z2.below; (try simp only [World.size_alloc, World.size_setCell, World.size_drew] at hc2 hf2); (try simp at hs2))
        go_wp2
        (refine wp_region_ext_lit (by kernel_rfl) (by kernel_rfl) ?_; (repeat (go_big_quiet_step ((go_at_call 68; exact calls_ext_same (ref05_order _ _ _))))); refine wpQuiet_nil ?_; intro _ hw'; obtain ⟨z5, hw''⟩ := hw'; subst hw''; have hs5 := z5.size; obtain ⟨hc5, hf5⟩ := bcell z5.below; (try simp only [World.size_alloc, World.size_setCell, World.size_drew] at hc5 hf5); (try simp at hs5))
        go_wp2
        go_ret
        exact ⟨ret_int HV.out.symm, by (repeat' (first | exact Below.refl _ _ | assumption | (refine Below.alloc ?_ ?_ _) | (refine Below.setCell ?_ ?_ _) | (refine Below.drew ?_) | (refine below_drewN ?_ _) | (refine below_after (Ext.below _) ?_ ?_) | (refine below_after (by assumption) ?_ ?_) | (simp; done) | omega | (simp; omega)))⟩
theorem cmpL_same : ∀ (l r : List (Int × Int × Int)), (cmpL l r == 0) = sameL l r
  | [], [] => rfl
  | [], b :: r => rfl
  | a :: l, [] => rfl
  | a :: l, b :: r => by
    have ih := cmpL_same l r
    show ((if a = b then cmpL l r else cmpC a b) == 0) = _
    by_cases e : a = b
    · subst e
      rw [if_pos rfl, ih]
      unfold sameL; simp
    · rw [if_neg e]
      have h1 : (cmpC a b == 0) = false := by simp only [beq_eq_false_iff_ne, ne_eq]; exact fun h => e (cmpC_zero h)
      rw [h1]
      unfold sameL
      symm; exact decide_eq_false (fun h => e (by injection h))
theorem ref05_Same (A B : Option Addr) (n m c d : Nat) (l r : List (Int × Int × Int)) (w : World) (hR : Rd encC 3 w A n l) (hS : Rd encC 3 w B m r) (hn : n ≤ 1000000) (hm : m ≤ 1000000) :
    Calls Tryz.prog 17 #[.slice A n c, .slice B m d] w fun e w' => e = .returned (.bool (sameL l r)) ∧ Below w.heap.size w w' := by
  have hq := cmpL_same l r
  generalize sameL l r = q at hq ⊢
  have HQ := Lib.hid hq
  clear hq
  go_enter Tryz.func17, Tryz.ntmps17
  go_wp2_with (first | (go_at_call 42; refine (ref05_Compare _ _ _ _ _ _ _ _ _ hR hS hn hm).mono ?_; rintro e w1 ⟨rfl, hb1⟩; obtain ⟨hc1, hf1⟩ := bcell hb1; have hs1 := hb1.size; (try simp only [World.size_alloc, World.size_setCell, World.size_drew] at hc1 hf1); (try simp at hs1)))
  go_ret
  exact ⟨ret_bool HQ.out, hb1⟩
end Go.Proofs.YtfdihjjnlmhibaaGreat
end
section
namespace Go.Proofs.YtfdihjjnlmhibaaGreat
open Go Go.RowKit
def hmX (l : List (Int × Int × Int)) : Int := arX (bxPos l)
def hmY (l : List (Int × Int × Int)) : Int := arY (bxPos l)
def hmL (l : List (Int × Int × Int)) : List (Int × Int × Int) := if arOk (bxPos l) = true then l.map (mv5 (-hmX l) (-hmY l)) else l
section
variable {l : List (Int × Int × Int)}
theorem hm_good (h : rightC l = true) (h0 : 0 < l.length) : arOk (bxPos l) = true ∧ hmL l = l.map (mv5 (-hmX l) (-hmY l)) ∧ hmX l = loX (posC l) (fstX (posC l)) ∧ hmY l = loY (posC l) (fstY (posC l)) := by
  have hb : bxPos l = posC l := by unfold bxPos; rw [if_pos h]
  have ho : arOk (bxPos l) = true := by rw [hb]; exact arOk_right h h0
  refine ⟨ho, by unfold hmL; rw [if_pos ho], ?_, ?_⟩
  · unfold hmX arX; rw [ho, hb]; rfl
  · unfold hmY arY; rw [ho, hb]; rfl
end
end Go.Proofs.YtfdihjjnlmhibaaGreat
end
section
namespace Go.Proofs.YtfdihjjnlmhibaaGreat
open Go Go.RowKit
def gridL (p : List (Int × Int × Int)) (X Y : Int) (W h : Nat) : List Int := (rectL X Y W h).map fun q => getC p q.1 q.2
theorem row_at {X y : Int} {W i : Nat} (hi : i < W) : (rowL X y W)[i]? = some (X + (i : Nat), y) := by
  unfold rowL; rw [List.getElem?_map, List.getElem?_range hi]; rfl
theorem rect_at {X Y : Int} {W i : Nat} (hi : i < W) : ∀ {h j : Nat}, j < h → (rectL X Y W h)[j * W + i]? = some (X + (i : Nat), Y + (j : Nat))
  | 0, j, hj => absurd hj (by omega)
  | h + 1, j, hj => by
    rw [rect_step]
    rcases Nat.lt_or_ge j h with g | g
    · have : j * W + i < h * W := by
        have := Nat.mul_le_mul_right W (show j + 1 ≤ h from g)
        rw [Nat.add_mul, Nat.one_mul] at this; omega
      rw [List.getElem?_append_left (by rw [rect_len]; exact this)]
      exact rect_at hi g
    · obtain rfl : j = h := by omega
      rw [List.getElem?_append_right (by rw [rect_len]; omega), rect_len, show j * W + i - j * W = i by omega]
      exact row_at hi
theorem grid_at {p : List (Int × Int × Int)} {X Y : Int} {W h i j : Nat} (hi : i < W) (hj : j < h) : (gridL p X Y W h)[j * W + i]? = some (getC p (X + (i : Nat)) (Y + (j : Nat))) := by
  unfold gridL; rw [List.getElem?_map, rect_at hi hj]; rfl
theorem grid_zero (X Y : Int) (W h : Nat) : gridL [] X Y W h = List.replicate (h * W) 0 := by
  unfold gridL
  rw [List.eq_replicate_iff]
  refine ⟨by rw [List.length_map, rect_len], fun b hb => ?_⟩
  obtain ⟨q, _, rfl⟩ := List.mem_map.1 hb
  rfl
theorem getC_snoc_other : ∀ {l : List (Int × Int × Int)} {c : Int × Int × Int} {x y : Int}, ¬(c.1 = x ∧ c.2.1 = y) → getC (l ++ [c]) x y = getC l x y
  | [], c, x, y, h => by
    show (if c.1 = x ∧ c.2.1 = y then c.2.2 else getC [] x y) = getC [] x y
    rw [if_neg h]
  | d :: l, c, x, y, h => by
    show (if d.1 = x ∧ d.2.1 = y then d.2.2 else getC (l ++ [c]) x y) = (if d.1 = x ∧ d.2.1 = y then d.2.2 else getC l x y)
    rw [getC_snoc_other h]
theorem getC_snoc_same : ∀ {l : List (Int × Int × Int)} {c : Int × Int × Int}, posD c ∉ l.map posD → getC (l ++ [c]) c.1 c.2.1 = c.2.2
  | [], c, _ => by
    show (if c.1 = c.1 ∧ c.2.1 = c.2.1 then c.2.2 else getC [] _ _) = _
    rw [if_pos ⟨rfl, rfl⟩]
  | d :: l, c, h => by
    rw [List.map_cons, List.mem_cons, not_or] at h
    show (if d.1 = c.1 ∧ d.2.1 = c.2.1 then d.2.2 else getC (l ++ [c]) c.1 c.2.1) = _
    rw [if_neg, getC_snoc_same h.2]
    rintro ⟨e1, e2⟩
    exact h.1 (by unfold posD; rw [e1, e2])
theorem pos_fresh {p : List (Int × Int × Int)} {k : Nat} {c : Int × Int × Int} (hS : SSC p) (hk : p[k]? = some c) : posD c ∉ (p.take k).map posD := by
  intro hm
  have hn := (ssc_iff.1 hS).2
  rw [List.map_take] at hm
  exact take_new hn (by rw [List.getElem?_map, hk]; rfl) hm
theorem grid_set {p : List (Int × Int × Int)} {X Y : Int} {W h i j k : Nat} {x y s : Int} (hS : SSC p) (hk : p[k]? = some (x, y, s)) (hi : i < W) (hj : j < h) (hx : x = X + (i : Nat)) (hy : y = Y + (j : Nat)) :
    (gridL (p.take k) X Y W h).set (j * W + i) s = gridL (p.take (k + 1)) X Y W h := by
  have ht : p.take (k + 1) = p.take k ++ [(x, y, s)] := by rw [List.take_add_one, hk]; rfl
  have hr := rect_at (X := X) (Y := Y) hi hj
  rw [← hx, ← hy] at hr
  apply List.ext_getElem?
  intro t
  rw [ht]
  unfold gridL
  rw [List.getElem?_set, List.length_map, List.getElem?_map, List.getElem?_map]
  by_cases e : j * W + i = t
  · subst e
    rw [if_pos rfl, hr, if_pos (List.getElem?_eq_some_iff.1 hr).1]
    simp only [Option.map_some, Option.some.injEq]
    exact (getC_snoc_same (c := (x, y, s)) (pos_fresh hS hk)).symm
  · rw [if_neg e]
    cases hq : (rectL X Y W h)[t]? with
    | none => rfl
    | some q =>
      simp only [Option.map_some, Option.some.injEq]
      refine (getC_snoc_other ?_).symm
      rintro ⟨e1, e2⟩
      simp only at e1 e2
      have hn := rect_nodup X Y W h
      obtain ⟨l1, g1⟩ := List.getElem?_eq_some_iff.1 hr
      obtain ⟨l2, g2⟩ := List.getElem?_eq_some_iff.1 hq
      have hpw := List.pairwise_iff_getElem.1 hn
      have hqe : q = (x, y) := Prod.ext e1.symm e2.symm
      rcases Nat.lt_or_gt_of_ne e with hlt | hgt
      · exact hpw _ _ l1 l2 hlt (by rw [g1, g2, hqe])
      · exact hpw _ _ l2 l1 hgt (by rw [g1, g2, hqe])
structure BoxOf (p : List (Int × Int × Int)) (X Y : Int) (W h : Nat) : Prop where
  cells : ∀ c ∈ p, (X ≤ c.1 ∧ c.1 < X + W) ∧ Y ≤ c.2.1 ∧ c.2.1 < Y + h
  bx : -1048576 ≤ X ∧ X ≤ 1048576 ∧ -1048576 ≤ Y ∧ Y ≤ 1048576 ∧ X + W ≤ 1048577 ∧ Y + h ≤ 1048577
theorem box_of {p : List (Int × Int × Int)} (hr : rightC p = true) : ∃ W h : Nat, arW (bxPos p) = W ∧ arH (bxPos p) = h ∧ BoxOf p (arX (bxPos p)) (arY (bxPos p)) W h := by
  by_cases h0 : p.length = 0
  · obtain rfl : p = [] := List.eq_nil_of_length_eq_zero h0
    refine ⟨0, 0, by decide, by decide, ⟨fun c hc => (by cases hc), ?_⟩⟩
    have e1 : arX (bxPos []) = 0 := by decide
    have e2 : arY (bxPos []) = 0 := by decide
    rw [e1, e2]; omega
  · obtain ⟨hok, _, h1, h2⟩ := hm_good hr (by omega)
    unfold hmX at h1
    unfold hmY at h2
    have hb : bxPos p = posC p := by unfold bxPos; rw [if_pos hr]
    rw [hb] at hok h1 h2 ⊢
    have hpt : ∀ q ∈ posC p, Pt q.1 q.2 := by
      intro q hq
      unfold arOk at hok
      rw [Bool.and_eq_true, List.all_eq_true] at hok
      have := hok.2 q hq
      unfold okP at this
      exact validB_iff.1 this
    have hne : ∃ q, q ∈ posC p := by
      cases p with
      | nil => simp at h0
      | cons c p => exact ⟨_, List.mem_map.2 ⟨c, by simp, rfl⟩⟩
    obtain ⟨q0, hq0⟩ := hne
    have lx := lo_low (posC p) (fstX (posC p))
    have ly := loY_low (posC p) (fstY (posC p))
    have gx := hi_high (posC p) (fstX (posC p))
    have gy := hiY_high (posC p) (fstY (posC p))
    have hfx : ∃ q ∈ posC p, q.1 = fstX (posC p) ∧ q.2 = fstY (posC p) := by
      cases hp : posC p with
      | nil => rw [hp] at hq0; cases hq0
      | cons q l => exact ⟨q, by simp, rfl, rfl⟩
    obtain ⟨qf, hqf, f1, f2⟩ := hfx
    have hf := hpt qf hqf
    unfold Pt at hf
    have b1 := lo_le (posC p) (fstX (posC p)) (-1048576) (fun q hq => (hpt q hq).1) (by omega)
    have b2 := loY_le (posC p) (fstY (posC p)) (-1048576) (fun q hq => (hpt q hq).2.2.1) (by omega)
    have b3 := hi_le (posC p) (fstX (posC p)) 1048576 (fun q hq => (hpt q hq).2.1) (by omega)
    have b4 := hiY_le (posC p) (fstY (posC p)) 1048576 (fun q hq => (hpt q hq).2.2.2) (by omega)
    have eW : arW (posC p) = hiX (posC p) (fstX (posC p)) - loX (posC p) (fstX (posC p)) + 1 := by unfold arW; rw [hok]; rfl
    have eH : arH (posC p) = hiY (posC p) (fstY (posC p)) - loY (posC p) (fstY (posC p)) + 1 := by unfold arH; rw [hok]; rfl
    refine ⟨(arW (posC p)).toNat, (arH (posC p)).toNat, by omega, by omega, ⟨fun c hc => ?_, by omega⟩⟩
    have hm : (c.1, c.2.1) ∈ posC p := List.mem_map.2 ⟨c, hc, rfl⟩
    have c1 := lx.2 _ hm
    have c2 := ly.2 _ hm
    have c3 := gx.2 _ hm
    have c4 := gy.2 _ hm
    simp only at c1 c2 c3 c4
    omega
theorem box_out {p : List (Int × Int × Int)} {X Y : Int} {W h : Nat} (hb : BoxOf p X Y W h) {x y : Int} (ho : x < X ∨ X + W ≤ x ∨ y < Y ∨ Y + h ≤ y) : getC p x y = 0 := by
  refine getC_not fun c hc e => ?_
  have := hb.cells c hc
  omega
theorem box_mul {W h : Nat} (hw : W ≤ 2097153) (hh : h ≤ 2097153) : W * h ≤ 4398050705409 := Nat.mul_le_mul hw hh
theorem grid_lt {W h i j : Nat} (hi : i < W) (hj : j < h) : j * W + i < h * W := by
  have := Nat.mul_le_mul_right W (show j + 1 ≤ h from hj)
  rw [Nat.add_mul, Nat.one_mul] at this; omega
end Go.Proofs.YtfdihjjnlmhibaaGreat
end
